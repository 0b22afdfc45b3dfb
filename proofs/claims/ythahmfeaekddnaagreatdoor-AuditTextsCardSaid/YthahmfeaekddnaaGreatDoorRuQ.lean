/- The runner: one operation of a region, carried out by the machine. -/
import Derived.Test.YthahmfeaekddnaaGreatDoorRuP
namespace Go.Proofs.YthahmfeaekddnaaGreatDoor.Ru
open Go Go.RowKit

/-- Deferred calls. -/
inductive DR (m : BM) : Value × List Value → Deferred → Prop
  | fn {g : FuncId} {a a' b b' : Array Value} {l : List Value} {l' : Array Value} : LRel m a.toList a'.toList → LRel m b.toList b'.toList → LRel m l l'.toList → DR m (.func (.func g) a b, l) { target := .fn (.func g) b', args := a' ++ l' }
  | mark {r : Nat} {x : Nat × Nat} : N0 ≤ r → m r = some x → DR m (.pointer (some ⟨r, 0, none⟩), []) { target := .collected x.1, args := #[] }
inductive DRel (m : BM) : DL → List Deferred → Prop
  | nil : DRel m [] []
  | cons {d : Value × List Value} {d' : Deferred} {D : DL} {ds : List Deferred} : DR m d d' → DRel m D ds → DRel m (d :: D) (d' :: ds)
theorem DR.mono {m m2 : BM} (hm : MLe m m2) {d : Value × List Value} {d' : Deferred} (h : DR m d d') : DR m2 d d' := by
  cases h with
  | fn a b c => exact .fn (a.mono hm) (b.mono hm) (c.mono hm)
  | mark b a => exact .mark b (hm _ _ a)
theorem DRel.mono {m m2 : BM} (hm : MLe m m2) {D : DL} {ds : List Deferred} (h : DRel m D ds) : DRel m2 D ds := by
  induction h with
  | nil => exact .nil
  | cons a _ ih => exact .cons (a.mono hm) ih
/-- What calls and rounds do. -/
structure CxOk (K : PK) (c : Cx) : Prop where
  body : ∀ {f : FuncId} {args : List Value} {v : Value} {h h' : AH}, c.cf f args h = .ok v h' → ∃ fn, K.P.funcs[f]? = some fn ∧ fn.body.isNone = false ∧ (fn.name == "runtime.NumGoroutine") = false
  cf : ∀ {w0 : World} {m : BM} {h : AH} {w : World} {f : FuncId} {args : List Value} {args' : Array Value} {v : Value} {h' : AH} {kind : CallKind}, c.cf f args h = .ok v h' → HRel K w0 m h w → LRel m args args'.toList → (kind = .normal ∨ kind = .deferred) → ∀ cs : List Frame,
    ∃ m' w' fr' v', Steps K.P (lone (Frame.enter K.P f args' kind) cs w) (lone fr' cs w') ∧ fr'.mode = .returning ∧ fr'.defers = [] ∧ fr'.fn = f ∧ fr'.kind = kind ∧ (∃ fn, K.P.funcs[f]? = some fn ∧ (results fn fr'.tmps).run K.P w' = .ok v' w') ∧
      HRel K w0 m' h' w' ∧ Ext m h w m' h' w' ∧ VRel m' v v'
  rf : ∀ {w0 : World} {m : BM} {h : AH} {w : World} {l : Nat} {x : Nat × Nat} {args : List Value} {args' : Array Value} {v : Value} {h' : AH}, c.rf l args h = .ok v h' → HRel K w0 m h w → m l = some x → LRel m args args'.toList → ∀ (caller : Frame) (cs : List Frame),
    ∃ m' w' v' f t2 a b, (Instr.yield x.1 args').run K.P w = .ok (.round x.1 f t2 a b) w ∧ Steps K.P (lone (Frame.round x.1 f t2 a b .normal) (caller :: cs) w) (lone (caller.finish v') cs w') ∧ HRel K w0 m' h' w' ∧ Ext m h w m' h' w' ∧ VRel m' v v'
section
variable {K : PK} {w0 : World} {m : BM} {h : AH} {w : World} {E : Env} {ρ : Operand → Value} {o : Oper} {tmps : Array Value} {n : Nat}
theorem rd_rel (H : HRel K w0 m h w) (hE : ERel m n E tmps) (x : Operand) : VRel m (rd E x) (evT tmps x) := by
  cases x with
  | tmp t => exact hE.2 t
  | const v =>
    show VRel m (cond (plain 4 v) v junk) v
    cases hp : plain 4 v
    · exact .junk v
    · exact plain_rel 4 v hp
  | global g =>
    show VRel m (cond (Nat.blt g N0) (.pointer (some ⟨g, 0, none⟩)) junk) (.pointer (some ⟨g, 0, none⟩))
    cases hp : Nat.blt g N0
    · exact .junk _
    · exact .ptr (x := (g, 0)) (H.stat g (blt_of hp))
  | func f => exact .func rfl (fun i => by cases i <;> exact .lit rfl) rfl (fun i => by cases i <;> exact .lit rfl)
/-- What kind of thing an operation does. -/
def kindQ : Q → Nat
  | .bad | .pure _ => 0
  | .read _ => 1
  | .alloc _ _ => 2
  | .eff _ => 3
  | .defer _ _ => 4
theorem kind_of (x : Option Value) : kindQ (Q.of x) = 0 := by cases x <;> rfl
theorem kind_fb (K : PK) (E : Env) (o : Oper) : kindQ (fallback K E o) = 0 := by
  rcases fallback_cases K E o with ⟨v, e⟩ | e <;> rw [e] <;> rfl
theorem kind_cond {b : Bool} {x : Q} {n : Nat} (h : kindQ x = 0 ∨ kindQ x = n) : kindQ (cond b x .bad) = 0 ∨ kindQ (cond b x .bad) = n := by
  cases b
  · exact .inl rfl
  · exact h
theorem kind_cond0 {b : Bool} {x : Q} (h : kindQ x = 0) : kindQ (cond b x .bad) = 0 := by
  cases b
  · rfl
  · exact h
def kindOp : Op → Nat
  | .load .. | .lookup .. => 1
  | .alloc _ | .box .. | .buildSlice .. | .makeMap .. | .makeSlice .. => 2
  | .store .. | .mapUpdate .. => 3
  | .defer _ => 4
  | _ => 0
theorem kinds (c : Cx) (hc : ∀ cl, o.op ≠ .call cl) : kindQ (opK o.op K c E o) = 0 ∨ kindQ (opK o.op K c E o) = kindOp o.op := by
  cases ho : o.op with
  | call cl => exact absurd ho (hc cl)
  | pick x a b =>
    change kindQ (q_pick E x a b) = 0 ∨ _
    unfold q_pick; split <;> exact .inl rfl
  | alloc t =>
    change kindQ (q_alloc K t) = 0 ∨ kindQ (q_alloc K t) = 2
    unfold q_alloc; split
    · exact .inr rfl
    · exact .inl rfl
  | box t x => exact kind_cond (n := 2) (.inr rfl)
  | build t ps =>
    change kindQ (q_build K E t ps) = 0 ∨ _
    unfold q_build; repeat' split
    all_goals exact .inl rfl
  | buildSlice t n ps =>
    change kindQ (q_buildSlice K E t n ps) = 0 ∨ kindQ (q_buildSlice K E t n ps) = 2
    unfold q_buildSlice
    split
    · split
      · split
        · refine kind_cond ?_
          split
          · exact .inr rfl
          · exact .inl rfl
        · exact .inl rfl
      · exact .inl rfl
    · exact .inl rfl
  | load t a =>
    change kindQ (q_load K E t a) = 0 ∨ kindQ (q_load K E t a) = 1
    unfold q_load
    split
    · split
      · exact .inr rfl
      · exact .inr rfl
      · exact .inl rfl
    · exact .inl rfl
  | store t a x =>
    change kindQ (q_store K E t a x) = 0 ∨ kindQ (q_store K E t a x) = 3
    unfold q_store
    split
    · exact kind_cond (.inr rfl)
    · exact .inl rfl
  | nilCheck x =>
    change kindQ (q_nilCheck E x) = 0 ∨ _
    unfold q_nilCheck; split <;> exact .inl rfl
  | binOp op t x y u =>
    change kindQ (q_binOp K E o op t x y) = 0 ∨ _
    unfold q_binOp
    split
    · exact .inl (kind_of _)
    · split
      · exact .inl rfl
      · exact .inl (kind_fb _ _ _)
  | unOp op t x =>
    change kindQ (q_unOp K E o op x) = 0 ∨ _
    unfold q_unOp
    split
    · exact .inl rfl
    · exact .inl (kind_fb _ _ _)
  | convert s d x =>
    change kindQ (q_convert K E o s d x) = 0 ∨ _
    unfold q_convert
    split
    · exact .inl rfl
    · exact .inl (kind_fb _ _ _)
  | makeFunc fn a b =>
    change kindQ (q_makeFunc E fn a b) = 0 ∨ _
    unfold q_makeFunc; split <;> exact .inl rfl
  | makeMap t r => cases r <;> first | exact .inr rfl | exact .inl rfl
  | makeSlice t l c' =>
    change kindQ (q_makeSlice K E t l c') = 0 ∨ kindQ (q_makeSlice K E t l c') = 2
    unfold q_makeSlice
    split
    · split
      · split
        · exact kind_cond (.inr rfl)
        · exact .inl rfl
      · exact .inl rfl
    · exact .inl rfl
  | slice t x a b d => exact .inl (kind_of _)
  | fieldAddr t x f =>
    change kindQ (q_fieldAddr K E t x f) = 0 ∨ _
    unfold q_fieldAddr
    split
    · rename_i fd _ _
      cases Nat.beq (sizeT K fd.type) 0 <;> exact .inl rfl
    · exact .inl rfl
  | field t x f =>
    change kindQ (q_field K E t x f) = 0 ∨ _
    unfold q_field
    split
    · exact .inl (kind_of _)
    · exact .inl rfl
  | indexAddr t x i =>
    change kindQ (q_indexAddr K E t x i) = 0 ∨ _
    unfold q_indexAddr
    split
    · split
      · exact .inl (kind_cond0 rfl)
      · exact .inl rfl
    · split
      · exact .inl (kind_cond0 rfl)
      · exact .inl rfl
    · exact .inl rfl
  | index t x i =>
    change kindQ (q_index K E o t x i) = 0 ∨ _
    unfold q_index
    split
    · split
      · exact .inl (kind_cond0 (kind_of _))
      · exact .inl rfl
    · exact .inl (kind_fb _ _ _)
  | extract t i =>
    change kindQ (q_extract E t i) = 0 ∨ _
    unfold q_extract
    split
    · exact .inl (kind_of _)
    · exact .inl rfl
  | defer cl =>
    change kindQ (q_defer E cl) = 0 ∨ kindQ (q_defer E cl) = 4
    unfold q_defer
    split
    · split
      · exact .inr rfl
      · exact .inl rfl
    · exact .inl rfl
  | lookup t x i k => exact .inr rfl
  | mapUpdate t mp k x => exact .inr rfl
  | _ => exact .inl rfl
theorem read_ok (k : KOk K) (c : Cx) (H : HRel K w0 m h w) (hρ : ∀ x, VRel m (rd E x) (ρ x)) {f : AH → Option Value} (hq : opK o.op K c E o = .read f) {v : Value} (hf : f h = some v) : GivesAt K m ρ o v w := by
  cases ho : o.op with
  | load t a => rw [ho] at hq; exact load_ok k H hρ ho hq hf
  | lookup t x ix ok =>
    rw [ho] at hq
    change q_lookup K E t x ix ok = _ at hq
    unfold q_lookup at hq
    cases hq
    exact lookup_ok k H hρ ho hf
  | call cl =>
    rw [ho] at hq
    change q_call K c E o cl = _ at hq
    unfold q_call at hq
    split at hq
    · split at hq
      · unfold q_ext at hq
        split at hq
        · split at hq
          · cases hq
          · rcases fallback_cases K E o with ⟨u, e⟩ | e <;> rw [e] at hq <;> cases hq
        · cases hq
      · unfold q_callv at hq
        split at hq
        · exact (‹∀ _ _ _, _ = _ → False› _ _ _ (by assumption)).elim
        · cases hq
        · cases hq
    · unfold q_builtin at hq
      split at hq
      · refine mapLen_ok k H hρ (args := cl.args) (ts := cl.argTypes) ?_ hq hf
        rw [ho]; cases cl; simp_all
      · unfold q_append at hq
        split at hq
        · cases (Q.cond_eq hq (by simp)).2
        · cases hq
      · unfold q_copy at hq
        split at hq <;> cases hq
      · unfold q_delete at hq
        split at hq <;> cases hq
      · rcases fallback_cases K E o with ⟨u, e⟩ | e <;> rw [e] at hq <;> cases hq
      · rcases fallback_cases K E o with ⟨u, e⟩ | e <;> rw [e] at hq <;> cases hq
      · cases hq
    · cases hq
  | _ =>
    have h1 := kinds (K := K) (E := E) c (fun cl => by rw [ho]; simp)
    rw [hq, ho] at h1
    simp [kindQ, kindOp] at h1
theorem makes_ok (k : KOk K) (c : Cx) (hρ : ∀ x, VRel m (rd E x) (ρ x)) {b : AB} {mk : Nat → Value} (hq : opK o.op K c E o = .alloc b mk) : Makes K m ρ o b mk w := by
  cases ho : o.op with
  | alloc t => rw [ho] at hq; exact alloc_ok k ho hq
  | box t x => rw [ho] at hq; exact box_ok hρ ho hq
  | buildSlice t n ps => rw [ho] at hq; exact buildSlice_ok k hρ ho hq
  | makeMap t r => rw [ho] at hq; exact makeMap_ok ho hq
  | makeSlice t l c' => rw [ho] at hq; exact makeSlice_ok k hρ ho hq
  | call cl =>
    rw [ho] at hq
    change q_call K c E o cl = _ at hq
    unfold q_call at hq
    split at hq
    · split at hq
      · unfold q_ext at hq
        split at hq
        · split at hq
          · cases hq
          · have := kind_fb K E o; rw [hq] at this; cases this
        · cases hq
      · unfold q_callv at hq
        split at hq
        · exact (‹∀ _ _ _, _ = _ → False› _ _ _ (by assumption)).elim
        · cases hq
        · cases hq
    · unfold q_builtin at hq
      split at hq
      · unfold q_len at hq
        split at hq
        · split at hq
          · cases hq
          · cases hq
          · have := kind_fb K E o; rw [hq] at this; cases this
        · cases hq
      · unfold q_append at hq
        split at hq
        · cases (Q.cond_eq hq (by simp)).2
        · cases hq
      · unfold q_copy at hq
        split at hq <;> cases hq
      · unfold q_delete at hq
        split at hq <;> cases hq
      · have := kind_fb K E o; rw [hq] at this; cases this
      · have := kind_fb K E o; rw [hq] at this; cases this
      · cases hq
    · cases hq
  | _ =>
    have h1 := kinds (K := K) (E := E) c (fun cl => by rw [ho]; simp)
    rw [hq, ho] at h1
    simp [kindQ, kindOp] at h1
/-- What acts: a store and its like, a call, a round. -/
theorem acts_ok (k : KOk K) (c : Cx) (hρ : ∀ x, VRel m (rd E x) (ρ x)) {f : AH → R} (hq : opK o.op K c E o = .eff f) :
    (∀ {w0 : World} {h : AH} {w : World} {v : Value} {h' : AH}, HRel K w0 m h w → f h = .ok v h' → Does K w0 m h w ρ o v h') ∨
    (∃ g args, ∃ args' : Array Value, f = c.cf g args ∧ LRel m args args'.toList ∧ ∀ w, (execOp ρ o).run K.P w = .ok (.enter g args') w) ∨
    (∃ l x args, ∃ args' : Array Value, m l = some x ∧ f = c.rf l args ∧ LRel m args args'.toList ∧ ∀ w nx, (Instr.yield x.1 args').run K.P w = .ok nx w → (execOp ρ o).run K.P w = .ok nx w) := by
  cases ho : o.op with
  | store t a x => rw [ho] at hq; exact .inl fun H hf => store_ok k H hρ ho hq hf
  | mapUpdate t mp ky x => rw [ho] at hq; cases hq; exact .inl fun H hf => mapUpdate_ok k H hρ ho hf
  | call cl =>
    rw [ho] at hq
    change q_call K c E o cl = _ at hq
    unfold q_call at hq
    split at hq
    · rename_i fo hcal
      have h0 := hρ fo
      have hargs := LRel.map (m := m) (l := cl.args.toList) fun x _ => hρ x
      split at hq
      · rename_i g a b hr
        rw [hr] at h0
        obtain ⟨a', b', e, ha, hb⟩ := h0.funcF
        unfold q_ext at hq
        split at hq
        · rename_i fn hfn
          obtain ⟨hfP, hname⟩ := k.fn _ _ hfn
          split at hq
          · rename_i body hbody
            cases hq
            refine .inr (.inl ⟨g, _, a' ++ cl.args.map ρ ++ b', rfl, ?_, fun w => ?_⟩)
            · simp only [Array.toList_append, Array.toList_map]
              exact (ha.append hargs).append hb
            · have hn : ¬ fn.name = "runtime.NumGoroutine" := by simpa using hname
              simp [execOp, ho, resolve, hcal, e, Deferred.ofValue, invoke, callFunc, hfP, hn, hbody]
          · have := kind_fb K E o; rw [hq] at this; cases this
        · cases hq
      · rename_i hne
        unfold q_callv at hq
        split at hq
        · exact (hne _ _ _ (by assumption)).elim
        · rename_i xv l a b hr
          rw [hr] at h0
          obtain ⟨x, hm, e, rfl, rfl⟩ := h0.yieldF
          cases hq
          refine .inr (.inr ⟨l, x, _, cl.args.map ρ, hm, rfl, by rw [Array.toList_map]; exact hargs, fun w nx hy => ?_⟩)
          simp [execOp, ho, resolve, hcal, e, Deferred.ofValue, invoke, hy]
        · cases hq
    · unfold q_builtin at hq
      have hcl : ∀ b, cl.callee = .builtin b → o.op = .call ⟨.builtin b, cl.args, cl.argTypes⟩ := fun b hb => by rw [ho]; cases cl; simp_all
      rename_i b hb
      split at hq
      · unfold q_len at hq
        split at hq
        · split at hq
          · cases hq
          · cases hq
          · have := kind_fb K E o; rw [hq] at this; cases this
        · cases hq
      · exact .inl fun H hf => append_ok k H hρ (hcl _ hb) hq hf
      · exact .inl fun H hf => copy_ok k H hρ (hcl _ hb) hq hf
      · exact .inl fun H hf => delete_ok k H hρ (hcl _ hb) hq hf
      · have := kind_fb K E o; rw [hq] at this; cases this
      · have := kind_fb K E o; rw [hq] at this; cases this
      · cases hq
    · cases hq
  | _ =>
    have h1 := kinds (K := K) (E := E) c (fun cl => by rw [ho]; simp)
    rw [hq, ho] at h1
    simp [kindQ, kindOp] at h1
theorem defers_ok (c : Cx) (hρ : ∀ x, VRel m (rd E x) (ρ x)) {f : Value} {l : List Value} (hq : opK o.op K c E o = .defer f l) : (∃ cl, o.op = .defer cl) ∧ ∃ d, DR m (f, l) d ∧ ∀ w, (execOp ρ o).run K.P w = .ok (.defer d) w := by
  cases ho : o.op with
  | defer cl =>
    refine ⟨⟨cl, rfl⟩, ?_⟩
    rw [ho] at hq
    change q_defer E cl = _ at hq
    unfold q_defer at hq
    split at hq
    · rename_i fo hcal
      have h0 := hρ fo
      split at hq
      · rename_i g a b hr
        rw [hr] at h0
        obtain ⟨a', b', e, ha, hb⟩ := h0.funcF
        cases hq
        refine ⟨_, .fn (l' := cl.args.map ρ) ha hb (by rw [Array.toList_map]; exact LRel.map fun x _ => hρ x), fun w => ?_⟩
        simp [execOp, ho, resolve, hcal, e, Deferred.ofValue]
      · cases hq
    · cases hq
  | call cl =>
    rw [ho] at hq
    change q_call K c E o cl = _ at hq
    unfold q_call at hq
    split at hq
    · split at hq
      · unfold q_ext at hq
        split at hq
        · split at hq
          · cases hq
          · have := kind_fb K E o; rw [hq] at this; cases this
        · cases hq
      · unfold q_callv at hq
        split at hq
        · exact (‹∀ _ _ _, _ = _ → False› _ _ _ (by assumption)).elim
        · cases hq
        · cases hq
    · unfold q_builtin at hq
      split at hq
      · unfold q_len at hq
        split at hq
        · split at hq
          · cases hq
          · cases hq
          · have := kind_fb K E o; rw [hq] at this; cases this
        · cases hq
      · unfold q_append at hq
        split at hq
        · cases (Q.cond_eq hq (by simp)).2
        · cases hq
      · unfold q_copy at hq
        split at hq <;> cases hq
      · unfold q_delete at hq
        split at hq <;> cases hq
      · have := kind_fb K E o; rw [hq] at this; cases this
      · have := kind_fb K E o; rw [hq] at this; cases this
      · cases hq
    · cases hq
  | _ =>
    have h1 := kinds (K := K) (E := E) c (fun cl => by rw [ho]; simp)
    rw [hq, ho] at h1
    simp [kindQ, kindOp] at h1
end
end Go.Proofs.YthahmfeaekddnaaGreatDoor.Ru
