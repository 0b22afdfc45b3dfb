/- The runner: one operation of a region, carried out by the machine; The runner: one operation; a region whose order is its text's; The runner: what waits for what in a region; The runner: a region whose order is drawn. -/
import Derived.Test.YtdkebebingchpaaGreatDoorRunD

/- The runner: one operation of a region, carried out by the machine. -/
namespace Go.Proofs.YtdkebebingchpaaGreatDoor.Ru
open Go Go.RowKit

/-- Deferred calls. -/
inductive DR (m : BM) : Value × List Value → Deferred → Prop
  | fn {g : FuncId} {a a' b b' : Array Value} {l : List Value} {l' : Array Value} : LRel m a.toList a'.toList → LRel m b.toList b'.toList → LRel m l l'.toList → DR m (.func (.func g) a b, l) { target := .fn (.func g) b', args := a' ++ l' }
  | mark {r : Nat} {x : Nat × Nat} : N0 ≤ r → m r = some x → DR m (.pointer (some ⟨r, 0, none⟩), []) { target := .collected x.1, args := #[] }
inductive DRel (m : BM) : DL → List Deferred → Prop
  | nil : DRel m [] []
  | cons {d : Value × List Value} {d' : Deferred} {D : DL} {ds : List Deferred} : DR m d d' → DRel m D ds → DRel m (d :: D) (d' :: ds)
theorem DR.mono {m m2 : BM} (hm : MLe m m2) {d : Value × List Value} {d' : Deferred} (h : DR m d d') : DR m2 d d' := by
  cases h with
  | fn a b c => exact .fn (a.mono hm) (b.mono hm) (c.mono hm)
  | mark b a => exact .mark b (hm _ _ a)
theorem DRel.mono {m m2 : BM} (hm : MLe m m2) {D : DL} {ds : List Deferred} (h : DRel m D ds) : DRel m2 D ds := by
  induction h with
  | nil => exact .nil
  | cons a _ ih => exact .cons (a.mono hm) ih
/-- What calls and rounds do. -/
structure CxOk (K : PK) (c : Cx) : Prop where
  body : ∀ {f : FuncId} {args : List Value} {v : Value} {h h' : AH}, c.cf f args h = .ok v h' → ∃ fn, K.P.funcs[f]? = some fn ∧ fn.body.isNone = false ∧ (fn.name == "runtime.NumGoroutine") = false
  cf : ∀ {w0 : World} {m : BM} {h : AH} {w : World} {f : FuncId} {args : List Value} {args' : Array Value} {v : Value} {h' : AH} {kind : CallKind}, c.cf f args h = .ok v h' → HRel K w0 m h w → LRel m args args'.toList → (kind = .normal ∨ kind = .deferred) → ∀ cs : List Frame,
    ∃ m' w' fr' v', Steps K.P (lone (Frame.enter K.P f args' kind) cs w) (lone fr' cs w') ∧ fr'.mode = .returning ∧ fr'.defers = [] ∧ fr'.fn = f ∧ fr'.kind = kind ∧ (∃ fn, K.P.funcs[f]? = some fn ∧ (results fn fr'.tmps).run K.P w' = .ok v' w') ∧
      HRel K w0 m' h' w' ∧ Ext m h w m' h' w' ∧ VRel m' v v'
  rf : ∀ {w0 : World} {m : BM} {h : AH} {w : World} {l : Nat} {x : Nat × Nat} {args : List Value} {args' : Array Value} {v : Value} {h' : AH}, c.rf l args h = .ok v h' → HRel K w0 m h w → m l = some x → LRel m args args'.toList → ∀ (caller : Frame) (cs : List Frame),
    ∃ m' w' v' f t2 a b, (Instr.yield x.1 args').run K.P w = .ok (.round x.1 f t2 a b) w ∧ Steps K.P (lone (Frame.round x.1 f t2 a b .normal) (caller :: cs) w) (lone (caller.finish v') cs w') ∧ HRel K w0 m' h' w' ∧ Ext m h w m' h' w' ∧ VRel m' v v'
section
variable {K : PK} {w0 : World} {m : BM} {h : AH} {w : World} {E : Env} {ρ : Operand → Value} {o : Oper} {tmps : Array Value} {n : Nat}
theorem rd_rel (H : HRel K w0 m h w) (hE : ERel m n E tmps) (x : Operand) : VRel m (rd E x) (evT tmps x) := by
  cases x with
  | tmp t => exact hE.2 t
  | const v =>
    show VRel m (cond (plain 4 v) v junk) v
    cases hp : plain 4 v
    · exact .junk v
    · exact plain_rel 4 v hp
  | global g =>
    show VRel m (cond (Nat.blt g N0) (.pointer (some ⟨g, 0, none⟩)) junk) (.pointer (some ⟨g, 0, none⟩))
    cases hp : Nat.blt g N0
    · exact .junk _
    · exact .ptr (x := (g, 0)) (H.stat g (blt_of hp))
  | func f => exact .func rfl (fun i => by cases i <;> exact .lit rfl) rfl (fun i => by cases i <;> exact .lit rfl)
/-- What kind of thing an operation does. -/
def kindQ : Q → Nat
  | .bad | .pure _ => 0
  | .read _ => 1
  | .alloc _ _ => 2
  | .eff _ => 3
  | .defer _ _ => 4
theorem kind_of (x : Option Value) : kindQ (Q.of x) = 0 := by cases x <;> rfl
theorem kind_fb (K : PK) (E : Env) (o : Oper) : kindQ (fallback K E o) = 0 := by
  rcases fallback_cases K E o with ⟨v, e⟩ | e <;> rw [e] <;> rfl
theorem kind_cond {b : Bool} {x : Q} {n : Nat} (h : kindQ x = 0 ∨ kindQ x = n) : kindQ (cond b x .bad) = 0 ∨ kindQ (cond b x .bad) = n := by
  cases b
  · exact .inl rfl
  · exact h
theorem kind_cond0 {b : Bool} {x : Q} (h : kindQ x = 0) : kindQ (cond b x .bad) = 0 := by
  cases b
  · rfl
  · exact h
def kindOp : Op → Nat
  | .load .. | .lookup .. => 1
  | .alloc _ | .box .. | .buildSlice .. | .makeMap .. | .makeSlice .. => 2
  | .store .. | .mapUpdate .. | .insert .. | .range .. | .next .. => 3
  | .defer _ => 4
  | _ => 0
theorem kinds (c : Cx) (hc : ∀ cl, o.op ≠ .call cl) : kindQ (opK o.op K c E o) = 0 ∨ kindQ (opK o.op K c E o) = kindOp o.op := by
  cases ho : o.op with
  | call cl => exact absurd ho (hc cl)
  | pick x a b =>
    change kindQ (q_pick E x a b) = 0 ∨ _
    unfold q_pick; split <;> exact .inl rfl
  | alloc t =>
    change kindQ (q_alloc K t) = 0 ∨ kindQ (q_alloc K t) = 2
    unfold q_alloc; split
    · exact .inr rfl
    · exact .inl rfl
  | box t x => exact kind_cond (n := 2) (.inr rfl)
  | build t ps =>
    change kindQ (q_build K E t ps) = 0 ∨ _
    unfold q_build; repeat' split
    all_goals exact .inl rfl
  | buildSlice t n ps =>
    change kindQ (q_buildSlice K E t n ps) = 0 ∨ kindQ (q_buildSlice K E t n ps) = 2
    unfold q_buildSlice
    split
    · split
      · split
        · refine kind_cond ?_
          split
          · exact .inr rfl
          · exact .inl rfl
        · exact .inl rfl
      · exact .inl rfl
    · exact .inl rfl
  | load t a =>
    change kindQ (q_load K E t a) = 0 ∨ kindQ (q_load K E t a) = 1
    unfold q_load
    split
    · split
      · exact .inr rfl
      · exact .inr rfl
      · exact .inl rfl
    · exact .inl rfl
  | store t a x =>
    change kindQ (q_store K E t a x) = 0 ∨ kindQ (q_store K E t a x) = 3
    unfold q_store
    split
    · exact kind_cond (.inr rfl)
    · exact .inl rfl
  | nilCheck x =>
    change kindQ (q_nilCheck E x) = 0 ∨ _
    unfold q_nilCheck; split <;> exact .inl rfl
  | binOp op t x y u =>
    change kindQ (q_binOp K E o op t x y) = 0 ∨ _
    unfold q_binOp
    split
    · exact .inl (kind_of _)
    · split
      · exact .inl rfl
      · exact .inl (kind_fb _ _ _)
  | unOp op t x =>
    change kindQ (q_unOp K E o op x) = 0 ∨ _
    unfold q_unOp
    split
    · exact .inl rfl
    · exact .inl (kind_fb _ _ _)
  | convert s d x =>
    change kindQ (q_convert K E o s d x) = 0 ∨ _
    unfold q_convert
    split
    · exact .inl rfl
    · exact .inl (kind_fb _ _ _)
  | makeFunc fn a b =>
    change kindQ (q_makeFunc E fn a b) = 0 ∨ _
    unfold q_makeFunc; split <;> exact .inl rfl
  | makeMap t r => cases r <;> first | exact .inr rfl | exact .inl rfl
  | makeSlice t l c' =>
    change kindQ (q_makeSlice K E t l c') = 0 ∨ kindQ (q_makeSlice K E t l c') = 2
    unfold q_makeSlice
    split
    · split
      · split
        · exact kind_cond (.inr rfl)
        · exact .inl rfl
      · exact .inl rfl
    · exact .inl rfl
  | slice t x a b d => exact .inl (kind_of _)
  | fieldAddr t x f =>
    change kindQ (q_fieldAddr K E t x f) = 0 ∨ _
    unfold q_fieldAddr
    split
    · rename_i fd _ _
      cases Nat.beq (sizeT K fd.type) 0 <;> exact .inl rfl
    · exact .inl rfl
  | field t x f =>
    change kindQ (q_field K E t x f) = 0 ∨ _
    unfold q_field
    split
    · exact .inl (kind_of _)
    · exact .inl rfl
  | indexAddr t x i =>
    change kindQ (q_indexAddr K E t x i) = 0 ∨ _
    unfold q_indexAddr
    split
    · split
      · exact .inl (kind_cond0 rfl)
      · exact .inl rfl
    · split
      · exact .inl (kind_cond0 rfl)
      · exact .inl rfl
    · exact .inl rfl
  | index t x i =>
    change kindQ (q_index K E o t x i) = 0 ∨ _
    unfold q_index
    split
    · split
      · exact .inl (kind_cond0 (kind_of _))
      · exact .inl rfl
    · exact .inl (kind_fb _ _ _)
  | extract t i =>
    change kindQ (q_extract E t i) = 0 ∨ _
    unfold q_extract
    split
    · exact .inl (kind_of _)
    · exact .inl rfl
  | defer cl =>
    change kindQ (q_defer E cl) = 0 ∨ kindQ (q_defer E cl) = 4
    unfold q_defer
    split
    · split
      · exact .inr rfl
      · exact .inl rfl
    · exact .inl rfl
  | lookup t x i k => exact .inr rfl
  | mapUpdate t mp k x => exact .inr rfl
  | insert t mp k x => exact .inr rfl
  | range t x =>
    change kindQ (q_range K E t x) = 0 ∨ kindQ (q_range K E t x) = 3
    unfold q_range
    split <;> first | exact .inr rfl | exact .inl rfl
  | next x b =>
    change kindQ (q_next E x b) = 0 ∨ kindQ (q_next E x b) = 3
    unfold q_next
    split <;> first | exact .inr rfl | exact .inl rfl
  | sliceToArrayPointer t x =>
    change kindQ (q_arrPtr K E t x) = 0 ∨ _
    unfold q_arrPtr
    split
    · rename_i b off n c m' e hx hu
      cases Nat.ble m' n <;> exact .inl rfl
    · exact .inl rfl
  | _ => exact .inl rfl
theorem read_ok (k : KOk K) (c : Cx) (H : HRel K w0 m h w) (hρ : ∀ x, VRel m (rd E x) (ρ x)) {f : AH → Option Value} (hq : opK o.op K c E o = .read f) {v : Value} (hf : f h = some v) : GivesAt K m ρ o v w := by
  cases ho : o.op with
  | load t a => rw [ho] at hq; exact load_ok k H hρ ho hq hf
  | lookup t x ix ok =>
    rw [ho] at hq
    change q_lookup K E t x ix ok = _ at hq
    unfold q_lookup at hq
    cases hq
    exact lookup_ok k H hρ ho hf
  | call cl =>
    rw [ho] at hq
    change q_call K c E o cl = _ at hq
    unfold q_call at hq
    split at hq
    · split at hq
      · unfold q_ext at hq
        split at hq
        · split at hq
          · cases hq
          · rcases fallback_cases K E o with ⟨u, e⟩ | e <;> rw [e] at hq <;> cases hq
        · cases hq
      · unfold q_callv at hq
        split at hq
        · exact (‹∀ _ _ _, _ = _ → False› _ _ _ (by assumption)).elim
        · cases hq
        · cases hq
    · unfold q_builtin at hq
      split at hq
      · refine mapLen_ok k H hρ (args := cl.args) (ts := cl.argTypes) ?_ hq hf
        rw [ho]; cases cl; simp_all
      · unfold q_append at hq
        split at hq
        · cases (Q.cond_eq hq (by simp)).2
        · cases hq
      · unfold q_copy at hq
        split at hq <;> cases hq
      · unfold q_delete at hq
        split at hq <;> cases hq
      · rcases fallback_cases K E o with ⟨u, e⟩ | e <;> rw [e] at hq <;> cases hq
      · rcases fallback_cases K E o with ⟨u, e⟩ | e <;> rw [e] at hq <;> cases hq
      · cases hq
    · cases hq
  | _ =>
    have h1 := kinds (K := K) (E := E) c (fun cl => by rw [ho]; simp)
    rw [hq, ho] at h1
    simp [kindQ, kindOp] at h1
theorem makes_ok (k : KOk K) (c : Cx) (hρ : ∀ x, VRel m (rd E x) (ρ x)) {b : AB} {mk : Nat → Value} (hq : opK o.op K c E o = .alloc b mk) : Makes K m ρ o b mk w := by
  cases ho : o.op with
  | alloc t => rw [ho] at hq; exact alloc_ok k ho hq
  | box t x => rw [ho] at hq; exact box_ok hρ ho hq
  | buildSlice t n ps => rw [ho] at hq; exact buildSlice_ok k hρ ho hq
  | makeMap t r => rw [ho] at hq; exact makeMap_ok ho hq
  | makeSlice t l c' => rw [ho] at hq; exact makeSlice_ok k hρ ho hq
  | call cl =>
    rw [ho] at hq
    change q_call K c E o cl = _ at hq
    unfold q_call at hq
    split at hq
    · split at hq
      · unfold q_ext at hq
        split at hq
        · split at hq
          · cases hq
          · have := kind_fb K E o; rw [hq] at this; cases this
        · cases hq
      · unfold q_callv at hq
        split at hq
        · exact (‹∀ _ _ _, _ = _ → False› _ _ _ (by assumption)).elim
        · cases hq
        · cases hq
    · unfold q_builtin at hq
      split at hq
      · unfold q_len at hq
        split at hq
        · split at hq
          · cases hq
          · cases hq
          · have := kind_fb K E o; rw [hq] at this; cases this
        · cases hq
      · unfold q_append at hq
        split at hq
        · cases (Q.cond_eq hq (by simp)).2
        · cases hq
      · unfold q_copy at hq
        split at hq <;> cases hq
      · unfold q_delete at hq
        split at hq <;> cases hq
      · have := kind_fb K E o; rw [hq] at this; cases this
      · have := kind_fb K E o; rw [hq] at this; cases this
      · cases hq
    · cases hq
  | _ =>
    have h1 := kinds (K := K) (E := E) c (fun cl => by rw [ho]; simp)
    rw [hq, ho] at h1
    simp [kindQ, kindOp] at h1
/-- What acts: a store and its like, a call, a round. -/
theorem acts_ok (k : KOk K) (c : Cx) (hρ : ∀ x, VRel m (rd E x) (ρ x)) {f : AH → R} (hq : opK o.op K c E o = .eff f) :
    (∀ {w0 : World} {h : AH} {w : World} {v : Value} {h' : AH}, HRel K w0 m h w → f h = .ok v h' → Does K w0 m h w ρ o v h') ∨
    (∃ g args, ∃ args' : Array Value, f = c.cf g args ∧ LRel m args args'.toList ∧ ∀ w, (execOp ρ o).run K.P w = .ok (.enter g args') w) ∨
    (∃ l x args, ∃ args' : Array Value, m l = some x ∧ f = c.rf l args ∧ LRel m args args'.toList ∧ ∀ w nx, (Instr.yield x.1 args').run K.P w = .ok nx w → (execOp ρ o).run K.P w = .ok nx w) := by
  cases ho : o.op with
  | store t a x => rw [ho] at hq; exact .inl fun H hf => store_ok k H hρ ho hq hf
  | mapUpdate t mp ky x => rw [ho] at hq; cases hq; exact .inl fun H hf => mapUpdate_ok k H hρ (.inl ho) hf
  | insert t mp ky x => rw [ho] at hq; cases hq; exact .inl fun H hf => mapUpdate_ok k H hρ (.inr ho) hf
  | range t x => rw [ho] at hq; exact .inl fun H hf => rangeIt_ok k H hρ ho hq hf
  | next x b => rw [ho] at hq; exact .inl fun H hf => next_ok H hρ ho hq hf
  | call cl =>
    rw [ho] at hq
    change q_call K c E o cl = _ at hq
    unfold q_call at hq
    split at hq
    · rename_i fo hcal
      have h0 := hρ fo
      have hargs := LRel.map (m := m) (l := cl.args.toList) fun x _ => hρ x
      split at hq
      · rename_i g a b hr
        rw [hr] at h0
        obtain ⟨a', b', e, ha, hb⟩ := h0.funcF
        unfold q_ext at hq
        split at hq
        · rename_i fn hfn
          obtain ⟨hfP, hname⟩ := k.fn _ _ hfn
          split at hq
          · rename_i body hbody
            cases hq
            refine .inr (.inl ⟨g, _, a' ++ cl.args.map ρ ++ b', rfl, ?_, fun w => ?_⟩)
            · simp only [Array.toList_append, Array.toList_map]
              exact (ha.append hargs).append hb
            · have hn : ¬ fn.name = "runtime.NumGoroutine" := by simpa using hname
              simp [execOp, ho, resolve, hcal, e, Deferred.ofValue, invoke, callFunc, hfP, hn, hbody]
          · have := kind_fb K E o; rw [hq] at this; cases this
        · cases hq
      · rename_i hne
        unfold q_callv at hq
        split at hq
        · exact (hne _ _ _ (by assumption)).elim
        · rename_i xv l a b hr
          rw [hr] at h0
          obtain ⟨x, hm, e, rfl, rfl⟩ := h0.yieldF
          cases hq
          refine .inr (.inr ⟨l, x, _, cl.args.map ρ, hm, rfl, by rw [Array.toList_map]; exact hargs, fun w nx hy => ?_⟩)
          simp [execOp, ho, resolve, hcal, e, Deferred.ofValue, invoke, hy]
        · cases hq
    · unfold q_builtin at hq
      have hcl : ∀ b, cl.callee = .builtin b → o.op = .call ⟨.builtin b, cl.args, cl.argTypes⟩ := fun b hb => by rw [ho]; cases cl; simp_all
      rename_i b hb
      split at hq
      · unfold q_len at hq
        split at hq
        · split at hq
          · cases hq
          · cases hq
          · have := kind_fb K E o; rw [hq] at this; cases this
        · cases hq
      · exact .inl fun H hf => append_ok k H hρ (hcl _ hb) hq hf
      · exact .inl fun H hf => copy_ok k H hρ (hcl _ hb) hq hf
      · exact .inl fun H hf => delete_ok k H hρ (hcl _ hb) hq hf
      · have := kind_fb K E o; rw [hq] at this; cases this
      · have := kind_fb K E o; rw [hq] at this; cases this
      · cases hq
    · cases hq
  | _ =>
    have h1 := kinds (K := K) (E := E) c (fun cl => by rw [ho]; simp)
    rw [hq, ho] at h1
    simp [kindQ, kindOp] at h1
theorem defers_ok (c : Cx) (hρ : ∀ x, VRel m (rd E x) (ρ x)) {f : Value} {l : List Value} (hq : opK o.op K c E o = .defer f l) : (∃ cl, o.op = .defer cl) ∧ ∃ d, DR m (f, l) d ∧ ∀ w, (execOp ρ o).run K.P w = .ok (.defer d) w := by
  cases ho : o.op with
  | defer cl =>
    refine ⟨⟨cl, rfl⟩, ?_⟩
    rw [ho] at hq
    change q_defer E cl = _ at hq
    unfold q_defer at hq
    split at hq
    · rename_i fo hcal
      have h0 := hρ fo
      split at hq
      · rename_i g a b hr
        rw [hr] at h0
        obtain ⟨a', b', e, ha, hb⟩ := h0.funcF
        cases hq
        refine ⟨_, .fn (l' := cl.args.map ρ) ha hb (by rw [Array.toList_map]; exact LRel.map fun x _ => hρ x), fun w => ?_⟩
        simp [execOp, ho, resolve, hcal, e, Deferred.ofValue]
      · cases hq
    · cases hq
  | call cl =>
    rw [ho] at hq
    change q_call K c E o cl = _ at hq
    unfold q_call at hq
    split at hq
    · split at hq
      · unfold q_ext at hq
        split at hq
        · split at hq
          · cases hq
          · have := kind_fb K E o; rw [hq] at this; cases this
        · cases hq
      · unfold q_callv at hq
        split at hq
        · exact (‹∀ _ _ _, _ = _ → False› _ _ _ (by assumption)).elim
        · cases hq
        · cases hq
    · unfold q_builtin at hq
      split at hq
      · unfold q_len at hq
        split at hq
        · split at hq
          · cases hq
          · cases hq
          · have := kind_fb K E o; rw [hq] at this; cases this
        · cases hq
      · unfold q_append at hq
        split at hq
        · cases (Q.cond_eq hq (by simp)).2
        · cases hq
      · unfold q_copy at hq
        split at hq <;> cases hq
      · unfold q_delete at hq
        split at hq <;> cases hq
      · have := kind_fb K E o; rw [hq] at this; cases this
      · have := kind_fb K E o; rw [hq] at this; cases this
      · cases hq
    · cases hq
  | _ =>
    have h1 := kinds (K := K) (E := E) c (fun cl => by rw [ho]; simp)
    rw [hq, ho] at h1
    simp [kindQ, kindOp] at h1
end
end Go.Proofs.YtdkebebingchpaaGreatDoor.Ru

/- The runner: one operation; a region whose order is its text's. -/
namespace Go.Proofs.YtdkebebingchpaaGreatDoor.Ru
open Go Go.RowKit

theorem okP_ok {d : Option Tmp} {n : Nat} {E : Env} {v : Value} {D : DL} {h : AH} {E' : Env} {D' : DL} {h' : AH} (hk : okP d n E v D h = .ok E' D' h') : D' = D ∧ h' = h ∧ ((d = none ∧ E' = E) ∨ ∃ t, d = some t ∧ t < n ∧ E' = setFV 24 E t v) := by
  cases d with
  | none => cases hk; exact ⟨rfl, rfl, .inl ⟨rfl, rfl⟩⟩
  | some t =>
    change @Bool.rec (fun _ => SR) .bad (.ok (setFV 24 E t v) D h) (Nat.blt t n) = _ at hk
    cases hb : Nat.blt t n with
    | false => rw [hb] at hk; cases hk
    | true => rw [hb] at hk; cases hk; exact ⟨rfl, rfl, .inr ⟨t, rfl, blt_of hb, rfl⟩⟩
section
variable {K : PK} {w0 : World} {m : BM} {h : AH} {w : World} {E : Env} {o : Oper} {tmps : Array Value} {n : Nat} {ops : Array Oper}
theorem okP_rel {d : Option Tmp} {v v' : Value} {D : DL} {E' : Env} {D' : DL} {h' : AH} (hk : okP d n E v D h = .ok E' D' h') (hn : n ≤ 65536) (hE : ERel m n E tmps) (hv : VRel m v v') : ERel m n E' (putT d tmps v') := by
  obtain ⟨_, _, ⟨rfl, rfl⟩ | ⟨t, rfl, ht, rfl⟩⟩ := okP_ok hk
  · exact hE
  · exact hE.put ht hn hv
theorem wanted_ok (hE : ERel m n E tmps) {b : Bool} (hw : wantK o.guard ops E = some b) : Region.wanted o (yielded ops tmps) = b := by
  unfold Region.wanted
  cases hg : o.guard with
  | none => rw [hg] at hw; cases hw; rfl
  | some g =>
    obtain ⟨j, want⟩ := g
    rw [hg] at hw
    change (match (ops[j]?).bind (·.dst) with | some d => wantV want (getV E d) | none => some false) = some b at hw
    simp only [yielded]
    cases hd : (ops[j]?).bind (·.dst) with
    | none =>
      rw [hd] at hw
      cases hw
      rfl
    | some d =>
      rw [hd] at hw
      simp only at hw
      have hv := hE.2 d
      unfold wantV at hw
      split at hw
      · rename_i u hb
        cases hw
        rw [hb] at hv
        have e := hv.bool
        have hlt : d < tmps.size := by
          rcases Nat.lt_or_ge d tmps.size with h1 | h1
          · exact h1
          · rw [Array.getD_eq_getD_getElem?, Array.getElem?_eq_none h1] at e; cases e
        have e2 : tmps[d]? = some (.bool u) := by
          rw [Array.getD_eq_getD_getElem?, Array.getElem?_eq_getElem hlt] at e
          rw [Array.getElem?_eq_getElem hlt]
          simpa using e
        simp only [Option.bind_some, e2]
        cases u <;> cases want <;> rfl
      · rename_i cs hb
        cases hc : Nat.beq cs.size 0 with
        | false => rw [hc] at hw; cases hw
        | true =>
          rw [hc] at hw
          cases hw
          rw [hb] at hv
          have e : ∃ a', tmps.getD d undef = .tuple a' := by
            generalize tmps.getD d undef = v' at hv
            cases hv
            · exact ⟨_, rfl⟩
            · exact ⟨_, rfl⟩
          obtain ⟨a', e⟩ := e
          rcases Nat.lt_or_ge d tmps.size with hlt | hlt
          · have e2 : tmps[d]? = some (.tuple a') := by
              rw [Array.getD_eq_getD_getElem?, Array.getElem?_eq_getElem hlt] at e
              rw [Array.getElem?_eq_getElem hlt]
              simpa using e
            simp only [Option.bind_some, e2]
            rfl
          · have e2 : tmps[d]? = none := Array.getElem?_eq_none hlt
            simp only [Option.bind_some, e2]
            rfl
      · cases hw
/-- One operation that is carried out. -/
theorem one_ok (k : KOk K) {c : Cx} (C : CxOk K c) (H : HRel K w0 m h w) (hE : ERel m n E tmps) {D : DL} {ds : List Deferred} (hD : DRel m D ds) (hn : n ≤ 65536) {i : Nat} (ho : ops[i]? = some o) {ro : Option Nat} (hro : ro = none ∨ ∀ cl, o.op ≠ .defer cl)
    (hw : Region.wanted o (yielded ops tmps) = true) {E' : Env} {D' : DL} {h' : AH} (ha : aOneK (opK o.op K c E o) o.dst n E D h = .ok E' D' h') {fn : FuncId} {kind : CallKind} {cs : List Frame} {rest : List Nat} {kk : List Item} :
    ∃ m' w' tmps' ds', Steps K.P (lone (mkF fn kind ro tmps ds (.inRegion ops (i :: rest) :: kk)) cs w) (lone (mkF fn kind ro tmps' ds' (.inRegion ops rest :: kk)) cs w') ∧ HRel K w0 m' h' w' ∧ Ext m h w m' h' w' ∧ ERel m' n E' tmps' ∧ DRel m' D' ds' ∧ ∃ v', tmps' = putT o.dst tmps v' := by
  have hρ := rd_rel H hE
  cases hq : opK o.op K c E o with
  | bad => rw [hq] at ha; cases ha
  | pure v =>
    rw [hq] at ha
    obtain ⟨rfl, rfl, _⟩ := okP_ok (show okP o.dst n E v D h = _ from ha)
    obtain ⟨v', hv, hr⟩ := pure_ok k c hρ hq
    exact ⟨m, w, _, ds, .one (st_value ho hw hro (hr w)), H, .refl m _ w, okP_rel (show okP o.dst n E v _ _ = _ from ha) hn hE hv, hD, _, rfl⟩
  | read f =>
    rw [hq] at ha
    change @Option.rec Value (fun _ => SR) .bad (fun v => okP o.dst n E v D h) (f h) = _ at ha
    cases hf : f h with
    | none => rw [hf] at ha; cases ha
    | some v =>
      rw [hf] at ha
      obtain ⟨rfl, rfl, _⟩ := okP_ok (show okP o.dst n E v D h = _ from ha)
      obtain ⟨v', hv, hr⟩ := read_ok k c H hρ hq hf
      exact ⟨m, w, _, ds, .one (st_value ho hw hro hr), H, .refl m _ w, okP_rel (show okP o.dst n E v _ _ = _ from ha) hn hE hv, hD, _, rfl⟩
  | alloc b mk =>
    rw [hq] at ha
    change @Bool.rec (fun _ => SR) .bad (okP o.dst n E (mk h.n) D ⟨setB h.t h.n (some b), h.n + 1⟩) (Nat.blt h.n 16000000) = _ at ha
    cases hb : Nat.blt h.n 16000000 with
    | false => rw [hb] at ha; cases ha
    | true =>
      rw [hb] at ha
      obtain ⟨rfl, e2, _⟩ := okP_ok (show okP o.dst n E (mk h.n) D ⟨setB h.t h.n (some b), h.n + 1⟩ = _ from ha)
      obtain ⟨obj, κ, v', hr, hrel⟩ := makes_ok (w := w) k c hρ hq
      have hmn := H.fresh h.n (Nat.le_refl _)
      obtain ⟨hB, hV⟩ := hrel h.n (m.add h.n (w.heap.size, κ)) (.add hmn) (BM.add_self _ _ _)
      obtain ⟨H2, X2⟩ := H.alloc b obj κ (blt_of hb) hB
      rw [← e2] at H2 X2
      exact ⟨_, _, _, ds, .one (st_value ho hw hro hr), H2, X2, okP_rel (show okP o.dst n E (mk h.n) _ _ = _ from ha) hn (hE.mono X2.le) hV, hD.mono X2.le, _, rfl⟩
  | defer f l =>
    rw [hq] at ha
    obtain ⟨rfl, rfl, _⟩ := okP_ok (show okP o.dst n E undef ((f, l) :: D) h = _ from ha)
    obtain ⟨⟨cl, hcl⟩, d, hd, hr⟩ := defers_ok c hρ hq
    have hron : ro = none := hro.resolve_right (fun h => h cl hcl)
    subst hron
    exact ⟨m, w, _, d :: ds, .one (st_defer ho hw (hr w)), H, .refl m _ w, okP_rel (show okP o.dst n E undef _ _ = _ from ha) hn hE (.undef m), .cons hd hD, _, rfl⟩
  | eff f =>
    rw [hq] at ha
    change @R.rec (fun _ => SR) .bad (fun v h => okP o.dst n E v D h) (f h) = _ at ha
    cases hf : f h with
    | bad => rw [hf] at ha; cases ha
    | ok v h1 =>
      rw [hf] at ha
      obtain ⟨rfl, rfl, _⟩ := okP_ok (show okP o.dst n E v D h1 = _ from ha)
      have ha : okP o.dst n E v _ _ = _ := ha
      rcases acts_ok k c hρ hq with hdo | ⟨g, args, args', rfl, hl, hr⟩ | ⟨l, x, args, args', hm, rfl, hl, hr⟩
      · obtain ⟨m', w', v', H2, X2, hv, hr | ⟨hr, rfl⟩⟩ := hdo H hf
        · exact ⟨m', w', _, ds, .one (st_value ho hw hro hr), H2, X2, okP_rel ha hn (hE.mono X2.le) hv, hD.mono X2.le, _, rfl⟩
        · exact ⟨m', w', _, ds, .one (st_unit ho hw hro hr), H2, X2, okP_rel ha hn (hE.mono X2.le) hv, hD.mono X2.le, _, rfl⟩
      · obtain ⟨m', w', fr', v', hst, e1, e2, e3, e4, ⟨fnn, e5, e6⟩, H2, X2, hv⟩ := C.cf hf H hl (.inl rfl) (mkF fn kind ro tmps ds (.inRegion ops (i :: rest) :: kk) :: cs)
        refine ⟨m', w', putT o.dst tmps v', ds, ?_, H2, X2, okP_rel ha hn (hE.mono X2.le) hv, hD.mono X2.le, _, rfl⟩
        refine .head (st_enter ho hw hro (hr w)) (hst.trans (.one ?_))
        have := step_leave_returned (P := K.P) (fr := fr') (c := mkF fn kind ro tmps ds (.inRegion ops (i :: rest) :: kk)) (cs := cs) (w := w') (v := v') ⟨e1, e2, e4, fnn, by rw [e3]; exact e5, e6⟩
        rw [this, mkF_finish, ho]; rfl
      · obtain ⟨m', w', v', f2, t2, a, b, hy, hst, H2, X2, hv⟩ := C.rf hf H hm hl (mkF fn kind ro tmps ds (.inRegion ops (i :: rest) :: kk)) cs
        refine ⟨m', w', putT o.dst tmps v', ds, ?_, H2, X2, okP_rel ha hn (hE.mono X2.le) hv, hD.mono X2.le, _, rfl⟩
        rw [mkF_finish, ho] at hst
        exact .head (st_round ho hw hro (hr w _ hy)) hst
/-- The operations of a region, one behind the other. -/
theorem seq_ok (k : KOk K) {c : Cx} (C : CxOk K c) (hn : n ≤ 65536) {ro : Option Nat} {fn : FuncId} {kind : CallKind} {cs : List Frame} {kk : List Item} : ∀ (l : List Oper) (s : Nat), (∀ j (o : Oper), l[j]? = some o → ops[s + j]? = some o) → (∀ o ∈ l, ro = none ∨ ∀ cl, o.op ≠ .defer cl) →
    ∀ {m : BM} {h : AH} {w : World} {E : Env} {tmps : Array Value} {D : DL} {ds : List Deferred} {E' : Env} {D' : DL} {h' : AH}, HRel K w0 m h w → ERel m n E tmps → DRel m D ds → aSeqK l K c n ops E D h = .ok E' D' h' →
    ∃ m' w' tmps' ds', Steps K.P (lone (mkF fn kind ro tmps ds (.inRegion ops (List.range' s l.length) :: kk)) cs w) (lone (mkF fn kind ro tmps' ds' (.inRegion ops [] :: kk)) cs w') ∧ HRel K w0 m' h' w' ∧ Ext m h w m' h' w' ∧ ERel m' n E' tmps' ∧ DRel m' D' ds'
  | [], s, _, _, m, h, w, E, tmps, D, ds, E', D', h', H, hE, hD, ha => by
    cases ha
    exact ⟨m, w, tmps, ds, .refl _ _, H, .refl m _ w, hE, hD⟩
  | o :: l, s, hops, hro, m, h, w, E, tmps, D, ds, E', D', h', H, hE, hD, ha => by
    change @SR.rec (fun _ => SR) .bad (fun E D h => aSeqK l K c n ops E D h) (aOp K c n ops o E D h) = _ at ha
    have ho : ops[s]? = some o := by simpa using hops 0 o rfl
    have hops' : ∀ j (o' : Oper), l[j]? = some o' → ops[s + 1 + j]? = some o' := fun j o' hj => by
      have := hops (j + 1) o' (by simpa using hj)
      rwa [show s + (j + 1) = s + 1 + j by omega] at this
    have hro' : ∀ o' ∈ l, ro = none ∨ ∀ cl, o'.op ≠ .defer cl := fun o' h => hro o' (by simp [h])
    cases hop : aOp K c n ops o E D h with
    | bad => rw [hop] at ha; cases ha
    | ok E1 D1 h1 =>
      rw [hop] at ha
      have ha : aSeqK l K c n ops E1 D1 h1 = _ := ha
      unfold aOp at hop
      cases hwk : wantK o.guard ops E with
      | none => rw [hwk] at hop; cases hop
      | some b =>
        rw [hwk] at hop
        have hwd := wanted_ok hE hwk
        cases b with
        | false =>
          have hop : okP o.dst n E undef D h = .ok E1 D1 h1 := hop
          obtain ⟨rfl, rfl, _⟩ := okP_ok hop
          obtain ⟨m', w', t', d', a1, a2, a3, a4, a5⟩ := seq_ok k C hn l (s + 1) hops' hro' H (okP_rel hop hn hE (.undef m)) hD ha
          exact ⟨m', w', t', d', .head (st_pass ho hwd) a1, a2, a3, a4, a5⟩
        | true =>
          have hop : aOneK (opK o.op K c E o) o.dst n E D h = .ok E1 D1 h1 := hop
          obtain ⟨m1, w1, t1, d1, b1, b2, b3, b4, b5, _⟩ := one_ok (rest := List.range' (s + 1) l.length) (kk := kk) (fn := fn) (kind := kind) (cs := cs) k C H hE hD hn ho (hro o (by simp)) hwd hop
          obtain ⟨m', w', t', d', a1, a2, a3, a4, a5⟩ := seq_ok k C hn l (s + 1) hops' hro' b2 b4 b5 ha
          exact ⟨m', w', t', d', b1.trans a1, a2, b3.trans H.n0 a3, a4, a5⟩
end
end Go.Proofs.YtdkebebingchpaaGreatDoor.Ru

/- The runner: what waits for what in a region. -/
namespace Go.Proofs.YtdkebebingchpaaGreatDoor.Ru
open Go Go.RowKit

theorem numbered_get : ∀ (l : List Oper) (i : Nat) (x : Nat × Oper), x ∈ numbered l i ↔ i ≤ x.1 ∧ l[x.1 - i]? = some x.2
  | [], i, x => by simp [numbered]
  | o :: r, i, x => by
    change x ∈ (i, o) :: numbered r (i + 1) ↔ _
    rw [List.mem_cons, numbered_get r (i + 1) x]
    constructor
    · rintro (rfl | ⟨h1, h2⟩)
      · simp
      · refine ⟨by omega, ?_⟩
        rw [show x.1 - i = (x.1 - (i + 1)) + 1 by omega]; simpa using h2
    · rintro ⟨h1, h2⟩
      by_cases e : x.1 = i
      · left
        rw [e] at h2
        simp at h2
        exact Prod.ext e h2.symm
      · right
        refine ⟨by omega, ?_⟩
        rw [show x.1 - i = (x.1 - (i + 1)) + 1 by omega] at h2; simpa using h2
theorem effs_mem (x : Nat × Oper) : ∀ l : List (Nat × Oper), x ∈ effs l ↔ x ∈ l ∧ isEff x.2.op = true
  | [] => by simp [effs]
  | y :: r => by
    have ih := effs_mem x r
    change x ∈ @Bool.rec (fun _ => List (Nat × Oper)) (effs r) (y :: effs r) (isEff y.2.op) ↔ _
    cases he : isEff y.2.op with
    | true =>
      simp only [List.mem_cons, ih]
      exact ⟨fun h => h.elim (fun e => ⟨.inl e, e ▸ he⟩) fun h => ⟨.inr h.1, h.2⟩, fun h => h.1.elim .inl fun e => .inr ⟨e, h.2⟩⟩
    | false =>
      simp only [List.mem_cons, ih]
      exact ⟨fun h => ⟨.inr h.1, h.2⟩, fun h => h.1.elim (fun e => by rw [e, he] at h; cases h.2) fun e => ⟨e, h.2⟩⟩
theorem rests_mem (x : Nat × Oper) : ∀ l : List (Nat × Oper), x ∈ rests l ↔ x ∈ l ∧ isEff x.2.op = false
  | [] => by simp [rests]
  | y :: r => by
    have ih := rests_mem x r
    change x ∈ @Bool.rec (fun _ => List (Nat × Oper)) (y :: rests r) (rests r) (isEff y.2.op) ↔ _
    cases he : isEff y.2.op with
    | false =>
      simp only [List.mem_cons, ih]
      exact ⟨fun h => h.elim (fun e => ⟨.inl e, e ▸ he⟩) fun h => ⟨.inr h.1, h.2⟩, fun h => h.1.elim .inl fun e => .inr ⟨e, h.2⟩⟩
    | true =>
      simp only [List.mem_cons, ih]
      exact ⟨fun h => ⟨.inr h.1, h.2⟩, fun h => h.1.elim (fun e => by rw [e, he] at h; cases h.2) fun e => ⟨e, h.2⟩⟩
theorem free_held (B U : Nat) (t : List (Nat × Oper)) (x : Nat × Oper) : ∀ l : List (Nat × Oper), (x ∈ freeTo l B U t ↔ x ∈ t ∨ (x ∈ l ∧ Nat.beq (Nat.land (rowOf B x.1) U) 0 = true)) ∧ (x ∈ heldK l B U ↔ x ∈ l ∧ Nat.beq (Nat.land (rowOf B x.1) U) 0 = false)
  | [] => by simp [freeTo, heldK]
  | y :: r => by
    obtain ⟨h1, h2⟩ := free_held B U t x r
    constructor
    · change x ∈ @Bool.rec (fun _ => List (Nat × Oper)) (freeTo r B U t) (y :: freeTo r B U t) (Nat.beq (Nat.land (rowOf B y.1) U) 0) ↔ _
      cases he : Nat.beq (Nat.land (rowOf B y.1) U) 0 with
      | true =>
        simp only [List.mem_cons, h1]
        exact ⟨fun h => h.elim (fun e => .inr ⟨.inl e, e ▸ he⟩) fun h => h.elim .inl fun h => .inr ⟨.inr h.1, h.2⟩, fun h => h.elim (fun h => .inr (.inl h)) fun h => h.1.elim .inl fun e => .inr (.inr ⟨e, h.2⟩)⟩
      | false =>
        simp only [List.mem_cons, h1]
        exact ⟨fun h => h.elim .inl fun h => .inr ⟨.inr h.1, h.2⟩, fun h => h.elim .inl fun h => h.1.elim (fun e => by rw [e, he] at h; cases h.2) fun e => .inr ⟨e, h.2⟩⟩
    · change x ∈ @Bool.rec (fun _ => List (Nat × Oper)) (y :: heldK r B U) (heldK r B U) (Nat.beq (Nat.land (rowOf B y.1) U) 0) ↔ _
      cases he : Nat.beq (Nat.land (rowOf B y.1) U) 0 with
      | false =>
        simp only [List.mem_cons, h2]
        exact ⟨fun h => h.elim (fun e => ⟨.inl e, e ▸ he⟩) fun h => ⟨.inr h.1, h.2⟩, fun h => h.1.elim .inl fun e => .inr ⟨e, h.2⟩⟩
      | true =>
        simp only [List.mem_cons, h2]
        exact ⟨fun h => ⟨.inr h.1, h.2⟩, fun h => h.1.elim (fun e => by rw [e, he] at h; cases h.2) fun e => ⟨e, h.2⟩⟩
theorem stages_mem (B : Nat) (x : Nat × Oper) : ∀ (es todo : List (Nat × Oper)), x ∈ stages es B todo ↔ x ∈ es ∨ x ∈ todo
  | [], todo => by simp [stages]
  | e :: r, todo => by
    change x ∈ forced (fun U => freeTo todo B U (e :: stages r B (heldK todo B U))) (effMask (e :: r)) ↔ _
    rw [forced_eq, (free_held B _ _ x todo).1, List.mem_cons, stages_mem B x r, (free_held B _ [] x todo).2, List.mem_cons]
    cases Nat.beq (Nat.land (rowOf B x.1) (effMask (e :: r))) 0 with
    | true => exact ⟨fun h => h.elim (fun h => h.elim (fun h => .inl (.inl h)) fun h => h.elim (fun h => .inl (.inr h)) fun h => Bool.noConfusion h.2) fun h => .inr h.1, fun h => h.elim (fun h => h.elim (fun h => .inl (.inl h)) fun h => .inl (.inr (.inl h))) fun h => .inr ⟨h, rfl⟩⟩
    | false => exact ⟨fun h => h.elim (fun h => h.elim (fun h => .inl (.inl h)) fun h => h.elim (fun h => .inl (.inr h)) fun h => .inr h.1) fun h => Bool.noConfusion h.2, fun h => h.elim (fun h => h.elim (fun h => .inl (.inl h)) fun h => .inl (.inr (.inl h))) fun h => .inl (.inr (.inr ⟨h, rfl⟩))⟩
theorem ordOf_mem (ops : Array Oper) (B : Nat) (x : Nat × Oper) : x ∈ ordOf ops B ↔ ops[x.1]? = some x.2 := by
  unfold ordOf
  rw [stages_mem, effs_mem, rests_mem, ← and_or_left, numbered_get]
  cases isEff x.2.op <;> simp
theorem row_bit (B i j : Nat) : Nat.testBit (rowOf B i) j = (decide (j < 256) && Nat.testBit B (256 * i + j)) := by
  unfold rowOf
  change Nat.testBit ((B >>> (256 * i)) % 2 ^ 256) j = _
  rw [Nat.testBit_mod_two_pow, Nat.testBit_shiftRight]
theorem bit_eq (m j : Nat) : Nat.beq (Nat.land (Nat.shiftRight m j) 1) 1 = Nat.testBit m j := by
  have h : Nat.land (Nat.shiftRight m j) 1 = (m.testBit j).toNat := by
    change (m >>> j) &&& 1 = _
    rw [Nat.and_one_is_mod, Nat.shiftRight_eq_div_pow, Nat.toNat_testBit]
  rw [h]
  cases m.testBit j <;> rfl
theorem bef_bit (B i j : Nat) : bef B i j = (decide (j < 256) && Nat.testBit B (256 * i + j)) := by
  unfold bef
  rw [bit_eq, row_bit]
theorem lor_bit (a b k : Nat) : Nat.testBit (Nat.lor a b) k = (Nat.testBit a k || Nat.testBit b k) := Nat.testBit_or a b k
theorem one_bit (n k : Nat) : Nat.testBit (Nat.shiftLeft 1 n) k = decide (k = n) := by
  change Nat.testBit (1 <<< n) k = _
  rw [Nat.testBit_shiftLeft]
  by_cases h : k = n
  · subst h; simp
  · rw [decide_eq_false h]
    rcases Nat.lt_or_ge k n with h1 | h1
    · simp [Nat.not_le.2 h1]
    · have : (Nat.testBit 1 (k - n)) = false := by
        cases hb : Nat.testBit 1 (k - n) with
        | false => rfl
        | true => have := Nat.testBit_one_eq_true_iff_self_eq_zero.1 hb; omega
      rw [this, Bool.and_false]
theorem sub_bit {a m : Nat} (h : subQ a m = true) (k : Nat) (hk : Nat.testBit a k = true) : Nat.testBit m k = true := by
  have e : a &&& m = a  := Nat.eq_of_beq_eq_true h
  rw [← e, Nat.testBit_and, Bool.and_eq_true] at hk
  exact hk.2
theorem mask_bit (B j : Nat) : ∀ (es : List Edge) (s : Nat), Nat.testBit (maskK es B s) j = true →
    Nat.testBit s j = true ∨ ∃ e ∈ es, Region.binds .any e = true ∧ (e.on = j ∨ bef B e.on j = true)
  | [], s, h => .inl h
  | e :: es, s, h => by
    change Nat.testBit (@Bool.rec (fun _ => Nat) (maskK es B s) (maskK es B (Nat.lor s (Nat.lor (Nat.shiftLeft 1 e.on) (rowOf B e.on)))) (Region.binds .any e)) j = true at h
    cases hb : Region.binds .any e with
    | false =>
      rw [hb] at h
      rcases mask_bit B j es _ h with h1 | ⟨e', h1, h2⟩
      · exact .inl h1
      · exact .inr ⟨e', by simp [h1], h2⟩
    | true =>
      rw [hb] at h
      rcases mask_bit B j es _ h with h1 | ⟨e', h1, h2⟩
      · rw [lor_bit, lor_bit, one_bit] at h1
        simp only [Bool.or_eq_true, decide_eq_true_eq] at h1
        rcases h1 with h1 | h1 | h1
        · exact .inl h1
        · exact .inr ⟨e, by simp, hb, .inl h1.symm⟩
        · exact .inr ⟨e, by simp, hb, .inr (by unfold bef; rw [bit_eq]; exact h1)⟩
      · exact .inr ⟨e', by simp [h1], h2⟩
theorem befs_cons (o : Oper) (r : List Oper) (i B : Nat) : befs (o :: r) i B = befs r (i + 1) (Nat.lor B (Nat.shiftLeft (Nat.mod (maskK o.after.toList B 0) W256) (Nat.mul 256 i))) := forced_eq _ _
theorem befs_mono : ∀ (l : List Oper) (i B k : Nat), Nat.testBit B k = true → Nat.testBit (befs l i B) k = true
  | [], _, _, _, h => h
  | o :: r, i, B, k, h => by
    rw [befs_cons]
    exact befs_mono r _ _ k (by rw [lor_bit, h]; rfl)
theorem befs_bit : ∀ (l : List Oper) (i B k : Nat), Nat.testBit (befs l i B) k = true → Nat.testBit B k = true ∨
    ∃ p o j, l[p]? = some o ∧ j < 256 ∧ k = 256 * (i + p) + j ∧ ∃ e ∈ o.after.toList, Region.binds .any e = true ∧ (e.on = j ∨ bef (befs l i B) e.on j = true)
  | [], _, _, _, h => .inl h
  | o :: r, i, B, k, h => by
    rw [befs_cons] at h ⊢
    rcases befs_bit r _ _ k h with h1 | ⟨p, o', j, h1, h2, h3, h4⟩
    · rw [lor_bit, Bool.or_eq_true] at h1
      rcases h1 with h1 | h1
      · exact .inl h1
      · change Nat.testBit ((maskK o.after.toList B 0 % 2 ^ 256) <<< (256 * i)) k = true at h1
        rw [Nat.testBit_shiftLeft, Nat.testBit_mod_two_pow] at h1
        simp only [Bool.and_eq_true, decide_eq_true_eq] at h1
        obtain ⟨g1, g2, g3⟩ := h1
        refine .inr ⟨0, o, k - 256 * i, rfl, g2, by omega, ?_⟩
        rcases mask_bit B _ _ _ g3 with g | ⟨e, e1, e2, e3⟩
        · simp at g
        · refine ⟨e, e1, e2, e3.imp id fun e3 => ?_⟩
          rw [bef_bit, Bool.and_eq_true, decide_eq_true_eq] at e3 ⊢
          exact ⟨e3.1, befs_mono r _ _ _ (by rw [lor_bit, e3.2]; rfl)⟩
    · exact .inr ⟨p + 1, o', j, by simpa using h1, h2, by rw [h3]; omega, h4⟩
/-- A set of operations that lacks none that one of them waits for. -/
def Down (ops : Array Oper) (D : Nat → Prop) : Prop := ∀ i (o : Oper), D i → ops[i]? = some o → ∀ e ∈ o.after.toList, Region.binds .any e = true → D e.on
theorem bef_in {ops : Array Oper} {D : Nat → Prop} (hD : Down ops D) (hlt : ∀ i (o : Oper), ops[i]? = some o → ∀ e ∈ o.after.toList, Region.binds .any e = true → e.on < i) :
    ∀ (i : Nat) (o : Oper), ops[i]? = some o → (∀ e ∈ o.after.toList, Region.binds .any e = true → D e.on) → ∀ j, bef (befs ops.toList 0 0) i j = true → D j := by
  intro i
  induction i using Nat.strongRecOn with
  | _ i ih =>
    intro o ho ha j hb
    have hb' := hb
    rw [bef_bit, Bool.and_eq_true, decide_eq_true_eq] at hb'
    rcases befs_bit ops.toList 0 0 _ hb'.2 with h1 | ⟨p, o', j', h1, h2, h3, e, h4, h5, h6⟩
    · simp at h1
    · have hp : p = i := by omega
      have hj : j' = j := by omega
      subst hp; subst hj
      rw [Array.getElem?_toList, ho] at h1
      cases h1
      have hl := hlt p o ho e h4 h5
      rcases h6 with rfl | h6
      · exact ha e h4 h5
      · have hlen : p < ops.size := (Array.getElem?_eq_some_iff.1 ho).1
        obtain ⟨oe, hoe⟩ : ∃ oe, ops[e.on]? = some oe := ⟨_, Array.getElem?_eq_getElem (by omega)⟩
        exact ih e.on hl oe hoe (fun e' he' hb' => hD e.on oe (ha e h4 h5) hoe e' he' hb') j' h6
theorem ordQ_ok (B : Nat) : ∀ (l : List (Nat × Oper)) (A S : Nat), ordQ l B A S = true → laterOk B l ∧ actsOk B l ∧ ∀ y ∈ l, Nat.testBit A y.1 = false ∧ ∀ k, Nat.testBit S k = true → bef B y.1 k = true
  | [], _, _, _ => ⟨trivial, trivial, fun _ h => absurd h (by simp)⟩
  | x :: r, A, S, h => by
    change @Bool.rec (fun _ => Bool) false (@Bool.rec (fun _ => Bool) false (forced (fun A' => forced (ordQ r B A') (@Bool.rec (fun _ => Nat) S (Nat.lor S (Nat.shiftLeft 1 x.1)) (isEff x.2.op))) (Nat.lor A (Nat.lor (Nat.shiftLeft 1 x.1) (rowOf B x.1)))) (subQ S (rowOf B x.1))) (Nat.beq (Nat.land (Nat.shiftRight A x.1) 1) 0) = true at h
    cases h1 : Nat.beq (Nat.land (Nat.shiftRight A x.1) 1) 0 with
    | false => rw [h1] at h; cases h
    | true =>
      rw [h1] at h
      cases h2 : subQ S (rowOf B x.1) with
      | false => rw [h2] at h; cases h
      | true =>
        rw [h2] at h
        rw [forced_eq, forced_eq] at h
        obtain ⟨g1, g2, g3⟩ := ordQ_ok B r _ _ h
        refine ⟨⟨fun y hy => ?_, g1⟩, ⟨fun he y hy => ?_, g2⟩, fun y hy => ?_⟩
        · have := (g3 y hy).1
          rw [lor_bit, lor_bit, one_bit] at this
          simp only [Bool.or_eq_false_iff, decide_eq_false_iff_not] at this
          refine ⟨fun e => this.2.1 e.symm, ?_⟩
          unfold bef
          rw [bit_eq]
          exact this.2.2
        · refine (g3 y hy).2 x.1 ?_
          rw [he]
          change Nat.testBit (Nat.lor S (Nat.shiftLeft 1 x.1)) x.1 = true
          rw [lor_bit, one_bit]
          simp
        · rcases List.mem_cons.1 hy with rfl | hy
          · constructor
            · have e : Nat.land (Nat.shiftRight A y.1) 1 = 0 := Nat.eq_of_beq_eq_true h1
              have := bit_eq A y.1
              rw [e] at this
              exact this.symm
            · intro k hk
              unfold bef
              rw [bit_eq]
              exact sub_bit h2 k hk
          · obtain ⟨a1, a2⟩ := g3 y hy
            rw [lor_bit] at a1
            refine ⟨(Bool.or_eq_false_iff.1 a1).1, fun k hk => a2 k ?_⟩
            cases isEff x.2.op with
            | false => exact hk
            | true =>
              change Nat.testBit (Nat.lor S (Nat.shiftLeft 1 x.1)) k = true
              rw [lor_bit, hk]; rfl
theorem opsL_eq : ∀ op : Op, opsL op = op.operands.toList := by
  have snd : ∀ l : List (Nat × Operand), sndL l = l.map (·.2) := fun l => by
    induction l with
    | nil => rfl
    | cons x r ih => change x.2 :: sndL r = _; rw [ih]; rfl
  have opt : ∀ (x : Option Operand) (l : List Operand), optL x l = x.toList ++ l := fun x l => by cases x <;> rfl
  have join : ∀ l r : List Operand, joinL l r = l ++ r := fun l r => by
    induction l with
    | nil => rfl
    | cons x l ih => change x :: joinL l r = _; rw [ih]; rfl
  have cal : ∀ k : Call, callL k.callee k.args.toList = k.operands.toList := fun k => by
    unfold Call.operands
    cases k.callee <;> simp [callL]
  intro op
  cases op
  case call k => exact cal k
  case go k => exact cal k
  case defer k => exact cal k
  case build t ps => exact (snd _).trans (by simp [Op.operands])
  case buildSlice t n ps => exact (snd _).trans (by simp [Op.operands])
  case makeFunc f a b => exact (join _ _).trans (by simp [Op.operands])
  case makeMap t r => exact (opt _ _).trans (by cases r <;> simp [Op.operands])
  case slice t x l h m =>
    change x :: optL l (optL h (optL m [])) = _
    rw [opt, opt, opt]
    cases l <;> cases h <;> cases m <;> simp [Op.operands]
  all_goals rfl
theorem rds_mem (ops : Array Oper) (o : Oper) (t : Tmp) (h : t ∈ readsOf ops o) : Operand.tmp t ∈ rdsK ops o := by
  have tmp : ∀ l : List Operand, t ∈ tmpsOf l → Operand.tmp t ∈ l := fun l h => by
    unfold tmpsOf at h
    obtain ⟨x, h1, h2⟩ := List.mem_filterMap.1 h
    cases x <;> simp at h2
    subst h2; exact h1
  unfold readsOf at h
  unfold rdsK
  rw [opsL_eq]
  rcases List.mem_append.1 h with h | h
  · have := tmp _ h
    cases hg : o.guard with
    | none => exact this
    | some g =>
      change Operand.tmp t ∈ @Option.rec Tmp (fun _ => List Operand) o.op.operands.toList (fun d => .tmp d :: o.op.operands.toList) ((ops[g.1]?).bind (·.dst))
      cases (ops[g.1]?).bind (·.dst) with
      | none => exact this
      | some d => exact List.mem_cons_of_mem _ this
  · cases hg : o.guard with
    | none => rw [hg] at h; simp at h
    | some g =>
      rw [hg] at h
      change Operand.tmp t ∈ @Option.rec Tmp (fun _ => List Operand) o.op.operands.toList (fun d => .tmp d :: o.op.operands.toList) ((ops[g.1]?).bind (·.dst))
      obtain ⟨g1, g2⟩ := g
      simp only at h ⊢
      cases hd : (ops[g1]?).bind (·.dst) with
      | none => rw [hd] at h; simp at h
      | some d =>
        rw [hd] at h
        simp only [List.mem_singleton] at h
        subst h
        exact List.mem_cons_self ..
theorem slot_bit (W s t j : Nat) : Nat.testBit (slot W s t) j = (decide (j < s) && Nat.testBit W (s * t + j)) := by
  unfold slot
  have e : Nat.shiftLeft 1 s = 2 ^ s := by
    change 1 <<< s = _
    rw [Nat.one_shiftLeft]
  rw [e]
  change Nat.testBit ((W >>> (s * t)) % 2 ^ s) j = _
  rw [Nat.testBit_mod_two_pow, Nat.testBit_shiftRight]
theorem rdQ_ok (t W s m : Nat) : ∀ l : List Operand, rdQ l W s m = true → Operand.tmp t ∈ l → subQ (slot W s t) m = true
  | [], _, h => by simp at h
  | x :: r, h, hm => by
    change @Bool.rec (fun _ => Bool) false (rdQ r W s m) (tmpQ x W s m) = true at h
    cases hx : tmpQ x W s m with
    | false => rw [hx] at h; cases h
    | true =>
      rw [hx] at h
      rcases List.mem_cons.1 hm with rfl | hm
      · exact hx
      · exact rdQ_ok t W s m r h hm
theorem rdA_mono (s i k : Nat) : ∀ (l : List Operand) (A : Nat), Nat.testBit A k = true → Nat.testBit (rdA l A s i) k = true
  | [], _, h => h
  | x :: r, A, h => rdA_mono s i k r (tmpA x A s i) (by
    cases x with
    | tmp t => change Nat.testBit (Nat.lor A _) k = true; rw [lor_bit, h]; rfl
    | _ => exact h)
theorem rdA_ok (s i t : Nat) : ∀ (l : List Operand) (A : Nat), Operand.tmp t ∈ l → Nat.testBit (rdA l A s i) (s * t + i) = true
  | [], _, h => by simp at h
  | x :: r, A, h => by
    rcases List.mem_cons.1 h with rfl | h
    · refine rdA_mono s i _ r (tmpA (.tmp t) A s i) ?_
      change Nat.testBit (Nat.lor A (Nat.shiftLeft 1 (s * t + i))) (s * t + i) = true
      rw [lor_bit, one_bit]; simp
    · exact rdA_ok s i t r (tmpA x A s i) h
theorem dstA_mono (s i k : Nat) (d : Option Tmp) (A : Nat) (h : Nat.testBit A k = true) : Nat.testBit (dstA d A s i) k = true := by
  cases d with
  | none => exact h
  | some t => change Nat.testBit (Nat.lor A _) k = true; rw [lor_bit, h]; rfl
theorem dstA_ok (s i t A : Nat) : Nat.testBit (dstA (some t) A s i) (s * t + i) = true := by
  change Nat.testBit (Nat.lor A (Nat.shiftLeft 1 (s * t + i))) (s * t + i) = true
  rw [lor_bit, one_bit]; simp
theorem edQ_ok (i : Nat) (e : Edge) : ∀ l : List Edge, edQ l i = true → e ∈ l → Region.binds .any e = true → e.on < i
  | [], _, h, _ => by simp at h
  | x :: r, h, hm, hb => by
    change @Bool.rec (fun _ => Bool) (edQ r i) (@Bool.rec (fun _ => Bool) false (edQ r i) (Nat.blt x.on i)) (Region.binds .any x) = true at h
    have hr : edQ r i = true ∧ (Region.binds .any x = true → x.on < i) := by
      cases hx : Region.binds .any x with
      | false => rw [hx] at h; exact ⟨h, fun h => by cases h⟩
      | true =>
        rw [hx] at h
        cases hy : Nat.blt x.on i with
        | false => rw [hy] at h; cases h
        | true => rw [hy] at h; exact ⟨h, fun _ => blt_of hy⟩
    rcases List.mem_cons.1 hm with rfl | hm
    · exact hr.2 hb
    · exact edQ_ok i e r hr.1 hm hb
/-- What the masks hold of the operations before i. -/
def Seen (ops : Array Oper) (s i W A : Nat) : Prop := ∀ j (o : Oper), j < i → ops[j]? = some o →
  (∀ t, o.dst = some t → Nat.testBit W (s * t + j) = true ∧ Nat.testBit A (s * t + j) = true) ∧ (∀ t, t ∈ readsOf ops o → Nat.testBit A (s * t + j) = true)
theorem clashQ_ok (ops : Array Oper) (s B : Nat) : ∀ (l : List Oper) (i W A : Nat), clashQ l ops s B i W A = true → ops.toList.drop i = l → i + l.length ≤ s → Seen ops s i W A →
    ∀ p (o' : Oper), i ≤ p → ops[p]? = some o' → (∀ e ∈ o'.after.toList, Region.binds .any e = true → e.on < p) ∧ ∀ j (o : Oper), j < p → ops[j]? = some o → clash ops o o' = true → bef B p j = true
  | [], i, W, A, _, hl, _, _, p, o', hp, ho => by
    have h1 := (Array.getElem?_eq_some_iff.1 ho).1
    have := List.drop_eq_nil_iff.1 hl
    simp at this
    omega
  | x :: r, i, W, A, h, hl, hs, hS, p, o', hp, ho => by
    change @Bool.rec (fun _ => Bool) false (@Bool.rec (fun _ => Bool) false (@Bool.rec (fun _ => Bool) false (forced (fun W' => forced (clashQ r ops s B (i + 1) W') (dstA x.dst (rdA (rdsK ops x) A s i) s i)) (dstA x.dst W s i)) (dstQ x.dst A s (rowOf B i))) (rdQ (rdsK ops x) W s (rowOf B i))) (edQ x.after.toList i) = true at h
    cases h1 : edQ x.after.toList i with
    | false => rw [h1] at h; cases h
    | true =>
    rw [h1] at h
    cases h2 : rdQ (rdsK ops x) W s (rowOf B i) with
    | false => rw [h2] at h; cases h
    | true =>
    rw [h2] at h
    cases h3 : dstQ x.dst A s (rowOf B i) with
    | false => rw [h3] at h; cases h
    | true =>
    rw [h3] at h
    change forced (fun W' => forced (clashQ r ops s B (i + 1) W') (dstA x.dst (rdA (rdsK ops x) A s i) s i)) (dstA x.dst W s i) = true at h
    rw [forced_eq, forced_eq] at h
    have hx : ops[i]? = some x := by
      have := congrArg (fun l => l[0]?) hl
      simpa using this
    by_cases hpi : p = i
    · subst hpi
      rw [hx] at ho
      cases ho
      refine ⟨fun e he hb => edQ_ok p e _ h1 he hb, fun j o hj hoj hc => ?_⟩
      obtain ⟨s1, s2⟩ := hS j o hj hoj
      have hjs : j < s := by simp at hs; omega
      have fin : ∀ (Z t : Nat), subQ (slot Z s t) (rowOf B p) = true → Nat.testBit Z (s * t + j) = true → bef B p j = true := fun Z t hq hb => by
        unfold bef
        rw [bit_eq]
        exact sub_bit hq j (by rw [slot_bit, hb]; simp [hjs])
      unfold Ru.clash at hc
      rw [Bool.or_eq_true] at hc
      rcases hc with hc | hc
      · cases hd : o.dst with
        | none => rw [hd] at hc; cases hc
        | some d =>
          rw [hd] at hc
          simp only [Bool.or_eq_true, List.contains_iff_mem, beq_iff_eq] at hc
          rcases hc with hc | hc
          · exact fin W d (rdQ_ok d W s _ _ h2 (rds_mem ops x d hc)) (s1 d hd).1
          · rw [hc] at h3
            exact fin A d h3 (s1 d hd).2
      · cases hd : x.dst with
        | none => rw [hd] at hc; cases hc
        | some d =>
          rw [hd] at hc h3
          simp only [List.contains_iff_mem] at hc
          exact fin A d h3 (s2 d hc)
    · refine clashQ_ok ops s B r (i + 1) _ _ h ?_ (by simp at hs; omega) (fun j o hj hoj => ?_) p o' (by omega) ho
      · have := congrArg List.tail hl
        simpa using this
      · by_cases hji : j = i
        · subst hji
          rw [hx] at hoj
          cases hoj
          refine ⟨fun t ht => ⟨?_, ?_⟩, fun t ht => dstA_mono _ _ _ _ _ (rdA_ok s j t _ A (rds_mem ops x t ht))⟩
          · rw [ht]; exact dstA_ok s j t W
          · rw [ht]; exact dstA_ok s j t _
        · obtain ⟨s1, s2⟩ := hS j o (by omega) hoj
          exact ⟨fun t ht => ⟨dstA_mono _ _ _ _ _ (s1 t ht).1, dstA_mono _ _ _ _ _ (rdA_mono _ _ _ _ _ (s1 t ht).2)⟩, fun t ht => dstA_mono _ _ _ _ _ (rdA_mono _ _ _ _ _ (s2 t ht))⟩
/-- What is checked of a region whose order is drawn. -/
theorem drw_ok {ops : Array Oper} {d : Drw} (h : drwOf ops = some d) : d.B = befs ops.toList 0 0 ∧ d.ord = ordOf ops (befs ops.toList 0 0) ∧
    (∀ i (o : Oper), ops[i]? = some o → ∀ e ∈ o.after.toList, Region.binds .any e = true → e.on < i) ∧
    (∀ i j (o o' : Oper), ops[i]? = some o → ops[j]? = some o' → i < j → clash ops o o' = true → bef (befs ops.toList 0 0) j i = true) ∧
    laterOk (befs ops.toList 0 0) (ordOf ops (befs ops.toList 0 0)) ∧ actsOk (befs ops.toList 0 0) (ordOf ops (befs ops.toList 0 0)) := by
  unfold drwOf at h
  rw [forced_eq] at h
  unfold drwB at h
  cases h1 : clashQ ops.toList ops ops.size (befs ops.toList 0 0) 0 0 0 with
  | false => rw [h1] at h; cases h
  | true =>
    rw [h1] at h
    cases h2 : ordQ (ordOf ops (befs ops.toList 0 0)) (befs ops.toList 0 0) 0 0 with
    | false => rw [h2] at h; cases h
    | true =>
      rw [h2] at h
      cases h
      obtain ⟨g1, g2, _⟩ := ordQ_ok _ _ _ _ h2
      have hc := clashQ_ok ops ops.size _ ops.toList 0 0 0 h1 rfl (by simp) (fun j _ hj => absurd hj (by omega))
      exact ⟨rfl, rfl, fun i o ho => (hc i o (by omega) ho).1, fun i j o o' hi hj hlt hcl => (hc j o' (by omega) hj).2 i o hlt hi hcl, g1, g2⟩

end Go.Proofs.YtdkebebingchpaaGreatDoor.Ru

/- The runner: a region whose order is drawn. -/
namespace Go.Proofs.YtdkebebingchpaaGreatDoor.Ru
open Go Go.RowKit

section
variable {K : PK} {ops : Array Oper}
/-- An environment of which only some temporaries are known. -/
noncomputable def junks (n : Nat) : Env := @Nat.rec (fun _ => Env) .nil (fun k E => setFV 24 E k junk) n
theorem junks_get (n : Nat) (hn : n ≤ 65536) (t : Nat) : getV (junks n) t = if t < n then junk else undef := by
  induction n with
  | zero => simp [junks]; rfl
  | succ n ih =>
    change getV (setFV 24 (junks n) n junk) t = _
    rw [getV_set _ _ _ _ (by omega), ih (by omega)]
    by_cases h : t = n
    · subst h; simp
    · rw [if_neg h]
      by_cases h2 : t < n
      · rw [if_pos h2, if_pos (by omega)]
      · rw [if_neg h2, if_neg (by omega)]
noncomputable def onlyE (n : Nat) (E : Env) : List Tmp → Env
  | [] => junks n
  | t :: r => cond (Nat.blt t n) (setFV 24 (onlyE n E r) t (getV E t)) (onlyE n E r)
theorem onlyE_get (n : Nat) (hn : n ≤ 65536) (E : Env) (ho : ∀ t, n ≤ t → getV E t = undef) : ∀ (l : List Tmp) (t : Nat), getV (onlyE n E l) t = if t ∈ l then getV E t else if t < n then junk else undef
  | [], t => by rw [onlyE, junks_get n hn]; simp
  | u :: r, t => by
    rw [onlyE]
    cases hb : Nat.blt u n with
    | true =>
      rw [cond_true, getV_set _ _ _ _ (by have := blt_of hb; omega), onlyE_get n hn E ho r t]
      by_cases h : t = u
      · subst h; simp
      · rw [if_neg h]; simp [h]
    | false =>
      have hu : n ≤ u := by
        rcases Nat.lt_or_ge u n with h | h
        · rw [blt_true h] at hb; cases hb
        · exact h
      rw [cond_false, onlyE_get n hn E ho r t]
      by_cases h : t = u
      · subst h
        rw [if_pos (List.mem_cons_self ..), ho t hu]
        by_cases h2 : t ∈ r
        · rw [if_pos h2]
        · rw [if_neg h2, if_neg (by omega)]
      · simp [h]
theorem fallback_congr {E E2 : Env} {o : Oper} (hs : ∀ cs b, o.op ≠ .select cs b) (h : ∀ x ∈ o.op.operands, rd E x = rd E2 x) : fallback K E o = fallback K E2 o := by
  have h1 : o.op.operands.toList.all (fun x => plain 4 (rd E x)) = o.op.operands.toList.all (fun x => plain 4 (rd E2 x)) := by
    rw [Bool.eq_iff_iff, List.all_eq_true, List.all_eq_true]
    constructor
    · intro hh x hx; rw [← h x (by simpa using hx)]; exact hh x hx
    · intro hh x hx; rw [h x (by simpa using hx)]; exact hh x hx
  unfold fallback
  rw [h1, execOp_congr o hs h]
theorem args_congr {E E2 : Env} {l : List Operand} (h : ∀ x ∈ l, rd E x = rd E2 x) : l.map (rd E) = l.map (rd E2) := List.map_congr_left h
theorem parts_congr {E E2 : Env} {l : List (Nat × Operand)} (h : ∀ p ∈ l, rd E p.2 = rd E2 p.2) : (l.map fun p => (p.1, rd E p.2)) = l.map fun p => (p.1, rd E2 p.2) := List.map_congr_left fun p hp => by rw [h p hp]
theorem opt_congr {E E2 : Env} {x : Option Operand} (h : ∀ y ∈ x.toArray, rd E y = rd E2 y) : x.map (rd E) = x.map (rd E2) := by
  cases x with
  | none => rfl
  | some y => simp [h y (by simp)]
/-- An operation looks at its operands alone. -/
theorem opK_congr (c : Cx) {E E2 : Env} {o : Oper} (h : ∀ x ∈ o.op.operands, rd E x = rd E2 x) : opK o.op K c E o = opK o.op K c E2 o := by
  have fb := fun hs => fallback_congr (K := K) (o := o) hs h
  cases ho : o.op with
  | move x => rw [ho] at h; change q_move E x = q_move E2 x; unfold q_move; rw [h x (by simp [Op.operands])]
  | assign x => rw [ho] at h; change q_move E x = q_move E2 x; unfold q_move; rw [h x (by simp [Op.operands])]
  | pick x a b => rw [ho] at h; change q_pick E x a b = q_pick E2 x a b; unfold q_pick; rw [h x (by simp [Op.operands]), h a (by simp [Op.operands]), h b (by simp [Op.operands])]
  | alloc t => rfl
  | box t x => rw [ho] at h; change q_box E t x = q_box E2 t x; unfold q_box; rw [h x (by simp [Op.operands])]
  | build t ps =>
    rw [ho] at h
    change q_build K E t ps = q_build K E2 t ps
    unfold q_build
    rw [parts_congr (E := E) (E2 := E2) fun p hp => h p.2 (by simp [Op.operands]; exact ⟨p.1, by simpa using hp⟩)]
  | buildSlice t n ps =>
    rw [ho] at h
    change q_buildSlice K E t n ps = q_buildSlice K E2 t n ps
    unfold q_buildSlice
    rw [parts_congr (E := E) (E2 := E2) fun p hp => h p.2 (by simp [Op.operands]; exact ⟨p.1, by simpa using hp⟩)]
  | load t a => rw [ho] at h; change q_load K E t a = q_load K E2 t a; unfold q_load; rw [h a (by simp [Op.operands])]
  | store t a x => rw [ho] at h; change q_store K E t a x = q_store K E2 t a x; unfold q_store; rw [h a (by simp [Op.operands]), h x (by simp [Op.operands])]
  | nilCheck x => rw [ho] at h; change q_nilCheck E x = q_nilCheck E2 x; unfold q_nilCheck; rw [h x (by simp [Op.operands])]
  | binOp op t x y u =>
    have fb := fb (by rw [ho]; simp)
    rw [ho] at h
    change q_binOp K E o op t x y = q_binOp K E2 o op t x y
    unfold q_binOp
    rw [h x (by simp [Op.operands]), h y (by simp [Op.operands]), fb]
  | unOp op t x =>
    have fb := fb (by rw [ho]; simp)
    rw [ho] at h
    change q_unOp K E o op x = q_unOp K E2 o op x
    unfold q_unOp
    rw [h x (by simp [Op.operands]), fb]
  | convert s d x =>
    have fb := fb (by rw [ho]; simp)
    rw [ho] at h
    change q_convert K E o s d x = q_convert K E2 o s d x
    unfold q_convert
    rw [h x (by simp [Op.operands]), fb]
  | makeFunc fn a b =>
    rw [ho] at h
    change q_makeFunc E fn a b = q_makeFunc E2 fn a b
    unfold q_makeFunc
    rw [args_congr (E := E) (E2 := E2) fun x hx => h x (by simp [Op.operands]; left; simpa using hx), args_congr (E := E) (E2 := E2) (l := b.toList) fun x hx => h x (by simp [Op.operands]; right; simpa using hx)]
  | makeMap t r => rfl
  | makeSlice t l k => rw [ho] at h; change q_makeSlice K E t l k = q_makeSlice K E2 t l k; unfold q_makeSlice; rw [h l (by simp [Op.operands]), h k (by simp [Op.operands])]
  | slice t x a b d =>
    rw [ho] at h
    change q_slice K E t x a b d = q_slice K E2 t x a b d
    unfold q_slice
    rw [h x (by simp [Op.operands]), opt_congr (E := E) (E2 := E2) (x := a) fun y hy => h y (by simp [Op.operands] at hy ⊢; simp [hy]), opt_congr (E := E) (E2 := E2) (x := b) fun y hy => h y (by simp [Op.operands] at hy ⊢; simp [hy]), opt_congr (E := E) (E2 := E2) (x := d) fun y hy => h y (by simp [Op.operands] at hy ⊢; simp [hy])]
  | fieldAddr t x f => rw [ho] at h; change q_fieldAddr K E t x f = q_fieldAddr K E2 t x f; unfold q_fieldAddr; rw [h x (by simp [Op.operands])]
  | field t x f => rw [ho] at h; change q_field K E t x f = q_field K E2 t x f; unfold q_field; rw [h x (by simp [Op.operands])]
  | indexAddr t x i => rw [ho] at h; change q_indexAddr K E t x i = q_indexAddr K E2 t x i; unfold q_indexAddr; rw [h x (by simp [Op.operands]), h i (by simp [Op.operands])]
  | index t x i =>
    have fb := fb (by rw [ho]; simp)
    rw [ho] at h
    change q_index K E o t x i = q_index K E2 o t x i
    unfold q_index
    rw [h x (by simp [Op.operands]), h i (by simp [Op.operands]), fb]
  | extract t i => rw [ho] at h; change q_extract E t i = q_extract E2 t i; unfold q_extract; rw [h t (by simp [Op.operands])]
  | lookup t x i k => rw [ho] at h; change q_lookup K E t x i k = q_lookup K E2 t x i k; unfold q_lookup; rw [h x (by simp [Op.operands]), h i (by simp [Op.operands])]
  | mapUpdate t mp k x => rw [ho] at h; change q_mapUpdate K E t mp k x = q_mapUpdate K E2 t mp k x; unfold q_mapUpdate; rw [h mp (by simp [Op.operands]), h k (by simp [Op.operands]), h x (by simp [Op.operands])]
  | insert t mp k x => rw [ho] at h; change q_mapUpdate K E t mp k x = q_mapUpdate K E2 t mp k x; unfold q_mapUpdate; rw [h mp (by simp [Op.operands]), h k (by simp [Op.operands]), h x (by simp [Op.operands])]
  | range t x => rw [ho] at h; change q_range K E t x = q_range K E2 t x; unfold q_range; rw [h x (by simp [Op.operands])]
  | next x b => rw [ho] at h; change q_next E x b = q_next E2 x b; unfold q_next; rw [h x (by simp [Op.operands])]
  | sliceToArrayPointer t x => rw [ho] at h; change q_arrPtr K E t x = q_arrPtr K E2 t x; unfold q_arrPtr; rw [h x (by simp [Op.operands])]
  | call cl =>
    have fb := fb (by rw [ho]; simp)
    rw [ho] at h
    have hargs := args_congr (E := E) (E2 := E2) (l := cl.args.toList) fun x hx => h x (by simp [Op.operands, Call.operands]; right; simpa using hx)
    have harg : ∀ x ∈ cl.args.toList, rd E x = rd E2 x := fun x hx => h x (by simp [Op.operands, Call.operands]; right; simpa using hx)
    change q_call K c E o cl = q_call K c E2 o cl
    unfold q_call
    split
    · rename_i f hf
      rw [h f (by simp [Op.operands, Call.operands, hf])]
      split
      · unfold q_ext; rw [hargs, fb]
      · rw [hargs]
    · rename_i b hb
      unfold q_builtin
      split
      · unfold q_len
        split
        · rename_i t _ x _ _ hx
          rw [harg x (by rw [hx]; simp), fb]
        · rfl
      · unfold q_append
        split
        · rename_i t u s x _ hx
          rw [harg s (by rw [hx]; simp), harg x (by rw [hx]; simp)]
        · rfl
      · unfold q_copy
        split
        · rename_i t _ s x _ hx
          rw [harg s (by rw [hx]; simp), harg x (by rw [hx]; simp)]
        · rfl
      · unfold q_delete
        split
        · rename_i t _ s x _ hx
          rw [harg s (by rw [hx]; simp), harg x (by rw [hx]; simp)]
        · rfl
      · exact fb
      · exact fb
      · rfl
    · rfl
  | defer cl =>
    rw [ho] at h
    have hargs := args_congr (E := E) (E2 := E2) (l := cl.args.toList) fun x hx => h x (by simp [Op.operands, Call.operands]; right; simpa using hx)
    change q_defer E cl = q_defer E2 cl
    unfold q_defer
    split
    · rename_i f hf
      rw [h f (by simp [Op.operands, Call.operands, hf]), hargs]
    · rfl
  | _ => rfl
end
end Go.Proofs.YtdkebebingchpaaGreatDoor.Ru

