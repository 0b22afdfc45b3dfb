/- The runner: a frame at work; The runner: functions, rounds, calls of any depth; The runner at this program. -/
import Derived.Test.YtdkebebingchpaaGreatDoorRunF
import Derived.Test.YtdkebebingchpaaGreatDoorProg
import Derived.Test.YtdkebebingchpaaGreatDoorMem
import Derived.KernelRfl

/- The runner: a frame at work. -/
namespace Go.Proofs.YtdkebebingchpaaGreatDoor.Ru
open Go Go.RowKit

/-- A frame is about to leave. -/
def Leaving (todo : List Item) : Option Code → Prop
  | none => todo = []
  | some .ret => ∃ k, todo = .code .ret :: k
  | some (.exit id) => ∃ k, todo = .code (.exit id) :: k ∧ exitTo id k = none
  | some (.goto l) => ∃ k, todo = .code (.goto l) :: k ∧ gotoIn l k = none
  | some _ => False
/-- Whose round a frame is. -/
def RoRel (m : BM) : Option Nat → Option Nat → Prop
  | none, none => True
  | some l, some l' => N0 ≤ l ∧ ∃ x : Nat × Nat, m l = some x ∧ x.1 = l'
  | _, _ => False
theorem RoRel.mono {m m2 : BM} (hm : MLe m m2) {a b : Option Nat} (h : RoRel m a b) : RoRel m2 a b := by
  cases a <;> cases b <;> first | exact h | (obtain ⟨h0, x, h1, h2⟩ := h; exact ⟨h0, x, hm _ _ h1, h2⟩)
theorem RoRel.none_iff {m : BM} {a b : Option Nat} (h : RoRel m a b) : a = none ↔ b = none := by
  cases a <;> cases b <;> first | exact h.elim | simp
section
variable {P : Program} {fn : FuncId} {kind : CallKind} {ro : Option Nat} {tmps : Array Value} {ds : List Deferred} {cs : List Frame} {w w' : World} {k : List Item}
theorem st_range {f : Operand} {ps : Array Tmp} {a b : Code} {l : Nat} {mark : List Deferred} {w1 : World} {g : FuncId} {args : Array Value} (he : (Instr.enterLoop fn tmps ps a b ro).run P w = .ok (l, mark) w1)
    (hc : ((do let d ← resolve (evT tmps) { callee := .value f, args := #[.const (.func (.yield l) #[] #[])], argTypes := #[] } 0; invoke d.target d.args) : Sem Next).run P w1 = .ok (.enter g args) w1) :
    step P (lone (mkF fn kind ro tmps ds (.code (.rangeFunc f ps a b) :: k)) cs w) = .next (lone (Frame.enter P g args .normal) (mkF fn kind ro tmps (mark ++ ds) (.inRangeFunc l :: k) :: cs) w1) := by
  refine step_lone_go ?_
  have hev := mkF_eval (fn := fn) (kind := kind) (ro := ro) (tmps := tmps) (ds := mark ++ ds) (.inRangeFunc l :: k)
  simp only [mkF] at hev
  simp only [stepG, stepG.exec, mkF, Sem.runT_eq, he, GStep.bare_after, stepG.apply, hev, if_true, hc, GStep.bare_go]
theorem st_endRange {l : Nat} {j : Option Code} (he : (Instr.endLoop l).run P w = .ok j w') :
    step P (lone (mkF fn kind ro tmps ds (.endRangeFunc l :: k)) cs w) = .next (lone (mkF fn kind ro tmps ds ((j.map Item.code).toList ++ k)) cs w') :=
  step_lone_go (by simp [stepG, stepG.exec, mkF, Sem.runT_eq, he])
theorem st_begin {l : Nat} (he : (Instr.beginRound l).run P w = .ok () w') :
    step P (lone (mkF fn kind (some l) tmps ds (.beginRound :: k)) cs w) = .next (lone (mkF fn kind (some l) tmps ds k) cs w') :=
  step_lone_go (by simp [stepG, stepG.exec, mkF, stepG.apply, Frame.finish, he])
theorem st_leave {todo : List Item} {j : Option Code} (hl : Leaving todo j) (hj : leaves j = true) :
    step P (lone (mkF fn kind none tmps ds todo) cs w) = .next (lone { mkF fn kind none tmps ds todo with mode := .returning } cs w) := by
  refine step_lone_go ?_
  match j, hl, hj with
  | none, hl, _ =>
    have : todo = [] := hl
    subst this
    simp [stepG, stepG.exec, mkF]
  | some .ret, hl, _ =>
    obtain ⟨q, rfl⟩ := hl
    simp [stepG, stepG.exec, mkF]
theorem st_leaveRound {todo : List Item} {j : Option Code} {l : Nat} {v : Value} {c : Frame} (hl : Leaving todo j) (he : (Instr.endRound l j).run P w = .ok v w') :
    step P (lone (mkF fn .normal (some l) tmps ds todo) (c :: cs) w) = .next (lone (c.finish v) cs w') := by
  refine step_lone_go ?_
  match j, hl, he with
  | none, hl, he =>
    have : todo = [] := hl
    subst this
    simp [stepG, stepG.exec, mkF, Sem.runT_eq, he, doReturn]
  | some .ret, hl, he =>
    obtain ⟨q, rfl⟩ := hl
    simp [stepG, stepG.exec, mkF, Sem.runT_eq, he, doReturn]
  | some (.exit id), hl, he =>
    obtain ⟨q, rfl, hx⟩ := hl
    simp [stepG, stepG.exec, mkF, Sem.runT_eq, he, doReturn, hx]
  | some (.goto id), hl, he =>
    obtain ⟨q, rfl, hx⟩ := hl
    simp [stepG, stepG.exec, mkF, Sem.runT_eq, he, doReturn, hx]
end
section
variable {K : PK} {w0 : World}
/-- A frame's state stands for the machine's. -/
structure FRel (K : PK) (w0 : World) (m : BM) (n : Nat) (s : St) (tmps : Array Value) (ds : List Deferred) (w : World) : Prop where
  H : HRel K w0 m s.h w
  E : ERel m n s.E tmps
  D : DRel m s.D ds
theorem HRel.bound {m : BM} {h : AH} {w : World} (H : HRel K w0 m h w) {b : Nat} {x : Nat × Nat} (hm : m b = some x) : b < h.n := by
  rcases Nat.lt_or_ge b h.n with h1 | h1
  · exact h1
  · rw [H.fresh b h1] at hm; cases hm
theorem run_loop {P : Program} {w : World} {r : Nat} {l : Loop} (hx : w.heap[r]? = some (.loop l)) : (Instr.getLoop r).run P w = .ok l w := by
  simp [Instr.getLoop, getObj, Sem.run, hx]
theorem run_setObj {P : Program} {w : World} {r : Nat} {x o2 : Obj} (hx : w.heap[r]? = some x) (hc : (match x with | .cells .. => false | _ => true) = true) : (setObj r o2).run P w = .ok () (w.putObj r o2) := by
  cases x <;> first | (simp at hc; done) | simp [setObj, Sem.run, hx, World.putObj]
/-- What one step of a frame comes to. -/
def StepTo (K : PK) (w0 : World) (fn : FuncId) (kind : CallKind) (cs : List Frame) (m : BM) (n : Nat) (ro roC : Option Nat) (todo : List Item) (s : St) (tmps : Array Value) (ds : List Deferred) (w : World) (todo' : List Item) (s' : St) : Prop :=
  ∃ m' w' tmps' ds', Steps K.P (lone (mkF fn kind roC tmps ds todo) cs w) (lone (mkF fn kind roC tmps' ds' todo') cs w') ∧ FRel K w0 m' n s' tmps' ds' w' ∧ Ext m s.h w m' s'.h w' ∧ RoRel m' ro roC
theorem stepTo_one {fn : FuncId} {kind : CallKind} {cs : List Frame} {m : BM} {n : Nat} {ro roC : Option Nat} {todo todo' : List Item} {s : St} {tmps : Array Value} {ds : List Deferred} {w : World} (F : FRel K w0 m n s tmps ds w) (hr : RoRel m ro roC)
    (h : step K.P (lone (mkF fn kind roC tmps ds todo) cs w) = .next (lone (mkF fn kind roC tmps ds todo') cs w)) : StepTo K w0 fn kind cs m n ro roC todo s tmps ds w todo' s :=
  ⟨m, w, tmps, ds, .one h, F, .refl m _ w, hr⟩
theorem region_ok (k : KOk K) {c : Cx} (C : CxOk K c) {fn : FuncId} {kind : CallKind} {cs : List Frame} {m : BM} {n : Nat} (hn : n ≤ 65536) {ro roC : Option Nat} {s s' : St} {tmps : Array Value} {ds : List Deferred} {w : World} (F : FRel K w0 m n s tmps ds w) (hr : RoRel m ro roC)
    {id : Nat} {ops : Array Oper} {draw : Bool} {q q' : List Item} (h : c_region K c ro n ops draw q s = .next q' s') : StepTo K w0 fn kind cs m n ro roC (.code (.region id ops draw) :: q) s tmps ds w q' s' := by
  unfold c_region at h
  cases hb : (ro.isNone || noDefer ops.toList) with
  | false => rw [hb] at h; cases h
  | true =>
    rw [hb] at h
    simp only [cond] at h
    have hro : ∀ o ∈ ops.toList, roC = none ∨ ∀ cl, o.op ≠ .defer cl := fun o ho => by
      rw [Bool.or_eq_true] at hb
      rcases hb with hb | hb
      · left
        rw [Option.isNone_iff_eq_none] at hb
        exact hr.none_iff.1 hb
      · right
        intro cl hcl
        have := List.all_eq_true.1 hb o ho
        rw [hcl] at this
        cases this
    split at h
    · split at h
      · rename_i E D h1 he
        cases h
        obtain ⟨m', w', t', d', a1, a2, a3, a4, a5⟩ := seq_ok (fn := fn) (kind := kind) (cs := cs) (kk := q) k C hn ops.toList 0 (fun j o hj => by rw [Nat.zero_add, ← Array.getElem?_toList]; exact hj) hro F.H F.E F.D he
        refine ⟨m', w', t', d', ?_, ⟨a2, a4, a5⟩, a3, hr.mono a3.le⟩
        refine .head st_region ?_
        rw [List.range_eq_range', show ops.size = ops.toList.length by simp]
        exact a1.trans (.one st_done)
      · cases h
    · split at h
      · rename_i d hd
        split at h
        · rename_i E D h1 he
          cases h
          obtain ⟨m', w', t', d', a1, a2, a3, a4, a5⟩ := draw_ok (fn := fn) (kind := kind) (cs := cs) (kk := q) k C F.H.drew F.E F.D hn hro hd he (w.tape w.drawn (.order fn id))
          refine ⟨m', w', t', d', ?_, ⟨a2, a4, a5⟩, Ext.trans F.H.n0 (Ext.drew m _ w) a3, hr.mono a3.le⟩
          exact .head st_draw (a1.trans (.one st_done))
        · cases h
      · cases h
theorem enter_ok {fn : FuncId} {m : BM} {n : Nat} {ro roC : Option Nat} {s s1 : St} {tmps : Array Value} {ds : List Deferred} {w : World} (F : FRel K w0 m n s tmps ds w) (hr : RoRel m ro roC) {ps : Array Tmp} {a b : Code} {d : Nat} (h : c_enter ro s = some (d, s1)) (hb : s1.h.n < 16000000) :
    ∃ l mark w1 m1, (Instr.enterLoop fn tmps ps a b roC).run K.P w = .ok (l, mark) w1 ∧ FRel K w0 m1 n ⟨s1.E, s1.D, ⟨setB s1.h.t s1.h.n (some (.loop .ready none fn s1.E ps.toList a b d n)), s1.h.n + 1⟩⟩ tmps (mark ++ ds) w1 ∧
      Ext m s.h w m1 ⟨setB s1.h.t s1.h.n (some (.loop .ready none fn s1.E ps.toList a b d n)), s1.h.n + 1⟩ w1 ∧ m1 s1.h.n = some (l, 0) ∧ N0 ≤ s1.h.n := by
  have loop : ∀ {m : BM} {s1 : St} {w : World} {ds : List Deferred} {y : Nat × Nat}, FRel K w0 m n s1 tmps ds w → s1.h.n < 16000000 → m d = some y →
      FRel K w0 (m.add s1.h.n (w.heap.size, 0)) n ⟨s1.E, s1.D, ⟨setB s1.h.t s1.h.n (some (.loop .ready none fn s1.E ps.toList a b d n)), s1.h.n + 1⟩⟩ tmps ds (w.alloc (.loop { state := .ready, pending := none, fn := fn, tmps := tmps, params := ps, assign := a, body := b, defers := y.1 })) ∧
      Ext m s1.h w (m.add s1.h.n (w.heap.size, 0)) ⟨setB s1.h.t s1.h.n (some (.loop .ready none fn s1.E ps.toList a b d n)), s1.h.n + 1⟩ (w.alloc (.loop { state := .ready, pending := none, fn := fn, tmps := tmps, params := ps, assign := a, body := b, defers := y.1 })) := fun {m s1 w ds y} F hb hd => by
    have hm := F.H.fresh s1.h.n (Nat.le_refl _)
    have key := F.H.alloc (.loop .ready none fn s1.E ps.toList a b d n) (.loop { state := .ready, pending := none, fn := fn, tmps := tmps, params := ps, assign := a, body := b, defers := y.1 }) 0 hb
      ⟨tmps, y, by rw [heap_alloc_new], MLe.add hm _ _ hd, F.E.mono (.add hm)⟩
    exact ⟨⟨key.1, F.E.mono key.2.le, F.D.mono key.2.le⟩, key.2⟩
  unfold c_enter at h
  split at h
  · have e : roC = none := hr.none_iff.1 rfl
    subst e
    cases hbn : Nat.blt s.h.n 15000000 with
    | false => rw [hbn] at h; cases h
    | true =>
      rw [hbn] at h
      cases h
      have hb1 := blt_of hbn
      have hm := F.H.fresh s.h.n (Nat.le_refl _)
      have key := F.H.alloc .defs (.deferred (some [])) 0 (by omega) (by show _ = _; exact heap_alloc_new w _)
      have F1 : FRel K w0 (m.add s.h.n (w.heap.size, 0)) n ⟨s.E, (.pointer (some ⟨s.h.n, 0, none⟩), []) :: s.D, ⟨setB s.h.t s.h.n (some .defs), s.h.n + 1⟩⟩ tmps ({ target := .collected w.heap.size, args := #[] } :: ds) (w.alloc (.deferred (some []))) :=
        ⟨key.1, F.E.mono key.2.le, .cons (.mark (x := (w.heap.size, 0)) F.H.n0 (BM.add_self _ _ _)) (F.D.mono key.2.le)⟩
      have L := loop F1 hb (BM.add_self _ _ _)
      refine ⟨w.heap.size + 1, [{ target := .collected w.heap.size, args := #[] }], _, _, ?_, L.1, Ext.trans F.H.n0 key.2 L.2, ?_, Nat.le_succ_of_le F.H.n0⟩
      · simp [Instr.enterLoop]
      · rw [BM.add_self]; simp
  · rename_i l
    split at h
    · rename_i d' _ hg
      cases h
      cases roC with
      | none => exact hr.elim
      | some lc =>
        obtain ⟨_, x, hx, rfl⟩ := hr
        obtain ⟨t0, y, e1, e2, e3⟩ := F.H.live l x _ hx hg
        have L := loop F hb e2
        refine ⟨w.heap.size, [], _, _, ?_, L.1, L.2, BM.add_self _ _ _, F.H.n0⟩
        simp [Instr.enterLoop, run_loop e1]
    · cases h
theorem ext_loop {m : BM} {h : AH} {w : World} {l : Nat} {x : Nat × Nat} (H : HRel K w0 m h w) (hN : N0 ≤ l) (hm : m l = some x) {st : LoopState} {p : Option Code} {f : FuncId} {E : Env} {ps : List Tmp} {a b : Code} {d n : Nat} (hg : getB h.t l = some (.loop st p f E ps a b d n)) (st2 : LoopState) (p2 : Option Code) :
    ∃ lp : Loop, w.heap[x.1]? = some (.loop lp) ∧ lp.state = st ∧ lp.pending = p ∧ HRel K w0 m ⟨setB h.t l (some (.loop st2 p2 f E ps a b d n)), h.n⟩ (w.putObj x.1 (.loop { lp with state := st2, pending := p2 })) ∧
      Ext m h w m ⟨setB h.t l (some (.loop st2 p2 f E ps a b d n)), h.n⟩ (w.putObj x.1 (.loop { lp with state := st2, pending := p2 })) := by
  obtain ⟨t0, y, e1, e2, e3⟩ := H.live l x _ hm hg
  refine ⟨_, e1, rfl, rfl, H.turn hN hm (by rw [hg]; rfl) _ (putObj_size _ _ _) (fun k hk => putObj_other _ _ _ _ hk) ⟨t0, y, putObj_self _ _ _ _ e1, e2, e3⟩ ⟨rfl, rfl, rfl⟩⟩
theorem range_ok (k : KOk K) {c : Cx} (C : CxOk K c) {fn : FuncId} {kind : CallKind} {cs : List Frame} {m : BM} {n : Nat} {ro roC : Option Nat} {s s' : St} {tmps : Array Value} {ds : List Deferred} {w : World} (F : FRel K w0 m n s tmps ds w) (hr : RoRel m ro roC)
    {f : Operand} {ps : Array Tmp} {a b : Code} {q q' : List Item} (h : c_rangeFunc c ro fn n f ps a b q s = .next q' s') : StepTo K w0 fn kind cs m n ro roC (.code (.rangeFunc f ps a b) :: q) s tmps ds w q' s' := by
  unfold c_rangeFunc at h
  split at h
  · rename_i d s1 g first cap he hf
    cases hb : Nat.blt s1.h.n 16000000 with
    | false => rw [hb] at h; cases h
    | true =>
      rw [hb] at h
      simp only [cond] at h
      have h0 := rd_rel F.H F.E f
      rw [hf] at h0
      obtain ⟨l, mark, w1, m1, r1, F1, X1, hl, hN⟩ := enter_ok (ps := ps) (a := a) (b := b) F hr he (blt_of hb)
      obtain ⟨first', cap', ef, hfl, hcl⟩ := (h0.mono X1.le).funcF
      split at h
      · rename_i v h3 hcall
        have hargs : LRel m1 (first.toList ++ [Value.func (Fn.yield s1.h.n) #[] #[]] ++ cap.toList) (first' ++ #[Value.func (Fn.yield l) #[] #[]] ++ cap').toList := by
          simp only [Array.toList_append]
          exact (hfl.append (.cons (.yield (x := (l, 0)) hl) .nil)).append hcl
        obtain ⟨m2, w2, fr', v', hst, e1, e2, e3, e4, ⟨fnn, e5, e6⟩, H2, X2, hv⟩ := C.cf hcall F1.H hargs (.inl rfl) (mkF fn kind roC tmps (mark ++ ds) (.inRangeFunc l :: q) :: cs)
        split at h
        · rename_i st p fa E2 ps2 a2 b2 d2 n2 hg
          have hl2 := X2.le _ _ hl
          obtain ⟨lp, q1, q2, q3, H3, X3⟩ := ext_loop H2 hN hl2 hg .exhausted p
          have hbusy : st ≠ .busy ∧ q' = (p.map Item.code).toList ++ q ∧ s' = ⟨s1.E, s1.D, ⟨setB h3.t s1.h.n (some (.loop .exhausted p fa E2 ps2 a2 b2 d2 n2)), h3.n⟩⟩ := by
            cases st <;> first | (cases h; done) | (cases h; refine ⟨by simp, ?_, rfl⟩; cases p <;> rfl)
          obtain ⟨hnb, rfl, rfl⟩ := hbusy
          -- the callee is known by its body
          have hen : ((do let d ← resolve (evT tmps) { callee := .value f, args := #[.const (.func (.yield l) #[] #[])], argTypes := #[] } 0; invoke d.target d.args) : Sem Next).run K.P w1 = .ok (.enter g (first' ++ #[.func (.yield l) #[] #[]] ++ cap')) w1 := by
            obtain ⟨fnn', hfn', hbody, hname⟩ := C.body hcall
            have hn : ¬ fnn'.name = "runtime.NumGoroutine" := by simpa using hname
            have hconst : evT tmps (.const (.func (.yield l) #[] #[])) = .func (.yield l) #[] #[] := rfl
            have hb2 : ¬ fnn'.body = none := fun e => by rw [e] at hbody; cases hbody
            simp [resolve, ef, hconst, Deferred.ofValue, invoke, callFunc, hfn', hn, hb2]
          refine ⟨m2, w2.putObj l (.loop { lp with state := .exhausted, pending := p }), tmps, mark ++ ds, ?_, ⟨H3, F1.E.mono X2.le, F1.D.mono X2.le⟩, Ext.trans F.H.n0 X1 (Ext.trans F1.H.n0 X2 X3), hr.mono (X1.le.trans X2.le)⟩
          have hret := step_leave_returned (P := K.P) (fr := fr') (c := mkF fn kind roC tmps (mark ++ ds) (.inRangeFunc l :: q)) (cs := cs) (w := w2) (v := v') ⟨e1, e2, e4, fnn, by rw [e3]; exact e5, e6⟩
          have hfin : (mkF fn kind roC tmps (mark ++ ds) (.inRangeFunc l :: q)).finish v' = mkF fn kind roC tmps (mark ++ ds) (.endRangeFunc l :: q) := rfl
          rw [hfin] at hret
          have hend : (Instr.endLoop l).run K.P w2 = .ok p (w2.putObj l (.loop { lp with state := .exhausted, pending := p })) := by
            have hs : ¬ lp.state = .busy := by rw [q2]; exact hnb
            subst q3
            simp [Instr.endLoop, run_loop q1, hs, run_setObj q1 rfl]
          exact .head (st_range r1 hen) (hst.trans (.head hret (.one (st_endRange hend))))
        · cases h
      · cases h
  · cases h
theorem begin_ok {fn : FuncId} {kind : CallKind} {cs : List Frame} {m : BM} {n : Nat} {ro roC : Option Nat} {s s' : St} {tmps : Array Value} {ds : List Deferred} {w : World} (F : FRel K w0 m n s tmps ds w) (hr : RoRel m ro roC)
    {q q' : List Item} (h : c_round ro q s = .next q' s') : StepTo K w0 fn kind cs m n ro roC (.beginRound :: q) s tmps ds w q' s' := by
  unfold c_round at h
  split at h
  · rename_i l
    split at h
    · rename_i p fa E2 ps2 a2 b2 d2 n2 hg
      cases h
      cases roC with
      | none => exact hr.elim
      | some lc =>
        have hr0 := hr
        obtain ⟨hN, x, hx, rfl⟩ := hr
        obtain ⟨lp, q1, q2, q3, H3, X3⟩ := ext_loop F.H hN hx hg .busy p
        refine ⟨m, _, tmps, ds, .one (st_begin ?_), ⟨H3, F.E, F.D⟩, X3, hr0⟩
        subst q3
        simp [Instr.beginRound, run_loop q1, run_setObj q1 rfl, q2]
    · cases h
  · cases h
end
end Go.Proofs.YtdkebebingchpaaGreatDoor.Ru

/- The runner: functions, rounds, calls of any depth. -/
namespace Go.Proofs.YtdkebebingchpaaGreatDoor.Ru
open Go Go.RowKit

section
variable {K : PK} {w0 : World}
theorem step_ok (k : KOk K) {c : Cx} (C : CxOk K c) {fn : FuncId} {kind : CallKind} {cs : List Frame} {m : BM} {n : Nat} (hn : n ≤ 65536) {ro roC : Option Nat} {s s' : St} {tmps : Array Value} {ds : List Deferred} {w : World} (F : FRel K w0 m n s tmps ds w) (hr : RoRel m ro roC)
    {todo todo' : List Item} (h : stepK todo K c ro fn n s = .next todo' s') : StepTo K w0 fn kind cs m n ro roC todo s tmps ds w todo' s' := by
  cases todo with
  | nil => cases h
  | cons x q =>
    change itemK x K c ro fn n q s = _ at h
    cases x with
    | code x =>
      change codeK x K c ro fn n q s = _ at h
      cases x with
      | skip => cases h; exact stepTo_one F hr st_skipC
      | region id ops d => exact region_ok k C hn F hr h
      | seq a b => cases h; exact stepTo_one F hr st_seq
      | cond x a b =>
        change c_cond s.E x a b q s = _ at h
        unfold c_cond at h
        split at h
        · rename_i t ht
          cases h
          have h0 := rd_rel F.H F.E x
          rw [ht] at h0
          exact stepTo_one F hr (st_cond h0.bool)
        · cases h
      | block id b => cases h; exact stepTo_one F hr st_block
      | loop b => cases h; exact stepTo_one F hr st_loop
      | rangeFunc f ps a b => exact range_ok k C F hr h
      | exit id =>
        change c_exit id q s = _ at h
        unfold c_exit at h
        split at h
        · rename_i k' hk
          cases h
          exact stepTo_one F hr (st_exit hk)
        · cases h
      | scope b => cases h; exact stepTo_one F hr st_scope
      | label l => cases h; exact stepTo_one F hr st_label
      | goto l =>
        change c_goto l q s = _ at h
        unfold c_goto at h
        split at h
        · rename_i k' hk
          cases h
          exact stepTo_one F hr (st_goto hk)
        · cases h
      | ret => cases h
      | refuse y => cases h
    | inBlock id => cases h; exact stepTo_one F hr st_inBlock
    | inLoop b => cases h; exact stepTo_one F hr st_inLoop
    | inScope b => cases h; exact stepTo_one F hr st_inScope
    | beginRound => exact begin_ok F hr h
    | _ => cases h
theorem out_ok {c : Cx} {fn : FuncId} {n : Nat} {ro : Option Nat} {s s' : St} {todo : List Item} {j : Option Code} (h : stepK todo K c ro fn n s = .out s' j) : s' = s ∧ Leaving todo j := by
  cases todo with
  | nil => cases h; exact ⟨rfl, rfl⟩
  | cons x q =>
    change itemK x K c ro fn n q s = _ at h
    cases x with
    | code x =>
      change codeK x K c ro fn n q s = _ at h
      cases x with
      | ret => cases h; exact ⟨rfl, q, rfl⟩
      | exit id =>
        change c_exit id q s = _ at h
        unfold c_exit at h
        split at h
        · cases h
        · rename_i hk; cases h; exact ⟨rfl, q, rfl, hk⟩
      | goto l =>
        change c_goto l q s = _ at h
        unfold c_goto at h
        split at h
        · cases h
        · rename_i hk; cases h; exact ⟨rfl, q, rfl, hk⟩
      | region id ops d =>
        change c_region K c ro n ops d q s = _ at h
        unfold c_region at h
        cases hb : (ro.isNone || noDefer ops.toList) with
        | false => rw [hb] at h; cases h
        | true =>
          rw [hb] at h
          simp only [cond] at h
          split at h
          · split at h <;> cases h
          · split at h
            · split at h <;> cases h
            · cases h
      | cond x a b =>
        change c_cond s.E x a b q s = _ at h
        unfold c_cond at h
        split at h <;> cases h
      | rangeFunc f ps a b =>
        change c_rangeFunc c ro fn n f ps a b q s = _ at h
        unfold c_rangeFunc at h
        split at h
        · rename_i d s1 g first cap _ _
          cases hb : Nat.blt s1.h.n 16000000 with
          | false => rw [hb] at h; cases h
          | true =>
            rw [hb] at h
            simp only [cond] at h
            split at h
            · split at h
              · split at h <;> cases h
              · cases h
            · cases h
        · cases h
      | _ => cases h
    | beginRound =>
      change c_round ro q s = _ at h
      unfold c_round at h
      split at h
      · split at h <;> cases h
      · cases h
    | _ => cases h
/-- A frame goes on till it leaves. -/
theorem exec_ok (k : KOk K) {c : Cx} (C : CxOk K c) {fn : FuncId} {kind : CallKind} {cs : List Frame} {n : Nat} (hn : n ≤ 65536) {ro roC : Option Nat} : ∀ (N : Nat) {m : BM} {todo : List Item} {s : St} {out : Out} {tmps : Array Value} {ds : List Deferred} {w : World}, FRel K w0 m n s tmps ds w → RoRel m ro roC →
    execK N K c ro fn n todo s = some out → ∃ m' w' tmps' ds' todo', Steps K.P (lone (mkF fn kind roC tmps ds todo) cs w) (lone (mkF fn kind roC tmps' ds' todo') cs w') ∧ FRel K w0 m' n out.s tmps' ds' w' ∧ Ext m s.h w m' out.s.h w' ∧ RoRel m' ro roC ∧ Leaving todo' out.j
  | 0, m, todo, s, out, tmps, ds, w, F, hr, h => by cases h
  | N + 1, m, todo, s, out, tmps, ds, w, F, hr, h => by
    change @CR.rec (fun _ => Option Out) none (fun todo s => execK N K c ro fn n todo s) (fun s j => some ⟨s, j⟩) (stepK todo K c ro fn n s) = _ at h
    cases hs : stepK todo K c ro fn n s with
    | bad => rw [hs] at h; cases h
    | next todo1 s1 =>
      rw [hs] at h
      obtain ⟨m1, w1, t1, d1, a1, F1, X1, hr1⟩ := step_ok (kind := kind) (cs := cs) k C hn F hr hs
      obtain ⟨m2, w2, t2, d2, q2, b1, F2, X2, hr2, hl⟩ := exec_ok k C hn N F1 hr1 (show execK N K c ro fn n todo1 s1 = some out from h)
      exact ⟨m2, w2, t2, d2, q2, a1.trans b1, F2, Ext.trans F.H.n0 X1 X2, hr2, hl⟩
    | out s1 j =>
      rw [hs] at h
      obtain ⟨rfl, hl⟩ := out_ok hs
      cases h
      exact ⟨m, w, tmps, ds, todo, .refl _ _, F, .refl m _ w, hr, hl⟩
/-- A frame at work for a while. -/
noncomputable def runK : Nat → PK → Cx → FuncId → Nat → List Item → St → Option (List Item × St)
  | 0, _, _, _, _, todo, s => some (todo, s)
  | N + 1, K, c, fn, n, todo, s => match stepK todo K c none fn n s with
    | .next todo s => runK N K c fn n todo s
    | _ => none
theorem envOf_get : ∀ (l : List Value) (i : Nat) (E : Env) (t : Nat), i + l.length ≤ 16000001 → getV (envOf i l E) t = if i ≤ t ∧ t < i + l.length then l.getD (t - i) undef else getV E t
  | [], i, E, t, _ => by
    rw [if_neg (fun h => by have := h.1; have := h.2; simp at this; omega)]; rfl
  | v :: l, i, E, t, h => by
    simp only [List.length_cons] at h
    rw [envOf, envOf_get l (i + 1) _ t (by omega), setV, getV_set _ _ _ _ (by omega)]
    by_cases h1 : t = i
    · subst h1
      rw [if_neg (by omega), if_pos rfl, if_pos (by simp)]
      simp
    · rw [if_neg h1]
      by_cases h2 : i + 1 ≤ t ∧ t < i + 1 + l.length
      · rw [if_pos h2, if_pos (by simp; omega), show t - i = (t - (i + 1)) + 1 by omega]
        simp
      · rw [if_neg h2, if_neg (by simp; omega)]
theorem getV_empty (t : Nat) : getV .nil t = undef := rfl
theorem enter_rel {m : BM} {args : List Value} {args' : Array Value} {n : Nat} (hl : LRel m args args'.toList) (hn : n ≤ 65536) (ha : args.length ≤ n) : ERel m n (envOf 0 args .nil) (args' ++ Array.replicate (n - args'.size) undef) := by
  have hlen : args.length = args'.size := by simpa using hl.1
  refine ⟨⟨by simp; omega, fun t ht => by rw [envOf_get _ _ _ _ (by omega), if_neg (by omega)]; rfl⟩, fun t => ?_⟩
  rw [envOf_get _ _ _ _ (by omega), getV_empty]
  by_cases ht : t < args.length
  · rw [if_pos ⟨Nat.zero_le _, by omega⟩]
    obtain ⟨u', h1, h2⟩ := hl.get (List.getElem?_eq_getElem ht)
    have e1 : args.getD (t - 0) undef = args[t] := by simp [ht]
    have e2 : (args' ++ Array.replicate (n - args'.size) undef).getD t undef = u' := by
      rw [Array.getD_eq_getD_getElem?, Array.getElem?_append_left (by omega), ← Array.getElem?_toList, h1]; rfl
    rw [e1, e2]; exact h2
  · rw [if_neg (by omega)]
    have e2 : (args' ++ Array.replicate (n - args'.size) undef).getD t undef = undef := by
      rw [Array.getD_eq_getD_getElem?, Array.getElem?_append_right (by omega), Array.getElem?_replicate]
      split <;> rfl
    rw [e2]; exact .undef m
theorem HRel.scrap {m : BM} {h : AH} {w w' : World} (H : HRel K w0 m h w) {b : Nat} {x : Nat × Nat} (hb : N0 ≤ b) (hm : m b = some x) (hg : (getB h.t b).isSome = true) (hs : w'.heap.size = w.heap.size)
    (ho : ∀ k, k ≠ x.1 → w'.heap[k]? = w.heap[k]?) (hos : w'.os = w.os ∧ w'.tape = w.tape ∧ w'.output = w.output) :
    HRel K w0 m ⟨setB h.t b none, h.n⟩ w' ∧ Ext m h w m ⟨setB h.t b none, h.n⟩ w' := by
  obtain ⟨H1, X1⟩ := H.kill hb hm
  have hbn := H.bound hm
  have hb2 : b < 16000001 := Nat.lt_of_lt_of_le hbn H.nb
  refine ⟨⟨H1.n0, H1.nb, H1.stat, H1.fresh, fun c y hc e => by rw [hs]; exact H1.dyn c y hc e, H1.inj, fun c y blk e1 e2 => ?_, H1.low, by rw [hs]; exact H1.wsz⟩, ⟨X1.le, X1.news, X1.absf, fun c hc hn => ho c (fun e => hn b x hb hm e.symm), X1.hn, by rw [hs]; exact Nat.le_refl _, hos.1, hos.2.1, hos.2.2⟩⟩
  have hcb : c ≠ b := fun e => by simp only [e, getB_set _ _ _ _ hb2, if_pos] at e2; cases e2
  refine (H1.live c y blk e1 e2).keep (.refl m) (ho _ ?_)
  simp only [getB_set _ _ _ _ hb2, if_neg hcb] at e2
  exact H.apart hb hm hg e1 (by rw [e2]; rfl) hcb
/-- The deferred calls of a frame that leaves. -/
theorem defers_run (k : KOk K) {c : Cx} (C : CxOk K c) {fn : FuncId} {kind : CallKind} {cs : List Frame} {tmps : Array Value} {todo : List Item} : ∀ {D : DL} {ds : List Deferred} {m : BM} {h h' : AH} {w : World}, HRel K w0 m h w → DRel m D ds → aDefers c.cf D h = some h' →
    ∃ m' w', Steps K.P (lone { mkF fn kind none tmps ds todo with mode := .returning } cs w) (lone { mkF fn kind none tmps [] todo with mode := .returning } cs w') ∧ HRel K w0 m' h' w' ∧ Ext m h w m' h' w'
  | [], _, m, h, h', w, H, .nil, ha => by
    cases ha
    exact ⟨m, w, .refl _ _, H, .refl m _ w⟩
  | (f, l) :: D, d :: ds, m, h, h', w, H, .cons hd hD, ha => by
    cases hd with
    | fn e1 e2 e3 =>
      rename_i g a a' b b' l'
      unfold aDefers at ha
      simp only at ha
      cases hc : c.cf g (a.toList ++ l ++ b.toList) h with
      | bad => rw [hc] at ha; cases ha
      | ok v h1 =>
        rw [hc] at ha
        simp only at ha
        have hargs : LRel m (a.toList ++ l ++ b.toList) (a' ++ l' ++ b').toList := by
          simp only [Array.toList_append]
          exact (e1.append e3).append e2
        obtain ⟨m1, w1, fr', v', hst, p1, p2, p3, p4, ⟨fnn, p5, p6⟩, H1, X1, hv⟩ := C.cf hc H hargs (.inr rfl) ({ { mkF fn kind none tmps ({ target := .fn (.func g) b', args := a' ++ l' } :: ds) todo with mode := .returning } with defers := ds } :: cs)
        obtain ⟨m2, w2, b1, H2, X2⟩ := defers_run (fn := fn) (kind := kind) (cs := cs) (tmps := tmps) (todo := todo) k C H1 (hD.mono X1.le) ha
        refine ⟨m2, w2, ?_, H2, Ext.trans H.n0 X1 X2⟩
        obtain ⟨fnn', hfn', hbody, hname⟩ := C.body hc
        have hn : ¬ fnn'.name = "runtime.NumGoroutine" := by simpa using hname
        have hb2 : ¬ fnn'.body = none := fun e => by rw [e] at hbody; cases hbody
        have hinv : (invoke (.fn (.func g) b') (a' ++ l')).run K.P w = .ok (.enter g (a' ++ l' ++ b')) w := by
          simp [invoke, callFunc, hfn', hn, hb2]
        have hs1 := Go.step_defer (P := K.P) (fr := { mkF fn kind none tmps ({ target := .fn (.func g) b', args := a' ++ l' } :: ds) todo with mode := .returning }) (cs := cs) (w := w) (d := { target := .fn (.func g) b', args := a' ++ l' }) (ds := ds) (fv := .func g) (cap := b') (f := g) (args := a' ++ l' ++ b') (by simp) rfl rfl hinv
        have hs2 := step_going_returned (P := K.P) (fr := fr') (c := { { mkF fn kind none tmps ({ target := .fn (.func g) b', args := a' ++ l' } :: ds) todo with mode := .returning } with defers := ds }) (cs := cs) (w := w1) (v := v') p4 ⟨p1, p2, fnn, by rw [p3]; exact p5, p6⟩
        refine .head hs1 (hst.trans (.head hs2 ?_))
        exact b1
    | mark hN e1 =>
      rename_i r x
      unfold aDefers at ha
      simp only at ha
      cases hg : getB h.t r with
      | none => rw [hg] at ha; cases ha
      | some blk =>
        rw [hg] at ha
        cases blk with
        | defs =>
          simp only at ha
          have hw : w.heap[x.1]? = some (.deferred (some [])) := H.live r x _ e1 hg
          obtain ⟨H1, X1⟩ := H.scrap (w' := w.putObj x.1 (.deferred none)) hN e1 (by rw [hg]; rfl) (putObj_size _ _ _) (fun k hk => putObj_other _ _ _ _ hk) ⟨rfl, rfl, rfl⟩
          obtain ⟨m2, w2, b1, H2, X2⟩ := defers_run (fn := fn) (kind := kind) (cs := cs) (tmps := tmps) (todo := todo) k C H1 hD ha
          refine ⟨m2, w2, .head ?_ b1, H2, Ext.trans H.n0 X1 X2⟩
          have ht : (Instr.takeDeferred x.1).run K.P w = .ok [] (w.putObj x.1 (.deferred none)) := by
            simp [Instr.takeDeferred, getObj, Sem.run, hw, run_setObj hw rfl]
          exact step_lone_go (by simp [stepG, unwind, mkF, Sem.runT_eq, ht, GStep.bare_after])
        | _ => cases ha
def resSem (tmps : Array Value) : ResultVar → Sem Value
  | .tmp t => pure (tmps.getD t undef)
  | .cell a t => do loadVar t (← asAddr (tmps.getD a undef))
theorem resV_ok (k : KOk K) {m : BM} {h : AH} {w : World} {n : Nat} {E : Env} {tmps : Array Value} (H : HRel K w0 m h w) (hE : ERel m n E tmps) {r : ResultVar} {v : Value} (hr : resV K E h r = some v) :
    ∃ v', VRel m v v' ∧ (resSem tmps r).run K.P w = .ok v' w := by
  cases r with
  | tmp t => cases hr; exact ⟨_, hE.2 t, rfl⟩
  | cell a t =>
    change (match getV E a with
      | .pointer (some ⟨b, o, none⟩) => (match tyD K t with
        | some (true, n) => (match rdCells h b o n with | some l => some (.agg l.toArray) | none => none)
        | some (false, _) => rdCell h b o
        | none => none)
      | _ => none) = some v at hr
    have h0 := hE.2 a
    split at hr
    · rename_i b off he
      rw [he] at h0
      obtain ⟨x, hm, ex⟩ := h0.pointer
      split at hr
      · rename_i q hd
        obtain ⟨⟨i, hi, hn⟩, hag⟩ := tyD_ok k hd
        split at hr
        · rename_i l hl
          cases hr
          obtain ⟨e1, l', e2, e3⟩ := H.cells hm hl
          have hlen : l'.length = q := by rw [← e2.1]; exact e1
          have hld := run_loadCells_list (P := K.P) w ⟨x.1, off, none⟩ l' (fun j u hu => by rw [add_off]; exact e3 j u hu)
          rw [hlen, ← hn] at hld
          exact ⟨.agg l'.toArray, .aggL e2, by simp [resSem, ex, asAddr, loadVar, hag, sizeOf, typeInfo, hi, hld, -Array.getD_eq_getD_getElem?]⟩
        · cases hr
      · rename_i q hd
        obtain ⟨⟨i, hi, hn⟩, hag⟩ := tyD_ok k hd
        obtain ⟨v', e1, e2⟩ := H.cell hm hr
        exact ⟨v', e2, by simp [resSem, ex, asAddr, loadVar, hag, e1, -Array.getD_eq_getD_getElem?]⟩
      · cases hr
    · cases hr
theorem resVs_ok (k : KOk K) {m : BM} {h : AH} {w : World} {n : Nat} {E : Env} {tmps : Array Value} (H : HRel K w0 m h w) (hE : ERel m n E tmps) : ∀ {rs : List ResultVar} {vs : List Value}, resVs K E h rs = some vs →
    ∃ vs', LRel m vs vs' ∧ (rs.mapM (resSem tmps)).run K.P w = .ok vs' w
  | [], vs, h => by cases h; exact ⟨[], .nil, rfl⟩
  | r :: rs, vs, h => by
    unfold resVs at h
    split at h
    · rename_i v vs1 h1 h2
      cases h
      obtain ⟨v', a1, a2⟩ := resV_ok k H hE h1
      obtain ⟨vs', b1, b2⟩ := resVs_ok k H hE h2
      refine ⟨v' :: vs', .cons a1 b1, ?_⟩
      rw [List.mapM_cons]
      simp only [Sem.run_bind]
      rw [a2]
      simp only [Result.andThen_ok]
      rw [b2]
      rfl
    · cases h
theorem results_ok (k : KOk K) {m : BM} {h : AH} {w : World} {n : Nat} {E : Env} {tmps : Array Value} (H : HRel K w0 m h w) (hE : ERel m n E tmps) {fn : Func} {vs : List Value} (hr : resVs K E h fn.results.toList = some vs) : ∃ v', VRel m (oneOr vs) v' ∧ (results fn tmps).run K.P w = .ok v' w := by
  obtain ⟨vs', h1, h2⟩ := resVs_ok k H hE hr
  have hrun : (fn.results.mapM (resSem tmps)).run K.P w = .ok vs'.toArray w := by
    rw [Array.mapM_eq_mapM_toList, Sem.run_map, h2]; rfl
  refine ⟨if h : vs'.toArray.size = 1 then vs'.toArray[0] else .tuple vs'.toArray, ?_, ?_⟩
  · match vs, vs', h1 with
    | [], [], h1 => exact .tuple rfl h1.2
    | [v], [v'], h1 => exact h1.2 0
    | v :: u :: r, v' :: u' :: r', h1 =>
      rw [dif_neg (by simp)]
      exact .tuple h1.1 h1.2
    | [], _ :: _, h1 => exact absurd h1.1 (by simp)
    | [_], [], h1 => exact absurd h1.1 (by simp)
    | [_], _ :: _ :: _, h1 => exact absurd h1.1 (by simp)
    | _ :: _ :: _, [], h1 => exact absurd h1.1 (by simp)
    | _ :: _ :: _, [_], h1 => exact absurd h1.1 (by simp)
  · change ((fn.results.mapM (resSem tmps) >>= fun vs => pure (if h : vs.size = 1 then vs[0] else .tuple vs) : Sem Value)).run K.P w = _
    rw [Sem.run_bind, hrun]
    rfl
theorem func_ok (k : KOk K) {c : Cx} (C : CxOk K c) {fuel : Nat} {m : BM} {h : AH} {w : World} {f : FuncId} {args : List Value} {args' : Array Value} {v : Value} {h' : AH} {kind : CallKind} (hf : aFunc K c fuel f args h = .ok v h') (H : HRel K w0 m h w) (hl : LRel m args args'.toList) (cs : List Frame) :
    ∃ m' w' fr' v', Steps K.P (lone (Frame.enter K.P f args' kind) cs w) (lone fr' cs w') ∧ fr'.mode = .returning ∧ fr'.defers = [] ∧ fr'.fn = f ∧ fr'.kind = kind ∧ (∃ fn, K.P.funcs[f]? = some fn ∧ (results fn fr'.tmps).run K.P w' = .ok v' w') ∧
      HRel K w0 m' h' w' ∧ Ext m h w m' h' w' ∧ VRel m' v v' := by
  unfold aFunc at hf
  split at hf
  · rename_i fn hfn
    obtain ⟨hfP, hname⟩ := k.fn _ _ hfn
    split at hf
    · rename_i b hb
      cases hc : (Nat.ble fn.ntmps 65536 && Nat.ble args.length fn.ntmps) with
      | false => rw [hc] at hf; cases hf
      | true =>
        rw [hc] at hf
        simp only [cond] at hf
        simp only [Bool.and_eq_true] at hc
        have hn := Nat.le_of_ble_eq_true hc.1
        have ha := Nat.le_of_ble_eq_true hc.2
        have henter : Frame.enter K.P f args' kind = mkF f kind none (args' ++ Array.replicate (fn.ntmps - args'.size) undef) [] [.code b] := by
          simp [Frame.enter, hfP, hb, mkF]
        split at hf
        · rename_i E D h1 j he
          obtain ⟨m1, w1, t1, d1, q1, a1, F1, X1, _, hlv⟩ := exec_ok (ro := none) (roC := none) (kind := kind) (cs := cs) k C hn fuel (w := w) (m := m) ⟨H, enter_rel hl hn ha, .nil⟩ trivial he
          cases hj : leaves j with
          | false => rw [hj] at hf; cases hf
          | true =>
            rw [hj] at hf
            simp only [cond] at hf
            split at hf
            · rename_i h2 hd
              obtain ⟨m2, w2, b1, H2, X2⟩ := defers_run (fn := f) (kind := kind) (cs := cs) (tmps := t1) (todo := q1) k C F1.H F1.D hd
              split at hf
              · rename_i vs hvs
                cases hf
                obtain ⟨v', r1, r2⟩ := results_ok k H2 (F1.E.mono X2.le) hvs
                refine ⟨m2, w2, { mkF f kind none t1 [] q1 with mode := .returning }, v', ?_, rfl, rfl, rfl, rfl, ⟨fn, hfP, r2⟩, H2, Ext.trans H.n0 X1 X2, r1⟩
                rw [henter]
                exact a1.trans (.head (st_leave hlv hj) b1)
              · cases hf
            · cases hf
        · cases hf
    · cases hf
  · cases hf
theorem setPs_ok {m : BM} {n : Nat} (hn : n ≤ 65536) : ∀ (ps : List Tmp) (vs vs' : List Value) (E E' : Env) (tmps : Array Value), ERel m n E tmps → LRel m vs vs' → setPs n ps vs E = some E' → ps.length = vs.length ∧ ERel m n E' ((ps.zip vs').foldl (fun t (x : Tmp × Value) => t.setIfInBounds x.1 x.2) tmps)
  | [], [], vs', E, E', tmps, hE, hl, h => by
    cases h
    have : vs' = [] := List.eq_nil_of_length_eq_zero hl.1.symm
    subst this
    exact ⟨rfl, hE⟩
  | [], _ :: _, _, _, _, _, _, _, h => by cases h
  | _ :: _, [], _, _, _, _, _, _, h => by cases h
  | t :: ps, v :: vs, vs', E, E', tmps, hE, hl, h => by
    unfold setPs at h
    cases hb : Nat.blt t n with
    | false => rw [hb] at h; cases h
    | true =>
      rw [hb] at h
      match vs', hl with
      | [], hl => exact absurd hl.1 (by simp)
      | v' :: vs', hl =>
        obtain ⟨h1, h2⟩ := setPs_ok hn ps vs vs' _ E' _ (hE.put (blt_of hb) hn (hl.2 0)) (hl.drop 1) h
        exact ⟨by simp [h1], h2⟩
theorem round_ok (k : KOk K) {c : Cx} (C : CxOk K c) {fuel : Nat} {m : BM} {h : AH} {w : World} {l : Nat} {x : Nat × Nat} {args : List Value} {args' : Array Value} {v : Value} {h' : AH} (hf : aRound K c fuel l args h = .ok v h') (H : HRel K w0 m h w) (hm : m l = some x) (hl : LRel m args args'.toList) (caller : Frame) (cs : List Frame) :
    ∃ m' w' v' f t2 a b, (Instr.yield x.1 args').run K.P w = .ok (.round x.1 f t2 a b) w ∧ Steps K.P (lone (Frame.round x.1 f t2 a b .normal) (caller :: cs) w) (lone (caller.finish v') cs w') ∧ HRel K w0 m' h' w' ∧ Ext m h w m' h' w' ∧ VRel m' v v' := by
  unfold aRound at hf
  split at hf
  · rename_i st p fn E ps a b d n hg
    split at hf
    · rename_i E1 hE1
      cases hc : (Nat.ble N0 l && Nat.ble n 65536) with
      | false => rw [hc] at hf; cases hf
      | true =>
        rw [hc] at hf
        simp only [cond] at hf
        simp only [Bool.and_eq_true] at hc
        have hN := Nat.le_of_ble_eq_true hc.1
        have hn := Nat.le_of_ble_eq_true hc.2
        obtain ⟨t0, y, e1, e2, e3⟩ := H.live l x _ hm hg
        obtain ⟨hlen, hE⟩ := setPs_ok hn ps args args'.toList E E1 t0 e3 hl hE1
        have hy : (Instr.yield x.1 args').run K.P w = .ok (.round x.1 fn ((ps.zip args'.toList).foldl (fun t (x : Tmp × Value) => t.setIfInBounds x.1 x.2) t0) a b) w := by
          have h1 := hl.1
          have hs : ¬ args'.size ≠ ps.toArray.size := by simp at h1 ⊢; omega
          have hs2 : args'.size = ps.length := by simp at h1; omega
          simp only [Instr.yield, Sem.run_bind, run_loop e1, Result.andThen_ok]
          rw [if_neg hs]
          have hz : (ps.toArray.zip args').foldl (fun tmps (x : Nat × Value) => tmps.setIfInBounds x.1 x.2) t0 = (ps.zip args'.toList).foldl (fun t (x : Tmp × Value) => t.setIfInBounds x.1 x.2) t0 := by
            rw [← Array.foldl_toList, Array.toList_zip]
          simp only [Sem.run_pure]
          rw [← hz]
        split at hf
        · rename_i E2 h1 j he
          have hfr : Frame.round x.1 fn ((ps.zip args'.toList).foldl (fun t (x : Tmp × Value) => t.setIfInBounds x.1 x.2) t0) a b .normal = mkF fn .normal (some x.1) ((ps.zip args'.toList).foldl (fun t (x : Tmp × Value) => t.setIfInBounds x.1 x.2) t0) [] [.code a, .beginRound, .code b] := rfl
          obtain ⟨m1, w1, t1, d1, q1, a1, F1, X1, hr1, hlv⟩ := exec_ok (ro := some l) (roC := some x.1) (kind := .normal) (cs := caller :: cs) k C hn fuel (w := w) (m := m) (s := ⟨E1, [], h⟩) ⟨H, hE, .nil⟩ ⟨hN, x, hm, rfl⟩ he
          have hd1 : d1 = [] := by
            have := F1.D
            cases this; rfl
          subst hd1
          split at hf
          · rename_i st2 p2 fa E3 ps3 a3 b3 d3 n3 hg2
            cases hf
            obtain ⟨lp, q1', q2, q3, H3, X3⟩ := ext_loop F1.H hN (X1.le _ _ hm) hg2 (cond j.isNone .ready .done) j
            refine ⟨m1, _, .bool j.isNone, _, _, _, _, hy, ?_, H3, Ext.trans H.n0 X1 X3, .lit rfl⟩
            rw [hfr]
            refine a1.trans (.one (st_leaveRound hlv ?_))
            simp only [Instr.endRound, Sem.run_bind, run_loop q1', Result.andThen_ok, run_setObj q1' rfl]
            cases j <;> rfl
          · cases hf
        · cases hf
    · cases hf
  · cases hf
theorem callK_ok (k : KOk K) : ∀ (N fuel : Nat), CxOk K (callK N K fuel)
  | 0, _ => ⟨fun h => (by cases h), fun h => (by cases h), fun h => (by cases h)⟩
  | N + 1, fuel => ⟨(fun {f args v h h'} hf => (by
      change aFunc K (callK N K fuel) fuel f args h = _ at hf
      unfold aFunc at hf
      split at hf
      · rename_i fn hfn
        obtain ⟨hfP, hname⟩ := k.fn _ _ hfn
        split at hf
        · rename_i b hb
          exact ⟨fn, hfP, by rw [hb]; rfl, hname⟩
        · cases hf
      · cases hf)), fun hf H hl _ cs => func_ok k (callK_ok k N fuel) (show aFunc K (callK N K fuel) fuel _ _ _ = _ from hf) H hl cs,
      fun hf H hm hl caller cs => round_ok k (callK_ok k N fuel) (show aRound K (callK N K fuel) fuel _ _ _ = _ from hf) H hm hl caller cs⟩
/-- **A call that the runner carries out.** -/
theorem run_calls (k : KOk K) (N fuel : Nat) {m : BM} {h : AH} {w : World} {f : FuncId} {args : List Value} {args' : Array Value} {v : Value} {h' : AH} (hf : (callK N K fuel).cf f args h = .ok v h') (H : HRel K w0 m h w) (hl : LRel m args args'.toList) :
    Calls K.P f args' w fun e w' => ∃ m' v', e = .returned v' ∧ HRel K w0 m' h' w' ∧ Ext m h w m' h' w' ∧ VRel m' v v' := by
  intro cs
  obtain ⟨m', w', fr', v', hst, e1, e2, e3, e4, ⟨fn, e5, e6⟩, H2, X2, hv⟩ := (callK_ok k N fuel).cf hf H hl (.inl rfl) cs
  exact ⟨.returned v', w', fr', ⟨m', v', rfl, H2, X2, hv⟩, hst, e3, e1, e2, e4, fn, by rw [e3]; exact e5, e6⟩
end
end Go.Proofs.YtdkebebingchpaaGreatDoor.Ru

/- The runner at this program. -/
namespace Go.Proofs.YtdkebebingchpaaGreatDoor.Ru
open Go Go.RowKit

noncomputable def ofL {α : Type} (f : Tr (Option α) → Nat → Option α → Tr (Option α)) : List α → Nat → Tr (Option α) → Tr (Option α)
  | [], _, t => t
  | a :: l, i, t => ofL f l (i + 1) (f t i (some a))
noncomputable def getI : Tr (Option TypeInfo) → Nat → Option TypeInfo :=
  @Tr.rec (Option TypeInfo) (fun _ => Nat → Option TypeInfo) (fun _ => none)
    (fun _ v _ gl gr k => @Nat.rec (fun _ => Option TypeInfo) v (fun j _ => @Nat.rec (fun _ => Option TypeInfo) (gl (Nat.div j 2)) (fun _ _ => gr (Nat.div j 2)) (Nat.mod j 2)) k)
noncomputable def getF : Tr (Option Func) → Nat → Option Func :=
  @Tr.rec (Option Func) (fun _ => Nat → Option Func) (fun _ => none)
    (fun _ v _ gl gr k => @Nat.rec (fun _ => Option Func) v (fun j _ => @Nat.rec (fun _ => Option Func) (gl (Nat.div j 2)) (fun _ _ => gr (Nat.div j 2)) (Nat.mod j 2)) k)
noncomputable def setG {α : Type} : Nat → Tr (Option α) → Nat → Option α → Tr (Option α) :=
  @Nat.rec (fun _ => Tr (Option α) → Nat → Option α → Tr (Option α)) (fun t _ _ => t)
    (fun _ ih t => @Tr.rec (Option α) (fun _ => Nat → Option α → Tr (Option α))
      (fun k v => @Nat.rec (fun _ => Tr (Option α)) (.node .nil v .nil) (fun j _ => @Nat.rec (fun _ => Tr (Option α)) (.node (ih .nil (Nat.div j 2) v) none .nil) (fun _ _ => .node .nil none (ih .nil (Nat.div j 2) v)) (Nat.mod j 2)) k)
      (fun l x r _ _ k v => @Nat.rec (fun _ => Tr (Option α)) (.node l v r) (fun j _ => @Nat.rec (fun _ => Tr (Option α)) (.node (ih l (Nat.div j 2) v) x r) (fun _ _ => .node l x (ih r (Nat.div j 2) v)) (Nat.mod j 2)) k) t)
theorem getI_eq : ∀ (E : Tr (Option TypeInfo)) (k : Nat), getI E k = getT none E k
  | .nil, _ => rfl
  | .node _ _ _, 0 => rfl
  | .node l x r, j + 1 => by
    show @Nat.rec (fun _ => Option TypeInfo) (getI l (Nat.div j 2)) (fun _ _ => getI r (Nat.div j 2)) (Nat.mod j 2) = _
    rw [rec_mod, getI_eq l, getI_eq r]; rfl
theorem getF_eq : ∀ (E : Tr (Option Func)) (k : Nat), getF E k = getT none E k
  | .nil, _ => rfl
  | .node _ _ _, 0 => rfl
  | .node l x r, j + 1 => by
    show @Nat.rec (fun _ => Option Func) (getF l (Nat.div j 2)) (fun _ _ => getF r (Nat.div j 2)) (Nat.mod j 2) = _
    rw [rec_mod, getF_eq l, getF_eq r]; rfl
theorem setG_eq {α : Type} : ∀ (f : Nat) (E : Tr (Option α)) (k : Nat) (v : Option α), setG f E k v = setT none f E k v
  | 0, _, _, _ => rfl
  | _ + 1, .nil, 0, _ => rfl
  | _ + 1, .node _ _ _, 0, _ => rfl
  | f + 1, .nil, j + 1, v => by
    show @Nat.rec (fun _ => Tr (Option α)) (.node (setG f .nil (Nat.div j 2) v) none .nil) (fun _ _ => .node .nil none (setG f .nil (Nat.div j 2) v)) (Nat.mod j 2) = _
    rw [rec_mod, setG_eq f]; rfl
  | f + 1, .node l x r, j + 1, v => by
    show @Nat.rec (fun _ => Tr (Option α)) (.node (setG f l (Nat.div j 2) v) x r) (fun _ _ => .node l x (setG f r (Nat.div j 2) v)) (Nat.mod j 2) = _
    rw [rec_mod, setG_eq f, setG_eq f]; rfl
theorem ofL_get {α : Type} (A : List α) (hA : A.length < 16000000) : ∀ (l : List α) (i : Nat) (t : Tr (Option α)), (∀ k, l[k]? = A[i + k]?) → (∀ j x, getT none t j = some x → A[j]? = some x) → ∀ j x, getT none (ofL (setG 24) l i t) j = some x → A[j]? = some x
  | [], i, t, _, h, j, x, e => h j x e
  | a :: l, i, t, hl, h, j, x, e => by
    have ha : A[i]? = some a := by simpa using (hl 0).symm
    have hi : i < A.length := (List.getElem?_eq_some_iff.1 ha).1
    refine ofL_get A hA l (i + 1) _ (fun k => ?_) (fun j x e => ?_) j x e
    · have := hl (k + 1)
      rw [show i + 1 + k = i + (k + 1) by omega, ← this]; simp
    · rw [setG_eq, getT_set _ _ _ _ _ _ (by omega)] at e
      split at e
      · rename_i hj; rw [hj, ha]; exact e
      · exact h j x e
noncomputable def tI : Tr (Option TypeInfo) := ofL (setG 24) Tryz.prog.types.toList 0 .nil
noncomputable def tF : Tr (Option Func) := ofL (setG 24) Tryz.prog.funcs.toList 0 .nil
noncomputable def undT (t : Nat) : Option TypeDesc := match getI tI t with
  | some i => match i.desc with
    | .named _ u => match getI tI u with | some j => some j.desc | none => none
    | d => some d
  | none => none
noncomputable def KK : PK := ⟨Tryz.prog, getI tI, undT, getF tF⟩
set_option maxRecDepth 1000000 in
theorem lenI : Nat.blt Tryz.prog.types.toList.length 16000000 = true := by kernel_rfl
set_option maxRecDepth 1000000 in
theorem lenF : Nat.blt Tryz.prog.funcs.toList.length 16000000 = true := by kernel_rfl
set_option maxRecDepth 1000000 in
theorem namesF : Tryz.prog.funcs.toList.all (fun f => !(f.name == "runtime.NumGoroutine")) = true := by kernel_rfl
theorem infoOk {t : Nat} {i : TypeInfo} (h : getI tI t = some i) : Tryz.prog.info? t = some i := by
  rw [getI_eq] at h
  have h1 := ofL_get Tryz.prog.types.toList (blt_of lenI) _ 0 .nil (fun k => by rw [Nat.zero_add]) (fun j x e => by cases e) t i h
  rw [Array.getElem?_toList] at h1
  show (if t < Tryz.prog.types.size then Tryz.prog.types[t]? else _) = _
  rw [if_pos (Array.getElem?_eq_some_iff.1 h1).1]; exact h1
set_option maxRecDepth 1000000 in
theorem kok : KOk KK where
  info := fun t i h => infoOk h
  und := fun t d h => by
    change undT t = some d at h
    show Tryz.prog.underlying t = some d
    unfold undT at h
    cases h1 : getI tI t with
    | none => rw [h1] at h; cases h
    | some i =>
      rw [h1] at h
      simp only at h
      unfold Program.underlying
      rw [infoOk h1]
      rcases i with ⟨desc⟩
      cases desc with
      | named n u =>
        simp only at h ⊢
        cases h2 : getI tI u with
        | none => rw [h2] at h; cases h
        | some j => rw [h2] at h; rw [infoOk h2]; exact h
      | _ => exact h
  fn := fun f g h => by
    change getF tF f = some g at h
    rw [getF_eq] at h
    have h1 := ofL_get Tryz.prog.funcs.toList (blt_of lenF) _ 0 .nil (fun k => by rw [Nat.zero_add]) (fun j x e => by cases e) f g h
    refine ⟨by rw [← Array.getElem?_toList]; exact h1, ?_⟩
    have := List.all_eq_true.1 namesF g (List.mem_of_getElem? h1)
    simpa using this
  mix := by kernel_rfl
def deB : List Value := [0, 1, 56, 2, 57, 49, 28, 3, 61, 58, 42, 50, 38, 29, 17, 4, 62, 47, 59, 36, 45, 43, 51, 22, 53, 39, 33, 30, 24, 18, 12, 5, 63, 55, 48, 27, 60, 41, 37, 16, 46, 35, 44, 21, 52, 32, 23, 11, 54, 26, 40, 15, 34, 20, 31, 10, 25, 14, 19, 9, 13, 8, 7, 6].map fun n => .int .u8 (Int.ofNat n)
noncomputable def H0 : AH := ⟨setB .nil 1 (some (.cells deB 0)), 64⟩
def m0 : BM := fun b => if b < N0 then some (b, 0) else none
theorem start (w : World) (hsz : 1 < w.heap.size) (hc : ∀ i u, deB[i]? = some u → w.cell? ⟨1, i, none⟩ = some u) : HRel KK w m0 H0 w where
  n0 := Nat.le_refl _
  nb := by decide
  stat := fun g hg => by unfold m0; rw [if_pos hg]
  fresh := fun b hb => by unfold m0; exact if_neg (Nat.not_lt.2 hb)
  dyn := fun b x hb e => by unfold m0 at e; rw [if_neg (Nat.not_lt.2 hb)] at e; cases e
  inj := fun b c x y hb _ e => by unfold m0 at e; rw [if_neg (Nat.not_lt.2 hb)] at e; cases e
  live := fun b x blk e1 e2 => by
    change getB (setB .nil 1 (some (.cells deB 0))) b = _ at e2
    rw [getB_set _ _ _ _ (by decide)] at e2
    split at e2
    · rename_i hb; subst hb
      cases e2
      unfold m0 at e1
      rw [if_pos (by decide)] at e1
      cases e1
      refine ⟨fun i u hu => ⟨u, hc i u hu, .lit ?_⟩, fun hb => absurd hb (by decide)⟩
      unfold deB at hu
      rw [List.getElem?_map] at hu
      obtain ⟨n, _, rfl⟩ := Option.map_eq_some_iff.1 hu
      rfl
    · cases e2
  low := fun b hb hs => by
    change (getB (setB .nil 1 (some (.cells deB 0))) b).isSome = true at hs
    rw [getB_set _ _ _ _ (by decide)] at hs
    split at hs
    · rename_i hb; subst hb; exact hsz
    · cases hs
  wsz := Nat.le_refl _
/-- A closed run that says yes. -/
theorem yes (N fuel : Nat) {w : World} {f : FuncId} {args : List Value} {args' : Array Value} {h' : AH} (hf : (callK N KK fuel).cf f args H0 = .ok (.bool true) h') (hsz : 1 < w.heap.size) (hc : ∀ i u, deB[i]? = some u → w.cell? ⟨1, i, none⟩ = some u) (hl : LRel m0 args args'.toList) :
    Calls Tryz.prog f args' w fun e w' => e = .returned (.bool true) ∧ Kept [] w w' := by
  refine (run_calls kok N fuel hf (start w hsz hc) hl).mono fun e w' ⟨m', v', e1, H', X, hv⟩ => ?_
  have := hv.bool
  subst this
  exact ⟨e1, X.os, X.tape, X.output, X.wsz, fun c hc _ => X.conf c hc fun b x hb e => by unfold m0 at e; rw [if_neg (Nat.not_lt.2 hb)] at e; cases e⟩
def isYes : R → Bool
  | .ok (.bool true) _ => true
  | _ => false
theorem yes_of {r : R} (h : isYes r = true) : ∃ h', r = .ok (.bool true) h' := by
  unfold isYes at h
  split at h
  · exact ⟨_, rfl⟩
  · cases h
theorem juncts (m : BM) : ∀ l : List Value, LRel m (l.map fun _ => junk) l := fun l => ⟨by simp, fun i => by
  simp only [List.getD_eq_getElem?_getD, List.getElem?_map]
  cases l[i]? with
  | none => exact .lit rfl
  | some v => exact .junk v⟩
end Go.Proofs.YtdkebebingchpaaGreatDoor.Ru

