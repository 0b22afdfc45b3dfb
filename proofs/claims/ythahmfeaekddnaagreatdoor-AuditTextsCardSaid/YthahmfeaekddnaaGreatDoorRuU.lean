/- The runner: a frame at work. -/
import Derived.Test.YthahmfeaekddnaaGreatDoorRuX
namespace Go.Proofs.YthahmfeaekddnaaGreatDoor.Ru
open Go Go.RowKit

/-- A frame is about to leave. -/
def Leaving (todo : List Item) : Option Code → Prop
  | none => todo = []
  | some .ret => ∃ k, todo = .code .ret :: k
  | some (.exit id) => ∃ k, todo = .code (.exit id) :: k ∧ exitTo id k = none
  | some (.goto l) => ∃ k, todo = .code (.goto l) :: k ∧ gotoIn l k = none
  | some _ => False
/-- Whose round a frame is. -/
def RoRel (m : BM) : Option Nat → Option Nat → Prop
  | none, none => True
  | some l, some l' => N0 ≤ l ∧ ∃ x : Nat × Nat, m l = some x ∧ x.1 = l'
  | _, _ => False
theorem RoRel.mono {m m2 : BM} (hm : MLe m m2) {a b : Option Nat} (h : RoRel m a b) : RoRel m2 a b := by
  cases a <;> cases b <;> first | exact h | (obtain ⟨h0, x, h1, h2⟩ := h; exact ⟨h0, x, hm _ _ h1, h2⟩)
theorem RoRel.none_iff {m : BM} {a b : Option Nat} (h : RoRel m a b) : a = none ↔ b = none := by
  cases a <;> cases b <;> first | exact h.elim | simp
section
variable {P : Program} {fn : FuncId} {kind : CallKind} {ro : Option Nat} {tmps : Array Value} {ds : List Deferred} {cs : List Frame} {w w' : World} {k : List Item}
theorem st_range {f : Operand} {ps : Array Tmp} {a b : Code} {l : Nat} {mark : List Deferred} {w1 : World} {g : FuncId} {args : Array Value} (he : (Instr.enterLoop fn tmps ps a b ro).run P w = .ok (l, mark) w1)
    (hc : ((do let d ← resolve (evT tmps) { callee := .value f, args := #[.const (.func (.yield l) #[] #[])], argTypes := #[] } 0; invoke d.target d.args) : Sem Next).run P w1 = .ok (.enter g args) w1) :
    step P (lone (mkF fn kind ro tmps ds (.code (.rangeFunc f ps a b) :: k)) cs w) = .next (lone (Frame.enter P g args .normal) (mkF fn kind ro tmps (mark ++ ds) (.inRangeFunc l :: k) :: cs) w1) := by
  refine step_lone_go ?_
  have hev := mkF_eval (fn := fn) (kind := kind) (ro := ro) (tmps := tmps) (ds := mark ++ ds) (.inRangeFunc l :: k)
  simp only [mkF] at hev
  simp only [stepG, stepG.exec, mkF, Sem.runT_eq, he, GStep.bare_after, stepG.apply, hev, if_true, hc, GStep.bare_go]
theorem st_endRange {l : Nat} {j : Option Code} (he : (Instr.endLoop l).run P w = .ok j w') :
    step P (lone (mkF fn kind ro tmps ds (.endRangeFunc l :: k)) cs w) = .next (lone (mkF fn kind ro tmps ds ((j.map Item.code).toList ++ k)) cs w') :=
  step_lone_go (by simp [stepG, stepG.exec, mkF, Sem.runT_eq, he])
theorem st_begin {l : Nat} (he : (Instr.beginRound l).run P w = .ok () w') :
    step P (lone (mkF fn kind (some l) tmps ds (.beginRound :: k)) cs w) = .next (lone (mkF fn kind (some l) tmps ds k) cs w') :=
  step_lone_go (by simp [stepG, stepG.exec, mkF, stepG.apply, Frame.finish, he])
theorem st_leave {todo : List Item} {j : Option Code} (hl : Leaving todo j) (hj : leaves j = true) :
    step P (lone (mkF fn kind none tmps ds todo) cs w) = .next (lone { mkF fn kind none tmps ds todo with mode := .returning } cs w) := by
  refine step_lone_go ?_
  match j, hl, hj with
  | none, hl, _ =>
    have : todo = [] := hl
    subst this
    simp [stepG, stepG.exec, mkF]
  | some .ret, hl, _ =>
    obtain ⟨q, rfl⟩ := hl
    simp [stepG, stepG.exec, mkF]
theorem st_leaveRound {todo : List Item} {j : Option Code} {l : Nat} {v : Value} {c : Frame} (hl : Leaving todo j) (he : (Instr.endRound l j).run P w = .ok v w') :
    step P (lone (mkF fn .normal (some l) tmps ds todo) (c :: cs) w) = .next (lone (c.finish v) cs w') := by
  refine step_lone_go ?_
  match j, hl, he with
  | none, hl, he =>
    have : todo = [] := hl
    subst this
    simp [stepG, stepG.exec, mkF, Sem.runT_eq, he, doReturn]
  | some .ret, hl, he =>
    obtain ⟨q, rfl⟩ := hl
    simp [stepG, stepG.exec, mkF, Sem.runT_eq, he, doReturn]
  | some (.exit id), hl, he =>
    obtain ⟨q, rfl, hx⟩ := hl
    simp [stepG, stepG.exec, mkF, Sem.runT_eq, he, doReturn, hx]
  | some (.goto id), hl, he =>
    obtain ⟨q, rfl, hx⟩ := hl
    simp [stepG, stepG.exec, mkF, Sem.runT_eq, he, doReturn, hx]
end
section
variable {K : PK} {w0 : World}
/-- A frame's state stands for the machine's. -/
structure FRel (K : PK) (w0 : World) (m : BM) (n : Nat) (s : St) (tmps : Array Value) (ds : List Deferred) (w : World) : Prop where
  H : HRel K w0 m s.h w
  E : ERel m n s.E tmps
  D : DRel m s.D ds
theorem HRel.bound {m : BM} {h : AH} {w : World} (H : HRel K w0 m h w) {b : Nat} {x : Nat × Nat} (hm : m b = some x) : b < h.n := by
  rcases Nat.lt_or_ge b h.n with h1 | h1
  · exact h1
  · rw [H.fresh b h1] at hm; cases hm
theorem run_loop {P : Program} {w : World} {r : Nat} {l : Loop} (hx : w.heap[r]? = some (.loop l)) : (Instr.getLoop r).run P w = .ok l w := by
  simp [Instr.getLoop, getObj, Sem.run, hx]
theorem run_setObj {P : Program} {w : World} {r : Nat} {x o2 : Obj} (hx : w.heap[r]? = some x) (hc : (match x with | .cells .. => false | _ => true) = true) : (setObj r o2).run P w = .ok () (w.putObj r o2) := by
  cases x <;> first | (simp at hc; done) | simp [setObj, Sem.run, hx, World.putObj]
/-- What one step of a frame comes to. -/
def StepTo (K : PK) (w0 : World) (fn : FuncId) (kind : CallKind) (cs : List Frame) (m : BM) (n : Nat) (ro roC : Option Nat) (todo : List Item) (s : St) (tmps : Array Value) (ds : List Deferred) (w : World) (todo' : List Item) (s' : St) : Prop :=
  ∃ m' w' tmps' ds', Steps K.P (lone (mkF fn kind roC tmps ds todo) cs w) (lone (mkF fn kind roC tmps' ds' todo') cs w') ∧ FRel K w0 m' n s' tmps' ds' w' ∧ Ext m s.h w m' s'.h w' ∧ RoRel m' ro roC
theorem stepTo_one {fn : FuncId} {kind : CallKind} {cs : List Frame} {m : BM} {n : Nat} {ro roC : Option Nat} {todo todo' : List Item} {s : St} {tmps : Array Value} {ds : List Deferred} {w : World} (F : FRel K w0 m n s tmps ds w) (hr : RoRel m ro roC)
    (h : step K.P (lone (mkF fn kind roC tmps ds todo) cs w) = .next (lone (mkF fn kind roC tmps ds todo') cs w)) : StepTo K w0 fn kind cs m n ro roC todo s tmps ds w todo' s :=
  ⟨m, w, tmps, ds, .one h, F, .refl m _ w, hr⟩
theorem region_ok (k : KOk K) {c : Cx} (C : CxOk K c) {fn : FuncId} {kind : CallKind} {cs : List Frame} {m : BM} {n : Nat} (hn : n ≤ 65536) {ro roC : Option Nat} {s s' : St} {tmps : Array Value} {ds : List Deferred} {w : World} (F : FRel K w0 m n s tmps ds w) (hr : RoRel m ro roC)
    {id : Nat} {ops : Array Oper} {draw : Bool} {q q' : List Item} (h : c_region K c ro n ops draw q s = .next q' s') : StepTo K w0 fn kind cs m n ro roC (.code (.region id ops draw) :: q) s tmps ds w q' s' := by
  unfold c_region at h
  cases hb : (ro.isNone || noDefer ops.toList) with
  | false => rw [hb] at h; cases h
  | true =>
    rw [hb] at h
    simp only [cond] at h
    have hro : ∀ o ∈ ops.toList, roC = none ∨ ∀ cl, o.op ≠ .defer cl := fun o ho => by
      rw [Bool.or_eq_true] at hb
      rcases hb with hb | hb
      · left
        rw [Option.isNone_iff_eq_none] at hb
        exact hr.none_iff.1 hb
      · right
        intro cl hcl
        have := List.all_eq_true.1 hb o ho
        rw [hcl] at this
        cases this
    split at h
    · split at h
      · rename_i E D h1 he
        cases h
        obtain ⟨m', w', t', d', a1, a2, a3, a4, a5⟩ := seq_ok (fn := fn) (kind := kind) (cs := cs) (kk := q) k C hn ops.toList 0 (fun j o hj => by rw [Nat.zero_add, ← Array.getElem?_toList]; exact hj) hro F.H F.E F.D he
        refine ⟨m', w', t', d', ?_, ⟨a2, a4, a5⟩, a3, hr.mono a3.le⟩
        refine .head st_region ?_
        rw [List.range_eq_range', show ops.size = ops.toList.length by simp]
        exact a1.trans (.one st_done)
      · cases h
    · split at h
      · rename_i d hd
        split at h
        · rename_i E D h1 he
          cases h
          obtain ⟨m', w', t', d', a1, a2, a3, a4, a5⟩ := draw_ok (fn := fn) (kind := kind) (cs := cs) (kk := q) k C F.H.drew F.E F.D hn hro hd he (w.tape w.drawn (.order fn id))
          refine ⟨m', w', t', d', ?_, ⟨a2, a4, a5⟩, Ext.trans F.H.n0 (Ext.drew m _ w) a3, hr.mono a3.le⟩
          exact .head st_draw (a1.trans (.one st_done))
        · cases h
      · cases h
theorem enter_ok {fn : FuncId} {m : BM} {n : Nat} {ro roC : Option Nat} {s s1 : St} {tmps : Array Value} {ds : List Deferred} {w : World} (F : FRel K w0 m n s tmps ds w) (hr : RoRel m ro roC) {ps : Array Tmp} {a b : Code} {d : Nat} (h : c_enter ro s = some (d, s1)) (hb : s1.h.n < 16000000) :
    ∃ l mark w1 m1, (Instr.enterLoop fn tmps ps a b roC).run K.P w = .ok (l, mark) w1 ∧ FRel K w0 m1 n ⟨s1.E, s1.D, ⟨setB s1.h.t s1.h.n (some (.loop .ready none fn s1.E ps.toList a b d n)), s1.h.n + 1⟩⟩ tmps (mark ++ ds) w1 ∧
      Ext m s.h w m1 ⟨setB s1.h.t s1.h.n (some (.loop .ready none fn s1.E ps.toList a b d n)), s1.h.n + 1⟩ w1 ∧ m1 s1.h.n = some (l, 0) ∧ N0 ≤ s1.h.n := by
  have loop : ∀ {m : BM} {s1 : St} {w : World} {ds : List Deferred} {y : Nat × Nat}, FRel K w0 m n s1 tmps ds w → s1.h.n < 16000000 → m d = some y →
      FRel K w0 (m.add s1.h.n (w.heap.size, 0)) n ⟨s1.E, s1.D, ⟨setB s1.h.t s1.h.n (some (.loop .ready none fn s1.E ps.toList a b d n)), s1.h.n + 1⟩⟩ tmps ds (w.alloc (.loop { state := .ready, pending := none, fn := fn, tmps := tmps, params := ps, assign := a, body := b, defers := y.1 })) ∧
      Ext m s1.h w (m.add s1.h.n (w.heap.size, 0)) ⟨setB s1.h.t s1.h.n (some (.loop .ready none fn s1.E ps.toList a b d n)), s1.h.n + 1⟩ (w.alloc (.loop { state := .ready, pending := none, fn := fn, tmps := tmps, params := ps, assign := a, body := b, defers := y.1 })) := fun {m s1 w ds y} F hb hd => by
    have hm := F.H.fresh s1.h.n (Nat.le_refl _)
    have key := F.H.alloc (.loop .ready none fn s1.E ps.toList a b d n) (.loop { state := .ready, pending := none, fn := fn, tmps := tmps, params := ps, assign := a, body := b, defers := y.1 }) 0 hb
      ⟨tmps, y, by rw [heap_alloc_new], MLe.add hm _ _ hd, F.E.mono (.add hm)⟩
    exact ⟨⟨key.1, F.E.mono key.2.le, F.D.mono key.2.le⟩, key.2⟩
  unfold c_enter at h
  split at h
  · have e : roC = none := hr.none_iff.1 rfl
    subst e
    cases hbn : Nat.blt s.h.n 15000000 with
    | false => rw [hbn] at h; cases h
    | true =>
      rw [hbn] at h
      cases h
      have hb1 := blt_of hbn
      have hm := F.H.fresh s.h.n (Nat.le_refl _)
      have key := F.H.alloc .defs (.deferred (some [])) 0 (by omega) (by show _ = _; exact heap_alloc_new w _)
      have F1 : FRel K w0 (m.add s.h.n (w.heap.size, 0)) n ⟨s.E, (.pointer (some ⟨s.h.n, 0, none⟩), []) :: s.D, ⟨setB s.h.t s.h.n (some .defs), s.h.n + 1⟩⟩ tmps ({ target := .collected w.heap.size, args := #[] } :: ds) (w.alloc (.deferred (some []))) :=
        ⟨key.1, F.E.mono key.2.le, .cons (.mark (x := (w.heap.size, 0)) F.H.n0 (BM.add_self _ _ _)) (F.D.mono key.2.le)⟩
      have L := loop F1 hb (BM.add_self _ _ _)
      refine ⟨w.heap.size + 1, [{ target := .collected w.heap.size, args := #[] }], _, _, ?_, L.1, Ext.trans F.H.n0 key.2 L.2, ?_, Nat.le_succ_of_le F.H.n0⟩
      · simp [Instr.enterLoop]
      · rw [BM.add_self]; simp
  · rename_i l
    split at h
    · rename_i d' _ hg
      cases h
      cases roC with
      | none => exact hr.elim
      | some lc =>
        obtain ⟨_, x, hx, rfl⟩ := hr
        obtain ⟨t0, y, e1, e2, e3⟩ := F.H.live l x _ hx hg
        have L := loop F hb e2
        refine ⟨w.heap.size, [], _, _, ?_, L.1, L.2, BM.add_self _ _ _, F.H.n0⟩
        simp [Instr.enterLoop, run_loop e1]
    · cases h
theorem ext_loop {m : BM} {h : AH} {w : World} {l : Nat} {x : Nat × Nat} (H : HRel K w0 m h w) (hN : N0 ≤ l) (hm : m l = some x) {st : LoopState} {p : Option Code} {f : FuncId} {E : Env} {ps : List Tmp} {a b : Code} {d n : Nat} (hg : getB h.t l = some (.loop st p f E ps a b d n)) (st2 : LoopState) (p2 : Option Code) :
    ∃ lp : Loop, w.heap[x.1]? = some (.loop lp) ∧ lp.state = st ∧ lp.pending = p ∧ HRel K w0 m ⟨setB h.t l (some (.loop st2 p2 f E ps a b d n)), h.n⟩ (w.putObj x.1 (.loop { lp with state := st2, pending := p2 })) ∧
      Ext m h w m ⟨setB h.t l (some (.loop st2 p2 f E ps a b d n)), h.n⟩ (w.putObj x.1 (.loop { lp with state := st2, pending := p2 })) := by
  obtain ⟨t0, y, e1, e2, e3⟩ := H.live l x _ hm hg
  refine ⟨_, e1, rfl, rfl, H.turn hN hm (by rw [hg]; rfl) _ (putObj_size _ _ _) (fun k hk => putObj_other _ _ _ _ hk) ⟨t0, y, putObj_self _ _ _ _ e1, e2, e3⟩ ⟨rfl, rfl, rfl⟩⟩
theorem range_ok (k : KOk K) {c : Cx} (C : CxOk K c) {fn : FuncId} {kind : CallKind} {cs : List Frame} {m : BM} {n : Nat} {ro roC : Option Nat} {s s' : St} {tmps : Array Value} {ds : List Deferred} {w : World} (F : FRel K w0 m n s tmps ds w) (hr : RoRel m ro roC)
    {f : Operand} {ps : Array Tmp} {a b : Code} {q q' : List Item} (h : c_rangeFunc c ro fn n f ps a b q s = .next q' s') : StepTo K w0 fn kind cs m n ro roC (.code (.rangeFunc f ps a b) :: q) s tmps ds w q' s' := by
  unfold c_rangeFunc at h
  split at h
  · rename_i d s1 g first cap he hf
    cases hb : Nat.blt s1.h.n 16000000 with
    | false => rw [hb] at h; cases h
    | true =>
      rw [hb] at h
      simp only [cond] at h
      have h0 := rd_rel F.H F.E f
      rw [hf] at h0
      obtain ⟨l, mark, w1, m1, r1, F1, X1, hl, hN⟩ := enter_ok (ps := ps) (a := a) (b := b) F hr he (blt_of hb)
      obtain ⟨first', cap', ef, hfl, hcl⟩ := (h0.mono X1.le).funcF
      split at h
      · rename_i v h3 hcall
        have hargs : LRel m1 (first.toList ++ [Value.func (Fn.yield s1.h.n) #[] #[]] ++ cap.toList) (first' ++ #[Value.func (Fn.yield l) #[] #[]] ++ cap').toList := by
          simp only [Array.toList_append]
          exact (hfl.append (.cons (.yield (x := (l, 0)) hl) .nil)).append hcl
        obtain ⟨m2, w2, fr', v', hst, e1, e2, e3, e4, ⟨fnn, e5, e6⟩, H2, X2, hv⟩ := C.cf hcall F1.H hargs (.inl rfl) (mkF fn kind roC tmps (mark ++ ds) (.inRangeFunc l :: q) :: cs)
        split at h
        · rename_i st p fa E2 ps2 a2 b2 d2 n2 hg
          have hl2 := X2.le _ _ hl
          obtain ⟨lp, q1, q2, q3, H3, X3⟩ := ext_loop H2 hN hl2 hg .exhausted p
          have hbusy : st ≠ .busy ∧ q' = (p.map Item.code).toList ++ q ∧ s' = ⟨s1.E, s1.D, ⟨setB h3.t s1.h.n (some (.loop .exhausted p fa E2 ps2 a2 b2 d2 n2)), h3.n⟩⟩ := by
            cases st <;> first | (cases h; done) | (cases h; refine ⟨by simp, ?_, rfl⟩; cases p <;> rfl)
          obtain ⟨hnb, rfl, rfl⟩ := hbusy
          -- the callee is known by its body
          have hen : ((do let d ← resolve (evT tmps) { callee := .value f, args := #[.const (.func (.yield l) #[] #[])], argTypes := #[] } 0; invoke d.target d.args) : Sem Next).run K.P w1 = .ok (.enter g (first' ++ #[.func (.yield l) #[] #[]] ++ cap')) w1 := by
            obtain ⟨fnn', hfn', hbody, hname⟩ := C.body hcall
            have hn : ¬ fnn'.name = "runtime.NumGoroutine" := by simpa using hname
            have hconst : evT tmps (.const (.func (.yield l) #[] #[])) = .func (.yield l) #[] #[] := rfl
            have hb2 : ¬ fnn'.body = none := fun e => by rw [e] at hbody; cases hbody
            simp [resolve, ef, hconst, Deferred.ofValue, invoke, callFunc, hfn', hn, hb2]
          refine ⟨m2, w2.putObj l (.loop { lp with state := .exhausted, pending := p }), tmps, mark ++ ds, ?_, ⟨H3, F1.E.mono X2.le, F1.D.mono X2.le⟩, Ext.trans F.H.n0 X1 (Ext.trans F1.H.n0 X2 X3), hr.mono (X1.le.trans X2.le)⟩
          have hret := step_leave_returned (P := K.P) (fr := fr') (c := mkF fn kind roC tmps (mark ++ ds) (.inRangeFunc l :: q)) (cs := cs) (w := w2) (v := v') ⟨e1, e2, e4, fnn, by rw [e3]; exact e5, e6⟩
          have hfin : (mkF fn kind roC tmps (mark ++ ds) (.inRangeFunc l :: q)).finish v' = mkF fn kind roC tmps (mark ++ ds) (.endRangeFunc l :: q) := rfl
          rw [hfin] at hret
          have hend : (Instr.endLoop l).run K.P w2 = .ok p (w2.putObj l (.loop { lp with state := .exhausted, pending := p })) := by
            have hs : ¬ lp.state = .busy := by rw [q2]; exact hnb
            subst q3
            simp [Instr.endLoop, run_loop q1, hs, run_setObj q1 rfl]
          exact .head (st_range r1 hen) (hst.trans (.head hret (.one (st_endRange hend))))
        · cases h
      · cases h
  · cases h
theorem begin_ok {fn : FuncId} {kind : CallKind} {cs : List Frame} {m : BM} {n : Nat} {ro roC : Option Nat} {s s' : St} {tmps : Array Value} {ds : List Deferred} {w : World} (F : FRel K w0 m n s tmps ds w) (hr : RoRel m ro roC)
    {q q' : List Item} (h : c_round ro q s = .next q' s') : StepTo K w0 fn kind cs m n ro roC (.beginRound :: q) s tmps ds w q' s' := by
  unfold c_round at h
  split at h
  · rename_i l
    split at h
    · rename_i p fa E2 ps2 a2 b2 d2 n2 hg
      cases h
      cases roC with
      | none => exact hr.elim
      | some lc =>
        have hr0 := hr
        obtain ⟨hN, x, hx, rfl⟩ := hr
        obtain ⟨lp, q1, q2, q3, H3, X3⟩ := ext_loop F.H hN hx hg .busy p
        refine ⟨m, _, tmps, ds, .one (st_begin ?_), ⟨H3, F.E, F.D⟩, X3, hr0⟩
        subst q3
        simp [Instr.beginRound, run_loop q1, run_setObj q1 rfl, q2]
    · cases h
  · cases h
end
end Go.Proofs.YthahmfeaekddnaaGreatDoor.Ru
