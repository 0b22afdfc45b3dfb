/- A region that draws its order, within a round of a range over a function: as outside of it. No program in sight; Package rack: worst (a range over a function). -/
import Derived.RangeFuncCalls
import Derived.OrdersIn
import Derived.TacticsIn
import Derived.OwnWalkIn
import Derived.Test.YtahpjoknmclbfaaDoorBwW3
import Derived.RangeFuncBox
import Derived.BigRegionIn
import Derived.Shelf.RegionOpen

/- A region that draws its order, within a round of a range over a function: as outside of it. No program in sight. -/
namespace Go.Proofs.YtahpjoknmclbfaaDoor
open Go

/-- An operation that is no defer statement. -/
def noDefer (o : Oper) : Bool := match o.op with
  | .defer _ => false
  | _ => true
theorem noDefer_spec {o : Oper} (h : noDefer o = true) : ∀ c, o.op ≠ .defer c := fun c e => by
  unfold noDefer at h; rw [e] at h; cases h
theorem wpIn_inRound {F : Fence} {n : Nat} {P : Program} {o : Oper} {a : Act} {w : World} {K : Act → World → Prop} {Q : Exit → Act → World → Prop} (l : Nat) (hro : F.round = none) (hd : noDefer o = true) (h : o.wpIn F n P a w K Q) : o.wpIn (F.inRound l) n P a w K Q := by
  unfold Oper.wpIn at h ⊢
  refine ⟨h.1, ?_⟩
  have h2 := h.2
  rw [hro, Oper.semAt_none] at h2
  rw [Fence.inRound_round, Oper.semAt_some l _ _ (noDefer_spec hd)]
  generalize (execOp a.eval o).run P w = r at *
  cases r with
  | ok x w' => cases x <;> simp only [Oper.uponIn] at h2 ⊢ <;> exact h2
  | halt x w' => cases x <;> simp only [Oper.uponIn] at h2 ⊢ <;> exact h2
theorem wpOpIn_inRound {F : Fence} {n : Nat} {P : Program} {ops : Array Oper} {Q : Exit → Act → World → Prop} {i : Nat} {K K' : Act → World → Prop} {a : Act} {w : World} (l : Nat) (hro : F.round = none) (hd : ops.all noDefer = true) (hK : ∀ a w, K a w → K' a w) (h : wpOpIn F n P ops Q i K a w) : wpOpIn (F.inRound l) n P ops Q i K' a w := by
  have h := wpOpIn_mono hK h
  unfold wpOpIn at h ⊢
  split
  · exact (by simpa [*] using h)
  · rename_i o ho
    simp only [ho] at h
    have hdo : noDefer o = true := Array.all_eq_true_iff_forall_mem.1 hd o (Array.mem_of_getElem? ho)
    split
    · rename_i hw
      simp only [hw, if_true] at h
      exact wpIn_inRound l hro hdo h
    · rename_i hw
      simp only [hw] at h
      exact h
theorem wpAnyIn_inRound {F : Fence} {n : Nat} {P : Program} {md : Region.Mode} {ops : Array Oper} {Q : Exit → Act → World → Prop} (l : Nat) (hro : F.round = none) (hd : ops.all noDefer = true) : ∀ (fuel : Nat) (listed : Array Bool) (a : Act) (w : World),
    wpAnyIn F n P md ops Q fuel listed a w → wpAnyIn (F.inRound l) n P md ops Q fuel listed a w
  | 0, _, _, _, h => h
  | fuel + 1, listed, a, w, h => ⟨h.1, fun i hi => wpOpIn_inRound l hro hd (fun a w => wpAnyIn_inRound l hro hd fuel _ a w) (h.2 i hi)⟩
theorem region_inRound {F : Fence} {n : Nat} {P : Program} {ops : Array Oper} {Q : Exit → Act → World → Prop} {id : Nat} {a : Act} {w : World} (l : Nat) (hm : P.follows .mixedOrders = true) (hro : F.round = none) (hd : ops.all noDefer = true)
    (h : wpAnyIn F n P .any ops Q ops.size (Array.replicate ops.size false) a w.drew) : (Code.region id ops true).wpIn (F.inRound l) n P Q a w :=
  wpIn_region_any hm (wpAnyIn_inRound l hro hd _ _ _ _ h)
/-- An append whose run is known, at the operation. -/
theorem wpIn_append_run {F : Fence} {n : Nat} {P : Program} {ops : Array Oper} {o : Oper} {a : Act} {w w' : World} {v' : Value} {K : Act → World → Prop} {Q : Exit → Act → World → Prop} {E : Prop} (s x : Operand) (t : TypeId)
    (hgd : o.guard = none) (hop : o.op = Op.call { callee := Callee.builtin Builtin.append, args := #[s, x], argTypes := #[t, t] }) (hrun : (Builtin.append_ #[t, t] o.type #[a.eval s, a.eval x]).run P w = .ok v' w') (h : K (a.put o.dst v') w') :
    if Region.wanted o (yielded ops a.tmps) = true then Oper.wpIn F n P o a w K Q else E := by
  rw [if_pos (by simp [Region.wanted, hgd])]
  unfold Oper.wpIn
  refine ⟨?_, ?_⟩
  · simp [Oper.about, hop, resolve, Target.leads, Sem.run_pure]
  · rw [Oper.semAt_plain F _ _ (by rw [hop]; intro c hc'; cases hc')]
    simp [execOp, hop, resolve, invoke, builtin, hrun, Result.andThen]
    exact h

end Go.Proofs.YtahpjoknmclbfaaDoor

/- Package rack: worst (a range over a function). -/
namespace Go.Proofs.YtahpjoknmclbfaaDoor
open Go.RowKit Go.Shelf

attribute [local go_sem] Oper.semAt_some

inductive WorstPost (w w' : World) (rb kb cap : Nat) (W : WorkS) : Prop
  | none (h : Blk w' kb 57 (workC rb { W with done := true, err := 7 })) : WorstPost w w' rb kb cap W
  | some (og l : Nat) (g : w.heap.size ≤ og) (hl : l < 8) (m : Blk w' og 88 (opC ⟨atJ cap (W.kind * 8 + l), cap, 1, 0, 0, 0, 0, false, false, 0⟩)) (h : Blk w' kb 57 (workC rb { W with level := l, op := .pointer (some ⟨og, 0, none⟩), next := 47 })) : WorstPost w w' rb kb cap W
/-- What the loop over the levels keeps. -/
structure WSt (w : World) (rb kb cap s0 s1 turn : Nat) (W : WorkS) (pre : List Nat) (V : World) : Prop where
  x : Blk V w.heap.size 34 #[.pointer (some ⟨kb, 0, none⟩)]
  rack : Blk V rb 50 (rackC cap s0 s1 turn)
  work : (pre = [] ∧ Blk V kb 57 (workC rb W)) ∨ (∃ l og, l < 8 ∧ w.heap.size ≤ og ∧ Blk V kb 57 (workC rb { W with level := l, op := .pointer (some ⟨og, 0, none⟩) }) ∧ Blk V og 88 (opC ⟨atJ cap (W.kind * 8 + l), cap, 1, 0, 0, 0, 0, false, false, 0⟩))
  db : HasDb V
  kept : Kept [kb] w V
theorem kept_grownW {A A' : World} {row : Option Nat} (hg : A.grownBy A' row) : Kept row.toList A A' := (Kept.refl _ A).grown hg (fun k e => .inl (by simp [e]))
theorem keepsFrom_keptW {B : Nat} {G : List Nat} {W W' : World} (hk : Kept G W W') (hG : ∀ k ∈ G, k < B ∨ ∀ o, W.heap[k]? = some o → o.isCells = true) : KeepsFrom B W W' :=
  ⟨hk.size, fun k o hB hko hc => (hk.block k (lt_of_block hko) (fun hm => by
    rcases hG k hm with h1 | h1
    · omega
    · rw [h1 o hko] at hc; cases hc)).trans hko⟩
theorem WSt.own (w : World) (rb kb cap s0 s1 turn B : Nat) (W : WorkS) (hB : w.heap.size ≤ B) : OwnFrom B (fun pre V => WSt w rb kb cap s0 s1 turn W pre V) := by
  intro pre A A' row h hg hr
  have far : ∀ {b t cs}, Blk A b t cs → Blk A' b t cs := fun {b t cs} hb => (hg.block b hb.lt (fun e => by
    obtain ⟨_, o, ho, hc⟩ := hr b e.symm
    rw [show A.heap[b]? = _ from hb] at ho; cases ho; cases hc)).trans hb
  refine ⟨far h.x, far h.rack, ?_, fun j hj => ?_, ?_⟩
  · rcases h.work with ⟨h1, h2⟩ | ⟨l, og, h1, h2, h3, h4⟩
    · exact .inl ⟨h1, far h2⟩
    · exact .inr ⟨l, og, h1, h2, far h3, far h4⟩
  · refine (kept_grownW hg).cell_some (h.db j hj) (fun hm => ?_)
    have e : row = some 0 := by simpa using hm
    obtain ⟨_, o, ho, hc⟩ := hr _ e
    have h3 := h.db j hj
    unfold World.cell? at h3
    simp only [ho] at h3
    cases o <;> simp_all [Obj.isCells]
  · refine h.kept.trans' (kept_grownW hg) (fun k hk => ?_)
    have e : row = some k := by simpa using hk
    have := (hr k e).1
    exact .inr (by omega)
section
variable {w : World} {mb wb ob rb kb : Nat} {xs : List Nat} {o : OpS} {W : WorkS} {cap s0 s1 turn : Nat}
set_option maxRecDepth 100000 in
set_option maxHeartbeats 6400000 in
theorem kWorst_any (H : Blk w kb 57 (workC rb W)) (R : Blk w rb 50 (rackC cap s0 s1 turn)) (hW : W.kind < 2) (hop : W.op = .pointer none) (h0 : s0 < 256) (hT : HasDb w) (hgk : 0 ≠ kb) (hgl : 0 < w.heap.size) : Calls Tryd.prog 31 #[.pointer (some ⟨kb, 0, none⟩), .pointer (some ⟨mb, 0, none⟩)] w fun r w' =>
    r = .returned (.tuple #[]) ∧ WorstPost w w' rb kb cap W ∧ Kept [kb] w w' := by
  have c0 := H.cell 0
  simp [workC] at c0
  have d33 : w.cell? ⟨rb, 33, none⟩ = some (U64 s0) := R.cell 33
  have kr : kb ≠ rb := H.ne R (by decide)
  have hkl := H.lt
  have hrl := R.lt
  have HH := Lib.hid H
  have HR := Lib.hid R
  have HD := Lib.hid hT
  have HW := Lib.hid hW
  have HO := Lib.hid hop
  clear H R hT hW hop
  refine (callsIn_wide (n := 3)).1 ?_
  refine callsIn_of_wp_marks Tryd.func31 rfl trivial ?_ rfl
  simp only [Tryd.ntmps31, List.size_toArray, List.length_cons, List.length_nil, Nat.reduceAdd, Nat.reduceSub, Array.replicate_succ, Array.replicate_zero, List.push_toArray, List.append_toArray, List.nil_append, List.cons_append]
  gi_wp2_with (first
    | (refine ⟨trivial, ?_⟩; gi_at_call 45; refine (each_in _ _ _).mono ?_; rintro e w' ⟨rfl, rfl⟩))
  have HX0 : Hid (Blk ((w.alloc (.cells #[.pointer (some ⟨kb, 0, none⟩)] 34)).alloc (.cells #[.int .u64 s0] 30)) w.heap.size 34 #[.pointer (some ⟨kb, 0, none⟩)]) := (Blk.new w _ _).alloc _
  have HS0 : Hid (Blk ((w.alloc (.cells #[.pointer (some ⟨kb, 0, none⟩)] 34)).alloc (.cells #[.int .u64 s0] 30)) (w.heap.size + 1) 30 #[.int .u64 s0]) := Blk.newAt (by simp) _ _
  have HK0 : Hid (Kept [] w ((w.alloc (.cells #[.pointer (some ⟨kb, 0, none⟩)] 34)).alloc (.cells #[.int .u64 s0] 30))) := ((Kept.refl [] w).alloc _).alloc _
  have hsz : ((w.alloc (.cells #[.pointer (some ⟨kb, 0, none⟩)] 34)).alloc (.cells #[.int .u64 s0] 30)).heap.size = w.heap.size + 2 := by simp
  generalize ((w.alloc (.cells #[.pointer (some ⟨kb, 0, none⟩)] 34)).alloc (.cells #[.int .u64 s0] 30)) = W0 at *
  have HST0 : Hid (WSt w rb kb cap s0 s1 turn W [] W0) := ⟨HX0.out, HR.out.kept HK0.out (by simp), .inl ⟨rfl, HH.out.kept HK0.out (by simp)⟩, HD.out.old HK0.out, HK0.out.mono (by simp)⟩
  have hgW : 0 < W0.heap.size := by omega
  refine wpIn_rangeFunc_ownH rfl (by omega) (gf := 61) (lb := #[.pointer (some ⟨w.heap.size + 1, 0, none⟩)]) rfl trivial (enters_of Tryd.func61 (by kernel_rfl) rfl)
    (each_stops _ (by omega) (w.heap.size + 1) s0 (by omega) W0 (by omega) hgW (HS0.out.cell 0) (HD.out.old HK0.out)) (fun h1 h2 h => h2 (h1 h)) (fun V q o o' hq ho hc hw hT j hj => ((belowK_b (w := W0) (Nat.le_refl _) V q o o' hq ho hc hw).cell (p := ⟨0, j, none⟩) hgW).trans (hT j hj)) (Below.refl _ _) (fun _ => rfl)
    (fun pre V => WSt w rb kb cap s0 s1 turn W (pre.map Subtype.val) V) (fun _ _ _ => False)
    (fun pre A A' row h hg hr => WSt.own w rb kb cap s0 s1 turn W0.heap.size W (by omega) (pre.map Subtype.val) A A' row h hg hr) (fun _ _ _ _ _ hs _ _ => hs) HST0.out
    (fun y a' V => ∃ z0 z1 z3 z5 z6 z7 z8 z9 z10 z11 z12 z13 z14 z15 z16 z17 z18 z19 z20 z21 z22 z23 z24 z25 z26 z27 z28 z29 z30 z31 z32 z33 z34 : Value, a' = ({ tmps := #[z0, z1, .pointer (some ⟨w.heap.size, 0, none⟩), z3, .int .i64 (y.1 : Nat), z5, z6, z7, z8, z9, z10, z11, z12, z13, z14, z15, z16, z17, z18, z19, z20, z21, z22, z23, z24, z25, z26, z27, z28, z29, z30, z31, z32, z33, z34], defers := [] } : Act))
    (fun x a' s A B row hs hg hr => hs) ?assign ?body ?done ?stop
  case assign =>
    rintro lo pre y V K hI hK
    have HKK := Lib.hid hK
    have HI := Lib.hid hI
    clear hI hK
    gi_wp2
    exact HKK.out _ _ (KeepsFrom.refl _ _) (fun h => h) HI.out ⟨_, _, _, _, _, _, _, _, _, _, _, _, _, _, _, _, _, _, _, _, _, _, _, _, _, _, _, _, _, _, _, _, _, rfl⟩
  case stop => rintro D co pre V hD hr h hK; exact h.elim
  case done =>
    rintro D ys V hD hys hI hK
    have hcx := hI.x.cell 0
    simp at hcx
    have HI := Lib.hid hI
    have HKD := Lib.hid hK
    clear hys hK
    rcases HI.out.work with ⟨hp, h2⟩ | ⟨l, og, hl, hog, h3, h4⟩
    · have c6 := h2.cell 6
      simp [workC] at c6
      rw [HO.out] at c6
      have HE := Lib.hid (kWend_any h2 7)
      clear h2
      gi_wp2_with (first | (refine ⟨trivial, ?_⟩; gi_at_call 41; refine (callsIn_wide.2 HE.out).mono ?_; rintro e V2 ⟨rfl, H5, hk5⟩; have HH5 := Lib.hid H5; have HK5 := Lib.hid hk5; clear H5 hk5))
      have hD2 : V2.heap[D]? = some (.deferred (some [])) := (HK5.out.block D (Array.getElem?_eq_some_iff.1 HKD.out).1 (by simp; omega)).trans HKD.out
      refine ⟨by simp, .inl ⟨_, _, rfl, run_takeDeferred hD2, ?_⟩⟩
      have hgr := grownBy_putObj' V2 D (.deferred none)
      refine ⟨_, results_none rfl _ _ _, rfl, .none (HH5.out.grown hgr (fun e => ?_)), (HI.out.kept.trans HK5.out).grown hgr (fun k e => .inr (by cases e; omega))⟩
      have h5 := HH5.out
      unfold Blk at h5
      cases e
      rw [hD2] at h5
      cases h5
    · have c6 := h3.cell 6
      simp [workC] at c6
      have c1 := h3.cell 1
      have f1 := h3.frozen 1
      simp [workC] at c1
      have HH3 := Lib.hid h3
      clear h3
      gi_wp2
      have hk6 : Kept [kb] V (V.setCell ⟨kb, 1, none⟩ (.func (.func 47) #[] #[])) := (Kept.refl _ _).setCell (.inl (by simp)) _
      have hD2 : (V.setCell ⟨kb, 1, none⟩ (.func (.func 47) #[] #[])).heap[D]? = some (.deferred (some [])) := (hk6.block D (Array.getElem?_eq_some_iff.1 HKD.out).1 (by simp; omega)).trans HKD.out
      have H7 : Blk (V.setCell ⟨kb, 1, none⟩ (.func (.func 47) #[] #[])) kb 57 (workC rb { W with level := l, op := .pointer (some ⟨og, 0, none⟩), next := 47 }) := HH3.out.set 1 _
      have hge := HH3.out.ne h4 (by decide)
      have h8 : Blk (V.setCell ⟨kb, 1, none⟩ (.func (.func 47) #[] #[])) og 88 (opC ⟨atJ cap (W.kind * 8 + l), cap, 1, 0, 0, 0, 0, false, false, 0⟩) := h4.far (Ne.symm hge) _
      generalize V.setCell ⟨kb, 1, none⟩ (.func (.func 47) #[] #[]) = V2 at *
      refine ⟨by simp, .inl ⟨_, _, rfl, run_takeDeferred hD2, ?_⟩⟩
      have hgr := grownBy_putObj' V2 D (.deferred none)
      have hno : ∀ {g t cs}, Blk V2 g t cs → some g ≠ some D := fun {g t cs} h e => by
        unfold Blk at h
        cases e
        rw [hD2] at h
        cases h
      exact ⟨_, results_none rfl _ _ _, rfl, .some og l hog hl (h8.grown hgr (hno h8)) (H7.grown hgr (hno H7)), (HI.out.kept.trans hk6).grown hgr (fun k e => .inr (by cases e; omega))⟩
  case body =>
    rintro lo pre y a' V hlo hrec hI ⟨z0, z1, z3, z5, z6, z7, z8, z9, z10, z11, z12, z13, z14, z15, z16, z17, z18, z19, z20, z21, z22, z23, z24, z25, z26, z27, z28, z29, z30, z31, z32, z33, z34, rfl⟩ hlen
    have hcx := hI.x.cell 0
    simp at hcx
    have hyl : y.1 < 8 := by
      have h1 : y.1 ∈ bitsL s0 := y.2
      have h2 : s0.testBit y.1 = true := by simpa [bitsL] using (List.mem_filter.1 h1).2
      refine Nat.lt_of_not_le fun h3 => ?_
      have h4 : s0 < 2 ^ y.1 := Nat.lt_of_lt_of_le (by omega : s0 < 2 ^ 8) (Nat.pow_le_pow_right (by omega) h3)
      rw [Nat.testBit_lt_two_pow h4] at h2
      cases h2
    obtain ⟨l1, op1, hw1⟩ : ∃ l1 op1, Blk V kb 57 (workC rb { W with level := l1, op := op1 }) := by
      rcases hI.work with ⟨_, h2⟩ | ⟨l, og, _, _, h3, _⟩
      · exact ⟨W.level, W.op, h2⟩
      · exact ⟨_, _, h3⟩
    have c4 := hw1.cell 4
    have f4 := hw1.frozen 4
    simp [workC] at c4
    generalize hyv : y.1 = yv at *
    have H1 : Blk (V.setCell ⟨kb, 4, none⟩ (.int .i64 yv)) kb 57 (workC rb { W with level := yv, op := op1 }) := hw1.set 4 _
    have hk1 : Kept [kb] V (V.setCell ⟨kb, 4, none⟩ (.int .i64 yv)) := (Kept.refl _ _).setCell (.inl (by simp)) _
    have hxk : w.heap.size ≠ kb := by omega
    have hcx1 := hk1.cell_some hcx (by simp; omega)
    have HR1 := Lib.hid (hI.rack.kept hk1 (by simp [Ne.symm kr]))
    have HDq : Hid (∀ V2, Kept [] (V.setCell ⟨kb, 4, none⟩ (.int .i64 yv)) V2 → Calls Tryd.prog 36 #[.pointer (some ⟨kb, 0, none⟩)] V2 fun e w' => e = .returned (.agg #[.int .i64 (atJ cap (W.kind * 8 + yv)), .int .i64 cap]) ∧ Kept [] V2 w') := fun V2 hk => kWdeque_any (H1.kept hk (by simp)) (HR1.out.kept hk (by simp)) HW.out hyl
    have c6 := H1.cell 6
    simp [workC] at c6
    have HH1 := Lib.hid H1
    have HI := Lib.hid hI
    have HFIN : Hid (∀ (V4 : World) (og : Nat), (V.setCell ⟨kb, 4, none⟩ (.int .i64 yv)).heap.size ≤ og → Kept [] (V.setCell ⟨kb, 4, none⟩ (.int .i64 yv)) V4 → Blk V4 og 88 (opC ⟨atJ cap (W.kind * 8 + yv), cap, 1, 0, 0, 0, 0, false, false, 0⟩) → KeepsFrom W0.heap.size V (V4.setCell ⟨kb, 6, none⟩ (.pointer (some ⟨og, 0, none⟩))) ∧ KeepDb V (V4.setCell ⟨kb, 6, none⟩ (.pointer (some ⟨og, 0, none⟩))) ∧ WSt w rb kb cap s0 s1 turn W ((pre ++ [y]).map Subtype.val) (V4.setCell ⟨kb, 6, none⟩ (.pointer (some ⟨og, 0, none⟩)))) := by
      intro V4 og hog' hk4 hn4
      have hog : w.heap.size ≤ og := by have h1 := hI.kept.size; have h2 := hk1.size; omega
      have hH4 := H1.kept hk4 (by simp)
      have hH5 : Blk (V4.setCell ⟨kb, 6, none⟩ (.pointer (some ⟨og, 0, none⟩))) kb 57 (workC rb { W with level := yv, op := .pointer (some ⟨og, 0, none⟩) }) := hH4.set 6 _
      have hge := hH4.ne hn4 (by decide)
      have hkk : Kept [kb] V (V4.setCell ⟨kb, 6, none⟩ (.pointer (some ⟨og, 0, none⟩))) := (hk1.trans (hk4.mono (by simp))).setCell (.inl (by simp)) _
      refine ⟨keepsFrom_keptW hkk (fun q hq => ?_), fun h => h.kept hkk (by simpa using hgk), ⟨hI.x.kept hkk (by simpa using hxk), hI.rack.kept hkk (by simp [Ne.symm kr]), .inr ⟨yv, og, hyl, hog, hH5, hn4.far (Ne.symm hge) _⟩, hI.db.kept hkk (by simpa using hgk), hI.kept.trans hkk⟩⟩
      simp only [List.mem_singleton] at hq
      subst hq
      exact .inl (by omega)
    have hmix : Tryd.prog.follows .mixedOrders = true := by kernel_rfl
    clear hI hw1 H1 hk1 hyl
    generalize hV1 : V.setCell ⟨kb, 4, none⟩ (.int .i64 yv) = V1 at *
    gi_wp2_with (simp only [hV1])
    refine region_inRound lo hmix rfl (by kernel_rfl) ?_
    (refine wpAnyIn_ready (rs := [0, 1]) (by kernel_rfl) (by simp) ?_; refine AllReadyIn.cons rfl (fun K hK => ?_) (AllReadyIn.cons rfl (fun K hK => ?_) (AllReadyIn.nil)))
    · (go_simp; refine hK _ _ ?_; clear hK K; (try simp only [Act.put, List.setIfInBounds_toArray, List.set_cons_zero, List.set_cons_succ]))
      (refine wpAnyIn_ready (rs := [1]) (by kernel_rfl) (by simp) ?_; refine AllReadyIn.cons rfl (fun K hK => ?_) (AllReadyIn.nil))
      (go_simp; refine hK _ _ ?_; clear hK K; (try simp only [Act.put, List.setIfInBounds_toArray, List.set_cons_zero, List.set_cons_succ]))
      (refine wpAnyIn_ready (rs := [2]) (by kernel_rfl) (by simp) ?_; refine AllReadyIn.cons rfl (fun K hK => ?_) (AllReadyIn.nil))
      (go_simp; (refine ⟨trivial, ?_⟩); gi_at_call 36; refine (callsIn_wide.2 (HDq.out _ ((Kept.refl [] _).drew))).mono ?_; rintro e V3 ⟨rfl, hk3⟩; have hcx1 := hk3.cell_some (w := V1.drew) hcx1 (by simp); have HK3 := Lib.hid (((Kept.refl [] V1).drew).trans hk3); have HPo := Lib.hid (qPop_any (atJ cap (W.kind * 8 + yv)) cap V3); clear hk3; (try go_simp); refine hK _ _ ?_; clear hK K; (try simp only [Act.put, List.setIfInBounds_toArray, List.set_cons_zero, List.set_cons_succ]))
      (refine wpAnyIn_ready (rs := [3]) (by kernel_rfl) (by simp) ?_; refine AllReadyIn.cons rfl (fun K hK => ?_) (AllReadyIn.nil))
      (go_simp; (refine ⟨trivial, ?_⟩); gi_at_call 46; refine (callsIn_wide.2 HPo.out).mono ?_; rintro e V4 ⟨⟨og, hog, rfl, N4⟩, hk4⟩; have hcx1 := hk4.cell_some hcx1 (by simp); have HK4 := Lib.hid (HK3.out.trans hk4); have HN4 := Lib.hid N4; have c6 := HK4.out.cell_some c6 (by simp); have f6 := (HH1.out.kept HK4.out (by simp)).frozen 6; clear hk4 N4; (try go_simp); refine hK _ _ ?_; clear hK K; (try simp only [Act.put, List.setIfInBounds_toArray, List.set_cons_zero, List.set_cons_succ]))
      (refine wpAnyIn_take (i := 4) (v := ?_) rfl rfl (by kernel_rfl) (by kernel_rfl) (by kernel_rfl) (fun _ _ _ h => h) ⟨Or.inl ⟨by rfl, ?_⟩, fun _ => rfl⟩ ?_; rotate_left; focus ((intro w; go_simp); try (with_reducible rfl)); (try simp only [Act.put, List.setIfInBounds_toArray, List.set_cons_zero, List.set_cons_succ]))
      (refine wpAnyIn_take (i := 5) (v := ?_) rfl rfl (by kernel_rfl) (by kernel_rfl) (by kernel_rfl) (fun _ _ _ h => h) ⟨Or.inl ⟨by rfl, ?_⟩, fun _ => rfl⟩ ?_; rotate_left; focus ((intro w; go_simp); try (with_reducible rfl)); (try simp only [Act.put, List.setIfInBounds_toArray, List.set_cons_zero, List.set_cons_succ]))
      (refine wpAnyIn_ready (rs := [6]) (by kernel_rfl) (by simp) ?_; refine AllReadyIn.cons rfl (fun K hK => ?_) (AllReadyIn.nil))
      (go_simp; refine hK _ _ ?_; clear hK K; (try simp only [Act.put, List.setIfInBounds_toArray, List.set_cons_zero, List.set_cons_succ]))
      refine wpAnyIn_done (by kernel_rfl) ?_ _
      gi_wp2
      exact HFIN.out _ _ (Nat.le_trans HK3.out.size hog) HK4.out HN4.out
    · (go_simp; refine hK _ _ ?_; clear hK K; (try simp only [Act.put, List.setIfInBounds_toArray, List.set_cons_zero, List.set_cons_succ]))
      (refine wpAnyIn_ready (rs := [0, 2]) (by kernel_rfl) (by simp) ?_; refine AllReadyIn.cons rfl (fun K hK => ?_) (AllReadyIn.cons rfl (fun K hK => ?_) (AllReadyIn.nil)))
      · (go_simp; refine hK _ _ ?_; clear hK K; (try simp only [Act.put, List.setIfInBounds_toArray, List.set_cons_zero, List.set_cons_succ]))
        (refine wpAnyIn_ready (rs := [2]) (by kernel_rfl) (by simp) ?_; refine AllReadyIn.cons rfl (fun K hK => ?_) (AllReadyIn.nil))
        (go_simp; (refine ⟨trivial, ?_⟩); gi_at_call 36; refine (callsIn_wide.2 (HDq.out _ ((Kept.refl [] _).drew))).mono ?_; rintro e V3 ⟨rfl, hk3⟩; have hcx1 := hk3.cell_some (w := V1.drew) hcx1 (by simp); have HK3 := Lib.hid (((Kept.refl [] V1).drew).trans hk3); have HPo := Lib.hid (qPop_any (atJ cap (W.kind * 8 + yv)) cap V3); clear hk3; (try go_simp); refine hK _ _ ?_; clear hK K; (try simp only [Act.put, List.setIfInBounds_toArray, List.set_cons_zero, List.set_cons_succ]))
        (refine wpAnyIn_ready (rs := [3]) (by kernel_rfl) (by simp) ?_; refine AllReadyIn.cons rfl (fun K hK => ?_) (AllReadyIn.nil))
        (go_simp; (refine ⟨trivial, ?_⟩); gi_at_call 46; refine (callsIn_wide.2 HPo.out).mono ?_; rintro e V4 ⟨⟨og, hog, rfl, N4⟩, hk4⟩; have hcx1 := hk4.cell_some hcx1 (by simp); have HK4 := Lib.hid (HK3.out.trans hk4); have HN4 := Lib.hid N4; have c6 := HK4.out.cell_some c6 (by simp); have f6 := (HH1.out.kept HK4.out (by simp)).frozen 6; clear hk4 N4; (try go_simp); refine hK _ _ ?_; clear hK K; (try simp only [Act.put, List.setIfInBounds_toArray, List.set_cons_zero, List.set_cons_succ]))
        (refine wpAnyIn_take (i := 4) (v := ?_) rfl rfl (by kernel_rfl) (by kernel_rfl) (by kernel_rfl) (fun _ _ _ h => h) ⟨Or.inl ⟨by rfl, ?_⟩, fun _ => rfl⟩ ?_; rotate_left; focus ((intro w; go_simp); try (with_reducible rfl)); (try simp only [Act.put, List.setIfInBounds_toArray, List.set_cons_zero, List.set_cons_succ]))
        (refine wpAnyIn_take (i := 5) (v := ?_) rfl rfl (by kernel_rfl) (by kernel_rfl) (by kernel_rfl) (fun _ _ _ h => h) ⟨Or.inl ⟨by rfl, ?_⟩, fun _ => rfl⟩ ?_; rotate_left; focus ((intro w; go_simp); try (with_reducible rfl)); (try simp only [Act.put, List.setIfInBounds_toArray, List.set_cons_zero, List.set_cons_succ]))
        (refine wpAnyIn_ready (rs := [6]) (by kernel_rfl) (by simp) ?_; refine AllReadyIn.cons rfl (fun K hK => ?_) (AllReadyIn.nil))
        (go_simp; refine hK _ _ ?_; clear hK K; (try simp only [Act.put, List.setIfInBounds_toArray, List.set_cons_zero, List.set_cons_succ]))
        refine wpAnyIn_done (by kernel_rfl) ?_ _
        gi_wp2
        exact HFIN.out _ _ (Nat.le_trans HK3.out.size hog) HK4.out HN4.out
      · (go_simp; (refine ⟨trivial, ?_⟩); gi_at_call 36; refine (callsIn_wide.2 (HDq.out _ ((Kept.refl [] _).drew))).mono ?_; rintro e V3 ⟨rfl, hk3⟩; have hcx1 := hk3.cell_some (w := V1.drew) hcx1 (by simp); have HK3 := Lib.hid (((Kept.refl [] V1).drew).trans hk3); have HPo := Lib.hid (qPop_any (atJ cap (W.kind * 8 + yv)) cap V3); clear hk3; (try go_simp); refine hK _ _ ?_; clear hK K; (try simp only [Act.put, List.setIfInBounds_toArray, List.set_cons_zero, List.set_cons_succ]))
        (refine wpAnyIn_ready (rs := [0, 3]) (by kernel_rfl) (by simp) ?_; refine AllReadyIn.cons rfl (fun K hK => ?_) (AllReadyIn.cons rfl (fun K hK => ?_) (AllReadyIn.nil)))
        · (go_simp; refine hK _ _ ?_; clear hK K; (try simp only [Act.put, List.setIfInBounds_toArray, List.set_cons_zero, List.set_cons_succ]))
          (refine wpAnyIn_ready (rs := [3]) (by kernel_rfl) (by simp) ?_; refine AllReadyIn.cons rfl (fun K hK => ?_) (AllReadyIn.nil))
          (go_simp; (refine ⟨trivial, ?_⟩); gi_at_call 46; refine (callsIn_wide.2 HPo.out).mono ?_; rintro e V4 ⟨⟨og, hog, rfl, N4⟩, hk4⟩; have hcx1 := hk4.cell_some hcx1 (by simp); have HK4 := Lib.hid (HK3.out.trans hk4); have HN4 := Lib.hid N4; have c6 := HK4.out.cell_some c6 (by simp); have f6 := (HH1.out.kept HK4.out (by simp)).frozen 6; clear hk4 N4; (try go_simp); refine hK _ _ ?_; clear hK K; (try simp only [Act.put, List.setIfInBounds_toArray, List.set_cons_zero, List.set_cons_succ]))
          (refine wpAnyIn_take (i := 4) (v := ?_) rfl rfl (by kernel_rfl) (by kernel_rfl) (by kernel_rfl) (fun _ _ _ h => h) ⟨Or.inl ⟨by rfl, ?_⟩, fun _ => rfl⟩ ?_; rotate_left; focus ((intro w; go_simp); try (with_reducible rfl)); (try simp only [Act.put, List.setIfInBounds_toArray, List.set_cons_zero, List.set_cons_succ]))
          (refine wpAnyIn_take (i := 5) (v := ?_) rfl rfl (by kernel_rfl) (by kernel_rfl) (by kernel_rfl) (fun _ _ _ h => h) ⟨Or.inl ⟨by rfl, ?_⟩, fun _ => rfl⟩ ?_; rotate_left; focus ((intro w; go_simp); try (with_reducible rfl)); (try simp only [Act.put, List.setIfInBounds_toArray, List.set_cons_zero, List.set_cons_succ]))
          (refine wpAnyIn_ready (rs := [6]) (by kernel_rfl) (by simp) ?_; refine AllReadyIn.cons rfl (fun K hK => ?_) (AllReadyIn.nil))
          (go_simp; refine hK _ _ ?_; clear hK K; (try simp only [Act.put, List.setIfInBounds_toArray, List.set_cons_zero, List.set_cons_succ]))
          refine wpAnyIn_done (by kernel_rfl) ?_ _
          gi_wp2
          exact HFIN.out _ _ (Nat.le_trans HK3.out.size hog) HK4.out HN4.out
        · (go_simp; (refine ⟨trivial, ?_⟩); gi_at_call 46; refine (callsIn_wide.2 HPo.out).mono ?_; rintro e V4 ⟨⟨og, hog, rfl, N4⟩, hk4⟩; have hcx1 := hk4.cell_some hcx1 (by simp); have HK4 := Lib.hid (HK3.out.trans hk4); have HN4 := Lib.hid N4; have c6 := HK4.out.cell_some c6 (by simp); have f6 := (HH1.out.kept HK4.out (by simp)).frozen 6; clear hk4 N4; (try go_simp); refine hK _ _ ?_; clear hK K; (try simp only [Act.put, List.setIfInBounds_toArray, List.set_cons_zero, List.set_cons_succ]))
          (refine wpAnyIn_ready (rs := [0]) (by kernel_rfl) (by simp) ?_; refine AllReadyIn.cons rfl (fun K hK => ?_) (AllReadyIn.nil))
          (go_simp; refine hK _ _ ?_; clear hK K; (try simp only [Act.put, List.setIfInBounds_toArray, List.set_cons_zero, List.set_cons_succ]))
          (refine wpAnyIn_take (i := 4) (v := ?_) rfl rfl (by kernel_rfl) (by kernel_rfl) (by kernel_rfl) (fun _ _ _ h => h) ⟨Or.inl ⟨by rfl, ?_⟩, fun _ => rfl⟩ ?_; rotate_left; focus ((intro w; go_simp); try (with_reducible rfl)); (try simp only [Act.put, List.setIfInBounds_toArray, List.set_cons_zero, List.set_cons_succ]))
          (refine wpAnyIn_take (i := 5) (v := ?_) rfl rfl (by kernel_rfl) (by kernel_rfl) (by kernel_rfl) (fun _ _ _ h => h) ⟨Or.inl ⟨by rfl, ?_⟩, fun _ => rfl⟩ ?_; rotate_left; focus ((intro w; go_simp); try (with_reducible rfl)); (try simp only [Act.put, List.setIfInBounds_toArray, List.set_cons_zero, List.set_cons_succ]))
          (refine wpAnyIn_ready (rs := [6]) (by kernel_rfl) (by simp) ?_; refine AllReadyIn.cons rfl (fun K hK => ?_) (AllReadyIn.nil))
          (go_simp; refine hK _ _ ?_; clear hK K; (try simp only [Act.put, List.setIfInBounds_toArray, List.set_cons_zero, List.set_cons_succ]))
          refine wpAnyIn_done (by kernel_rfl) ?_ _
          gi_wp2
          exact HFIN.out _ _ (Nat.le_trans HK3.out.size hog) HK4.out HN4.out
end
end Go.Proofs.YtahpjoknmclbfaaDoor

