/- Law 31: EventLines: the walk. -/
import Derived.Test.YtohkgdgdblnbfaaDoorEventPicksW
import Derived.Test.YtohkgdgdblnbfaaDoorEventPa
import Derived.Test.YtohkgdgdblnbfaaDoorEventRL
namespace Go.Proofs.YtohkgdgdblnbfaaDoor
open Go.RowKit

theorem lineE_len (e : Ev) (hs : e.step ≤ 9223372036854775807) (hgn : e.gen < 4294967296) (hn : e.n < 18446744073709551616) : (lineE e).length ≤ 1000 := by
  by_cases hg : goodE e = true
  · have hr := hg
    simp only [goodE, decide_eq_true_eq] at hr
    rw [lineE, if_pos hg]
    have l1 := dec_len e.step.toNat (by omega)
    have l2 := dec_len e.cpu.toNat (by omega)
    have l3 := kindD_len e.kind
    have l4 := dec_len e.slot.toNat (by omega)
    have l5 := dec_len e.gen (by omega)
    have l6 := opE_len e.op
    have l7 := dec_len e.code.toNat (by omega)
    have l8 := dec_len e.n (by omega)
    simp only [wordsE, joinS, List.length_append, List.length_cons, List.length_nil]
    omega
  · rw [lineE, if_neg hg]; simp

set_option maxHeartbeats 6400000 in
set_option maxRecDepth 100000 in
theorem eventLines_true (s c k t : Int) (g : Nat) (o d : Int) (n : Nat) (kind : Int) (w : World) (hM : HasMax w) (hP : HasPow w) (hs : s ≤ 9223372036854775807) (hgn : g < 4294967296) (hn : n < 18446744073709551616) (hg : goodE ⟨s, c, k, t, g, o, d, n⟩ = true) :
    Calls Tryd.prog 4 #[.agg (eC s c k t g o d n), .int .i64 kind] w fun e w' => e = .returned (.bool true) ∧ Kept [] w w' := by
  have HG1 : Hid (∀ w, Calls Tryd.prog 20 #[.agg (eC s c k t g o d n)] w fun e w' => e = .returned (.bool true) ∧ Kept [] w w') := fun w => by have := egood_any s c k t g o d n w; rw [hg] at this; exact this
  have HG2 : Hid (∀ w, Calls Tryd.prog 21 #[.agg (eC s c k t g o d n)] w fun e w' => e = .returned (.bool true) ∧ Kept [] w w') := fun w => by have := refEgood s c k t g o d n w; rw [hg] at this; exact this
  have hlen := lineE_len ⟨s, c, k, t, g, o, d, n⟩ hs hgn hn
  have HL1 := Lib.hid (fun w h => eline_any s c k t g o d n w hs hgn hn h)
  have HL2 := Lib.hid (fun w => refLineE_any s c k t g o d n w hs hgn hn)
  have HN1 := Lib.hid (fun w => ename_any kind w)
  have HN2 := Lib.hid (fun w => refEname kind w)
  have HPS : Hid (∀ w, HasMax w → Calls Tryd.prog 24 #[strV (lineE ⟨s, c, k, t, g, o, d, n⟩)] w fun e w' => e = .returned (.tuple #[.agg (if true then eC s c k t g o d n else eC 0 0 0 0 0 0 0 0), .int .i64 (if true then 0 else 3)]) ∧ Kept [] w w') := fun w h => by
    have := eparse_any (lineE ⟨s, c, k, t, g, o, d, n⟩) w (by omega) h
    first
      | (rw [parse_lineE _ hg hs hgn hn] at this; exact this)
      | (rw [parse_lineE_bad _ hg] at this; exact this)
  first | rw [if_pos rfl, if_pos rfl] at HPS | rw [if_neg Bool.false_ne_true, if_neg Bool.false_ne_true] at HPS
  generalize lineE ⟨s, c, k, t, g, o, d, n⟩ = ln at *
  generalize kindD kind = kn at *
  have HM := Lib.hid hM
  have HP := Lib.hid hP
  have hq : ∀ W, (Op.equalIn 10000 30 (.agg (eC s c k t g o d n)) (.agg (eC s c k t g o d n))).run Tryd.prog W = .ok true W := fun W => by rw [eqEv]; simp
  clear hM hP hg
  go_enter Tryd.func4, Tryd.ntmps4
  go_wp2_with fail
  refine (HL1.out _ (HP.out.old ((Kept.refl _ _).alloc _))).mono ?_
  rintro e w1 ⟨rfl, hk1⟩
  have hB := Lib.hid ((Blk.new w 30 (eC s c k t g o d n)).kept hk1 (by simp))
  have hK := Lib.hid (((Kept.refl [] w).alloc _).trans hk1)
  have hc := hB.out.cell
  have hlt := hB.out.lt
  clear hk1
  go_wp2_with fail
  go_region_held3 (fun w' => w'.cell? ⟨w.heap.size, 0, none⟩ = some (.int .i64 s) ∧ w'.cell? ⟨w.heap.size, 1, none⟩ = some (.int .i64 c) ∧ w'.cell? ⟨w.heap.size, 2, none⟩ = some (.int .i64 k) ∧ w'.cell? ⟨w.heap.size, 3, none⟩ = some (.int .i64 t) ∧ w'.cell? ⟨w.heap.size, 4, none⟩ = some (.int .u32 g) ∧ w'.cell? ⟨w.heap.size, 5, none⟩ = some (.int .i64 o) ∧ w'.cell? ⟨w.heap.size, 6, none⟩ = some (.int .i64 d) ∧ w'.cell? ⟨w.heap.size, 7, none⟩ = some (.int .u64 n)) (go_keep) (first
    | (go_at_call 19; refine (HL2.out _).mono ?_; rintro e w2 ⟨rfl, hk2⟩; have hB := Lib.hid (Blk.kept (hk := hk2) (h := by exact hB.out) (hg := by simp)); have hc := hB.out.cell; have hK := Lib.hid (Kept.trans (h := by first | exact hK.out | exact hK.out.drew) (h' := hk2)); clear hk2)
    | (go_at_call 20; refine (HG1.out _).mono ?_; rintro e w2 ⟨rfl, hk2⟩; have hB := Lib.hid (Blk.kept (hk := hk2) (h := by exact hB.out) (hg := by simp)); have hc := hB.out.cell; have hK := Lib.hid (Kept.trans (h := by first | exact hK.out | exact hK.out.drew) (h' := hk2)); clear hk2)
    | (go_at_call 21; refine (HG2.out _).mono ?_; rintro e w2 ⟨rfl, hk2⟩; have hB := Lib.hid (Blk.kept (hk := hk2) (h := by exact hB.out) (hg := by simp)); have hc := hB.out.cell; have hK := Lib.hid (Kept.trans (h := by first | exact hK.out | exact hK.out.drew) (h' := hk2)); clear hk2)
    | (go_at_call 22; refine (HN1.out _).mono ?_; rintro e w2 ⟨rfl, hk2⟩; have hB := Lib.hid (Blk.kept (hk := hk2) (h := by exact hB.out) (hg := by simp)); have hc := hB.out.cell; have hK := Lib.hid (Kept.trans (h := by first | exact hK.out | exact hK.out.drew) (h' := hk2)); clear hk2)
    | (go_at_call 23; refine (HN2.out _).mono ?_; rintro e w2 ⟨rfl, hk2⟩; have hB := Lib.hid (Blk.kept (hk := hk2) (h := by exact hB.out) (hg := by simp)); have hc := hB.out.cell; have hK := Lib.hid (Kept.trans (h := by first | exact hK.out | exact hK.out.drew) (h' := hk2)); clear hk2)
    | (go_at_call 12; refine (awake31 _ (by first | exact HP.out.old hK.out | exact HP.out.old hK.out.drew)).mono ?_; rintro e w2 ⟨rfl, hk2⟩; have hB := Lib.hid (Blk.kept (hk := hk2) (h := by exact hB.out) (hg := by simp)); have hc := hB.out.cell; have hK := Lib.hid (Kept.trans (h := by first | exact hK.out | exact hK.out.drew) (h' := hk2)); clear hk2))
  all_goals
    go_wp2_with fail
    refine (HPS.out _ (by first | exact HM.out.old hK.out | exact HM.out.old hK.out.drew)).mono ?_
    rintro e w3 ⟨rfl, hk3⟩
    have hB := Lib.hid (Blk.kept (hk := hk3) (h := by exact hB.out) (hg := by simp))
    have hK := Lib.hid (Kept.trans (h := by first | exact hK.out | exact hK.out.drew) (h' := hk3))
    have hc := hB.out.cell
    have hlt := hB.out.lt
    clear hk3
    go_wp2_with fail
    refine (HG2.out _).mono ?_
    rintro e w4 ⟨rfl, hk4⟩
    have hB := Lib.hid ((hB.out.alloc _).kept hk4 (by simp))
    have hX := Lib.hid ((Blk.new w3 30 _).kept hk4 (by simp))
    have hK := Lib.hid ((hK.out.alloc _).trans hk4)
    have hc := hB.out.cell
    have hcx := hX.out.cell
    clear hk4
    go_wp2_with fail
    go_ret
    exact ⟨by first | rfl | simp, hK.out⟩

set_option maxHeartbeats 6400000 in
set_option maxRecDepth 100000 in
theorem eventLines_false (s c k t : Int) (g : Nat) (o d : Int) (n : Nat) (kind : Int) (w : World) (hM : HasMax w) (hP : HasPow w) (hs : s ≤ 9223372036854775807) (hgn : g < 4294967296) (hn : n < 18446744073709551616) (hg : goodE ⟨s, c, k, t, g, o, d, n⟩ = false) :
    Calls Tryd.prog 4 #[.agg (eC s c k t g o d n), .int .i64 kind] w fun e w' => e = .returned (.bool true) ∧ Kept [] w w' := by
  have HG1 : Hid (∀ w, Calls Tryd.prog 20 #[.agg (eC s c k t g o d n)] w fun e w' => e = .returned (.bool false) ∧ Kept [] w w') := fun w => by have := egood_any s c k t g o d n w; rw [hg] at this; exact this
  have HG2 : Hid (∀ w, Calls Tryd.prog 21 #[.agg (eC s c k t g o d n)] w fun e w' => e = .returned (.bool false) ∧ Kept [] w w') := fun w => by have := refEgood s c k t g o d n w; rw [hg] at this; exact this
  have hlen := lineE_len ⟨s, c, k, t, g, o, d, n⟩ hs hgn hn
  have HL1 := Lib.hid (fun w h => eline_any s c k t g o d n w hs hgn hn h)
  have HL2 := Lib.hid (fun w => refLineE_any s c k t g o d n w hs hgn hn)
  have HN1 := Lib.hid (fun w => ename_any kind w)
  have HN2 := Lib.hid (fun w => refEname kind w)
  have HPS : Hid (∀ w, HasMax w → Calls Tryd.prog 24 #[strV (lineE ⟨s, c, k, t, g, o, d, n⟩)] w fun e w' => e = .returned (.tuple #[.agg (if false then eC s c k t g o d n else eC 0 0 0 0 0 0 0 0), .int .i64 (if false then 0 else 3)]) ∧ Kept [] w w') := fun w h => by
    have := eparse_any (lineE ⟨s, c, k, t, g, o, d, n⟩) w (by omega) h
    first
      | (rw [parse_lineE _ hg hs hgn hn] at this; exact this)
      | (rw [parse_lineE_bad _ hg] at this; exact this)
  first | rw [if_pos rfl, if_pos rfl] at HPS | rw [if_neg Bool.false_ne_true, if_neg Bool.false_ne_true] at HPS
  generalize lineE ⟨s, c, k, t, g, o, d, n⟩ = ln at *
  generalize kindD kind = kn at *
  have HM := Lib.hid hM
  have HP := Lib.hid hP
  have hq : ∀ W, (Op.equalIn 10000 30 (.agg (eC s c k t g o d n)) (.agg (eC s c k t g o d n))).run Tryd.prog W = .ok true W := fun W => by rw [eqEv]; simp
  clear hM hP hg
  go_enter Tryd.func4, Tryd.ntmps4
  go_wp2_with fail
  refine (HL1.out _ (HP.out.old ((Kept.refl _ _).alloc _))).mono ?_
  rintro e w1 ⟨rfl, hk1⟩
  have hB := Lib.hid ((Blk.new w 30 (eC s c k t g o d n)).kept hk1 (by simp))
  have hK := Lib.hid (((Kept.refl [] w).alloc _).trans hk1)
  have hc := hB.out.cell
  have hlt := hB.out.lt
  clear hk1
  go_wp2_with fail
  go_region_held3 (fun w' => w'.cell? ⟨w.heap.size, 0, none⟩ = some (.int .i64 s) ∧ w'.cell? ⟨w.heap.size, 1, none⟩ = some (.int .i64 c) ∧ w'.cell? ⟨w.heap.size, 2, none⟩ = some (.int .i64 k) ∧ w'.cell? ⟨w.heap.size, 3, none⟩ = some (.int .i64 t) ∧ w'.cell? ⟨w.heap.size, 4, none⟩ = some (.int .u32 g) ∧ w'.cell? ⟨w.heap.size, 5, none⟩ = some (.int .i64 o) ∧ w'.cell? ⟨w.heap.size, 6, none⟩ = some (.int .i64 d) ∧ w'.cell? ⟨w.heap.size, 7, none⟩ = some (.int .u64 n)) (go_keep) (first
    | (go_at_call 19; refine (HL2.out _).mono ?_; rintro e w2 ⟨rfl, hk2⟩; have hB := Lib.hid (Blk.kept (hk := hk2) (h := by exact hB.out) (hg := by simp)); have hc := hB.out.cell; have hK := Lib.hid (Kept.trans (h := by first | exact hK.out | exact hK.out.drew) (h' := hk2)); clear hk2)
    | (go_at_call 20; refine (HG1.out _).mono ?_; rintro e w2 ⟨rfl, hk2⟩; have hB := Lib.hid (Blk.kept (hk := hk2) (h := by exact hB.out) (hg := by simp)); have hc := hB.out.cell; have hK := Lib.hid (Kept.trans (h := by first | exact hK.out | exact hK.out.drew) (h' := hk2)); clear hk2)
    | (go_at_call 21; refine (HG2.out _).mono ?_; rintro e w2 ⟨rfl, hk2⟩; have hB := Lib.hid (Blk.kept (hk := hk2) (h := by exact hB.out) (hg := by simp)); have hc := hB.out.cell; have hK := Lib.hid (Kept.trans (h := by first | exact hK.out | exact hK.out.drew) (h' := hk2)); clear hk2)
    | (go_at_call 22; refine (HN1.out _).mono ?_; rintro e w2 ⟨rfl, hk2⟩; have hB := Lib.hid (Blk.kept (hk := hk2) (h := by exact hB.out) (hg := by simp)); have hc := hB.out.cell; have hK := Lib.hid (Kept.trans (h := by first | exact hK.out | exact hK.out.drew) (h' := hk2)); clear hk2)
    | (go_at_call 23; refine (HN2.out _).mono ?_; rintro e w2 ⟨rfl, hk2⟩; have hB := Lib.hid (Blk.kept (hk := hk2) (h := by exact hB.out) (hg := by simp)); have hc := hB.out.cell; have hK := Lib.hid (Kept.trans (h := by first | exact hK.out | exact hK.out.drew) (h' := hk2)); clear hk2)
    | (go_at_call 12; refine (awake31 _ (by first | exact HP.out.old hK.out | exact HP.out.old hK.out.drew)).mono ?_; rintro e w2 ⟨rfl, hk2⟩; have hB := Lib.hid (Blk.kept (hk := hk2) (h := by exact hB.out) (hg := by simp)); have hc := hB.out.cell; have hK := Lib.hid (Kept.trans (h := by first | exact hK.out | exact hK.out.drew) (h' := hk2)); clear hk2))
  all_goals
    go_wp2_with fail
    refine (HPS.out _ (by first | exact HM.out.old hK.out | exact HM.out.old hK.out.drew)).mono ?_
    rintro e w3 ⟨rfl, hk3⟩
    have hB := Lib.hid (Blk.kept (hk := hk3) (h := by exact hB.out) (hg := by simp))
    have hK := Lib.hid (Kept.trans (h := by first | exact hK.out | exact hK.out.drew) (h' := hk3))
    have hc := hB.out.cell
    have hlt := hB.out.lt
    clear hk3
    go_wp2_with fail
    refine (HG2.out _).mono ?_
    rintro e w4 ⟨rfl, hk4⟩
    have hB := Lib.hid ((hB.out.alloc _).kept hk4 (by simp))
    have hX := Lib.hid ((Blk.new w3 30 _).kept hk4 (by simp))
    have hK := Lib.hid ((hK.out.alloc _).trans hk4)
    have hc := hB.out.cell
    have hcx := hX.out.cell
    clear hk4
    go_wp2_with fail
    go_ret
    exact ⟨by first | rfl | simp, hK.out⟩

end Go.Proofs.YtohkgdgdblnbfaaDoor
