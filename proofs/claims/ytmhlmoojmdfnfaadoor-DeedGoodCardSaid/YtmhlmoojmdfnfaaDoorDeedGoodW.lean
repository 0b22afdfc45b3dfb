/- Law 07: DeedGood: the walk. -/
import Derived.Test.YtmhlmoojmdfnfaaDoorDeedA
import Derived.Deep.DeepCutAuto
namespace Go.Proofs.YtmhlmoojmdfnfaaDoor
open Go.RowKit
attribute [local go_sem ↓] Go.wp_at_zero Go.wp_at_succ
attribute [local go_sem] undef

set_option maxHeartbeats 6400000 in
theorem deedGood_true (o a b r : Int) (n m : Nat) (l : Bool) (op : Int) (w : World) (hM : HasMax w) (hP : HasPow w) (hg : goodD ⟨o, a, b, r, n, m, l⟩ = true) :
    Calls Tryd.prog 8 #[.agg (dC o a b r n m l), .int .i64 op] w fun e w' => e = .returned (.bool true) ∧ Kept [] w w' := by
  have HG1 : Hid (∀ w, Calls Tryd.prog 36 #[.agg (dC o a b r n m l)] w fun e w' => e = .returned (.bool true) ∧ Kept [] w w') := fun w => by have := good_any o a b r n m l w; rw [hg] at this; exact this
  have HG2 : Hid (∀ w, Calls Tryd.prog 34 #[.agg (dC o a b r n m l)] w fun e w' => e = .returned (.bool true) ∧ Kept [] w w') := fun w => by have := refGood o a b r n m l w; rw [hg] at this; exact this
  have HCA : Hid (∀ w, Calls Tryd.prog 37 #[.agg (dC o a b r n m l)] w fun e w' => e = .returned (.bool (true && o != 1)) ∧ Kept [] w w') := fun w => by have := calls_any o a b r n m l w; rw [hg] at this; exact this
  simp only [Bool.true_and, Bool.false_and] at HCA
  have HN1 := Lib.hid (fun w => name_any op w)
  have HN2 := Lib.hid (fun w => refName op w)
  generalize nameD op = nm at *
  have HWT := Lib.hid (fun w => waits_any op w)
  have HM := Lib.hid hM
  have HP := Lib.hid hP
  clear hM hP hg
  go_enter Tryd.func8, Tryd.ntmps8
  go_upto_region 1 with fail
  go_cut [28] (fun s28 wx => s28 = .bool false ∧ Hid (Kept [] w wx))
  case first =>
    have hB := Lib.hid (Blk.new w 41 (dC o a b r n m l))
    have hK := Lib.hid ((Kept.refl [] w).alloc (.cells (dC o a b r n m l) 41))
    first | (go_must (go_region_with (first | (go_at_call 36; refine (HG1.out _).mono ?_; rintro e w1 ⟨rfl, hk1⟩; have hB := Lib.hid (Blk.kept (hk := hk1) (h := by exact hB.out) (hg := by simp)); have hc := hB.out.cell; have hK := Lib.hid (Kept.trans (h := by first | exact hK.out | exact hK.out.drew) (h' := hk1)); clear hk1) | (go_at_call 34; refine (HG2.out _).mono ?_; rintro e w1 ⟨rfl, hk1⟩; have hB := Lib.hid (Blk.kept (hk := hk1) (h := by exact hB.out) (hg := by simp)); have hc := hB.out.cell; have hK := Lib.hid (Kept.trans (h := by first | exact hK.out | exact hK.out.drew) (h' := hk1)); clear hk1) | (go_at_call 37; refine (HCA.out _).mono ?_; rintro e w1 ⟨rfl, hk1⟩; have hB := Lib.hid (Blk.kept (hk := hk1) (h := by exact hB.out) (hg := by simp)); have hc := hB.out.cell; have hK := Lib.hid (Kept.trans (h := by first | exact hK.out | exact hK.out.drew) (h' := hk1)); clear hk1) | (go_at_call 38; refine (HN1.out _).mono ?_; rintro e w1 ⟨rfl, rfl⟩) | (go_at_call 39; refine (HN2.out _).mono ?_; rintro e w1 ⟨rfl, hk1⟩; have hB := Lib.hid (Blk.kept (hk := hk1) (h := by exact hB.out) (hg := by simp)); have hc := hB.out.cell; have hK := Lib.hid (Kept.trans (h := by first | exact hK.out | exact hK.out.drew) (h' := hk1)); clear hk1)))) | fail
    all_goals (go_wp2_with fail; go_meet; exact ⟨rfl, hK.out⟩)
  case rest =>
    obtain ⟨rfl, HK⟩ := hcut
    go_wp2_with fail
    refine (HWT.out _).mono ?_
    rintro e w9 ⟨rfl, rfl⟩
    rcases (by omega : op = 4 ∨ op = 6 ∨ op = 9 ∨ op = 10 ∨ (op ≠ 4 ∧ op ≠ 6 ∧ op ≠ 9 ∧ op ≠ 10)) with rfl | rfl | rfl | rfl | ⟨h1, h2, h3, h4⟩
    case' inr.inr.inr.inr =>
      have hw : decide (op = 4 ∨ op = 6 ∨ op = 9 ∨ op = 10) = false := by simp [h1, h2, h3, h4]
      rw [hw]
      have b1 : (op == 4) = false := beq_eq_false_iff_ne.2 h1
      have b2 : (op == 6) = false := beq_eq_false_iff_ne.2 h2
      have b3 : (op == 9) = false := beq_eq_false_iff_ne.2 h3
      have b4 : (op == 10) = false := beq_eq_false_iff_ne.2 h4
      clear hw h1 h2 h3 h4
    all_goals
      go_wp2_with fail
      refine (awake7 _ (HM.out.old HK.out) (HP.out.old HK.out)).mono ?_
      rintro e w8 ⟨rfl, hk8⟩
      go_wp2_with fail
      go_ret
      exact ⟨rfl, HK.out.trans hk8⟩

set_option maxHeartbeats 6400000 in
theorem deedGood_false (o a b r : Int) (n m : Nat) (l : Bool) (op : Int) (w : World) (hM : HasMax w) (hP : HasPow w) (hg : goodD ⟨o, a, b, r, n, m, l⟩ = false) :
    Calls Tryd.prog 8 #[.agg (dC o a b r n m l), .int .i64 op] w fun e w' => e = .returned (.bool true) ∧ Kept [] w w' := by
  have HG1 : Hid (∀ w, Calls Tryd.prog 36 #[.agg (dC o a b r n m l)] w fun e w' => e = .returned (.bool false) ∧ Kept [] w w') := fun w => by have := good_any o a b r n m l w; rw [hg] at this; exact this
  have HG2 : Hid (∀ w, Calls Tryd.prog 34 #[.agg (dC o a b r n m l)] w fun e w' => e = .returned (.bool false) ∧ Kept [] w w') := fun w => by have := refGood o a b r n m l w; rw [hg] at this; exact this
  have HCA : Hid (∀ w, Calls Tryd.prog 37 #[.agg (dC o a b r n m l)] w fun e w' => e = .returned (.bool (false && o != 1)) ∧ Kept [] w w') := fun w => by have := calls_any o a b r n m l w; rw [hg] at this; exact this
  simp only [Bool.true_and, Bool.false_and] at HCA
  have HN1 := Lib.hid (fun w => name_any op w)
  have HN2 := Lib.hid (fun w => refName op w)
  generalize nameD op = nm at *
  have HWT := Lib.hid (fun w => waits_any op w)
  have HM := Lib.hid hM
  have HP := Lib.hid hP
  clear hM hP hg
  go_enter Tryd.func8, Tryd.ntmps8
  go_upto_region 1 with fail
  go_cut [28] (fun s28 wx => s28 = .bool false ∧ Hid (Kept [] w wx))
  case first =>
    have hB := Lib.hid (Blk.new w 41 (dC o a b r n m l))
    have hK := Lib.hid ((Kept.refl [] w).alloc (.cells (dC o a b r n m l) 41))
    first | (go_must (go_region_with (first | (go_at_call 36; refine (HG1.out _).mono ?_; rintro e w1 ⟨rfl, hk1⟩; have hB := Lib.hid (Blk.kept (hk := hk1) (h := by exact hB.out) (hg := by simp)); have hc := hB.out.cell; have hK := Lib.hid (Kept.trans (h := by first | exact hK.out | exact hK.out.drew) (h' := hk1)); clear hk1) | (go_at_call 34; refine (HG2.out _).mono ?_; rintro e w1 ⟨rfl, hk1⟩; have hB := Lib.hid (Blk.kept (hk := hk1) (h := by exact hB.out) (hg := by simp)); have hc := hB.out.cell; have hK := Lib.hid (Kept.trans (h := by first | exact hK.out | exact hK.out.drew) (h' := hk1)); clear hk1) | (go_at_call 37; refine (HCA.out _).mono ?_; rintro e w1 ⟨rfl, hk1⟩; have hB := Lib.hid (Blk.kept (hk := hk1) (h := by exact hB.out) (hg := by simp)); have hc := hB.out.cell; have hK := Lib.hid (Kept.trans (h := by first | exact hK.out | exact hK.out.drew) (h' := hk1)); clear hk1) | (go_at_call 38; refine (HN1.out _).mono ?_; rintro e w1 ⟨rfl, rfl⟩) | (go_at_call 39; refine (HN2.out _).mono ?_; rintro e w1 ⟨rfl, hk1⟩; have hB := Lib.hid (Blk.kept (hk := hk1) (h := by exact hB.out) (hg := by simp)); have hc := hB.out.cell; have hK := Lib.hid (Kept.trans (h := by first | exact hK.out | exact hK.out.drew) (h' := hk1)); clear hk1)))) | fail
    all_goals (go_wp2_with fail; go_meet; exact ⟨rfl, hK.out⟩)
  case rest =>
    obtain ⟨rfl, HK⟩ := hcut
    go_wp2_with fail
    refine (HWT.out _).mono ?_
    rintro e w9 ⟨rfl, rfl⟩
    rcases (by omega : op = 4 ∨ op = 6 ∨ op = 9 ∨ op = 10 ∨ (op ≠ 4 ∧ op ≠ 6 ∧ op ≠ 9 ∧ op ≠ 10)) with rfl | rfl | rfl | rfl | ⟨h1, h2, h3, h4⟩
    case' inr.inr.inr.inr =>
      have hw : decide (op = 4 ∨ op = 6 ∨ op = 9 ∨ op = 10) = false := by simp [h1, h2, h3, h4]
      rw [hw]
      have b1 : (op == 4) = false := beq_eq_false_iff_ne.2 h1
      have b2 : (op == 6) = false := beq_eq_false_iff_ne.2 h2
      have b3 : (op == 9) = false := beq_eq_false_iff_ne.2 h3
      have b4 : (op == 10) = false := beq_eq_false_iff_ne.2 h4
      clear hw h1 h2 h3 h4
    all_goals
      go_wp2_with fail
      refine (awake7 _ (HM.out.old HK.out) (HP.out.old HK.out)).mono ?_
      rintro e w8 ⟨rfl, hk8⟩
      go_wp2_with fail
      go_ret
      exact ⟨rfl, HK.out.trans hk8⟩

end Go.Proofs.YtmhlmoojmdfnfaaDoor
