/- The document's Good of a deed. -/
import Derived.Test.YtladfdpcdjjifaaGreatDoorDeedR
import Derived.Deep.RegionHeld3
import Derived.Deep.RegionWith
import Derived.Deep.DrawnRows
import Derived.Deep.QuietTactic
import Derived.BigQuiet
namespace Go.Proofs.YtladfdpcdjjifaaGreatDoor
open Go.RowKit
attribute [local go_sem ↓] Go.wp_at_zero Go.wp_at_succ
attribute [local go_sem] eqDeed

theorem goodD_out (d : Dd) (h : d.op < 1 ∨ 11 < d.op) : goodD d = false := by
  unfold goodD
  rw [decide_eq_false (fun hh => by omega)]
  simp
theorem goodD_differs (d : Dd) (h : onlyD d ≠ d) : goodD d = false := by
  have : d.same (onlyD d) = false := by
    rw [← Bool.not_eq_true, Dd.same_iff]; exact fun e => h e.symm
  unfold goodD
  rw [this]
  simp
theorem goodD_only (d : Dd) (h : onlyD d = d) (h1 : 1 ≤ d.op) (h2 : d.op ≤ 11) :
    goodD d = (!(decide (d.op = 1) && (decide (d.n < 1) || decide (65536 < d.n))) && decide (0 ≤ d.a ∧ d.a < 64 ∧ 0 ≤ d.b ∧ d.b < 8 ∧ 0 ≤ d.r ∧ d.r < 8)) := by
  have : d.same (onlyD d) = true := by rw [Dd.same_iff]; exact h.symm
  unfold goodD
  rw [this, decide_eq_true ⟨h1, h2⟩]
  simp

set_option maxHeartbeats 1600000 in
theorem refGood_out (o a b r : Int) (n m : Nat) (l : Bool) (w : World) (h : o < 1 ∨ 11 < o) : Calls Tryz.prog 71 #[.agg (dC o a b r n m l)] w fun e w' => e = .returned (.bool (goodD ⟨o, a, b, r, n, m, l⟩)) ∧ Kept [] w w' := by
  have HG := Lib.hid (goodD_out ⟨o, a, b, r, n, m, l⟩ h)
  rcases h with h | h
  · go_enter Tryz.func71, Tryz.ntmps71
    go_wp2_with fail
    go_quiet (fail)
    go_wp2_with fail
    go_ret
    rw [HG.out]
    exact ⟨rfl, by (repeat (first | (with_reducible exact Kept.refl _ _) | (with_reducible assumption) | (with_reducible refine Kept.alloc ?_ _) | (with_reducible refine Kept.drew ?_) | (with_reducible refine Kept.drewN ?_ _) | (with_reducible refine Kept.setCell ?_ ?_ _) | (exact .inr (Nat.le_refl _)) | (exact .inr (by simp only; omega)) | (exact .inr (by omega))))⟩
  · have h2 : decide (o < 1) = false := by simp; omega
    go_enter Tryz.func71, Tryz.ntmps71
    go_wp2_with fail
    go_quiet (fail)
    go_wp2_with fail
    go_ret
    rw [HG.out]
    exact ⟨rfl, by (repeat (first | (with_reducible exact Kept.refl _ _) | (with_reducible assumption) | (with_reducible refine Kept.alloc ?_ _) | (with_reducible refine Kept.drew ?_) | (with_reducible refine Kept.drewN ?_ _) | (with_reducible refine Kept.setCell ?_ ?_ _) | (exact .inr (Nat.le_refl _)) | (exact .inr (by simp only; omega)) | (exact .inr (by omega))))⟩

set_option maxHeartbeats 3200000 in
theorem refGood_one (a b r : Int) (n m : Nat) (l : Bool) (w : World) (he : onlyD ⟨1, a, b, r, n, m, l⟩ = ⟨1, a, b, r, n, m, l⟩) (hn : 1 ≤ n) (hn2 : n ≤ 65536) : Calls Tryz.prog 71 #[.agg (dC 1 a b r n m l)] w fun e w' => e = .returned (.bool (goodD ⟨1, a, b, r, n, m, l⟩)) ∧ Kept [] w w' := by
  have HG := Lib.hid (goodD_only ⟨1, a, b, r, n, m, l⟩ he (by simp) (by simp))
  have HO : Hid (∀ w, Calls Tryz.prog 92 #[.agg (dC 1 a b r n m l)] w fun e w' => e = .returned (.agg (dC 1 a b r n m l)) ∧ Kept [] w w') := fun w => by
    have := refOnly 1 a b r n m l w
    rw [he] at this
    exact this
  clear he
  have hd1 : decide ((n : Int) < 1) = false := by simp; omega
  have hd2 : decide (65536 < (n : Int)) = false := by simp; omega
  go_enter Tryz.func71, Tryz.ntmps71
  go_wp2_with fail
  go_region_held3 (fun w' => w'.cell? ⟨w.heap.size, 0, none⟩ = some (.int .i64 1) ∧ w'.cell? ⟨w.heap.size, 1, none⟩ = some (.int .i64 a) ∧ w'.cell? ⟨w.heap.size, 2, none⟩ = some (.int .i64 b) ∧ w'.cell? ⟨w.heap.size, 3, none⟩ = some (.int .i64 r) ∧ w'.cell? ⟨w.heap.size, 4, none⟩ = some (.int .u64 n) ∧ w'.cell? ⟨w.heap.size, 5, none⟩ = some (.int .u64 m) ∧ w'.cell? ⟨w.heap.size, 6, none⟩ = some (.bool l)) (go_keep) (first | (go_at_call 92; refine (HO.out _).mono ?_; rintro e w1 ⟨rfl, hk1⟩; have hB := (Blk.new w 60 (dC 1 a b r n m l)).drew.kept hk1 (by simp); have hc := hB.cell; have HB := Lib.hid hB; clear hB))
  go_wp2_with fail
  all_goals
    go_ret
    refine ⟨ret_bool ?_, by have hk2 := (((Kept.refl [] w).alloc (.cells (dC 1 a b r n m l) 60)).drew.trans hk1); exact hk2⟩
    rw [HG.out, Bool.eq_iff_iff]
    simp
    omega

set_option maxHeartbeats 3200000 in
theorem refGood_lo (a b r : Int) (m : Nat) (l : Bool) (w : World) (he : onlyD ⟨1, a, b, r, 0, m, l⟩ = ⟨1, a, b, r, 0, m, l⟩) : Calls Tryz.prog 71 #[.agg (dC 1 a b r 0 m l)] w fun e w' => e = .returned (.bool (goodD ⟨1, a, b, r, 0, m, l⟩)) ∧ Kept [] w w' := by
  have HG := Lib.hid (goodD_only ⟨1, a, b, r, 0, m, l⟩ he (by simp) (by simp))
  have HO : Hid (∀ w, Calls Tryz.prog 92 #[.agg (dC 1 a b r 0 m l)] w fun e w' => e = .returned (.agg (dC 1 a b r 0 m l)) ∧ Kept [] w w') := fun w => by
    have := refOnly 1 a b r 0 m l w
    rw [he] at this
    exact this
  clear he
  go_enter Tryz.func71, Tryz.ntmps71
  go_wp2_with fail
  first | (go_region_with (first | (go_at_call 92; refine (HO.out _).mono ?_; rintro e w1 ⟨rfl, hk1⟩; have hB := (Blk.new w 60 (dC 1 a b r 0 m l)).drew.kept hk1 (by simp); have hc := hB.cell; have HB := Lib.hid hB; clear hB))) | fail
  all_goals
    go_wp2_with fail
    go_ret
    rw [HG.out]
    exact ⟨rfl, ((Kept.refl [] w).alloc (.cells (dC 1 a b r 0 m l) 60)).drew.trans hk1⟩

set_option maxHeartbeats 3200000 in
theorem refGood_hi (a b r : Int) (n m : Nat) (l : Bool) (w : World) (he : onlyD ⟨1, a, b, r, n, m, l⟩ = ⟨1, a, b, r, n, m, l⟩) (hn : 65536 < n) : Calls Tryz.prog 71 #[.agg (dC 1 a b r n m l)] w fun e w' => e = .returned (.bool (goodD ⟨1, a, b, r, n, m, l⟩)) ∧ Kept [] w w' := by
  have HG := Lib.hid (goodD_only ⟨1, a, b, r, n, m, l⟩ he (by simp) (by simp))
  have HO : Hid (∀ w, Calls Tryz.prog 92 #[.agg (dC 1 a b r n m l)] w fun e w' => e = .returned (.agg (dC 1 a b r n m l)) ∧ Kept [] w w') := fun w => by
    have := refOnly 1 a b r n m l w
    rw [he] at this
    exact this
  clear he
  have hd1 : decide ((n : Int) < 1) = false := by simp; omega
  have hd2 : decide (65536 < (n : Int)) = true := by simp; omega
  go_enter Tryz.func71, Tryz.ntmps71
  go_wp2_with fail
  first | (go_region_with (first | (go_at_call 92; refine (HO.out _).mono ?_; rintro e w1 ⟨rfl, hk1⟩; have hB := (Blk.new w 60 (dC 1 a b r n m l)).drew.kept hk1 (by simp); have hc := hB.cell; have HB := Lib.hid hB; clear hB))) | fail
  all_goals
    go_wp2_with fail
    go_ret
    rw [HG.out]
    exact ⟨ret_bool (by simp; omega), ((Kept.refl [] w).alloc (.cells (dC 1 a b r n m l) 60)).drew.trans hk1⟩

end Go.Proofs.YtladfdpcdjjifaaGreatDoor
