/- Locks that are nil: all functions, and the law's walk up to the example. -/
import Derived.Test.YtfoeijiejpenpaaDoorProg
import Derived.Test.YtfoeijiejpenpaaDoorMem
import Derived.WalkKit
namespace Go.Proofs.YtfoeijiejpenpaaDoor
open Go.RowKit

set_option maxHeartbeats 1600000 in
theorem lkthread_nil (t : Int) (w : World) : Calls Tryd.prog 32 #[.pointer none, .int .i64 t] w fun e w' => e = .returned (.bool false) ∧ Kept [] w w' := by
  go_enter Tryd.func32, Tryd.ntmps32
  go_wp2
  go_ret
  exact ⟨rfl, by (repeat (first | (with_reducible exact Kept.refl _ _) | (with_reducible assumption) | (with_reducible refine Kept.alloc ?_ _) | (with_reducible refine Kept.drew ?_) | (with_reducible refine Kept.drewN ?_ _) | (with_reducible refine Kept.setCell ?_ ?_ _) | (exact .inr (Nat.le_refl _)) | (exact .inr (by simp only; omega)) | (exact .inr (by omega))))⟩

set_option maxHeartbeats 1600000 in
theorem lklock_nil (t : Int) (w : World) : Calls Tryd.prog 30 #[.pointer none, .int .i64 t] w fun e w' => e = .returned (.bool false) ∧ Kept [] w w' := by
  go_enter Tryd.func30, Tryd.ntmps30
  go_wp2
  go_ret
  exact ⟨rfl, by (repeat (first | (with_reducible exact Kept.refl _ _) | (with_reducible assumption) | (with_reducible refine Kept.alloc ?_ _) | (with_reducible refine Kept.drew ?_) | (with_reducible refine Kept.drewN ?_ _) | (with_reducible refine Kept.setCell ?_ ?_ _) | (exact .inr (Nat.le_refl _)) | (exact .inr (by simp only; omega)) | (exact .inr (by omega))))⟩

set_option maxHeartbeats 1600000 in
theorem lkmay_nil (t : Int) (l : Int) (w : World) : Calls Tryd.prog 40 #[.pointer none, .int .i64 t, .int .i64 l] w fun e w' => e = .returned (.int .i64 14) ∧ Kept [] w w' := by
  go_enter Tryd.func40, Tryd.ntmps40
  go_wp2
  go_ret
  exact ⟨rfl, by (repeat (first | (with_reducible exact Kept.refl _ _) | (with_reducible assumption) | (with_reducible refine Kept.alloc ?_ _) | (with_reducible refine Kept.drew ?_) | (with_reducible refine Kept.drewN ?_ _) | (with_reducible refine Kept.setCell ?_ ?_ _) | (exact .inr (Nat.le_refl _)) | (exact .inr (by simp only; omega)) | (exact .inr (by omega))))⟩

set_option maxHeartbeats 1600000 in
theorem lkUnlock_nil (t : Int) (l : Int) (w : World) : Calls Tryd.prog 12 #[.pointer none, .int .i64 t, .int .i64 l] w fun e w' => e = .returned (.tuple #[.int .i64 (-1), .int .i64 14]) ∧ Kept [] w w' := by
  go_enter Tryd.func12, Tryd.ntmps12
  go_wp2
  go_ret2
  exact ⟨rfl, by (repeat (first | (with_reducible exact Kept.refl _ _) | (with_reducible assumption) | (with_reducible refine Kept.alloc ?_ _) | (with_reducible refine Kept.drew ?_) | (with_reducible refine Kept.drewN ?_ _) | (with_reducible refine Kept.setCell ?_ ?_ _) | (exact .inr (Nat.le_refl _)) | (exact .inr (by simp only; omega)) | (exact .inr (by omega))))⟩

set_option maxHeartbeats 1600000 in
theorem lkJoin_nil (t : Int) (l : Int) (w : World) : Calls Tryd.prog 25 #[.pointer none, .int .i64 t, .int .i64 l] w fun e w' => e = .returned (.int .i64 14) ∧ Kept [] w w' := by
  go_enter Tryd.func25, Tryd.ntmps25
  go_wp2
  go_ret
  exact ⟨rfl, by (repeat (first | (with_reducible exact Kept.refl _ _) | (with_reducible assumption) | (with_reducible refine Kept.alloc ?_ _) | (with_reducible refine Kept.drew ?_) | (with_reducible refine Kept.drewN ?_ _) | (with_reducible refine Kept.setCell ?_ ?_ _) | (exact .inr (Nat.le_refl _)) | (exact .inr (by simp only; omega)) | (exact .inr (by omega))))⟩

set_option maxHeartbeats 1600000 in
theorem lkLock_nil (t : Int) (l : Int) (w : World) : Calls Tryd.prog 20 #[.pointer none, .int .i64 t, .int .i64 l] w fun e w' => e = .returned (.tuple #[.bool false, .int .i64 14]) ∧ Kept [] w w' := by
  have HC := Lib.hid (fun w => lkmay_nil t l w)
  go_enter Tryd.func20, Tryd.ntmps20
  go_wp2_with fail
  refine (HC.out _).mono ?_
  rintro e w1 ⟨rfl, hk1⟩
  have HK := Lib.hid hk1
  clear hk1
  go_wp2_with fail
  go_ret2
  exact ⟨rfl, by first | exact HK.out | exact ((Kept.refl [] w).alloc _).trans HK.out⟩

set_option maxHeartbeats 1600000 in
theorem lkTry_nil (t : Int) (l : Int) (w : World) : Calls Tryd.prog 22 #[.pointer none, .int .i64 t, .int .i64 l] w fun e w' => e = .returned (.int .i64 14) ∧ Kept [] w w' := by
  have HC := Lib.hid (fun w => lkmay_nil t l w)
  go_enter Tryd.func22, Tryd.ntmps22
  go_wp2_with fail
  refine (HC.out _).mono ?_
  rintro e w1 ⟨rfl, hk1⟩
  have HK := Lib.hid hk1
  clear hk1
  go_wp2_with fail
  go_ret
  exact ⟨rfl, by first | exact HK.out | exact ((Kept.refl [] w).alloc _).trans HK.out⟩

set_option maxHeartbeats 1600000 in
theorem lkSetLevel_nil (t : Int) (l : Int) (w : World) : Calls Tryd.prog 21 #[.pointer none, .int .i64 t, .int .i64 l] w fun e w' => e = .returned (.bool false) ∧ Kept [] w w' := by
  have HC := Lib.hid (fun w => lkthread_nil t w)
  go_enter Tryd.func21, Tryd.ntmps21
  go_wp2_with fail
  refine (HC.out _).mono ?_
  rintro e w1 ⟨rfl, hk1⟩
  have HK := Lib.hid hk1
  clear hk1
  go_wp2_with fail
  go_ret
  exact ⟨rfl, by first | exact HK.out | exact ((Kept.refl [] w).alloc _).trans HK.out⟩

set_option maxHeartbeats 1600000 in
theorem lkLevel_nil (t : Int) (w : World) : Calls Tryd.prog 19 #[.pointer none, .int .i64 t] w fun e w' => e = .returned (.int .i64 8) ∧ Kept [] w w' := by
  have HC := Lib.hid (fun w => lkthread_nil t w)
  go_enter Tryd.func19, Tryd.ntmps19
  go_wp2_with fail
  refine (HC.out _).mono ?_
  rintro e w1 ⟨rfl, hk1⟩
  have HK := Lib.hid hk1
  clear hk1
  go_wp2_with fail
  go_ret
  exact ⟨rfl, by first | exact HK.out | exact ((Kept.refl [] w).alloc _).trans HK.out⟩

set_option maxHeartbeats 1600000 in
theorem lkEff_nil (t : Int) (w : World) : Calls Tryd.prog 11 #[.pointer none, .int .i64 t] w fun e w' => e = .returned (.int .i64 8) ∧ Kept [] w w' := by
  have HC := Lib.hid (fun w => lkthread_nil t w)
  go_enter Tryd.func11, Tryd.ntmps11
  go_wp2_with fail
  refine (HC.out _).mono ?_
  rintro e w1 ⟨rfl, hk1⟩
  have HK := Lib.hid hk1
  clear hk1
  go_wp2_with fail
  go_ret
  exact ⟨rfl, by first | exact HK.out | exact ((Kept.refl [] w).alloc _).trans HK.out⟩

set_option maxHeartbeats 1600000 in
theorem lkWaits_nil (t : Int) (w : World) : Calls Tryd.prog 16 #[.pointer none, .int .i64 t] w fun e w' => e = .returned (.tuple #[.int .i64 (-1), .int .i64 (-1)]) ∧ Kept [] w w' := by
  have HC := Lib.hid (fun w => lkthread_nil t w)
  go_enter Tryd.func16, Tryd.ntmps16
  go_wp2_with fail
  refine (HC.out _).mono ?_
  rintro e w1 ⟨rfl, hk1⟩
  have HK := Lib.hid hk1
  clear hk1
  go_wp2_with fail
  go_ret2
  exact ⟨rfl, by first | exact HK.out | exact ((Kept.refl [] w).alloc _).trans HK.out⟩

set_option maxHeartbeats 1600000 in
theorem lkCancel_nil (t : Int) (w : World) : Calls Tryd.prog 23 #[.pointer none, .int .i64 t] w fun e w' => e = .returned (.bool false) ∧ Kept [] w w' := by
  have HC := Lib.hid (fun w => lkthread_nil t w)
  go_enter Tryd.func23, Tryd.ntmps23
  go_wp2_with fail
  refine (HC.out _).mono ?_
  rintro e w1 ⟨rfl, hk1⟩
  have HK := Lib.hid hk1
  clear hk1
  go_wp2_with fail
  go_ret
  exact ⟨rfl, by first | exact HK.out | exact ((Kept.refl [] w).alloc _).trans HK.out⟩

set_option maxHeartbeats 1600000 in
theorem lkDrop_nil (t : Int) (w : World) : Calls Tryd.prog 24 #[.pointer none, .int .i64 t] w fun e w' => e = .returned (.slice none 0 0) ∧ Kept [] w w' := by
  have HC := Lib.hid (fun w => lkthread_nil t w)
  go_enter Tryd.func24, Tryd.ntmps24
  go_wp2_with fail
  refine (HC.out _).mono ?_
  rintro e w1 ⟨rfl, hk1⟩
  have HK := Lib.hid hk1
  clear hk1
  go_wp2_with fail
  go_ret
  exact ⟨rfl, by first | exact HK.out | exact ((Kept.refl [] w).alloc _).trans HK.out⟩

set_option maxHeartbeats 1600000 in
theorem lkEnded_nil (t : Int) (w : World) : Calls Tryd.prog 26 #[.pointer none, .int .i64 t] w fun e w' => e = .returned (.slice none 0 0) ∧ Kept [] w w' := by
  have HC := Lib.hid (fun w => lkthread_nil t w)
  go_enter Tryd.func26, Tryd.ntmps26
  go_wp2_with fail
  refine (HC.out _).mono ?_
  rintro e w1 ⟨rfl, hk1⟩
  have HK := Lib.hid hk1
  clear hk1
  go_wp2_with fail
  go_ret
  exact ⟨rfl, by first | exact HK.out | exact ((Kept.refl [] w).alloc _).trans HK.out⟩

set_option maxHeartbeats 1600000 in
theorem lkOwner_nil (t : Int) (w : World) : Calls Tryd.prog 13 #[.pointer none, .int .i64 t] w fun e w' => e = .returned (.int .i64 (-1)) ∧ Kept [] w w' := by
  have HC := Lib.hid (fun w => lklock_nil t w)
  go_enter Tryd.func13, Tryd.ntmps13
  go_wp2_with fail
  refine (HC.out _).mono ?_
  rintro e w1 ⟨rfl, hk1⟩
  have HK := Lib.hid hk1
  clear hk1
  go_wp2_with fail
  go_ret
  exact ⟨rfl, by first | exact HK.out | exact ((Kept.refl [] w).alloc _).trans HK.out⟩

set_option maxHeartbeats 1600000 in
theorem lkLine_nil (t : Int) (w : World) : Calls Tryd.prog 10 #[.pointer none, .int .i64 t] w fun e w' => e = .returned (.slice none 0 0) ∧ Kept [] w w' := by
  have HC := Lib.hid (fun w => lklock_nil t w)
  go_enter Tryd.func10, Tryd.ntmps10
  go_wp2_with fail
  refine (HC.out _).mono ?_
  rintro e w1 ⟨rfl, hk1⟩
  have HK := Lib.hid hk1
  clear hk1
  go_wp2_with fail
  go_ret
  exact ⟨rfl, by first | exact HK.out | exact ((Kept.refl [] w).alloc _).trans HK.out⟩

set_option maxHeartbeats 1600000 in
theorem lkOwned_nil (t : Int) (w : World) : Calls Tryd.prog 15 #[.pointer none, .int .i64 t] w fun e w' => e = .returned (.int .u64 0) ∧ Kept [] w w' := by
  have HC := Lib.hid (fun w => lkthread_nil t w)
  go_enter Tryd.func15, Tryd.ntmps15
  go_wp2_with fail
  refine (HC.out _).mono ?_
  rintro e w1 ⟨rfl, hk1⟩
  have HK := Lib.hid hk1
  clear hk1
  go_wp2_with fail
  go_ret
  exact ⟨rfl, by first | exact HK.out | exact ((Kept.refl [] w).alloc _).trans HK.out⟩

set_option maxHeartbeats 3200000 in
set_option maxRecDepth 100000 in
/-- The law, where the example's answer is known. -/
theorem lockNil_walk (t l : Int) (w : World) (hA : ∀ w', Kept [] w w' → Calls Tryd.prog 14 #[] w' fun e w2 => e = .returned (.bool true) ∧ Kept [] w' w2) :
    Calls Tryd.prog 6 #[.int .i64 t, .int .i64 l] w fun e w' => e = .returned (.bool true) ∧ Kept [] w w' := by
  have H0 := Lib.hid (fun w => lkLock_nil t l w)
  have H1 := Lib.hid (fun w => lkUnlock_nil t l w)
  have H2 := Lib.hid (fun w => lkWaits_nil t w)
  have H3 := Lib.hid (fun w => lkSetLevel_nil t l w)
  have H4 := Lib.hid (fun w => lkLevel_nil t w)
  have H5 := Lib.hid (fun w => lkEff_nil t w)
  have H6 := Lib.hid (fun w => lkTry_nil t l w)
  have H7 := Lib.hid (fun w => lkCancel_nil t w)
  have H8 := Lib.hid (fun w => lkDrop_nil t w)
  have H9 := Lib.hid (fun w => lkJoin_nil t l w)
  have H10 := Lib.hid (fun w => lkEnded_nil t w)
  have H11 := Lib.hid (fun w => lkOwner_nil l w)
  have H12 := Lib.hid (fun w => lkLine_nil l w)
  have H13 := Lib.hid (fun w => lkOwned_nil t w)
  have HA := Lib.hid hA
  clear hA
  go_enter Tryd.func6, Tryd.ntmps6
  have HK := Lib.hid (Kept.refl [] w)
  go_wp2_with fail
  refine (H0.out _).mono ?_
  rintro e w1 ⟨rfl, hk1⟩
  replace HK := Lib.hid (HK.out.trans hk1)
  clear hk1
  go_wp2_with fail
  refine (H1.out _).mono ?_
  rintro e w2 ⟨rfl, hk1⟩
  replace HK := Lib.hid (HK.out.trans hk1)
  clear hk1
  go_wp2_with fail
  refine (H2.out _).mono ?_
  rintro e w3 ⟨rfl, hk1⟩
  replace HK := Lib.hid (HK.out.trans hk1)
  clear hk1
  go_wp2_with fail
  refine (H3.out _).mono ?_
  rintro e w4 ⟨rfl, hk1⟩
  replace HK := Lib.hid (HK.out.trans hk1)
  clear hk1
  go_wp2_with fail
  refine (H4.out _).mono ?_
  rintro e w5 ⟨rfl, hk1⟩
  replace HK := Lib.hid (HK.out.trans hk1)
  clear hk1
  go_wp2_with fail
  refine (H5.out _).mono ?_
  rintro e w6 ⟨rfl, hk1⟩
  replace HK := Lib.hid (HK.out.trans hk1)
  clear hk1
  go_wp2_with fail
  refine (H6.out _).mono ?_
  rintro e w7 ⟨rfl, hk1⟩
  replace HK := Lib.hid (HK.out.trans hk1)
  clear hk1
  go_wp2_with fail
  refine (H7.out _).mono ?_
  rintro e w8 ⟨rfl, hk1⟩
  replace HK := Lib.hid (HK.out.trans hk1)
  clear hk1
  go_wp2_with fail
  refine (H8.out _).mono ?_
  rintro e w9 ⟨rfl, hk1⟩
  replace HK := Lib.hid (HK.out.trans hk1)
  clear hk1
  go_wp2_with fail
  refine (H9.out _).mono ?_
  rintro e w10 ⟨rfl, hk1⟩
  replace HK := Lib.hid (HK.out.trans hk1)
  clear hk1
  go_wp2_with fail
  refine (H10.out _).mono ?_
  rintro e w11 ⟨rfl, hk1⟩
  replace HK := Lib.hid (HK.out.trans hk1)
  clear hk1
  go_wp2_with fail
  refine (H11.out _).mono ?_
  rintro e w12 ⟨rfl, hk1⟩
  replace HK := Lib.hid (HK.out.trans hk1)
  clear hk1
  go_wp2_with fail
  refine (H12.out _).mono ?_
  rintro e w13 ⟨rfl, hk1⟩
  replace HK := Lib.hid (HK.out.trans hk1)
  clear hk1
  go_wp2_with fail
  refine (H13.out _).mono ?_
  rintro e w14 ⟨rfl, hk1⟩
  replace HK := Lib.hid (HK.out.trans hk1)
  clear hk1
  go_wp2_with fail
  refine (HA.out _ HK.out).mono ?_
  rintro e w15 ⟨rfl, hk1⟩
  replace HK := Lib.hid (HK.out.trans hk1)
  clear hk1
  go_wp2_with fail
  go_ret
  exact ⟨rfl, HK.out⟩

end Go.Proofs.YtfoeijiejpenpaaDoor
