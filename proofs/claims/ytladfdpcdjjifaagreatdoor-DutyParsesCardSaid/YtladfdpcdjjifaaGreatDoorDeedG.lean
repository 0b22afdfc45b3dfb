/- Package deed: Name, Good, Calls, Waits; the document's Name, Parts, only, Good. -/
import Derived.Test.YtladfdpcdjjifaaGreatDoorPlains
import Derived.Test.YtladfdpcdjjifaaGreatDoorNumsRef
import Derived.Laws.StructEq
namespace Go.Proofs.YtladfdpcdjjifaaGreatDoor
open Go.RowKit
attribute [local simp] takeP

/-- A deed as a value's cells. -/
abbrev dC (o a b r : Int) (n m : Nat) (l : Bool) : Array Value := #[.int .i64 o, .int .i64 a, .int .i64 b, .int .i64 r, .int .u64 n, .int .u64 m, .bool l]

theorem eqDeed (o a b r o' a' b' r' : Int) (n m n' m' : Int) (l l' : Bool) (w : World) :
    (Op.equalIn 10000 60 (.agg #[.int .i64 o, .int .i64 a, .int .i64 b, .int .i64 r, .int .u64 n, .int .u64 m, .bool l]) (.agg #[.int .i64 o', .int .i64 a', .int .i64 b', .int .i64 r', .int .u64 n', .int .u64 m', .bool l'])).run Tryz.prog w
      = .ok (o == o' && (a == a' && (b == b' && (r == r' && (n == n' && (m == m' && l == l')))))) w := by
  have hS : Tryz.prog.underlying 60 = some (.struct (Tryz.prog.fieldsOf 60)) := by kernel_rfl
  have hp : Tryz.prog.stoodInHeld 60 = false := by kernel_rfl
  have u3 := Tryz.underlying3
  have u24 := Tryz.underlying22
  have u4 := Tryz.underlying4
  rw [show (10000 : Nat) = 9999 + 1 from rfl, run_equalIn_agg w 9999 60 _ _ hS hp]
  simp only [Program.fieldsOf, Tryz.underlying60]
  go_simp
  by_cases h1 : o = o' <;> by_cases h2 : a = a' <;> by_cases h3 : b = b' <;> by_cases h4 : r = r' <;> by_cases h5 : n = n' <;> by_cases h6 : m = m' <;> simp [h1, h2, h3, h4, h5, h6]
  by_cases h7 : l = l' <;> simp [h7]

set_option maxHeartbeats 800000 in
theorem name_any (op : Int) (w : World) : Calls Tryz.prog 82 #[.int .i64 op] w fun e w' => e = .returned (strV (nameD op)) ∧ w = w' := by
  rcases (by omega : op = 1 ∨ op = 2 ∨ op = 3 ∨ op = 4 ∨ op = 5 ∨ op = 6 ∨ op = 7 ∨ op = 8 ∨ op = 9 ∨ op = 10 ∨ op = 11 ∨ (op < 1 ∨ 11 < op)) with rfl | rfl | rfl | rfl | rfl | rfl | rfl | rfl | rfl | rfl | rfl | h
  all_goals
    go_enter Tryz.func82, Tryz.ntmps82
    go_wp2
    go_ret
    first
      | exact ⟨rfl, rfl⟩
      | exact ⟨ret_str (by rw [show nameD op = [63] from by simp only [nameD]; (repeat rw [if_neg (by omega)])]), rfl⟩

theorem ret_bool {a b : Bool} (h : a = b) : Ending.returned (.bool a) = .returned (.bool b) := by rw [h]
attribute [local go_sem] eqDeed
set_option maxHeartbeats 1600000 in
theorem good_op1 (a b r : Int) (n m : Nat) (l : Bool) (w : World) : Calls Tryz.prog 61 #[.agg (dC 1 a b r n m l)] w fun e w' => e = .returned (.bool (goodD ⟨1, a, b, r, n, m, l⟩)) ∧ Kept [] w w' := by
  go_enter Tryz.func61, Tryz.ntmps61
  go_wp2
  all_goals
    go_ret
    refine ⟨ret_bool ?_, ?_⟩
    · rw [Bool.eq_iff_iff]
      simp [goodD, onlyD, partsL, Dd.same]
      try first | omega | (cases l <;> simp_all <;> omega) | (cases l <;> simp_all; done)
    · (repeat (first | (with_reducible exact Kept.refl _ _) | (with_reducible assumption) | (with_reducible refine Kept.alloc ?_ _) | (with_reducible refine Kept.drew ?_) | (with_reducible refine Kept.drewN ?_ _) | (with_reducible refine Kept.setCell ?_ ?_ _) | (exact .inr (Nat.le_refl _)) | (exact .inr (by simp only; omega)) | (exact .inr (by omega))))

set_option maxHeartbeats 1600000 in
theorem good_op2 (a b r : Int) (n m : Nat) (l : Bool) (w : World) : Calls Tryz.prog 61 #[.agg (dC 2 a b r n m l)] w fun e w' => e = .returned (.bool (goodD ⟨2, a, b, r, n, m, l⟩)) ∧ Kept [] w w' := by
  go_enter Tryz.func61, Tryz.ntmps61
  go_wp2
  all_goals
    go_ret
    refine ⟨ret_bool ?_, ?_⟩
    · rw [Bool.eq_iff_iff]
      simp [goodD, onlyD, partsL, Dd.same]
      try first | omega | (cases l <;> simp_all <;> omega) | (cases l <;> simp_all; done)
    · (repeat (first | (with_reducible exact Kept.refl _ _) | (with_reducible assumption) | (with_reducible refine Kept.alloc ?_ _) | (with_reducible refine Kept.drew ?_) | (with_reducible refine Kept.drewN ?_ _) | (with_reducible refine Kept.setCell ?_ ?_ _) | (exact .inr (Nat.le_refl _)) | (exact .inr (by simp only; omega)) | (exact .inr (by omega))))

set_option maxHeartbeats 1600000 in
theorem good_op3 (a b r : Int) (n m : Nat) (l : Bool) (w : World) : Calls Tryz.prog 61 #[.agg (dC 3 a b r n m l)] w fun e w' => e = .returned (.bool (goodD ⟨3, a, b, r, n, m, l⟩)) ∧ Kept [] w w' := by
  go_enter Tryz.func61, Tryz.ntmps61
  go_wp2
  all_goals
    go_ret
    refine ⟨ret_bool ?_, ?_⟩
    · rw [Bool.eq_iff_iff]
      simp [goodD, onlyD, partsL, Dd.same]
      try first | omega | (cases l <;> simp_all <;> omega) | (cases l <;> simp_all; done)
    · (repeat (first | (with_reducible exact Kept.refl _ _) | (with_reducible assumption) | (with_reducible refine Kept.alloc ?_ _) | (with_reducible refine Kept.drew ?_) | (with_reducible refine Kept.drewN ?_ _) | (with_reducible refine Kept.setCell ?_ ?_ _) | (exact .inr (Nat.le_refl _)) | (exact .inr (by simp only; omega)) | (exact .inr (by omega))))

set_option maxHeartbeats 1600000 in
theorem good_op4 (a b r : Int) (n m : Nat) (l : Bool) (w : World) : Calls Tryz.prog 61 #[.agg (dC 4 a b r n m l)] w fun e w' => e = .returned (.bool (goodD ⟨4, a, b, r, n, m, l⟩)) ∧ Kept [] w w' := by
  go_enter Tryz.func61, Tryz.ntmps61
  go_wp2
  all_goals
    go_ret
    refine ⟨ret_bool ?_, ?_⟩
    · rw [Bool.eq_iff_iff]
      simp [goodD, onlyD, partsL, Dd.same]
      try first | omega | (cases l <;> simp_all <;> omega) | (cases l <;> simp_all; done)
    · (repeat (first | (with_reducible exact Kept.refl _ _) | (with_reducible assumption) | (with_reducible refine Kept.alloc ?_ _) | (with_reducible refine Kept.drew ?_) | (with_reducible refine Kept.drewN ?_ _) | (with_reducible refine Kept.setCell ?_ ?_ _) | (exact .inr (Nat.le_refl _)) | (exact .inr (by simp only; omega)) | (exact .inr (by omega))))

set_option maxHeartbeats 1600000 in
theorem good_op5 (a b r : Int) (n m : Nat) (l : Bool) (w : World) : Calls Tryz.prog 61 #[.agg (dC 5 a b r n m l)] w fun e w' => e = .returned (.bool (goodD ⟨5, a, b, r, n, m, l⟩)) ∧ Kept [] w w' := by
  go_enter Tryz.func61, Tryz.ntmps61
  go_wp2
  all_goals
    go_ret
    refine ⟨ret_bool ?_, ?_⟩
    · rw [Bool.eq_iff_iff]
      simp [goodD, onlyD, partsL, Dd.same]
      try first | omega | (cases l <;> simp_all <;> omega) | (cases l <;> simp_all; done)
    · (repeat (first | (with_reducible exact Kept.refl _ _) | (with_reducible assumption) | (with_reducible refine Kept.alloc ?_ _) | (with_reducible refine Kept.drew ?_) | (with_reducible refine Kept.drewN ?_ _) | (with_reducible refine Kept.setCell ?_ ?_ _) | (exact .inr (Nat.le_refl _)) | (exact .inr (by simp only; omega)) | (exact .inr (by omega))))

set_option maxHeartbeats 1600000 in
theorem good_op6 (a b r : Int) (n m : Nat) (l : Bool) (w : World) : Calls Tryz.prog 61 #[.agg (dC 6 a b r n m l)] w fun e w' => e = .returned (.bool (goodD ⟨6, a, b, r, n, m, l⟩)) ∧ Kept [] w w' := by
  go_enter Tryz.func61, Tryz.ntmps61
  go_wp2
  all_goals
    go_ret
    refine ⟨ret_bool ?_, ?_⟩
    · rw [Bool.eq_iff_iff]
      simp [goodD, onlyD, partsL, Dd.same]
      try first | omega | (cases l <;> simp_all <;> omega) | (cases l <;> simp_all; done)
    · (repeat (first | (with_reducible exact Kept.refl _ _) | (with_reducible assumption) | (with_reducible refine Kept.alloc ?_ _) | (with_reducible refine Kept.drew ?_) | (with_reducible refine Kept.drewN ?_ _) | (with_reducible refine Kept.setCell ?_ ?_ _) | (exact .inr (Nat.le_refl _)) | (exact .inr (by simp only; omega)) | (exact .inr (by omega))))

set_option maxHeartbeats 1600000 in
theorem good_op7 (a b r : Int) (n m : Nat) (l : Bool) (w : World) : Calls Tryz.prog 61 #[.agg (dC 7 a b r n m l)] w fun e w' => e = .returned (.bool (goodD ⟨7, a, b, r, n, m, l⟩)) ∧ Kept [] w w' := by
  go_enter Tryz.func61, Tryz.ntmps61
  go_wp2
  all_goals
    go_ret
    refine ⟨ret_bool ?_, ?_⟩
    · rw [Bool.eq_iff_iff]
      simp [goodD, onlyD, partsL, Dd.same]
      try first | omega | (cases l <;> simp_all <;> omega) | (cases l <;> simp_all; done)
    · (repeat (first | (with_reducible exact Kept.refl _ _) | (with_reducible assumption) | (with_reducible refine Kept.alloc ?_ _) | (with_reducible refine Kept.drew ?_) | (with_reducible refine Kept.drewN ?_ _) | (with_reducible refine Kept.setCell ?_ ?_ _) | (exact .inr (Nat.le_refl _)) | (exact .inr (by simp only; omega)) | (exact .inr (by omega))))

set_option maxHeartbeats 1600000 in
theorem good_op8 (a b r : Int) (n m : Nat) (l : Bool) (w : World) : Calls Tryz.prog 61 #[.agg (dC 8 a b r n m l)] w fun e w' => e = .returned (.bool (goodD ⟨8, a, b, r, n, m, l⟩)) ∧ Kept [] w w' := by
  go_enter Tryz.func61, Tryz.ntmps61
  go_wp2
  all_goals
    go_ret
    refine ⟨ret_bool ?_, ?_⟩
    · rw [Bool.eq_iff_iff]
      simp [goodD, onlyD, partsL, Dd.same]
      try first | omega | (cases l <;> simp_all <;> omega) | (cases l <;> simp_all; done)
    · (repeat (first | (with_reducible exact Kept.refl _ _) | (with_reducible assumption) | (with_reducible refine Kept.alloc ?_ _) | (with_reducible refine Kept.drew ?_) | (with_reducible refine Kept.drewN ?_ _) | (with_reducible refine Kept.setCell ?_ ?_ _) | (exact .inr (Nat.le_refl _)) | (exact .inr (by simp only; omega)) | (exact .inr (by omega))))

set_option maxHeartbeats 1600000 in
theorem good_op9 (a b r : Int) (n m : Nat) (l : Bool) (w : World) : Calls Tryz.prog 61 #[.agg (dC 9 a b r n m l)] w fun e w' => e = .returned (.bool (goodD ⟨9, a, b, r, n, m, l⟩)) ∧ Kept [] w w' := by
  go_enter Tryz.func61, Tryz.ntmps61
  go_wp2
  all_goals
    go_ret
    refine ⟨ret_bool ?_, ?_⟩
    · rw [Bool.eq_iff_iff]
      simp [goodD, onlyD, partsL, Dd.same]
      try first | omega | (cases l <;> simp_all <;> omega) | (cases l <;> simp_all; done)
    · (repeat (first | (with_reducible exact Kept.refl _ _) | (with_reducible assumption) | (with_reducible refine Kept.alloc ?_ _) | (with_reducible refine Kept.drew ?_) | (with_reducible refine Kept.drewN ?_ _) | (with_reducible refine Kept.setCell ?_ ?_ _) | (exact .inr (Nat.le_refl _)) | (exact .inr (by simp only; omega)) | (exact .inr (by omega))))

set_option maxHeartbeats 1600000 in
theorem good_op10 (a b r : Int) (n m : Nat) (l : Bool) (w : World) : Calls Tryz.prog 61 #[.agg (dC 10 a b r n m l)] w fun e w' => e = .returned (.bool (goodD ⟨10, a, b, r, n, m, l⟩)) ∧ Kept [] w w' := by
  go_enter Tryz.func61, Tryz.ntmps61
  go_wp2
  all_goals
    go_ret
    refine ⟨ret_bool ?_, ?_⟩
    · rw [Bool.eq_iff_iff]
      simp [goodD, onlyD, partsL, Dd.same]
      try first | omega | (cases l <;> simp_all <;> omega) | (cases l <;> simp_all; done)
    · (repeat (first | (with_reducible exact Kept.refl _ _) | (with_reducible assumption) | (with_reducible refine Kept.alloc ?_ _) | (with_reducible refine Kept.drew ?_) | (with_reducible refine Kept.drewN ?_ _) | (with_reducible refine Kept.setCell ?_ ?_ _) | (exact .inr (Nat.le_refl _)) | (exact .inr (by simp only; omega)) | (exact .inr (by omega))))

set_option maxHeartbeats 1600000 in
theorem good_op11 (a b r : Int) (n m : Nat) (l : Bool) (w : World) : Calls Tryz.prog 61 #[.agg (dC 11 a b r n m l)] w fun e w' => e = .returned (.bool (goodD ⟨11, a, b, r, n, m, l⟩)) ∧ Kept [] w w' := by
  go_enter Tryz.func61, Tryz.ntmps61
  go_wp2
  all_goals
    go_ret
    refine ⟨ret_bool ?_, ?_⟩
    · rw [Bool.eq_iff_iff]
      simp [goodD, onlyD, partsL, Dd.same]
      try first | omega | (cases l <;> simp_all <;> omega) | (cases l <;> simp_all; done)
    · (repeat (first | (with_reducible exact Kept.refl _ _) | (with_reducible assumption) | (with_reducible refine Kept.alloc ?_ _) | (with_reducible refine Kept.drew ?_) | (with_reducible refine Kept.drewN ?_ _) | (with_reducible refine Kept.setCell ?_ ?_ _) | (exact .inr (Nat.le_refl _)) | (exact .inr (by simp only; omega)) | (exact .inr (by omega))))

set_option maxHeartbeats 1600000 in
theorem good_no (o a b r : Int) (n m : Nat) (l : Bool) (w : World) (h : o < 1 ∨ 11 < o) : Calls Tryz.prog 61 #[.agg (dC o a b r n m l)] w fun e w' => e = .returned (.bool (goodD ⟨o, a, b, r, n, m, l⟩)) ∧ Kept [] w w' := by
  have HG : Hid (goodD ⟨o, a, b, r, n, m, l⟩ = false) := by
    simp only [Hid, goodD]
    rw [decide_eq_false (fun hh => by have h1 : 1 ≤ o := hh.1; have h2 : o ≤ 11 := hh.2; omega)]
    simp
  go_enter Tryz.func61, Tryz.ntmps61
  go_wp2
  go_ret
  rw [HG.out]
  refine ⟨rfl, ?_⟩
  (repeat (first | (with_reducible exact Kept.refl _ _) | (with_reducible assumption) | (with_reducible refine Kept.alloc ?_ _) | (with_reducible refine Kept.drew ?_) | (with_reducible refine Kept.drewN ?_ _) | (with_reducible refine Kept.setCell ?_ ?_ _) | (exact .inr (Nat.le_refl _)) | (exact .inr (by simp only; omega)) | (exact .inr (by omega))))

theorem good_any (o a b r : Int) (n m : Nat) (l : Bool) (w : World) : Calls Tryz.prog 61 #[.agg (dC o a b r n m l)] w fun e w' => e = .returned (.bool (goodD ⟨o, a, b, r, n, m, l⟩)) ∧ Kept [] w w' := by
  rcases (by omega : o = 1 ∨ o = 2 ∨ o = 3 ∨ o = 4 ∨ o = 5 ∨ o = 6 ∨ o = 7 ∨ o = 8 ∨ o = 9 ∨ o = 10 ∨ o = 11 ∨ (o < 1 ∨ 11 < o)) with rfl | rfl | rfl | rfl | rfl | rfl | rfl | rfl | rfl | rfl | rfl | h
  · exact good_op1 a b r n m l w
  · exact good_op2 a b r n m l w
  · exact good_op3 a b r n m l w
  · exact good_op4 a b r n m l w
  · exact good_op5 a b r n m l w
  · exact good_op6 a b r n m l w
  · exact good_op7 a b r n m l w
  · exact good_op8 a b r n m l w
  · exact good_op9 a b r n m l w
  · exact good_op10 a b r n m l w
  · exact good_op11 a b r n m l w
  · exact good_no o a b r n m l w h

end Go.Proofs.YtladfdpcdjjifaaGreatDoor
