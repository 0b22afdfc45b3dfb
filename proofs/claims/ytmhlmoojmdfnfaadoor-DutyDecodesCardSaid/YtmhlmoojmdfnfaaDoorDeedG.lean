/- Package deed: Name, Good, Calls, Waits; the document's Name, Parts, only, Good. -/
import Derived.Test.YtmhlmoojmdfnfaaDoorDeedPlain
import Derived.Test.YtmhlmoojmdfnfaaDoorNumsRef
import Derived.Laws.StructEq
namespace Go.Proofs.YtmhlmoojmdfnfaaDoor
open Go.RowKit
attribute [local simp] takeP

/-- A deed as a value's cells. -/
abbrev dC (o a b r : Int) (n m : Nat) (l : Bool) : Array Value := #[.int .i64 o, .int .i64 a, .int .i64 b, .int .i64 r, .int .u64 n, .int .u64 m, .bool l]

theorem eqDeed (o a b r o' a' b' r' : Int) (n m n' m' : Int) (l l' : Bool) (w : World) :
    (Op.equalIn 10000 41 (.agg #[.int .i64 o, .int .i64 a, .int .i64 b, .int .i64 r, .int .u64 n, .int .u64 m, .bool l]) (.agg #[.int .i64 o', .int .i64 a', .int .i64 b', .int .i64 r', .int .u64 n', .int .u64 m', .bool l'])).run Tryd.prog w
      = .ok (o == o' && (a == a' && (b == b' && (r == r' && (n == n' && (m == m' && l == l')))))) w := by
  have hS : Tryd.prog.underlying 41 = some (.struct (Tryd.prog.fieldsOf 41)) := by kernel_rfl
  have hp : Tryd.prog.stoodInHeld 41 = false := by kernel_rfl
  have u3 := Tryd.underlying3
  have u24 := Tryd.underlying24
  have u4 := Tryd.underlying4
  rw [show (10000 : Nat) = 9999 + 1 from rfl, run_equalIn_agg w 9999 41 _ _ hS hp]
  simp only [Program.fieldsOf, Tryd.underlying41]
  go_simp
  by_cases h1 : o = o' <;> by_cases h2 : a = a' <;> by_cases h3 : b = b' <;> by_cases h4 : r = r' <;> by_cases h5 : n = n' <;> by_cases h6 : m = m' <;> simp [h1, h2, h3, h4, h5, h6]
  by_cases h7 : l = l' <;> simp [h7]

set_option maxHeartbeats 800000 in
theorem name_any (op : Int) (w : World) : Calls Tryd.prog 38 #[.int .i64 op] w fun e w' => e = .returned (strV (nameD op)) ∧ w = w' := by
  rcases (by omega : op = 1 ∨ op = 2 ∨ op = 3 ∨ op = 4 ∨ op = 5 ∨ op = 6 ∨ op = 7 ∨ op = 8 ∨ op = 9 ∨ op = 10 ∨ op = 11 ∨ (op < 1 ∨ 11 < op)) with rfl | rfl | rfl | rfl | rfl | rfl | rfl | rfl | rfl | rfl | rfl | h
  all_goals
    go_enter Tryd.func38, Tryd.ntmps38
    go_wp2
    go_ret
    first
      | exact ⟨rfl, rfl⟩
      | exact ⟨ret_str (by rw [show nameD op = [63] from by simp only [nameD]; (repeat rw [if_neg (by omega)])]), rfl⟩

theorem ret_bool {a b : Bool} (h : a = b) : Ending.returned (.bool a) = .returned (.bool b) := by rw [h]
attribute [local go_sem] eqDeed
set_option maxHeartbeats 1600000 in
theorem good_op1 (a b r : Int) (n m : Nat) (l : Bool) (w : World) : Calls Tryd.prog 36 #[.agg (dC 1 a b r n m l)] w fun e w' => e = .returned (.bool (goodD ⟨1, a, b, r, n, m, l⟩)) ∧ Kept [] w w' := by
  go_enter Tryd.func36, Tryd.ntmps36
  go_wp2
  all_goals
    go_ret
    refine ⟨ret_bool ?_, ?_⟩
    · rw [Bool.eq_iff_iff]
      simp [goodD, onlyD, partsL, Dd.same]
      try first | omega | (cases l <;> simp_all <;> omega) | (cases l <;> simp_all; done)
    · (repeat (first | (with_reducible exact Kept.refl _ _) | (with_reducible assumption) | (with_reducible refine Kept.alloc ?_ _) | (with_reducible refine Kept.drew ?_) | (with_reducible refine Kept.drewN ?_ _) | (with_reducible refine Kept.setCell ?_ ?_ _) | (exact .inr (Nat.le_refl _)) | (exact .inr (by simp only; omega)) | (exact .inr (by omega))))

set_option maxHeartbeats 1600000 in
theorem good_op2 (a b r : Int) (n m : Nat) (l : Bool) (w : World) : Calls Tryd.prog 36 #[.agg (dC 2 a b r n m l)] w fun e w' => e = .returned (.bool (goodD ⟨2, a, b, r, n, m, l⟩)) ∧ Kept [] w w' := by
  go_enter Tryd.func36, Tryd.ntmps36
  go_wp2
  all_goals
    go_ret
    refine ⟨ret_bool ?_, ?_⟩
    · rw [Bool.eq_iff_iff]
      simp [goodD, onlyD, partsL, Dd.same]
      try first | omega | (cases l <;> simp_all <;> omega) | (cases l <;> simp_all; done)
    · (repeat (first | (with_reducible exact Kept.refl _ _) | (with_reducible assumption) | (with_reducible refine Kept.alloc ?_ _) | (with_reducible refine Kept.drew ?_) | (with_reducible refine Kept.drewN ?_ _) | (with_reducible refine Kept.setCell ?_ ?_ _) | (exact .inr (Nat.le_refl _)) | (exact .inr (by simp only; omega)) | (exact .inr (by omega))))

set_option maxHeartbeats 1600000 in
theorem good_op3 (a b r : Int) (n m : Nat) (l : Bool) (w : World) : Calls Tryd.prog 36 #[.agg (dC 3 a b r n m l)] w fun e w' => e = .returned (.bool (goodD ⟨3, a, b, r, n, m, l⟩)) ∧ Kept [] w w' := by
  go_enter Tryd.func36, Tryd.ntmps36
  go_wp2
  all_goals
    go_ret
    refine ⟨ret_bool ?_, ?_⟩
    · rw [Bool.eq_iff_iff]
      simp [goodD, onlyD, partsL, Dd.same]
      try first | omega | (cases l <;> simp_all <;> omega) | (cases l <;> simp_all; done)
    · (repeat (first | (with_reducible exact Kept.refl _ _) | (with_reducible assumption) | (with_reducible refine Kept.alloc ?_ _) | (with_reducible refine Kept.drew ?_) | (with_reducible refine Kept.drewN ?_ _) | (with_reducible refine Kept.setCell ?_ ?_ _) | (exact .inr (Nat.le_refl _)) | (exact .inr (by simp only; omega)) | (exact .inr (by omega))))

set_option maxHeartbeats 1600000 in
theorem good_op4 (a b r : Int) (n m : Nat) (l : Bool) (w : World) : Calls Tryd.prog 36 #[.agg (dC 4 a b r n m l)] w fun e w' => e = .returned (.bool (goodD ⟨4, a, b, r, n, m, l⟩)) ∧ Kept [] w w' := by
  go_enter Tryd.func36, Tryd.ntmps36
  go_wp2
  all_goals
    go_ret
    refine ⟨ret_bool ?_, ?_⟩
    · rw [Bool.eq_iff_iff]
      simp [goodD, onlyD, partsL, Dd.same]
      try first | omega | (cases l <;> simp_all <;> omega) | (cases l <;> simp_all; done)
    · (repeat (first | (with_reducible exact Kept.refl _ _) | (with_reducible assumption) | (with_reducible refine Kept.alloc ?_ _) | (with_reducible refine Kept.drew ?_) | (with_reducible refine Kept.drewN ?_ _) | (with_reducible refine Kept.setCell ?_ ?_ _) | (exact .inr (Nat.le_refl _)) | (exact .inr (by simp only; omega)) | (exact .inr (by omega))))

set_option maxHeartbeats 1600000 in
theorem good_op5 (a b r : Int) (n m : Nat) (l : Bool) (w : World) : Calls Tryd.prog 36 #[.agg (dC 5 a b r n m l)] w fun e w' => e = .returned (.bool (goodD ⟨5, a, b, r, n, m, l⟩)) ∧ Kept [] w w' := by
  go_enter Tryd.func36, Tryd.ntmps36
  go_wp2
  all_goals
    go_ret
    refine ⟨ret_bool ?_, ?_⟩
    · rw [Bool.eq_iff_iff]
      simp [goodD, onlyD, partsL, Dd.same]
      try first | omega | (cases l <;> simp_all <;> omega) | (cases l <;> simp_all; done)
    · (repeat (first | (with_reducible exact Kept.refl _ _) | (with_reducible assumption) | (with_reducible refine Kept.alloc ?_ _) | (with_reducible refine Kept.drew ?_) | (with_reducible refine Kept.drewN ?_ _) | (with_reducible refine Kept.setCell ?_ ?_ _) | (exact .inr (Nat.le_refl _)) | (exact .inr (by simp only; omega)) | (exact .inr (by omega))))

set_option maxHeartbeats 1600000 in
theorem good_op6 (a b r : Int) (n m : Nat) (l : Bool) (w : World) : Calls Tryd.prog 36 #[.agg (dC 6 a b r n m l)] w fun e w' => e = .returned (.bool (goodD ⟨6, a, b, r, n, m, l⟩)) ∧ Kept [] w w' := by
  go_enter Tryd.func36, Tryd.ntmps36
  go_wp2
  all_goals
    go_ret
    refine ⟨ret_bool ?_, ?_⟩
    · rw [Bool.eq_iff_iff]
      simp [goodD, onlyD, partsL, Dd.same]
      try first | omega | (cases l <;> simp_all <;> omega) | (cases l <;> simp_all; done)
    · (repeat (first | (with_reducible exact Kept.refl _ _) | (with_reducible assumption) | (with_reducible refine Kept.alloc ?_ _) | (with_reducible refine Kept.drew ?_) | (with_reducible refine Kept.drewN ?_ _) | (with_reducible refine Kept.setCell ?_ ?_ _) | (exact .inr (Nat.le_refl _)) | (exact .inr (by simp only; omega)) | (exact .inr (by omega))))

set_option maxHeartbeats 1600000 in
theorem good_op7 (a b r : Int) (n m : Nat) (l : Bool) (w : World) : Calls Tryd.prog 36 #[.agg (dC 7 a b r n m l)] w fun e w' => e = .returned (.bool (goodD ⟨7, a, b, r, n, m, l⟩)) ∧ Kept [] w w' := by
  go_enter Tryd.func36, Tryd.ntmps36
  go_wp2
  all_goals
    go_ret
    refine ⟨ret_bool ?_, ?_⟩
    · rw [Bool.eq_iff_iff]
      simp [goodD, onlyD, partsL, Dd.same]
      try first | omega | (cases l <;> simp_all <;> omega) | (cases l <;> simp_all; done)
    · (repeat (first | (with_reducible exact Kept.refl _ _) | (with_reducible assumption) | (with_reducible refine Kept.alloc ?_ _) | (with_reducible refine Kept.drew ?_) | (with_reducible refine Kept.drewN ?_ _) | (with_reducible refine Kept.setCell ?_ ?_ _) | (exact .inr (Nat.le_refl _)) | (exact .inr (by simp only; omega)) | (exact .inr (by omega))))

set_option maxHeartbeats 1600000 in
theorem good_op8 (a b r : Int) (n m : Nat) (l : Bool) (w : World) : Calls Tryd.prog 36 #[.agg (dC 8 a b r n m l)] w fun e w' => e = .returned (.bool (goodD ⟨8, a, b, r, n, m, l⟩)) ∧ Kept [] w w' := by
  go_enter Tryd.func36, Tryd.ntmps36
  go_wp2
  all_goals
    go_ret
    refine ⟨ret_bool ?_, ?_⟩
    · rw [Bool.eq_iff_iff]
      simp [goodD, onlyD, partsL, Dd.same]
      try first | omega | (cases l <;> simp_all <;> omega) | (cases l <;> simp_all; done)
    · (repeat (first | (with_reducible exact Kept.refl _ _) | (with_reducible assumption) | (with_reducible refine Kept.alloc ?_ _) | (with_reducible refine Kept.drew ?_) | (with_reducible refine Kept.drewN ?_ _) | (with_reducible refine Kept.setCell ?_ ?_ _) | (exact .inr (Nat.le_refl _)) | (exact .inr (by simp only; omega)) | (exact .inr (by omega))))

set_option maxHeartbeats 1600000 in
theorem good_op9 (a b r : Int) (n m : Nat) (l : Bool) (w : World) : Calls Tryd.prog 36 #[.agg (dC 9 a b r n m l)] w fun e w' => e = .returned (.bool (goodD ⟨9, a, b, r, n, m, l⟩)) ∧ Kept [] w w' := by
  go_enter Tryd.func36, Tryd.ntmps36
  go_wp2
  all_goals
    go_ret
    refine ⟨ret_bool ?_, ?_⟩
    · rw [Bool.eq_iff_iff]
      simp [goodD, onlyD, partsL, Dd.same]
      try first | omega | (cases l <;> simp_all <;> omega) | (cases l <;> simp_all; done)
    · (repeat (first | (with_reducible exact Kept.refl _ _) | (with_reducible assumption) | (with_reducible refine Kept.alloc ?_ _) | (with_reducible refine Kept.drew ?_) | (with_reducible refine Kept.drewN ?_ _) | (with_reducible refine Kept.setCell ?_ ?_ _) | (exact .inr (Nat.le_refl _)) | (exact .inr (by simp only; omega)) | (exact .inr (by omega))))

set_option maxHeartbeats 1600000 in
theorem good_op10 (a b r : Int) (n m : Nat) (l : Bool) (w : World) : Calls Tryd.prog 36 #[.agg (dC 10 a b r n m l)] w fun e w' => e = .returned (.bool (goodD ⟨10, a, b, r, n, m, l⟩)) ∧ Kept [] w w' := by
  go_enter Tryd.func36, Tryd.ntmps36
  go_wp2
  all_goals
    go_ret
    refine ⟨ret_bool ?_, ?_⟩
    · rw [Bool.eq_iff_iff]
      simp [goodD, onlyD, partsL, Dd.same]
      try first | omega | (cases l <;> simp_all <;> omega) | (cases l <;> simp_all; done)
    · (repeat (first | (with_reducible exact Kept.refl _ _) | (with_reducible assumption) | (with_reducible refine Kept.alloc ?_ _) | (with_reducible refine Kept.drew ?_) | (with_reducible refine Kept.drewN ?_ _) | (with_reducible refine Kept.setCell ?_ ?_ _) | (exact .inr (Nat.le_refl _)) | (exact .inr (by simp only; omega)) | (exact .inr (by omega))))

set_option maxHeartbeats 1600000 in
theorem good_op11 (a b r : Int) (n m : Nat) (l : Bool) (w : World) : Calls Tryd.prog 36 #[.agg (dC 11 a b r n m l)] w fun e w' => e = .returned (.bool (goodD ⟨11, a, b, r, n, m, l⟩)) ∧ Kept [] w w' := by
  go_enter Tryd.func36, Tryd.ntmps36
  go_wp2
  all_goals
    go_ret
    refine ⟨ret_bool ?_, ?_⟩
    · rw [Bool.eq_iff_iff]
      simp [goodD, onlyD, partsL, Dd.same]
      try first | omega | (cases l <;> simp_all <;> omega) | (cases l <;> simp_all; done)
    · (repeat (first | (with_reducible exact Kept.refl _ _) | (with_reducible assumption) | (with_reducible refine Kept.alloc ?_ _) | (with_reducible refine Kept.drew ?_) | (with_reducible refine Kept.drewN ?_ _) | (with_reducible refine Kept.setCell ?_ ?_ _) | (exact .inr (Nat.le_refl _)) | (exact .inr (by simp only; omega)) | (exact .inr (by omega))))

set_option maxHeartbeats 1600000 in
theorem good_no (o a b r : Int) (n m : Nat) (l : Bool) (w : World) (h : o < 1 ∨ 11 < o) : Calls Tryd.prog 36 #[.agg (dC o a b r n m l)] w fun e w' => e = .returned (.bool (goodD ⟨o, a, b, r, n, m, l⟩)) ∧ Kept [] w w' := by
  have HG : Hid (goodD ⟨o, a, b, r, n, m, l⟩ = false) := by
    simp only [Hid, goodD]
    rw [decide_eq_false (fun hh => by have h1 : 1 ≤ o := hh.1; have h2 : o ≤ 11 := hh.2; omega)]
    simp
  go_enter Tryd.func36, Tryd.ntmps36
  go_wp2
  go_ret
  rw [HG.out]
  refine ⟨rfl, ?_⟩
  (repeat (first | (with_reducible exact Kept.refl _ _) | (with_reducible assumption) | (with_reducible refine Kept.alloc ?_ _) | (with_reducible refine Kept.drew ?_) | (with_reducible refine Kept.drewN ?_ _) | (with_reducible refine Kept.setCell ?_ ?_ _) | (exact .inr (Nat.le_refl _)) | (exact .inr (by simp only; omega)) | (exact .inr (by omega))))

theorem good_any (o a b r : Int) (n m : Nat) (l : Bool) (w : World) : Calls Tryd.prog 36 #[.agg (dC o a b r n m l)] w fun e w' => e = .returned (.bool (goodD ⟨o, a, b, r, n, m, l⟩)) ∧ Kept [] w w' := by
  rcases (by omega : o = 1 ∨ o = 2 ∨ o = 3 ∨ o = 4 ∨ o = 5 ∨ o = 6 ∨ o = 7 ∨ o = 8 ∨ o = 9 ∨ o = 10 ∨ o = 11 ∨ (o < 1 ∨ 11 < o)) with rfl | rfl | rfl | rfl | rfl | rfl | rfl | rfl | rfl | rfl | rfl | h
  · exact good_op1 a b r n m l w
  · exact good_op2 a b r n m l w
  · exact good_op3 a b r n m l w
  · exact good_op4 a b r n m l w
  · exact good_op5 a b r n m l w
  · exact good_op6 a b r n m l w
  · exact good_op7 a b r n m l w
  · exact good_op8 a b r n m l w
  · exact good_op9 a b r n m l w
  · exact good_op10 a b r n m l w
  · exact good_op11 a b r n m l w
  · exact good_no o a b r n m l w h

set_option maxHeartbeats 800000 in
theorem calls_any (o a b r : Int) (n m : Nat) (l : Bool) (w : World) : Calls Tryd.prog 37 #[.agg (dC o a b r n m l)] w fun e w' => e = .returned (.bool (goodD ⟨o, a, b, r, n, m, l⟩ && o != 1)) ∧ Kept [] w w' := by
  have HG := Lib.hid (fun w => good_any o a b r n m l w)
  generalize goodD ⟨o, a, b, r, n, m, l⟩ = g at *
  cases g
  all_goals
    go_enter Tryd.func37, Tryd.ntmps37
    go_wp2_with fail
    refine (HG.out _).mono ?_
    rintro e w1 ⟨rfl, hk1⟩
    have hB := (Blk.new w 41 (dC o a b r n m l)).kept hk1 (by simp)
    have hc0 : w1.cell? ⟨w.heap.size, 0, none⟩ = some (.int .i64 o) := by rw [hB.cell]; rfl
    have HB := Lib.hid hB
    clear hB
    go_wp2
    go_ret
    exact ⟨by first | rfl | simp, ((Kept.refl _ _).alloc _).trans hk1⟩

set_option maxHeartbeats 800000 in
theorem waits_any (o : Int) (w : World) : Calls Tryd.prog 40 #[.int .i64 o] w fun e w' => e = .returned (.bool (decide (o = 4 ∨ o = 6 ∨ o = 9 ∨ o = 10))) ∧ w = w' := by
  rcases (by omega : o = 4 ∨ o = 6 ∨ o = 9 ∨ o = 10 ∨ ¬ (o = 4 ∨ o = 6 ∨ o = 9 ∨ o = 10)) with rfl | rfl | rfl | rfl | h
  · go_enter Tryd.func40, Tryd.ntmps40
    go_wp2
    go_ret
    exact ⟨rfl, rfl⟩
  · go_enter Tryd.func40, Tryd.ntmps40
    go_wp2
    go_ret
    exact ⟨rfl, rfl⟩
  · go_enter Tryd.func40, Tryd.ntmps40
    go_wp2
    go_ret
    exact ⟨rfl, rfl⟩
  · go_enter Tryd.func40, Tryd.ntmps40
    go_wp2
    go_ret
    exact ⟨rfl, rfl⟩
  · have HF : Hid (decide (o = 4 ∨ o = 6 ∨ o = 9 ∨ o = 10) = false) := decide_eq_false h
    have h1 : (o == 4) = false := beq_eq_false_iff_ne.2 (by omega)
    have h2 : (o == 6) = false := beq_eq_false_iff_ne.2 (by omega)
    have h3 : (o == 9) = false := beq_eq_false_iff_ne.2 (by omega)
    have h4 : (o == 10) = false := beq_eq_false_iff_ne.2 (by omega)
    clear h
    go_enter Tryd.func40, Tryd.ntmps40
    go_wp2
    go_ret
    rw [HF.out]
    exact ⟨rfl, rfl⟩

end Go.Proofs.YtmhlmoojmdfnfaaDoor
