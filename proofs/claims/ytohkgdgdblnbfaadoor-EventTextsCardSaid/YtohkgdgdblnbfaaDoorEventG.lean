/- Package event: Name, Good, op; the document's. -/
import Derived.Test.YtohkgdgdblnbfaaDoorDeedN
import Derived.Test.YtohkgdgdblnbfaaDoorNumsP
namespace Go.Proofs.YtohkgdgdblnbfaaDoor
open Go.RowKit

/-- An event. -/
structure Ev where
  step : Int
  cpu : Int
  kind : Int
  slot : Int
  gen : Nat
  op : Int
  code : Int
  n : Nat

/-- An event's cells. -/
abbrev eC (s c k t : Int) (g : Nat) (o d : Int) (n : Nat) : Array Value := #[.int .i64 s, .int .i64 c, .int .i64 k, .int .i64 t, .int .u32 g, .int .i64 o, .int .i64 d, .int .u64 n]

/-- A kind's name. -/
def kindD (k : Int) : List UInt8 :=
  if k = 1 then [99, 97, 108, 108] else if k = 2 then [101, 102, 102, 101, 99, 116] else if k = 3 then [114, 101, 116, 117, 114, 110] else if k = 4 then [100, 105, 115, 112, 97, 116, 99, 104]
  else if k = 5 then [112, 114, 101, 101, 109, 112, 116] else if k = 6 then [114, 101, 97, 100, 121] else if k = 7 then [116, 105, 99, 107] else if k = 8 then [105, 100, 108, 101] else if k = 9 then [119, 97, 105, 116]
  else if k = 10 then [101, 120, 105, 116] else [63]
/-- May an event be? -/
def goodE (e : Ev) : Bool := decide (0 ≤ e.step ∧ 0 ≤ e.cpu ∧ e.cpu ≤ 63 ∧ 1 ≤ e.kind ∧ e.kind ≤ 10 ∧ 0 ≤ e.slot ∧ e.slot ≤ 63 ∧ 0 ≤ e.op ∧ e.op ≤ 11 ∧ 0 ≤ e.code ∧ e.code ≤ 15)
/-- An op's name in an event. -/
def opE (o : Int) : List UInt8 := if o = 0 then [45] else nameD o

/-- All names. -/
def namesA : Array Value := #[.string ⟨#[63]⟩, .string ⟨#[99, 97, 108, 108]⟩, .string ⟨#[101, 102, 102, 101, 99, 116]⟩, .string ⟨#[114, 101, 116, 117, 114, 110]⟩, .string ⟨#[100, 105, 115, 112, 97, 116, 99, 104]⟩, .string ⟨#[112, 114, 101, 101, 109, 112, 116]⟩, .string ⟨#[114, 101, 97, 100, 121]⟩, .string ⟨#[116, 105, 99, 107]⟩, .string ⟨#[105, 100, 108, 101]⟩, .string ⟨#[119, 97, 105, 116]⟩, .string ⟨#[101, 120, 105, 116]⟩]
set_option maxHeartbeats 1600000 in
theorem enames_any (w : World) : Calls Tryd.prog 43 #[] w fun e w' => e = .returned (.agg namesA) ∧ Kept [] w w' := by
  go_enter Tryd.func43, Tryd.ntmps43
  go_wp2
  exact bodyPost_ret (v := .agg namesA) (by simp [results, Tryd.results43, go_sem, namesA]) rfl ⟨rfl, by (repeat (first | (with_reducible exact Kept.refl _ _) | (with_reducible assumption) | (with_reducible refine Kept.alloc ?_ _) | (with_reducible refine Kept.drew ?_) | (with_reducible refine Kept.drewN ?_ _) | (with_reducible refine Kept.setCell ?_ ?_ _) | (exact .inr (Nat.le_refl _)) | (exact .inr (by simp only; omega)) | (exact .inr (by omega))))⟩

set_option maxHeartbeats 1600000 in
theorem ename_1 (w : World) : Calls Tryd.prog 22 #[.int .i64 1] w fun e w' => e = .returned (strV (kindD 1)) ∧ Kept [] w w' := by
  have hidx : ∀ W, (Instr.index 60 (.agg namesA) (.int .i64 1)).run Tryd.prog W = .ok (strV (kindD 1)) W := fun _ => by kernel_rfl
  generalize kindD 1 = nm at *
  have HN := Lib.hid (fun w => enames_any w)
  generalize namesA = na at *
  go_enter Tryd.func22, Tryd.ntmps22
  go_wp2_with fail
  refine (HN.out _).mono ?_
  rintro e w1 ⟨rfl, hk1⟩
  go_wp2_with fail
  go_ret
  exact ⟨rfl, hk1⟩

set_option maxHeartbeats 1600000 in
theorem ename_2 (w : World) : Calls Tryd.prog 22 #[.int .i64 2] w fun e w' => e = .returned (strV (kindD 2)) ∧ Kept [] w w' := by
  have hidx : ∀ W, (Instr.index 60 (.agg namesA) (.int .i64 2)).run Tryd.prog W = .ok (strV (kindD 2)) W := fun _ => by kernel_rfl
  generalize kindD 2 = nm at *
  have HN := Lib.hid (fun w => enames_any w)
  generalize namesA = na at *
  go_enter Tryd.func22, Tryd.ntmps22
  go_wp2_with fail
  refine (HN.out _).mono ?_
  rintro e w1 ⟨rfl, hk1⟩
  go_wp2_with fail
  go_ret
  exact ⟨rfl, hk1⟩

set_option maxHeartbeats 1600000 in
theorem ename_3 (w : World) : Calls Tryd.prog 22 #[.int .i64 3] w fun e w' => e = .returned (strV (kindD 3)) ∧ Kept [] w w' := by
  have hidx : ∀ W, (Instr.index 60 (.agg namesA) (.int .i64 3)).run Tryd.prog W = .ok (strV (kindD 3)) W := fun _ => by kernel_rfl
  generalize kindD 3 = nm at *
  have HN := Lib.hid (fun w => enames_any w)
  generalize namesA = na at *
  go_enter Tryd.func22, Tryd.ntmps22
  go_wp2_with fail
  refine (HN.out _).mono ?_
  rintro e w1 ⟨rfl, hk1⟩
  go_wp2_with fail
  go_ret
  exact ⟨rfl, hk1⟩

set_option maxHeartbeats 1600000 in
theorem ename_4 (w : World) : Calls Tryd.prog 22 #[.int .i64 4] w fun e w' => e = .returned (strV (kindD 4)) ∧ Kept [] w w' := by
  have hidx : ∀ W, (Instr.index 60 (.agg namesA) (.int .i64 4)).run Tryd.prog W = .ok (strV (kindD 4)) W := fun _ => by kernel_rfl
  generalize kindD 4 = nm at *
  have HN := Lib.hid (fun w => enames_any w)
  generalize namesA = na at *
  go_enter Tryd.func22, Tryd.ntmps22
  go_wp2_with fail
  refine (HN.out _).mono ?_
  rintro e w1 ⟨rfl, hk1⟩
  go_wp2_with fail
  go_ret
  exact ⟨rfl, hk1⟩

set_option maxHeartbeats 1600000 in
theorem ename_5 (w : World) : Calls Tryd.prog 22 #[.int .i64 5] w fun e w' => e = .returned (strV (kindD 5)) ∧ Kept [] w w' := by
  have hidx : ∀ W, (Instr.index 60 (.agg namesA) (.int .i64 5)).run Tryd.prog W = .ok (strV (kindD 5)) W := fun _ => by kernel_rfl
  generalize kindD 5 = nm at *
  have HN := Lib.hid (fun w => enames_any w)
  generalize namesA = na at *
  go_enter Tryd.func22, Tryd.ntmps22
  go_wp2_with fail
  refine (HN.out _).mono ?_
  rintro e w1 ⟨rfl, hk1⟩
  go_wp2_with fail
  go_ret
  exact ⟨rfl, hk1⟩

set_option maxHeartbeats 1600000 in
theorem ename_6 (w : World) : Calls Tryd.prog 22 #[.int .i64 6] w fun e w' => e = .returned (strV (kindD 6)) ∧ Kept [] w w' := by
  have hidx : ∀ W, (Instr.index 60 (.agg namesA) (.int .i64 6)).run Tryd.prog W = .ok (strV (kindD 6)) W := fun _ => by kernel_rfl
  generalize kindD 6 = nm at *
  have HN := Lib.hid (fun w => enames_any w)
  generalize namesA = na at *
  go_enter Tryd.func22, Tryd.ntmps22
  go_wp2_with fail
  refine (HN.out _).mono ?_
  rintro e w1 ⟨rfl, hk1⟩
  go_wp2_with fail
  go_ret
  exact ⟨rfl, hk1⟩

set_option maxHeartbeats 1600000 in
theorem ename_7 (w : World) : Calls Tryd.prog 22 #[.int .i64 7] w fun e w' => e = .returned (strV (kindD 7)) ∧ Kept [] w w' := by
  have hidx : ∀ W, (Instr.index 60 (.agg namesA) (.int .i64 7)).run Tryd.prog W = .ok (strV (kindD 7)) W := fun _ => by kernel_rfl
  generalize kindD 7 = nm at *
  have HN := Lib.hid (fun w => enames_any w)
  generalize namesA = na at *
  go_enter Tryd.func22, Tryd.ntmps22
  go_wp2_with fail
  refine (HN.out _).mono ?_
  rintro e w1 ⟨rfl, hk1⟩
  go_wp2_with fail
  go_ret
  exact ⟨rfl, hk1⟩

set_option maxHeartbeats 1600000 in
theorem ename_8 (w : World) : Calls Tryd.prog 22 #[.int .i64 8] w fun e w' => e = .returned (strV (kindD 8)) ∧ Kept [] w w' := by
  have hidx : ∀ W, (Instr.index 60 (.agg namesA) (.int .i64 8)).run Tryd.prog W = .ok (strV (kindD 8)) W := fun _ => by kernel_rfl
  generalize kindD 8 = nm at *
  have HN := Lib.hid (fun w => enames_any w)
  generalize namesA = na at *
  go_enter Tryd.func22, Tryd.ntmps22
  go_wp2_with fail
  refine (HN.out _).mono ?_
  rintro e w1 ⟨rfl, hk1⟩
  go_wp2_with fail
  go_ret
  exact ⟨rfl, hk1⟩

set_option maxHeartbeats 1600000 in
theorem ename_9 (w : World) : Calls Tryd.prog 22 #[.int .i64 9] w fun e w' => e = .returned (strV (kindD 9)) ∧ Kept [] w w' := by
  have hidx : ∀ W, (Instr.index 60 (.agg namesA) (.int .i64 9)).run Tryd.prog W = .ok (strV (kindD 9)) W := fun _ => by kernel_rfl
  generalize kindD 9 = nm at *
  have HN := Lib.hid (fun w => enames_any w)
  generalize namesA = na at *
  go_enter Tryd.func22, Tryd.ntmps22
  go_wp2_with fail
  refine (HN.out _).mono ?_
  rintro e w1 ⟨rfl, hk1⟩
  go_wp2_with fail
  go_ret
  exact ⟨rfl, hk1⟩

set_option maxHeartbeats 1600000 in
theorem ename_10 (w : World) : Calls Tryd.prog 22 #[.int .i64 10] w fun e w' => e = .returned (strV (kindD 10)) ∧ Kept [] w w' := by
  have hidx : ∀ W, (Instr.index 60 (.agg namesA) (.int .i64 10)).run Tryd.prog W = .ok (strV (kindD 10)) W := fun _ => by kernel_rfl
  generalize kindD 10 = nm at *
  have HN := Lib.hid (fun w => enames_any w)
  generalize namesA = na at *
  go_enter Tryd.func22, Tryd.ntmps22
  go_wp2_with fail
  refine (HN.out _).mono ?_
  rintro e w1 ⟨rfl, hk1⟩
  go_wp2_with fail
  go_ret
  exact ⟨rfl, hk1⟩

set_option maxHeartbeats 1600000 in
theorem ename_any (k : Int) (w : World) : Calls Tryd.prog 22 #[.int .i64 k] w fun e w' => e = .returned (strV (kindD k)) ∧ Kept [] w w' := by
  rcases (by omega : k = 1 ∨ k = 2 ∨ k = 3 ∨ k = 4 ∨ k = 5 ∨ k = 6 ∨ k = 7 ∨ k = 8 ∨ k = 9 ∨ k = 10 ∨ k < 1 ∨ 10 < k) with rfl | rfl | rfl | rfl | rfl | rfl | rfl | rfl | rfl | rfl | h | h
  · exact ename_1 w
  · exact ename_2 w
  · exact ename_3 w
  · exact ename_4 w
  · exact ename_5 w
  · exact ename_6 w
  · exact ename_7 w
  · exact ename_8 w
  · exact ename_9 w
  · exact ename_10 w
  all_goals
    go_enter Tryd.func22, Tryd.ntmps22
    go_wp2_with fail
    go_ret
    exact ⟨ret_str (by rw [show kindD k = [63] from by simp only [kindD]; (repeat rw [if_neg (by omega)])]), Kept.refl _ _⟩

set_option maxHeartbeats 1600000 in
theorem egood_any (s c k t : Int) (g : Nat) (o d : Int) (n : Nat) (w : World) : Calls Tryd.prog 20 #[.agg (eC s c k t g o d n)] w fun e w' => e = .returned (.bool (goodE ⟨s, c, k, t, g, o, d, n⟩)) ∧ Kept [] w w' := by
  go_enter Tryd.func20, Tryd.ntmps20
  go_wp2
  all_goals
    go_ret
    refine ⟨ret_bool ?_, ?_⟩
    · rw [Bool.eq_iff_iff]
      simp [goodE]
      try omega
    · (repeat (first | (with_reducible exact Kept.refl _ _) | (with_reducible assumption) | (with_reducible refine Kept.alloc ?_ _) | (with_reducible refine Kept.drew ?_) | (with_reducible refine Kept.drewN ?_ _) | (with_reducible refine Kept.setCell ?_ ?_ _) | (exact .inr (Nat.le_refl _)) | (exact .inr (by simp only; omega)) | (exact .inr (by omega))))

set_option maxHeartbeats 1600000 in
theorem eop_any (o : Int) (w : World) : Calls Tryd.prog 37 #[.int .i64 o] w fun e w' => e = .returned (strV (opE o)) ∧ w = w' := by
  have HN := Lib.hid (fun w => name_any o w)
  unfold opE
  by_cases h : o = 0
  · subst h
    go_enter Tryd.func37, Tryd.ntmps37
    go_wp2_with fail
    go_ret
    exact ⟨rfl, rfl⟩
  · rw [if_neg h]
    have hb : (o == 0) = false := beq_eq_false_iff_ne.2 h
    generalize nameD o = nm at *
    go_enter Tryd.func37, Tryd.ntmps37
    go_wp2_with fail
    refine (HN.out _).mono ?_
    rintro e w1 ⟨rfl, rfl⟩
    go_wp2_with fail
    go_ret
    exact ⟨rfl, rfl⟩

set_option maxHeartbeats 1600000 in
theorem refEname (k : Int) (w : World) : Calls Tryd.prog 23 #[.int .i64 k] w fun e w' => e = .returned (strV (kindD k)) ∧ Kept [] w w' := by
  rcases (by omega : k = 1 ∨ k = 2 ∨ k = 3 ∨ k = 4 ∨ k = 5 ∨ k = 6 ∨ k = 7 ∨ k = 8 ∨ k = 9 ∨ k = 10 ∨ k < 1 ∨ 10 < k) with rfl | rfl | rfl | rfl | rfl | rfl | rfl | rfl | rfl | rfl | h | h
  all_goals
    go_enter Tryd.func23, Tryd.ntmps23
    go_wp2
    go_ret
    first
      | exact ⟨rfl, (Kept.refl _ _).alloc _⟩
      | exact ⟨ret_str (by rw [show kindD k = [63] from by simp only [kindD]; (repeat rw [if_neg (by omega)])]), Kept.refl _ _⟩

set_option maxHeartbeats 1600000 in
theorem refEgood (s c k t : Int) (g : Nat) (o d : Int) (n : Nat) (w : World) : Calls Tryd.prog 21 #[.agg (eC s c k t g o d n)] w fun e w' => e = .returned (.bool (goodE ⟨s, c, k, t, g, o, d, n⟩)) ∧ Kept [] w w' := by
  go_enter Tryd.func21, Tryd.ntmps21
  go_wp2
  all_goals
    go_ret
    refine ⟨ret_bool ?_, ?_⟩
    · rw [Bool.eq_iff_iff]
      simp [goodE]
      try omega
    · (repeat (first | (with_reducible exact Kept.refl _ _) | (with_reducible assumption) | (with_reducible refine Kept.alloc ?_ _) | (with_reducible refine Kept.drew ?_) | (with_reducible refine Kept.drewN ?_ _) | (with_reducible refine Kept.setCell ?_ ?_ _) | (exact .inr (Nat.le_refl _)) | (exact .inr (by simp only; omega)) | (exact .inr (by omega))))

set_option maxHeartbeats 1600000 in
theorem refEop (o : Int) (w : World) : Calls Tryd.prog 39 #[.int .i64 o] w fun e w' => e = .returned (strV (opE o)) ∧ Kept [] w w' := by
  have HN := Lib.hid (fun w => refName o w)
  unfold opE
  by_cases h : o = 0
  · subst h
    go_enter Tryd.func39, Tryd.ntmps39
    go_wp2_with fail
    go_ret
    exact ⟨rfl, Kept.refl _ _⟩
  · rw [if_neg h]
    have hb : (o == 0) = false := beq_eq_false_iff_ne.2 h
    generalize nameD o = nm at *
    go_enter Tryd.func39, Tryd.ntmps39
    go_wp2_with fail
    refine (HN.out _).mono ?_
    rintro e w1 ⟨rfl, hk1⟩
    go_wp2_with fail
    go_ret
    exact ⟨rfl, hk1⟩

end Go.Proofs.YtohkgdgdblnbfaaDoor
