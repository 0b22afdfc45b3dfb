/- Package deed: Name, Good, Calls, Waits; the document's Name, Parts, only, Good; The document's Name and Parts of a deed; The document's Name, Parts, only, Good of a deed; The document's Good of a deed; The document's Good of a deed; The document's Good of a deed. -/
import Derived.Test.YtccodklfplfleaaP01
import Derived.Test.YtccodklfplfleaaP02
import Derived.Laws.StructEq
import Derived.Deep.RegionHeld3
import Derived.Deep.RegionWith
import Derived.Deep.DrawnRows
import Derived.Deep.QuietTactic
import Derived.BigQuiet

/- Package deed: Name, Good, Calls, Waits; the document's Name, Parts, only, Good. -/
namespace Go.Proofs.Ytccodklfplfleaa
open Go.RowKit
attribute [local simp] takeP

/-- A deed as a value's cells. -/
abbrev dC (o a b r : Int) (n m : Nat) (l : Bool) : Array Value := #[.int .i64 o, .int .i64 a, .int .i64 b, .int .i64 r, .int .u64 n, .int .u64 m, .bool l]

theorem eqDeed (o a b r o' a' b' r' : Int) (n m n' m' : Int) (l l' : Bool) (w : World) :
    (Op.equalIn 10000 47 (.agg #[.int .i64 o, .int .i64 a, .int .i64 b, .int .i64 r, .int .u64 n, .int .u64 m, .bool l]) (.agg #[.int .i64 o', .int .i64 a', .int .i64 b', .int .i64 r', .int .u64 n', .int .u64 m', .bool l'])).run Try.prog w
      = .ok (o == o' && (a == a' && (b == b' && (r == r' && (n == n' && (m == m' && l == l')))))) w := by
  have hS : Try.prog.underlying 47 = some (.struct (Try.prog.fieldsOf 47)) := by kernel_rfl
  have hp : Try.prog.stoodInHeld 47 = false := by kernel_rfl
  have u3 := Try.underlying3
  have u24 := Try.underlying22
  have u4 := Try.underlying4
  rw [show (10000 : Nat) = 9999 + 1 from rfl, run_equalIn_agg w 9999 47 _ _ hS hp]
  simp only [Program.fieldsOf, Try.underlying47]
  go_simp
  by_cases h1 : o = o' <;> by_cases h2 : a = a' <;> by_cases h3 : b = b' <;> by_cases h4 : r = r' <;> by_cases h5 : n = n' <;> by_cases h6 : m = m' <;> simp [h1, h2, h3, h4, h5, h6]
  by_cases h7 : l = l' <;> simp [h7]

theorem ret_bool {a b : Bool} (h : a = b) : Ending.returned (.bool a) = .returned (.bool b) := by rw [h]
attribute [local go_sem] eqDeed
set_option maxHeartbeats 1600000 in
theorem good_op1 (a b r : Int) (n m : Nat) (l : Bool) (w : World) : Calls Try.prog 74 #[.agg (dC 1 a b r n m l)] w fun e w' => e = .returned (.bool (goodD ⟨1, a, b, r, n, m, l⟩)) ∧ Kept [] w w' := by
  go_enter Try.func74, Try.ntmps74
  go_wp2
  all_goals
    go_ret
    refine ⟨ret_bool ?_, ?_⟩
    · rw [Bool.eq_iff_iff]
      simp [goodD, onlyD, partsL, Dd.same]
      try first | omega | (cases l <;> simp_all <;> omega) | (cases l <;> simp_all; done)
    · (repeat (first | (with_reducible exact Kept.refl _ _) | (with_reducible assumption) | (with_reducible refine Kept.alloc ?_ _) | (with_reducible refine Kept.drew ?_) | (with_reducible refine Kept.drewN ?_ _) | (with_reducible refine Kept.setCell ?_ ?_ _) | (exact .inr (Nat.le_refl _)) | (exact .inr (by simp only; omega)) | (exact .inr (by omega))))

set_option maxHeartbeats 1600000 in
theorem good_op2 (a b r : Int) (n m : Nat) (l : Bool) (w : World) : Calls Try.prog 74 #[.agg (dC 2 a b r n m l)] w fun e w' => e = .returned (.bool (goodD ⟨2, a, b, r, n, m, l⟩)) ∧ Kept [] w w' := by
  go_enter Try.func74, Try.ntmps74
  go_wp2
  all_goals
    go_ret
    refine ⟨ret_bool ?_, ?_⟩
    · rw [Bool.eq_iff_iff]
      simp [goodD, onlyD, partsL, Dd.same]
      try first | omega | (cases l <;> simp_all <;> omega) | (cases l <;> simp_all; done)
    · (repeat (first | (with_reducible exact Kept.refl _ _) | (with_reducible assumption) | (with_reducible refine Kept.alloc ?_ _) | (with_reducible refine Kept.drew ?_) | (with_reducible refine Kept.drewN ?_ _) | (with_reducible refine Kept.setCell ?_ ?_ _) | (exact .inr (Nat.le_refl _)) | (exact .inr (by simp only; omega)) | (exact .inr (by omega))))

set_option maxHeartbeats 1600000 in
theorem good_op3 (a b r : Int) (n m : Nat) (l : Bool) (w : World) : Calls Try.prog 74 #[.agg (dC 3 a b r n m l)] w fun e w' => e = .returned (.bool (goodD ⟨3, a, b, r, n, m, l⟩)) ∧ Kept [] w w' := by
  go_enter Try.func74, Try.ntmps74
  go_wp2
  all_goals
    go_ret
    refine ⟨ret_bool ?_, ?_⟩
    · rw [Bool.eq_iff_iff]
      simp [goodD, onlyD, partsL, Dd.same]
      try first | omega | (cases l <;> simp_all <;> omega) | (cases l <;> simp_all; done)
    · (repeat (first | (with_reducible exact Kept.refl _ _) | (with_reducible assumption) | (with_reducible refine Kept.alloc ?_ _) | (with_reducible refine Kept.drew ?_) | (with_reducible refine Kept.drewN ?_ _) | (with_reducible refine Kept.setCell ?_ ?_ _) | (exact .inr (Nat.le_refl _)) | (exact .inr (by simp only; omega)) | (exact .inr (by omega))))

set_option maxHeartbeats 1600000 in
theorem good_op4 (a b r : Int) (n m : Nat) (l : Bool) (w : World) : Calls Try.prog 74 #[.agg (dC 4 a b r n m l)] w fun e w' => e = .returned (.bool (goodD ⟨4, a, b, r, n, m, l⟩)) ∧ Kept [] w w' := by
  go_enter Try.func74, Try.ntmps74
  go_wp2
  all_goals
    go_ret
    refine ⟨ret_bool ?_, ?_⟩
    · rw [Bool.eq_iff_iff]
      simp [goodD, onlyD, partsL, Dd.same]
      try first | omega | (cases l <;> simp_all <;> omega) | (cases l <;> simp_all; done)
    · (repeat (first | (with_reducible exact Kept.refl _ _) | (with_reducible assumption) | (with_reducible refine Kept.alloc ?_ _) | (with_reducible refine Kept.drew ?_) | (with_reducible refine Kept.drewN ?_ _) | (with_reducible refine Kept.setCell ?_ ?_ _) | (exact .inr (Nat.le_refl _)) | (exact .inr (by simp only; omega)) | (exact .inr (by omega))))

set_option maxHeartbeats 1600000 in
theorem good_op5 (a b r : Int) (n m : Nat) (l : Bool) (w : World) : Calls Try.prog 74 #[.agg (dC 5 a b r n m l)] w fun e w' => e = .returned (.bool (goodD ⟨5, a, b, r, n, m, l⟩)) ∧ Kept [] w w' := by
  go_enter Try.func74, Try.ntmps74
  go_wp2
  all_goals
    go_ret
    refine ⟨ret_bool ?_, ?_⟩
    · rw [Bool.eq_iff_iff]
      simp [goodD, onlyD, partsL, Dd.same]
      try first | omega | (cases l <;> simp_all <;> omega) | (cases l <;> simp_all; done)
    · (repeat (first | (with_reducible exact Kept.refl _ _) | (with_reducible assumption) | (with_reducible refine Kept.alloc ?_ _) | (with_reducible refine Kept.drew ?_) | (with_reducible refine Kept.drewN ?_ _) | (with_reducible refine Kept.setCell ?_ ?_ _) | (exact .inr (Nat.le_refl _)) | (exact .inr (by simp only; omega)) | (exact .inr (by omega))))

set_option maxHeartbeats 1600000 in
theorem good_op6 (a b r : Int) (n m : Nat) (l : Bool) (w : World) : Calls Try.prog 74 #[.agg (dC 6 a b r n m l)] w fun e w' => e = .returned (.bool (goodD ⟨6, a, b, r, n, m, l⟩)) ∧ Kept [] w w' := by
  go_enter Try.func74, Try.ntmps74
  go_wp2
  all_goals
    go_ret
    refine ⟨ret_bool ?_, ?_⟩
    · rw [Bool.eq_iff_iff]
      simp [goodD, onlyD, partsL, Dd.same]
      try first | omega | (cases l <;> simp_all <;> omega) | (cases l <;> simp_all; done)
    · (repeat (first | (with_reducible exact Kept.refl _ _) | (with_reducible assumption) | (with_reducible refine Kept.alloc ?_ _) | (with_reducible refine Kept.drew ?_) | (with_reducible refine Kept.drewN ?_ _) | (with_reducible refine Kept.setCell ?_ ?_ _) | (exact .inr (Nat.le_refl _)) | (exact .inr (by simp only; omega)) | (exact .inr (by omega))))

set_option maxHeartbeats 1600000 in
theorem good_op7 (a b r : Int) (n m : Nat) (l : Bool) (w : World) : Calls Try.prog 74 #[.agg (dC 7 a b r n m l)] w fun e w' => e = .returned (.bool (goodD ⟨7, a, b, r, n, m, l⟩)) ∧ Kept [] w w' := by
  go_enter Try.func74, Try.ntmps74
  go_wp2
  all_goals
    go_ret
    refine ⟨ret_bool ?_, ?_⟩
    · rw [Bool.eq_iff_iff]
      simp [goodD, onlyD, partsL, Dd.same]
      try first | omega | (cases l <;> simp_all <;> omega) | (cases l <;> simp_all; done)
    · (repeat (first | (with_reducible exact Kept.refl _ _) | (with_reducible assumption) | (with_reducible refine Kept.alloc ?_ _) | (with_reducible refine Kept.drew ?_) | (with_reducible refine Kept.drewN ?_ _) | (with_reducible refine Kept.setCell ?_ ?_ _) | (exact .inr (Nat.le_refl _)) | (exact .inr (by simp only; omega)) | (exact .inr (by omega))))

set_option maxHeartbeats 1600000 in
theorem good_op8 (a b r : Int) (n m : Nat) (l : Bool) (w : World) : Calls Try.prog 74 #[.agg (dC 8 a b r n m l)] w fun e w' => e = .returned (.bool (goodD ⟨8, a, b, r, n, m, l⟩)) ∧ Kept [] w w' := by
  go_enter Try.func74, Try.ntmps74
  go_wp2
  all_goals
    go_ret
    refine ⟨ret_bool ?_, ?_⟩
    · rw [Bool.eq_iff_iff]
      simp [goodD, onlyD, partsL, Dd.same]
      try first | omega | (cases l <;> simp_all <;> omega) | (cases l <;> simp_all; done)
    · (repeat (first | (with_reducible exact Kept.refl _ _) | (with_reducible assumption) | (with_reducible refine Kept.alloc ?_ _) | (with_reducible refine Kept.drew ?_) | (with_reducible refine Kept.drewN ?_ _) | (with_reducible refine Kept.setCell ?_ ?_ _) | (exact .inr (Nat.le_refl _)) | (exact .inr (by simp only; omega)) | (exact .inr (by omega))))

set_option maxHeartbeats 1600000 in
theorem good_op9 (a b r : Int) (n m : Nat) (l : Bool) (w : World) : Calls Try.prog 74 #[.agg (dC 9 a b r n m l)] w fun e w' => e = .returned (.bool (goodD ⟨9, a, b, r, n, m, l⟩)) ∧ Kept [] w w' := by
  go_enter Try.func74, Try.ntmps74
  go_wp2
  all_goals
    go_ret
    refine ⟨ret_bool ?_, ?_⟩
    · rw [Bool.eq_iff_iff]
      simp [goodD, onlyD, partsL, Dd.same]
      try first | omega | (cases l <;> simp_all <;> omega) | (cases l <;> simp_all; done)
    · (repeat (first | (with_reducible exact Kept.refl _ _) | (with_reducible assumption) | (with_reducible refine Kept.alloc ?_ _) | (with_reducible refine Kept.drew ?_) | (with_reducible refine Kept.drewN ?_ _) | (with_reducible refine Kept.setCell ?_ ?_ _) | (exact .inr (Nat.le_refl _)) | (exact .inr (by simp only; omega)) | (exact .inr (by omega))))

set_option maxHeartbeats 1600000 in
theorem good_op10 (a b r : Int) (n m : Nat) (l : Bool) (w : World) : Calls Try.prog 74 #[.agg (dC 10 a b r n m l)] w fun e w' => e = .returned (.bool (goodD ⟨10, a, b, r, n, m, l⟩)) ∧ Kept [] w w' := by
  go_enter Try.func74, Try.ntmps74
  go_wp2
  all_goals
    go_ret
    refine ⟨ret_bool ?_, ?_⟩
    · rw [Bool.eq_iff_iff]
      simp [goodD, onlyD, partsL, Dd.same]
      try first | omega | (cases l <;> simp_all <;> omega) | (cases l <;> simp_all; done)
    · (repeat (first | (with_reducible exact Kept.refl _ _) | (with_reducible assumption) | (with_reducible refine Kept.alloc ?_ _) | (with_reducible refine Kept.drew ?_) | (with_reducible refine Kept.drewN ?_ _) | (with_reducible refine Kept.setCell ?_ ?_ _) | (exact .inr (Nat.le_refl _)) | (exact .inr (by simp only; omega)) | (exact .inr (by omega))))

set_option maxHeartbeats 1600000 in
theorem good_op11 (a b r : Int) (n m : Nat) (l : Bool) (w : World) : Calls Try.prog 74 #[.agg (dC 11 a b r n m l)] w fun e w' => e = .returned (.bool (goodD ⟨11, a, b, r, n, m, l⟩)) ∧ Kept [] w w' := by
  go_enter Try.func74, Try.ntmps74
  go_wp2
  all_goals
    go_ret
    refine ⟨ret_bool ?_, ?_⟩
    · rw [Bool.eq_iff_iff]
      simp [goodD, onlyD, partsL, Dd.same]
      try first | omega | (cases l <;> simp_all <;> omega) | (cases l <;> simp_all; done)
    · (repeat (first | (with_reducible exact Kept.refl _ _) | (with_reducible assumption) | (with_reducible refine Kept.alloc ?_ _) | (with_reducible refine Kept.drew ?_) | (with_reducible refine Kept.drewN ?_ _) | (with_reducible refine Kept.setCell ?_ ?_ _) | (exact .inr (Nat.le_refl _)) | (exact .inr (by simp only; omega)) | (exact .inr (by omega))))

set_option maxHeartbeats 1600000 in
theorem good_no (o a b r : Int) (n m : Nat) (l : Bool) (w : World) (h : o < 1 ∨ 11 < o) : Calls Try.prog 74 #[.agg (dC o a b r n m l)] w fun e w' => e = .returned (.bool (goodD ⟨o, a, b, r, n, m, l⟩)) ∧ Kept [] w w' := by
  have HG : Hid (goodD ⟨o, a, b, r, n, m, l⟩ = false) := by
    simp only [Hid, goodD]
    rw [decide_eq_false (fun hh => by have h1 : 1 ≤ o := hh.1; have h2 : o ≤ 11 := hh.2; omega)]
    simp
  go_enter Try.func74, Try.ntmps74
  go_wp2
  go_ret
  rw [HG.out]
  refine ⟨rfl, ?_⟩
  (repeat (first | (with_reducible exact Kept.refl _ _) | (with_reducible assumption) | (with_reducible refine Kept.alloc ?_ _) | (with_reducible refine Kept.drew ?_) | (with_reducible refine Kept.drewN ?_ _) | (with_reducible refine Kept.setCell ?_ ?_ _) | (exact .inr (Nat.le_refl _)) | (exact .inr (by simp only; omega)) | (exact .inr (by omega))))

theorem good_any (o a b r : Int) (n m : Nat) (l : Bool) (w : World) : Calls Try.prog 74 #[.agg (dC o a b r n m l)] w fun e w' => e = .returned (.bool (goodD ⟨o, a, b, r, n, m, l⟩)) ∧ Kept [] w w' := by
  rcases (by omega : o = 1 ∨ o = 2 ∨ o = 3 ∨ o = 4 ∨ o = 5 ∨ o = 6 ∨ o = 7 ∨ o = 8 ∨ o = 9 ∨ o = 10 ∨ o = 11 ∨ (o < 1 ∨ 11 < o)) with rfl | rfl | rfl | rfl | rfl | rfl | rfl | rfl | rfl | rfl | rfl | h
  · exact good_op1 a b r n m l w
  · exact good_op2 a b r n m l w
  · exact good_op3 a b r n m l w
  · exact good_op4 a b r n m l w
  · exact good_op5 a b r n m l w
  · exact good_op6 a b r n m l w
  · exact good_op7 a b r n m l w
  · exact good_op8 a b r n m l w
  · exact good_op9 a b r n m l w
  · exact good_op10 a b r n m l w
  · exact good_op11 a b r n m l w
  · exact good_no o a b r n m l w h

end Go.Proofs.Ytccodklfplfleaa

/- The document's Name and Parts of a deed. -/
namespace Go.Proofs.Ytccodklfplfleaa
open Go.RowKit

set_option maxHeartbeats 1600000 in
theorem refParts (op : Int) (w : World) : Calls Try.prog 87 #[.int .i64 op] w fun e w' => e = .returned (strV (partsL op)) ∧ Kept [] w w' := by
  rcases (by omega : op = 1 ∨ op = 2 ∨ op = 3 ∨ op = 4 ∨ op = 5 ∨ op = 6 ∨ op = 7 ∨ op = 8 ∨ op = 9 ∨ op = 10 ∨ op = 11 ∨ op < 1 ∨ 11 < op) with rfl | rfl | rfl | rfl | rfl | rfl | rfl | rfl | rfl | rfl | rfl | h | h
  all_goals
    go_enter Try.func87, Try.ntmps87
    go_wp2
    go_ret
    first
      | exact ⟨rfl, (Kept.refl _ _).alloc _⟩
      | exact ⟨ret_str (by rw [show partsL op = [] from by simp only [partsL]; (repeat rw [if_neg (by omega)])]), Kept.refl _ _⟩

theorem partsL_len (op : Int) : (partsL op).length ≤ 5 := by
  unfold partsL; (repeat' split) <;> simp

theorem byte_ne {c d : UInt8} {k : Int} (h : c ≠ d) (hk : (d.toNat : Int) = k) : ((c.toNat : Int) == k) = false := by
  subst hk
  rw [beq_eq_false_iff_ne]
  intro e
  exact h (UInt8.toNat_inj.1 (by omega))

end Go.Proofs.Ytccodklfplfleaa

/- The document's Name, Parts, only, Good of a deed. -/
namespace Go.Proofs.Ytccodklfplfleaa
open Go.RowKit

/-- A deed's cells. -/
abbrev dCd (d : Dd) : Array Value := dC d.op d.a d.b d.r d.n d.mask d.loose

set_option maxHeartbeats 1600000 in
theorem refOnly (o a b r : Int) (n m : Nat) (l : Bool) (w : World) : Calls Try.prog 67 #[.agg (dC o a b r n m l)] w fun e w' => e = .returned (.agg (dCd (onlyD ⟨o, a, b, r, n, m, l⟩))) ∧ Kept [] w w' := by
  have HP := Lib.hid (fun w => refParts o w)
  have hlen := partsL_len o
  have HO : Hid (onlyD ⟨o, a, b, r, n, m, l⟩ = (partsL o).foldl (takeP ⟨o, a, b, r, n, m, l⟩) ⟨o, 0, 0, 0, 0, 0, false⟩) := rfl
  generalize partsL o = ps at *
  go_enter Try.func67, Try.ntmps67
  go_wp2_with fail
  refine (HP.out _).mono ?_
  rintro e w1 ⟨rfl, hk1⟩
  have hB0 : Blk w1 w.heap.size 47 (dC o a b r n m l) := (((Blk.new w 47 (dC o a b r n m l)).alloc _).alloc _).kept hk1 (by simp)
  have hB1 : Blk w1 (w.heap.size + 1) 47 (dC 0 0 0 0 0 0 false) := ((Blk.newAt (w := w.alloc _) (by simp) 47 _).alloc _).kept hk1 (by simp)
  have hB2 : Blk w1 (w.heap.size + 1 + 1) 47 (dC o 0 0 0 0 0 false) := (Blk.newAt (w := (w.alloc _).alloc _) (by simp) 47 _).kept hk1 (by simp)
  have hk0 : Kept [] w w1 := ((((Kept.refl _ _).alloc _).alloc _).alloc _).trans hk1
  clear hk1
  have HB0 := Lib.hid hB0
  have HB1 := Lib.hid hB1
  have HB2 := Lib.hid hB2
  clear hB0 hB1 hB2
  go_wp2_with fail
  go_loopw [5] (fun iv wr => ∃ (k : Nat) (e : Dd), k ≤ ps.length ∧ iv = .int .i64 k ∧ Hid (e = (ps.take k).foldl (takeP ⟨o, a, b, r, n, m, l⟩) ⟨o, 0, 0, 0, 0, 0, false⟩) ∧ Hid (Blk wr w.heap.size 47 (dC o a b r n m l)) ∧ Hid (Blk wr (w.heap.size + 1) 47 (dC 0 0 0 0 0 0 false)) ∧ Hid (Blk wr (w.heap.size + 1 + 1) 47 (dCd e)) ∧ Kept [] w wr) (fun i _ => ps.length - (intOf i).toNat)
  case atStart => exact ⟨0, ⟨o, 0, 0, 0, 0, 0, false⟩, by omega, rfl, rfl, HB0, HB1, HB2, hk0⟩
  case round =>
    obtain ⟨k, e, hk, rfl, HE, HB0, HB1, HB2, hkw⟩ := hrel
    have hcd := HB0.out.cell
    have hce := HB2.out.cell
    have hfe := HB2.out.frozen
    have hlte := HB2.out.lt
    have hc0 : wr.cell? ⟨w.heap.size, 1, none⟩ = some (.int .i64 a) := by rw [hcd]; rfl
    have hc1 : wr.cell? ⟨w.heap.size, 2, none⟩ = some (.int .i64 b) := by rw [hcd]; rfl
    have hc2 : wr.cell? ⟨w.heap.size, 3, none⟩ = some (.int .i64 r) := by rw [hcd]; rfl
    have hc3 : wr.cell? ⟨w.heap.size, 4, none⟩ = some (.int .u64 n) := by rw [hcd]; rfl
    have hc4 : wr.cell? ⟨w.heap.size, 5, none⟩ = some (.int .u64 m) := by rw [hcd]; rfl
    have hc5 : wr.cell? ⟨w.heap.size, 6, none⟩ = some (.bool l) := by rw [hcd]; rfl
    have he1 : wr.cell? ⟨w.heap.size + 1 + 1, 1, none⟩ = some (.int .i64 e.a) := by rw [hce]; rfl
    have he2 : wr.cell? ⟨w.heap.size + 1 + 1, 2, none⟩ = some (.int .i64 e.b) := by rw [hce]; rfl
    have he3 : wr.cell? ⟨w.heap.size + 1 + 1, 3, none⟩ = some (.int .i64 e.r) := by rw [hce]; rfl
    have he4 : wr.cell? ⟨w.heap.size + 1 + 1, 4, none⟩ = some (.int .u64 e.n) := by rw [hce]; rfl
    have he5 : wr.cell? ⟨w.heap.size + 1 + 1, 5, none⟩ = some (.int .u64 e.mask) := by rw [hce]; rfl
    have he6 : wr.cell? ⟨w.heap.size + 1 + 1, 6, none⟩ = some (.bool e.loose) := by rw [hce]; rfl
    have he0 : wr.cell? ⟨w.heap.size + 1 + 1, 0, none⟩ = some (.int .i64 e.op) := by rw [hce]; rfl
    have hf1 := hfe 1
    have hf2 := hfe 2
    have hf3 := hfe 3
    have hf4 := hfe 4
    have hf5 := hfe 5
    have hf6 := hfe 6
    clear hcd hce hfe
    by_cases hlt : k < ps.length
    · obtain ⟨c, hlk⟩ : ∃ c : UInt8, ps[k] = c := ⟨_, rfl⟩
      have hidx : (⟨ps.toArray⟩ : ByteArray)[k]'(show k < (⟨ps.toArray⟩ : ByteArray).size from hlt) = c := hlk
      have HE2 : Hid ((ps.take (k + 1)).foldl (takeP ⟨o, a, b, r, n, m, l⟩) ⟨o, 0, 0, 0, 0, 0, false⟩ = takeP ⟨o, a, b, r, n, m, l⟩ e c) := by
        rw [Hid, List.take_succ_eq_append_getElem hlt, hlk, List.foldl_append, ← HE.out]; rfl
      clear hlk
      rcases (by by_cases h1 : c = 65 <;> by_cases h2 : c = 66 <;> by_cases h3 : c = 82 <;> by_cases h4 : c = 78 <;> by_cases h5 : c = 77 <;> simp_all : c = 65 ∨ c = 66 ∨ c = 82 ∨ c = 78 ∨ c = 77 ∨ (c ≠ 65 ∧ c ≠ 66 ∧ c ≠ 82 ∧ c ≠ 78 ∧ c ≠ 77)) with rfl | rfl | rfl | rfl | rfl | hne
      case' inr.inr.inr.inr.inr =>
        obtain ⟨n1, n2, n3, n4, n5⟩ := hne
        have HTP : Hid (takeP ⟨o, a, b, r, n, m, l⟩ e c = { e with loose := l }) := by simp [Hid, takeP, n1, n2, n3, n4, n5]
        have b1 := byte_ne n1 (rfl : _ = (65 : Int))
        have b2 := byte_ne n2 (rfl : _ = (66 : Int))
        have b3 := byte_ne n3 (rfl : _ = (82 : Int))
        have b4 := byte_ne n4 (rfl : _ = (78 : Int))
        have b5 := byte_ne n5 (rfl : _ = (77 : Int))
        clear n1 n2 n3 n4 n5
      all_goals
        go_wp2_with fail
        go_roundw
        case rel =>
          refine ⟨k + 1, takeP ⟨o, a, b, r, n, m, l⟩ e _, by omega, by go_num, HE2.out.symm, HB0.out.far (by simp only; omega) _, HB1.out.far (by simp only; omega) _, ?_, hkw.setCell (.inr (by simp only; omega)) _⟩
          first | exact HB2.out.set _ _ | (rw [HTP.out]; exact HB2.out.set _ _)
        case measure => simp [intOf]; omega
    · obtain rfl : k = ps.length := by omega
      have HE3 : Hid (onlyD ⟨o, a, b, r, n, m, l⟩ = e) := by
        have := HE.out
        rw [List.take_of_length_le (Nat.le_refl _)] at this
        rw [Hid, HO.out, this]
      have hrc := HB1.out.cell
      have hrf := HB1.out.frozen
      have hrl := HB1.out.lt
      clear hc0 hc1 hc2 hc3 hc4 hc5 hf1 hf2 hf3 hf4 hf5 hf6
      go_wp2_with fail
      rw [HE3.out]
      exact bodyPost_ret (v := .agg (dCd e)) (by simp [results, Try.results67, go_sem, hrc]) rfl ⟨rfl, by (repeat (first | (with_reducible exact Kept.refl _ _) | (with_reducible assumption) | (with_reducible refine Kept.alloc ?_ _) | (with_reducible refine Kept.drew ?_) | (with_reducible refine Kept.drewN ?_ _) | (with_reducible refine Kept.setCell ?_ ?_ _) | (exact .inr (Nat.le_refl _)) | (exact .inr (by simp only; omega)) | (exact .inr (by omega))))⟩

end Go.Proofs.Ytccodklfplfleaa

/- The document's Good of a deed. -/
namespace Go.Proofs.Ytccodklfplfleaa
open Go.RowKit
attribute [local go_sem ↓] Go.wp_at_zero Go.wp_at_succ
attribute [local go_sem] eqDeed

theorem goodD_out (d : Dd) (h : d.op < 1 ∨ 11 < d.op) : goodD d = false := by
  unfold goodD
  rw [decide_eq_false (fun hh => by omega)]
  simp
theorem goodD_differs (d : Dd) (h : onlyD d ≠ d) : goodD d = false := by
  have : d.same (onlyD d) = false := by
    rw [← Bool.not_eq_true, Dd.same_iff]; exact fun e => h e.symm
  unfold goodD
  rw [this]
  simp
theorem goodD_only (d : Dd) (h : onlyD d = d) (h1 : 1 ≤ d.op) (h2 : d.op ≤ 11) :
    goodD d = (!(decide (d.op = 1) && (decide (d.n < 1) || decide (65536 < d.n))) && decide (0 ≤ d.a ∧ d.a < 64 ∧ 0 ≤ d.b ∧ d.b < 8 ∧ 0 ≤ d.r ∧ d.r < 8)) := by
  have : d.same (onlyD d) = true := by rw [Dd.same_iff]; exact h.symm
  unfold goodD
  rw [this, decide_eq_true ⟨h1, h2⟩]
  simp

set_option maxHeartbeats 1600000 in
theorem refGood_out (o a b r : Int) (n m : Nat) (l : Bool) (w : World) (h : o < 1 ∨ 11 < o) : Calls Try.prog 39 #[.agg (dC o a b r n m l)] w fun e w' => e = .returned (.bool (goodD ⟨o, a, b, r, n, m, l⟩)) ∧ Kept [] w w' := by
  have HG := Lib.hid (goodD_out ⟨o, a, b, r, n, m, l⟩ h)
  rcases h with h | h
  · go_enter Try.func39, Try.ntmps39
    go_wp2_with fail
    go_quiet (fail)
    go_wp2_with fail
    go_ret
    rw [HG.out]
    exact ⟨rfl, by (repeat (first | (with_reducible exact Kept.refl _ _) | (with_reducible assumption) | (with_reducible refine Kept.alloc ?_ _) | (with_reducible refine Kept.drew ?_) | (with_reducible refine Kept.drewN ?_ _) | (with_reducible refine Kept.setCell ?_ ?_ _) | (exact .inr (Nat.le_refl _)) | (exact .inr (by simp only; omega)) | (exact .inr (by omega))))⟩
  · have h2 : decide (o < 1) = false := by simp; omega
    go_enter Try.func39, Try.ntmps39
    go_wp2_with fail
    go_quiet (fail)
    go_wp2_with fail
    go_ret
    rw [HG.out]
    exact ⟨rfl, by (repeat (first | (with_reducible exact Kept.refl _ _) | (with_reducible assumption) | (with_reducible refine Kept.alloc ?_ _) | (with_reducible refine Kept.drew ?_) | (with_reducible refine Kept.drewN ?_ _) | (with_reducible refine Kept.setCell ?_ ?_ _) | (exact .inr (Nat.le_refl _)) | (exact .inr (by simp only; omega)) | (exact .inr (by omega))))⟩

set_option maxHeartbeats 3200000 in
theorem refGood_one (a b r : Int) (n m : Nat) (l : Bool) (w : World) (he : onlyD ⟨1, a, b, r, n, m, l⟩ = ⟨1, a, b, r, n, m, l⟩) (hn : 1 ≤ n) (hn2 : n ≤ 65536) : Calls Try.prog 39 #[.agg (dC 1 a b r n m l)] w fun e w' => e = .returned (.bool (goodD ⟨1, a, b, r, n, m, l⟩)) ∧ Kept [] w w' := by
  have HG := Lib.hid (goodD_only ⟨1, a, b, r, n, m, l⟩ he (by simp) (by simp))
  have HO : Hid (∀ w, Calls Try.prog 67 #[.agg (dC 1 a b r n m l)] w fun e w' => e = .returned (.agg (dC 1 a b r n m l)) ∧ Kept [] w w') := fun w => by
    have := refOnly 1 a b r n m l w
    rw [he] at this
    exact this
  clear he
  have hd1 : decide ((n : Int) < 1) = false := by simp; omega
  have hd2 : decide (65536 < (n : Int)) = false := by simp; omega
  go_enter Try.func39, Try.ntmps39
  go_wp2_with fail
  go_region_held3 (fun w' => w'.cell? ⟨w.heap.size, 0, none⟩ = some (.int .i64 1) ∧ w'.cell? ⟨w.heap.size, 1, none⟩ = some (.int .i64 a) ∧ w'.cell? ⟨w.heap.size, 2, none⟩ = some (.int .i64 b) ∧ w'.cell? ⟨w.heap.size, 3, none⟩ = some (.int .i64 r) ∧ w'.cell? ⟨w.heap.size, 4, none⟩ = some (.int .u64 n) ∧ w'.cell? ⟨w.heap.size, 5, none⟩ = some (.int .u64 m) ∧ w'.cell? ⟨w.heap.size, 6, none⟩ = some (.bool l)) (go_keep) (first | (go_at_call 67; refine (HO.out _).mono ?_; rintro e w1 ⟨rfl, hk1⟩; have hB := (Blk.new w 47 (dC 1 a b r n m l)).drew.kept hk1 (by simp); have hc := hB.cell; have HB := Lib.hid hB; clear hB))
  go_wp2_with fail
  all_goals
    go_ret
    refine ⟨ret_bool ?_, by have hk2 := (((Kept.refl [] w).alloc (.cells (dC 1 a b r n m l) 47)).drew.trans hk1); exact hk2⟩
    rw [HG.out, Bool.eq_iff_iff]
    simp
    omega

set_option maxHeartbeats 3200000 in
theorem refGood_lo (a b r : Int) (m : Nat) (l : Bool) (w : World) (he : onlyD ⟨1, a, b, r, 0, m, l⟩ = ⟨1, a, b, r, 0, m, l⟩) : Calls Try.prog 39 #[.agg (dC 1 a b r 0 m l)] w fun e w' => e = .returned (.bool (goodD ⟨1, a, b, r, 0, m, l⟩)) ∧ Kept [] w w' := by
  have HG := Lib.hid (goodD_only ⟨1, a, b, r, 0, m, l⟩ he (by simp) (by simp))
  have HO : Hid (∀ w, Calls Try.prog 67 #[.agg (dC 1 a b r 0 m l)] w fun e w' => e = .returned (.agg (dC 1 a b r 0 m l)) ∧ Kept [] w w') := fun w => by
    have := refOnly 1 a b r 0 m l w
    rw [he] at this
    exact this
  clear he
  go_enter Try.func39, Try.ntmps39
  go_wp2_with fail
  first | (go_region_with (first | (go_at_call 67; refine (HO.out _).mono ?_; rintro e w1 ⟨rfl, hk1⟩; have hB := (Blk.new w 47 (dC 1 a b r 0 m l)).drew.kept hk1 (by simp); have hc := hB.cell; have HB := Lib.hid hB; clear hB))) | fail
  all_goals
    go_wp2_with fail
    go_ret
    rw [HG.out]
    exact ⟨rfl, ((Kept.refl [] w).alloc (.cells (dC 1 a b r 0 m l) 47)).drew.trans hk1⟩

set_option maxHeartbeats 3200000 in
theorem refGood_hi (a b r : Int) (n m : Nat) (l : Bool) (w : World) (he : onlyD ⟨1, a, b, r, n, m, l⟩ = ⟨1, a, b, r, n, m, l⟩) (hn : 65536 < n) : Calls Try.prog 39 #[.agg (dC 1 a b r n m l)] w fun e w' => e = .returned (.bool (goodD ⟨1, a, b, r, n, m, l⟩)) ∧ Kept [] w w' := by
  have HG := Lib.hid (goodD_only ⟨1, a, b, r, n, m, l⟩ he (by simp) (by simp))
  have HO : Hid (∀ w, Calls Try.prog 67 #[.agg (dC 1 a b r n m l)] w fun e w' => e = .returned (.agg (dC 1 a b r n m l)) ∧ Kept [] w w') := fun w => by
    have := refOnly 1 a b r n m l w
    rw [he] at this
    exact this
  clear he
  have hd1 : decide ((n : Int) < 1) = false := by simp; omega
  have hd2 : decide (65536 < (n : Int)) = true := by simp; omega
  go_enter Try.func39, Try.ntmps39
  go_wp2_with fail
  first | (go_region_with (first | (go_at_call 67; refine (HO.out _).mono ?_; rintro e w1 ⟨rfl, hk1⟩; have hB := (Blk.new w 47 (dC 1 a b r n m l)).drew.kept hk1 (by simp); have hc := hB.cell; have HB := Lib.hid hB; clear hB))) | fail
  all_goals
    go_wp2_with fail
    go_ret
    rw [HG.out]
    exact ⟨ret_bool (by simp; omega), ((Kept.refl [] w).alloc (.cells (dC 1 a b r n m l) 47)).drew.trans hk1⟩

end Go.Proofs.Ytccodklfplfleaa

/- The document's Good of a deed. -/
namespace Go.Proofs.Ytccodklfplfleaa
open Go.RowKit
attribute [local go_sem ↓] Go.wp_at_zero Go.wp_at_succ
attribute [local go_sem] eqDeed undef

set_option maxHeartbeats 3200000 in
theorem refGood_many (o a b r : Int) (n m : Nat) (l : Bool) (w : World) (he : onlyD ⟨o, a, b, r, n, m, l⟩ = ⟨o, a, b, r, n, m, l⟩) (h1 : 2 ≤ o) (h2 : o ≤ 11) : Calls Try.prog 39 #[.agg (dC o a b r n m l)] w fun e w' => e = .returned (.bool (goodD ⟨o, a, b, r, n, m, l⟩)) ∧ Kept [] w w' := by
  have HG := Lib.hid (goodD_only ⟨o, a, b, r, n, m, l⟩ he (by show 1 ≤ o; omega) h2)
  have HO : Hid (∀ w, Calls Try.prog 67 #[.agg (dC o a b r n m l)] w fun e w' => e = .returned (.agg (dC o a b r n m l)) ∧ Kept [] w w') := fun w => by
    have := refOnly o a b r n m l w
    rw [he] at this
    exact this
  clear he
  have hb : (o == 1) = false := beq_eq_false_iff_ne.2 (by omega)
  have hd1 : decide (o < 1) = false := by simp; omega
  have hd2 : decide (11 < o) = false := by simp; omega
  go_enter Try.func39, Try.ntmps39
  go_wp2_with fail
  first | (go_must (go_region_with (first | (go_at_call 67; refine (HO.out _).mono ?_; rintro e w1 ⟨rfl, hk1⟩; have hB := (Blk.new w 47 (dC o a b r n m l)).drew.kept hk1 (by simp); have hc := hB.cell; have HB := Lib.hid hB; clear hB)))) | fail
  all_goals go_wp2_with fail
  all_goals
    go_ret
    refine ⟨ret_bool ?_, by have hk2 := (((Kept.refl [] w).alloc (.cells (dC o a b r n m l) 47)).drew.trans hk1); exact hk2⟩
    rw [HG.out, Bool.eq_iff_iff]
    simp
    omega

end Go.Proofs.Ytccodklfplfleaa

/- The document's Good of a deed. -/
namespace Go.Proofs.Ytccodklfplfleaa
open Go.RowKit
attribute [local go_sem ↓] Go.wp_at_zero Go.wp_at_succ
attribute [local go_sem] undef

set_option maxHeartbeats 3200000 in
theorem refGood_differs (o a b r : Int) (n m : Nat) (l : Bool) (w : World) (he : onlyD ⟨o, a, b, r, n, m, l⟩ ≠ ⟨o, a, b, r, n, m, l⟩) (h1 : 1 ≤ o) (h2 : o ≤ 11) : Calls Try.prog 39 #[.agg (dC o a b r n m l)] w fun e w' => e = .returned (.bool (goodD ⟨o, a, b, r, n, m, l⟩)) ∧ Kept [] w w' := by
  have HG := Lib.hid (goodD_differs ⟨o, a, b, r, n, m, l⟩ he)
  have hsm : Dd.same ⟨o, a, b, r, n, m, l⟩ (onlyD ⟨o, a, b, r, n, m, l⟩) = false := by
    rw [← Bool.not_eq_true, Dd.same_iff]; exact fun e => he e.symm
  have HO := Lib.hid (fun w => refOnly o a b r n m l w)
  obtain ⟨e, hee⟩ : ∃ e, onlyD ⟨o, a, b, r, n, m, l⟩ = e := ⟨_, rfl⟩
  rw [hee] at HO hsm
  obtain ⟨eo, ea, eb, er, en, em, el⟩ := e
  have HS : Hid ((o == eo && (a == ea && (b == eb && (r == er && ((n : Int) == en && ((m : Int) == em && l == el)))))) = false) := by
    rw [Hid, ← hsm]
    simp only [Dd.same]
    have e1 : ((n : Int) == (en : Int)) = (n == en) := by rw [Bool.eq_iff_iff]; simp; omega
    have e2 : ((m : Int) == (em : Int)) = (m == em) := by rw [Bool.eq_iff_iff]; simp; omega
    rw [e1, e2]
  have hq : ∀ W, (Op.equalIn 10000 47 (.agg #[.int .i64 o, .int .i64 a, .int .i64 b, .int .i64 r, .int .u64 n, .int .u64 m, .bool l]) (.agg (dC eo ea eb er en em el))).run Try.prog W = .ok false W := fun W => by
    rw [eqDeed, HS.out]
  have hd1 : decide (o < 1) = false := by simp; omega
  have hd2 : decide (11 < o) = false := by simp; omega
  clear he hee hsm
  go_enter Try.func39, Try.ntmps39
  go_wp2_with fail
  first | (go_must (go_region_with (first | (go_at_call 67; refine (HO.out _).mono ?_; rintro e w1 ⟨rfl, hk1⟩; have hB := (Blk.new w 47 (dC o a b r n m l)).drew.kept hk1 (by simp); have hc := hB.cell; have HB := Lib.hid hB; clear hB)))) | fail
  all_goals go_wp2_with fail
  all_goals
    go_ret
    rw [HG.out]
    exact ⟨rfl, ((Kept.refl [] w).alloc (.cells (dC o a b r n m l) 47)).drew.trans hk1⟩

theorem refGood (o a b r : Int) (n m : Nat) (l : Bool) (w : World) : Calls Try.prog 39 #[.agg (dC o a b r n m l)] w fun e w' => e = .returned (.bool (goodD ⟨o, a, b, r, n, m, l⟩)) ∧ Kept [] w w' := by
  by_cases hr : o < 1 ∨ 11 < o
  · exact refGood_out o a b r n m l w hr
  · by_cases he : onlyD ⟨o, a, b, r, n, m, l⟩ = ⟨o, a, b, r, n, m, l⟩
    · by_cases h1 : o = 1
      · subst h1
        by_cases hn : n < 1
        · obtain rfl : n = 0 := by omega
          exact refGood_lo a b r m l w he
        · by_cases hn2 : 65536 < n
          · exact refGood_hi a b r n m l w he hn2
          · exact refGood_one a b r n m l w he (by omega) (by omega)
      · exact refGood_many o a b r n m l w he (by omega) (by omega)
    · exact refGood_differs o a b r n m l w he (by omega) (by omega)

end Go.Proofs.Ytccodklfplfleaa

