/- The document's Name and Parts of a deed. -/
import Derived.Test.YtladfdpcdjjifaaGreatDoorDeedG
namespace Go.Proofs.YtladfdpcdjjifaaGreatDoor
open Go.RowKit

set_option maxHeartbeats 1600000 in
theorem refName (op : Int) (w : World) : Calls Tryz.prog 67 #[.int .i64 op] w fun e w' => e = .returned (strV (nameD op)) ∧ Kept [] w w' := by
  rcases (by omega : op = 1 ∨ op = 2 ∨ op = 3 ∨ op = 4 ∨ op = 5 ∨ op = 6 ∨ op = 7 ∨ op = 8 ∨ op = 9 ∨ op = 10 ∨ op = 11 ∨ op < 1 ∨ 11 < op) with rfl | rfl | rfl | rfl | rfl | rfl | rfl | rfl | rfl | rfl | rfl | h | h
  all_goals
    go_enter Tryz.func67, Tryz.ntmps67
    go_wp2
    go_ret
    first
      | exact ⟨rfl, (Kept.refl _ _).alloc _⟩
      | exact ⟨ret_str (by rw [show nameD op = [63] from by simp only [nameD]; (repeat rw [if_neg (by omega)])]), Kept.refl _ _⟩

set_option maxHeartbeats 1600000 in
theorem refParts (op : Int) (w : World) : Calls Tryz.prog 69 #[.int .i64 op] w fun e w' => e = .returned (strV (partsL op)) ∧ Kept [] w w' := by
  rcases (by omega : op = 1 ∨ op = 2 ∨ op = 3 ∨ op = 4 ∨ op = 5 ∨ op = 6 ∨ op = 7 ∨ op = 8 ∨ op = 9 ∨ op = 10 ∨ op = 11 ∨ op < 1 ∨ 11 < op) with rfl | rfl | rfl | rfl | rfl | rfl | rfl | rfl | rfl | rfl | rfl | h | h
  all_goals
    go_enter Tryz.func69, Tryz.ntmps69
    go_wp2
    go_ret
    first
      | exact ⟨rfl, (Kept.refl _ _).alloc _⟩
      | exact ⟨ret_str (by rw [show partsL op = [] from by simp only [partsL]; (repeat rw [if_neg (by omega)])]), Kept.refl _ _⟩

theorem partsL_len (op : Int) : (partsL op).length ≤ 5 := by
  unfold partsL; (repeat' split) <;> simp

theorem byte_ne {c d : UInt8} {k : Int} (h : c ≠ d) (hk : (d.toNat : Int) = k) : ((c.toNat : Int) == k) = false := by
  subst hk
  rw [beq_eq_false_iff_ne]
  intro e
  exact h (UInt8.toNat_inj.1 (by omega))

end Go.Proofs.YtladfdpcdjjifaaGreatDoor
