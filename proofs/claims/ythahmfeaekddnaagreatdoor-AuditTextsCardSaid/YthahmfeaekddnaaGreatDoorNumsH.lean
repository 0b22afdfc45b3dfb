/- Package nums: hex texts are printed; the document's hex texts. -/
import Derived.Test.YthahmfeaekddnaaGreatDoorNumsW
import Derived.Test.YthahmfeaekddnaaGreatDoorWirePlain
namespace Go.Proofs.YthahmfeaekddnaaGreatDoor
open Go.RowKit

theorem hexN_cons (j : Nat) : ∀ x, hexN (j + 1) x = hexB (x / 16 ^ j % 16) :: hexN j x := by
  induction j with
  | zero => intro x; simp [hexN]
  | succ j ih =>
    intro x
    rw [hexN, ih (x / 16)]
    simp only [List.cons_append, hexN]
    rw [Nat.div_div_eq_div_mul, Nat.pow_succ, Nat.mul_comm]

/-- The cells of the array after j rounds. -/
def hexA (x j : Nat) : Array Value := ((List.replicate (16 - j) 0 ++ hexN j x).map B).toArray
theorem hexA_size (x j : Nat) (hj : j ≤ 16) : (hexA x j).size = 16 := by simp [hexA, hexN_len]; omega
theorem hexA_step (x j : Nat) (hj : j < 16) : (hexA x j).setIfInBounds (15 - j) (B (hexB (x / 16 ^ j % 16))) = hexA x (j + 1) := by
  unfold hexA
  rw [hexN_cons, List.setIfInBounds_toArray]
  obtain ⟨m, hm⟩ : ∃ m, 16 - j = m + 1 := ⟨15 - j, by omega⟩
  rw [hm, show 16 - (j + 1) = m by omega, show 15 - j = m by omega]
  congr 1
  simp [List.replicate_succ']
theorem hexA_zero (x : Nat) : hexA x 0 = #[.int .u8 0, .int .u8 0, .int .u8 0, .int .u8 0, .int .u8 0, .int .u8 0, .int .u8 0, .int .u8 0, .int .u8 0, .int .u8 0, .int .u8 0, .int .u8 0, .int .u8 0, .int .u8 0, .int .u8 0, .int .u8 0] := rfl

theorem and15 (x : Nat) (hx : x < 18446744073709551616) : bits .and .u64 (x : Int) 15 = ((x % 16 : Nat) : Int) := by
  have h := u64_and_nat x 15 hx (by omega)
  rw [show (x &&& 15) = x % 16 from Nat.and_two_pow_sub_one_eq_mod x 4] at h
  exact h
theorem figs_get (d : Fin 16) : figs[d.val]'(by have := d.isLt; simp [figs]) = hexB d.val := by
  revert d; decide

theorem figs_slice (d : Fin 16) : (figs.drop d.val).take 1 = [hexB d.val] := by revert d; decide

set_option maxHeartbeats 400000 in
theorem refDigit (d : Nat) (w : World) (hd : d < 16) : Calls Tryz.prog 144 #[.int .u64 d] w fun e w' => e = .returned (strV [hexB d]) ∧ w = w' := by
  have hx : (⟨#[48, 49, 50, 51, 52, 53, 54, 55, 56, 57, 97, 98, 99, 100, 101, 102]⟩ : ByteArray).extract d (d + 1) = ⟨[hexB d].toArray⟩ := by
    have := str_extract figs d (d + 1)
    rw [Nat.add_sub_cancel_left, figs_slice ⟨d, hd⟩] at this
    exact this
  have HX := Lib.hid hx
  clear hx
  go_enter Tryz.func144, Tryz.ntmps144
  go_wp2_with fail
  go_ret
  exact ⟨ret_str HX.out, rfl⟩

theorem str_append (a b : List UInt8) : (⟨a.toArray⟩ : ByteArray) ++ ⟨b.toArray⟩ = ⟨(a ++ b).toArray⟩ := by
  apply ByteArray.ext
  simp

end Go.Proofs.YthahmfeaekddnaaGreatDoor
