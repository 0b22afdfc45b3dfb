/- Package duty: small functions: sets.All, numbers in a range, powers of two; the document's. -/
import Derived.Test.YtccodklfplfleaaP04
import Derived.Test.YtccodklfplfleaaP10
namespace Go.Proofs.Ytccodklfplfleaa
open Go.RowKit

theorem two_pow_lt {n : Nat} (h : n < 64) : 2 ^ n < 18446744073709551616 := Nat.pow_lt_pow_right (a := 2) (m := n) (n := 64) (by omega) h
theorem all_step (k : Nat) : (2 ^ k - 1) ||| 2 ^ k = 2 ^ (k + 1) - 1 := by
  have h := Nat.two_pow_add_eq_or_of_lt (i := k) (b := 2 ^ k - 1) (by have := Nat.two_pow_pos k; omega) 1
  rw [Nat.mul_one] at h
  rw [Nat.or_comm, ← h, Nat.pow_succ]
  have := Nat.two_pow_pos k
  omega

set_option maxHeartbeats 800000 in
theorem sall_any (n : Nat) (w : World) (h1 : 1 ≤ n) (h2 : n ≤ 64) : Calls Try.prog 53 #[.int .i64 n] w fun e w' => e = .returned (.int .u64 (2 ^ n - 1 : Nat)) ∧ w = w' := by
  by_cases h : n = 64
  · subst h
    go_enter Try.func53, Try.ntmps53
    go_wp2_with fail
    go_ret
    exact ⟨rfl, rfl⟩
  · have hlt : n < 64 := by omega
    have hp := two_pow_lt hlt
    have hp0 := Nat.two_pow_pos n
    have hw2 : ((2 : Int) ^ n) = ((2 ^ n : Nat) : Int) := by simp
    have hc : ((2 ^ n - 1 : Nat) : Int) = ((2 ^ n : Nat) : Int) - 1 := by omega
    rw [hc]
    generalize 2 ^ n = p at *
    have hq0 : (0 : Int) ≤ (n : Int) := by omega
    have hq1 : (n : Int) ≤ 64 := by omega
    have b1 : decide ((n : Int) ≤ 0) = false := by simp; omega
    have b2 : decide ((64 : Int) ≤ (n : Int)) = false := by simp; omega
    have hwr : IntKind.u64.wrap (n : Int) = (n : Int) := IntWalk.u64_in _ (by omega)
    have hwp : IntKind.u64.wrap ((p : Int) - 1) = (p : Int) - 1 := IntWalk.u64_in _ (by omega)
    clear h
    have HB : Hid (∀ w, Calls Try.prog 75 #[.int .i64 n] w fun e w' => e = .returned (.int .u64 (p : Nat)) ∧ w = w') := by
      intro w
      go_enter Try.func75, Try.ntmps75
      go_wp2_with fail
      go_ret
      exact ⟨ret_int (by first | rfl | omega), rfl⟩
    go_enter Try.func53, Try.ntmps53
    go_wp2_with fail
    refine (HB.out _).mono ?_
    rintro e w1 ⟨rfl, rfl⟩
    go_wp2_with fail
    go_ret
    exact ⟨ret_int (by first | rfl | omega), rfl⟩

set_option maxHeartbeats 800000 in
theorem refAll1 (n : Nat) (w : World) (h1 : 1 ≤ n) (h2 : n ≤ 64) : Calls Try.prog 23 #[.int .i64 n] w fun e w' => e = .returned (.int .u64 (2 ^ n - 1 : Nat)) ∧ Kept [] w w' := by
  go_enter Try.func23, Try.ntmps23
  go_wp2_with fail
  go_loopw [3, 4] (fun sv iv wr => ∃ k : Nat, k ≤ n ∧ iv = .int .i64 k ∧ sv = .int .u64 (2 ^ k - 1 : Nat) ∧ Hid (Kept [] w wr)) (fun _ i _ => n - (intOf i).toNat)
  case atStart => exact ⟨0, by omega, rfl, rfl, Kept.refl _ _⟩
  case round =>
    obtain ⟨k, hk, rfl, rfl, HK⟩ := hrel
    by_cases hlt : k < n
    · have hp := two_pow_lt (n := k) (by omega)
      have HP := Lib.hid (fun w => refPut1 (2 ^ k - 1) k w (by omega) (by omega))
      rw [all_step] at HP
      obtain ⟨s2, hs2⟩ : ∃ s2, 2 ^ (k + 1) - 1 = s2 := ⟨_, rfl⟩
      rw [hs2] at HP
      have HS2 := Lib.hid hs2
      clear hs2
      generalize 2 ^ k - 1 = s1 at *
      have b1 : decide ((k : Int) < 64) = true := by simp; omega
      have b2 : decide ((k : Int) < (n : Int)) = true := by simp; omega
      go_wp2_with fail
      refine (HP.out _).mono ?_
      rintro e w1 ⟨rfl, hk1⟩
      have HK1 := Lib.hid (HK.out.trans hk1)
      clear hk1
      go_wp2_with fail
      go_roundw
      case rel => exact ⟨k + 1, by omega, by go_num, by rw [HS2.out], HK1⟩
      case measure => simp [intOf]; omega
    · obtain rfl : k = n := by omega
      obtain ⟨s1, hs1⟩ : ∃ s1, 2 ^ k - 1 = s1 := ⟨_, rfl⟩
      have HS1 := Lib.hid hs1
      rw [hs1]
      clear hs1
      by_cases h64 : k < 64
      · have b1 : decide ((k : Int) < 64) = true := by simp; omega
        have b2 : decide ((k : Int) < (k : Int)) = false := by simp
        go_wp2_with fail
        go_ret
        exact ⟨by rw [HS1.out]; rfl, HK.out⟩
      · have b1 : decide ((k : Int) < 64) = false := by simp; omega
        go_wp2_with fail
        go_ret
        exact ⟨by rw [HS1.out]; rfl, HK.out⟩

end Go.Proofs.Ytccodklfplfleaa
