/- The ones of a number, rising (no program in sight). -/
import Derived.Lib.TrailingZeros
namespace Go.Proofs.YtfoeijiejpenpaaGreatDoor

theorem filter_range_cons (p : Nat → Bool) (k : Nat) (h1 : p k = true) (h2 : ∀ i, i < k → p i = false) : ∀ n, k < n → (List.range n).filter p = k :: (List.range n).filter (fun i => p i && i != k)
  | 0, h => by omega
  | n + 1, h => by
    rw [List.range_succ, List.filter_append, List.filter_append]
    by_cases hk : k < n
    · rw [filter_range_cons p k h1 h2 n hk, List.cons_append]
      have hne : (n != k) = true := by simp; omega
      simp [List.filter_cons, hne]
    · obtain rfl : k = n := by omega
      have e1 : (List.range k).filter p = [] := List.filter_eq_nil_iff.2 fun x hx => by rw [h2 x (List.mem_range.1 hx)]; simp
      have e2 : (List.range k).filter (fun i => p i && i != k) = [] := List.filter_eq_nil_iff.2 fun x hx => by rw [h2 x (List.mem_range.1 hx)]; simp
      rw [e1, e2]
      simp [h1]
/-- The ones of a number below 2^64, rising. -/
def bitsL (x : Nat) : List Nat := (List.range 64).filter fun i => x.testBit i
theorem bitsL_zero : bitsL 0 = [] := by simp [bitsL]
theorem bitsL_mem {x i : Nat} : i ∈ bitsL x ↔ i < 64 ∧ x.testBit i = true := by simp [bitsL]
theorem ctz_bits {x : Nat} (h0 : x ≠ 0) (h : x < 18446744073709551616) : Lib.ctz 64 x < 64 ∧ ∀ i, (x &&& (x - 1)).testBit i = (x.testBit i && i != Lib.ctz 64 x) ∧ (i < Lib.ctz 64 x → x.testBit i = false) ∧ (i = Lib.ctz 64 x → x.testBit i = true) := by
  unfold Lib.ctz
  rw [if_neg h0]
  obtain ⟨m, hm, hk⟩ := Lib.ctzFrom_spec 64 x (by omega) (by omega)
  generalize Lib.ctzFrom 64 x = k at *
  refine ⟨hk, fun i => ?_⟩
  have hp : 0 < 2 ^ k := Nat.two_pow_pos k
  have hlow : i < k → x.testBit i = false := fun hi => by
    rw [hm, Nat.mul_comm, Nat.testBit_mul_two_pow]
    simp; omega
  have hat : i = k → x.testBit i = true := fun hi => by
    subst hi
    rw [hm, Nat.mul_comm, Nat.testBit_mul_two_pow]
    simp [Nat.testBit_zero]
  refine ⟨?_, hlow, hat⟩
  rw [Nat.testBit_and]
  rcases Nat.lt_trichotomy i k with hi | hi | hi
  · rw [hlow hi]; simp
  · rw [hat hi]
    subst hi
    have e : x - 1 = 2 ^ (i + 1) * m + (2 ^ i - 1) := by
      rw [hm, Nat.pow_succ, Nat.mul_add, ← Nat.mul_assoc, Nat.mul_one]
      omega
    rw [e, Nat.testBit_two_pow_mul_add _ (by rw [Nat.pow_succ]; omega)]
    simp [Nat.testBit_two_pow_sub_one]
  · have e : x - 1 = 2 ^ (k + 1) * m + (2 ^ k - 1) := by
      rw [hm, Nat.pow_succ, Nat.mul_add, ← Nat.mul_assoc, Nat.mul_one]
      omega
    have e2 : x = 2 ^ (k + 1) * m + 2 ^ k := by
      rw [hm, Nat.pow_succ, Nat.mul_add, ← Nat.mul_assoc, Nat.mul_one]
    have e3 : (x - 1).testBit i = x.testBit i := by
      rw [e, e2, Nat.testBit_two_pow_mul_add _ (by rw [Nat.pow_succ]; omega), Nat.testBit_two_pow_mul_add _ (by rw [Nat.pow_succ]; omega), if_neg (by omega), if_neg (by omega)]
    rw [e3]
    have hne : (i != k) = true := by simp; omega
    rw [hne]; simp
/-- The least one comes first. -/
theorem bitsL_step {x : Nat} (h0 : x ≠ 0) (h : x < 18446744073709551616) : bitsL x = Lib.ctz 64 x :: bitsL (x &&& (x - 1)) := by
  obtain ⟨hk, hb⟩ := ctz_bits h0 h
  unfold bitsL
  rw [filter_range_cons (fun i => x.testBit i) (Lib.ctz 64 x) ((hb _).2.2 rfl) (fun i hi => (hb i).2.1 hi) 64 hk]
  congr 1
  exact List.filter_congr fun i _ => ((hb i).1).symm
theorem and_pred_lt {x : Nat} (h0 : x ≠ 0) : x &&& (x - 1) < x := Nat.lt_of_le_of_lt Nat.and_le_right (by omega)

/-- The set of the numbers below k that have a property. -/
def setN (p : Nat → Bool) : Nat → Nat
  | 0 => 0
  | k + 1 => if p k = true then setN p k ||| 2 ^ k else setN p k
theorem setN_bit (p : Nat → Bool) : ∀ k i, (setN p k).testBit i = (decide (i < k) && p i)
  | 0, i => by simp [setN]
  | k + 1, i => by
    unfold setN
    split
    · rename_i hp
      rw [Nat.testBit_or, setN_bit p k i, Nat.testBit_two_pow]
      by_cases hik : i = k
      · subst hik; simp [hp]
      · by_cases hlt : i < k
        · simp [hlt, show i < k + 1 by omega, show ¬ k = i by omega]
        · simp [hlt, show ¬ i < k + 1 by omega, show ¬ k = i by omega]
    · rename_i hp
      rw [setN_bit p k i]
      by_cases hik : i = k
      · subst hik; simp [show p i = false by simpa using hp]
      · by_cases hlt : i < k
        · simp [hlt, show i < k + 1 by omega]
        · simp [hlt, show ¬ i < k + 1 by omega]
theorem setN_lt (p : Nat → Bool) (k : Nat) (hk : k ≤ 64) : setN p k < 18446744073709551616 := by
  have h : setN p k < 2 ^ 64 := Nat.lt_pow_two_of_testBit _ fun i hi => by rw [setN_bit]; simp; omega
  simpa using h
theorem bitsL_setN (p : Nat → Bool) (k : Nat) (hk : k ≤ 64) : bitsL (setN p k) = (List.range k).filter p := by
  have h : ∀ d, (List.range (k + d)).filter (fun i => (setN p k).testBit i) = (List.range k).filter p := fun d => by
    induction d with
    | zero => exact List.filter_congr fun i hi => by have hi' : i < k := List.mem_range.1 hi; rw [setN_bit]; simp [hi']
    | succ d ih =>
      rw [← Nat.add_assoc, List.range_succ, List.filter_append, ih]
      have e : (setN p k).testBit (k + d) = false := by rw [setN_bit, show decide (k + d < k) = false by simp]; rfl
      simp [e]
  have := h (64 - k)
  rw [show k + (64 - k) = 64 by omega] at this
  exact this

end Go.Proofs.YtfoeijiejpenpaaGreatDoor
