/- Package nums: Read, and the document's Decimal and Read. -/
import Derived.Test.YthahmfeaekddnaaGreatDoorNumsR
namespace Go.Proofs.YthahmfeaekddnaaGreatDoor
open Go.RowKit

theorem dig_at {l : List UInt8} {k : Nat} (h : k < l.length) (ha : l.all isDig = true) : isDig l[k] = true := (List.all_eq_true.1 ha) _ (List.getElem_mem h)
theorem plain_all {l : List UInt8} (h : plainS l = true) : l.all isDig = true := by
  unfold plainS at h; rw [Bool.and_eq_true] at h; exact h.1

theorem hexV_dig (b : UInt8) : isDig b = decide (hexV b ≤ 9) := by
  unfold isDig hexV
  by_cases h : 48 ≤ b.toNat ∧ b.toNat ≤ 57
  · rw [if_pos h]; simp [h]
  · rw [if_neg h]
    have : (decide (48 ≤ b.toNat) && decide (b.toNat ≤ 57)) = false := by simp; omega
    rw [this]
    split <;> simp <;> omega
theorem hexV_digV (b : UInt8) (h : isDig b = true) : hexV b = digV b := by
  rw [isDig_iff] at h; unfold hexV digV; rw [if_pos h]
theorem plain_one (l : List UInt8) (h : l.length = 1) (ha : l.all isDig = true) : plainS l = true := by
  match l, h with
  | [c], _ => unfold plainS; rw [ha]; by_cases e : c = 48 <;> simp [e]
theorem plain_more (l : List UInt8) (h : 1 < l.length) (ha : l.all isDig = true) : plainS l = (l.headD 48 != 48) := by
  match l, h with
  | c :: d :: t, _ => unfold plainS; rw [ha]; simp
theorem toNat48 (b : UInt8) : (b != 48) = (((b.toNat : Nat) : Int) != 48) := by
  by_cases e : b = 48
  · subst e; rfl
  · have : b.toNat ≠ 48 := fun e2 => e (UInt8.toNat_inj.1 (by simpa using e2))
    rw [bne_iff_ne.2 e, eq_comm, bne_iff_ne]; omega

end Go.Proofs.YthahmfeaekddnaaGreatDoor
