/- Package nums: what each of its functions does: hex texts. -/
import Derived.Test.YthahmfeaekddnaaGreatDoorShelf
import Derived.Test.YthahmfeaekddnaaGreatDoorNumsSplit
import Derived.Laws.BitsAllLaws
namespace Go.Proofs.YthahmfeaekddnaaGreatDoor
open Go.RowKit

/-- A text as a value. -/
abbrev strV (l : List UInt8) : Value := .string ⟨l.toArray⟩
theorem str_extract (l : List UInt8) (a b : Nat) : (⟨l.toArray⟩ : ByteArray).extract a b = ⟨((l.drop a).take (b - a)).toArray⟩ := by
  apply ByteArray.ext
  apply Array.ext'
  rw [Lib.extract_data]

theorem ret_str {a b : ByteArray} (h : a = b) : Ending.returned (.string a) = .returned (.string b) := by rw [h]
theorem ret_u64 {a b : Int} (h : a = b) : Ending.returned (.int .u64 a) = .returned (.int .u64 b) := by rw [h]

/-- The hex figures. -/
def figs : List UInt8 := [48, 49, 50, 51, 52, 53, 54, 55, 56, 57, 97, 98, 99, 100, 101, 102]
theorem figs_index (n : Fin 256) : Lib.indexByte figs (UInt8.ofNat n.val) = if hexV (UInt8.ofNat n.val) < 16 then (hexV (UInt8.ofNat n.val) : Int) else -1 := by
  revert n; decide +kernel
theorem figs_index' (b : UInt8) : Lib.indexByte figs b = if hexV b < 16 then (hexV b : Int) else -1 := by
  have := figs_index ⟨b.toNat, b.toNat_lt⟩
  simpa using this

theorem shl4_or (x c : Nat) (hx : x < 1152921504606846976) (hc : c < 16) : bits .or .u64 ((x : Int) * 16) (c : Int) = ((x * 16 + c : Nat) : Int) := by
  have h := u64_or_nat (x * 16) c (by omega) (by omega)
  have e : ((x * 16 : Nat) : Int) = (x : Int) * 16 := by omega
  rw [e] at h
  rw [h, Nat.mul_comm x 16, show (16 : Nat) = 2 ^ 4 from rfl, Nat.two_pow_add_eq_or_of_lt (by simpa using hc)]

theorem all_take {l : List UInt8} {p : UInt8 → Bool} {k : Nat} (hk : k < l.length) (h : (l.take k).all p = true) (h1 : p l[k] = true) : (l.take (k + 1)).all p = true := by
  rw [List.take_succ_eq_append_getElem hk]; simp only [List.all_append, h, List.all_cons, h1, List.all_nil, Bool.and_self]
theorem all_not {l : List UInt8} {p : UInt8 → Bool} {k : Nat} (hk : k < l.length) (h1 : p l[k] = false) : l.all p = false := by
  rw [Bool.eq_false_iff]
  intro h
  have := List.all_eq_true.1 h l[k] (List.getElem_mem hk)
  rw [h1] at this; cases this

end Go.Proofs.YthahmfeaekddnaaGreatDoor
