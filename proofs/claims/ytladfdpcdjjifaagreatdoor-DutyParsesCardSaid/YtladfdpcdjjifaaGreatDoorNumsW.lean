/- Package nums: what each of its functions does: hex texts. -/
import Derived.Test.YtladfdpcdjjifaaGreatDoorShelf
import Derived.Test.YtladfdpcdjjifaaGreatDoorNumsA
import Derived.Laws.BitsAllLaws
namespace Go.Proofs.YtladfdpcdjjifaaGreatDoor
open Go.RowKit

/-- A text as a value. -/
abbrev strV (l : List UInt8) : Value := .string ⟨l.toArray⟩
theorem str_extract (l : List UInt8) (a b : Nat) : (⟨l.toArray⟩ : ByteArray).extract a b = ⟨((l.drop a).take (b - a)).toArray⟩ := by
  apply ByteArray.ext
  apply Array.ext'
  rw [Lib.extract_data]

theorem ret_str {a b : ByteArray} (h : a = b) : Ending.returned (.string a) = .returned (.string b) := by rw [h]
theorem ret_u64 {a b : Int} (h : a = b) : Ending.returned (.int .u64 a) = .returned (.int .u64 b) := by rw [h]

set_option maxHeartbeats 400000 in
theorem refValue (b : Nat) (w : World) (hb : b < 256) :
    Calls Tryz.prog 91 #[.int .u8 b] w fun e w' => e = .returned (.int .u64 (hexV (UInt8.ofNat b))) ∧ w = w' := by
  have hbv : (UInt8.ofNat b).toNat = b := by simp; omega
  unfold hexV
  rw [hbv]
  clear hbv
  by_cases h1 : 48 ≤ b ∧ b ≤ 57
  · rw [if_pos h1]
    obtain ⟨h1, h2⟩ := h1
    go_enter Tryz.func91, Tryz.ntmps91
    go_wp2_with fail
    go_ret
    exact ⟨ret_u64 (show (b : Int) - 48 = _ by omega), rfl⟩
  · rw [if_neg h1]
    by_cases h2 : 97 ≤ b ∧ b ≤ 102
    · rw [if_pos h2]
      obtain ⟨h2, h3⟩ := h2
      clear h1
      go_enter Tryz.func91, Tryz.ntmps91
      go_wp2_with fail
      go_ret
      exact ⟨ret_u64 (show (b : Int) - 97 + 10 = _ by omega), rfl⟩
    · rw [if_neg h2]
      have hc : (b < 48 ∨ 57 < b) ∧ (b < 97 ∨ 102 < b) := by omega
      clear h1 h2
      obtain ⟨h1 | h1, h2 | h2⟩ := hc
      all_goals
        go_enter Tryz.func91, Tryz.ntmps91
        go_wp2_with fail
      all_goals (go_ret; exact ⟨rfl, rfl⟩)

/-- The hex figures. -/
def figs : List UInt8 := [48, 49, 50, 51, 52, 53, 54, 55, 56, 57, 97, 98, 99, 100, 101, 102]
theorem figs_index (n : Fin 256) : Lib.indexByte figs (UInt8.ofNat n.val) = if hexV (UInt8.ofNat n.val) < 16 then (hexV (UInt8.ofNat n.val) : Int) else -1 := by
  revert n; decide +kernel
theorem figs_index' (b : UInt8) : Lib.indexByte figs b = if hexV b < 16 then (hexV b : Int) else -1 := by
  have := figs_index ⟨b.toNat, b.toNat_lt⟩
  simpa using this

theorem shl4_or (x c : Nat) (hx : x < 1152921504606846976) (hc : c < 16) : bits .or .u64 ((x : Int) * 16) (c : Int) = ((x * 16 + c : Nat) : Int) := by
  have h := u64_or_nat (x * 16) c (by omega) (by omega)
  have e : ((x * 16 : Nat) : Int) = (x : Int) * 16 := by omega
  rw [e] at h
  rw [h, Nat.mul_comm x 16, show (16 : Nat) = 2 ^ 4 from rfl, Nat.two_pow_add_eq_or_of_lt (by simpa using hc)]

theorem all_take {l : List UInt8} {p : UInt8 → Bool} {k : Nat} (hk : k < l.length) (h : (l.take k).all p = true) (h1 : p l[k] = true) : (l.take (k + 1)).all p = true := by
  rw [List.take_succ_eq_append_getElem hk]; simp only [List.all_append, h, List.all_cons, h1, List.all_nil, Bool.and_self]
theorem all_not {l : List UInt8} {p : UInt8 → Bool} {k : Nat} (hk : k < l.length) (h1 : p l[k] = false) : l.all p = false := by
  rw [Bool.eq_false_iff]
  intro h
  have := List.all_eq_true.1 h l[k] (List.getElem_mem hk)
  rw [h1] at this; cases this

set_option maxHeartbeats 800000 in
theorem readHex_any (l : List UInt8) (w : World) (hl : l.length ≤ 9223372036854775807) :
    Calls Tryz.prog 56 #[strV l] w fun e w' => e = .returned (.tuple #[.int .u64 (readH l).1, .int .i64 (readH l).2]) ∧ w = w' := by
  obtain ⟨r, hr⟩ : ∃ r, readH l = r := ⟨_, rfl⟩
  rw [hr]
  unfold readH at hr
  have HR := Lib.hid hr
  clear hr
  by_cases h16 : l.length = 16
  · have HL := Lib.hid h16
    have hb : ((l.length : Int) != 16) = false := by simp [h16]
    have h1 : l.length ≤ 16 := by omega
    have h2 : 16 ≤ l.length := by omega
    clear h16
    go_enter Tryz.func56, Tryz.ntmps56
    go_wp2_with fail
    go_loop [4, 12] (fun x i => ∃ k : Nat, k ≤ 16 ∧ i = .int .i64 k ∧ x = .int .u64 (valH (l.take k) : Nat) ∧ (l.take k).all (fun b => decide (hexV b < 16)) = true) (fun _ i => 16 - (intOf i).toNat)
    case atStart => exact ⟨0, by omega, rfl, rfl, rfl⟩
    case round =>
      obtain ⟨k, hk, rfl, rfl, hall⟩ := hrel
      have HA := Lib.hid hall
      clear hall
      by_cases hlt : k < 16
      · have hkl : k < l.length := by omega
        have hst := valH_step hkl
        have hv1 := valH_lt (l.take k) HA.out
        have hv2 : (l.take k).length ≤ 15 := by simp; omega
        have hv3 : 16 ^ (l.take k).length ≤ 16 ^ 15 := Nat.pow_le_pow_right (by omega) hv2
        have hv4 : valH (l.take k) < 1152921504606846976 := by omega
        generalize hxx : valH (l.take k) = x at *
        have HXX := Lib.hid hxx
        clear hv1 hv2 hv3 hxx
        obtain ⟨b, hlk⟩ : ∃ b : UInt8, l[k] = b := ⟨_, rfl⟩
        have hidx : (⟨l.toArray⟩ : ByteArray)[k]'(show k < (⟨l.toArray⟩ : ByteArray).size from hkl) = b := hlk
        rw [hlk] at hst
        have HS := Lib.hid hst
        have HB := Lib.hid hlk
        clear hst hlk
        have hc : Calls Tryz.prog 81 #[strV figs, .int .u8 (b.toNat : Int)] w fun e w' => e = .returned (.int .i64 (Lib.indexByte figs b)) ∧ w = w' := by
          refine (Tryz.strings_IndexByte ⟨figs.toArray⟩ (b.toNat : Int) w).mono fun e w' ⟨h1, h2⟩ => ⟨?_, h2.symm⟩
          rw [h1]; simp
        rw [figs_index'] at hc
        by_cases hx : hexV b < 16
        · rw [if_pos hx] at hc
          have HC := Lib.hid hc
          clear hc
          generalize hvv : hexV b = v at *
          have HV := Lib.hid hvv
          clear hvv
          go_wp2_with fail
          refine HC.out.mono ?_
          rintro e w1 ⟨rfl, rfl⟩
          go_wp2_with fail
          go_round
          case rel => exact ⟨k + 1, by omega, by go_num, by rw [HS.out, shl4_or x v hv4 hx], all_take hkl HA.out (by rw [HB.out, HV.out]; simpa using hx)⟩
          case measure => simp [intOf]; omega
        · rw [if_neg hx] at hc
          have HC := Lib.hid hc
          have HR2 : Hid (r = (0, 3)) := by
            rw [← HR.out, if_neg (fun h => by have := all_not (p := fun b => decide (hexV b < 16)) hkl (by rw [HB.out]; simpa using hx); rw [this] at h; exact Bool.noConfusion h.2)]; exact rfl
          clear hc HR
          go_wp2_with fail
          refine HC.out.mono ?_
          rintro e w1 ⟨rfl, rfl⟩
          go_wp2_with fail
          go_ret2
          rw [HR2.out]
          exact ⟨rfl, rfl⟩
      · obtain rfl : k = 16 := by omega
        have HR2 : Hid (r = (valH l, 0)) := by
          have ht : l.take 16 = l := List.take_of_length_le (by omega)
          have := HA.out
          rw [ht] at this
          rw [← HR.out, if_pos ⟨HL.out, this⟩]; exact rfl
        clear HR
        go_wp2_with fail
        go_ret2
        rw [HR2.out]
        have ht : l.take 16 = l := List.take_of_length_le (by omega)
        rw [ht]
        exact ⟨rfl, rfl⟩
  · have hb : ((l.length : Int) != 16) = true := by simp; omega
    have HR2 : Hid (r = (0, 3)) := by rw [← HR.out, if_neg (fun h => h16 h.1)]; exact rfl
    clear h16 HR
    go_enter Tryz.func56, Tryz.ntmps56
    go_wp2_with fail
    go_ret2
    rw [HR2.out]
    exact ⟨rfl, rfl⟩

end Go.Proofs.YtladfdpcdjjifaaGreatDoor
