/- Package nums: hex texts are printed; the document's hex texts. -/
import Derived.Test.YtladfdpcdjjifaaGreatDoorNumsW
import Derived.Test.YtladfdpcdjjifaaGreatDoorWirePlain
namespace Go.Proofs.YtladfdpcdjjifaaGreatDoor
open Go.RowKit

theorem hexN_cons (j : Nat) : ∀ x, hexN (j + 1) x = hexB (x / 16 ^ j % 16) :: hexN j x := by
  induction j with
  | zero => intro x; simp [hexN]
  | succ j ih =>
    intro x
    rw [hexN, ih (x / 16)]
    simp only [List.cons_append, hexN]
    rw [Nat.div_div_eq_div_mul, Nat.pow_succ, Nat.mul_comm]

/-- The cells of the array after j rounds. -/
def hexA (x j : Nat) : Array Value := ((List.replicate (16 - j) 0 ++ hexN j x).map B).toArray
theorem hexA_size (x j : Nat) (hj : j ≤ 16) : (hexA x j).size = 16 := by simp [hexA, hexN_len]; omega
theorem hexA_step (x j : Nat) (hj : j < 16) : (hexA x j).setIfInBounds (15 - j) (B (hexB (x / 16 ^ j % 16))) = hexA x (j + 1) := by
  unfold hexA
  rw [hexN_cons, List.setIfInBounds_toArray]
  obtain ⟨m, hm⟩ : ∃ m, 16 - j = m + 1 := ⟨15 - j, by omega⟩
  rw [hm, show 16 - (j + 1) = m by omega, show 15 - j = m by omega]
  congr 1
  simp [List.replicate_succ']
theorem hexA_zero (x : Nat) : hexA x 0 = #[.int .u8 0, .int .u8 0, .int .u8 0, .int .u8 0, .int .u8 0, .int .u8 0, .int .u8 0, .int .u8 0, .int .u8 0, .int .u8 0, .int .u8 0, .int .u8 0, .int .u8 0, .int .u8 0, .int .u8 0, .int .u8 0] := rfl

theorem and15 (x : Nat) (hx : x < 18446744073709551616) : bits .and .u64 (x : Int) 15 = ((x % 16 : Nat) : Int) := by
  have h := u64_and_nat x 15 hx (by omega)
  rw [show (x &&& 15) = x % 16 from Nat.and_two_pow_sub_one_eq_mod x 4] at h
  exact h
theorem figs_get (d : Fin 16) : figs[d.val]'(by have := d.isLt; simp [figs]) = hexB d.val := by
  revert d; decide

set_option maxHeartbeats 800000 in
theorem hex_any (x : Nat) (w : World) (hx : x < 18446744073709551616) :
    Calls Tryz.prog 48 #[.int .u64 x] w fun e w' => e = .returned (strV (hex x)) ∧ Kept [] w w' := by
  go_enter Tryz.func48, Tryz.ntmps48
  go_wp2_with fail
  go_loopw [0, 4] (fun xv iv wr => ∃ j : Nat, j ≤ 16 ∧ xv = .int .u64 (x / 16 ^ j : Nat) ∧ iv = .int .i64 (15 - (j : Int)) ∧ Blk wr w.heap.size 104 (hexA x j) ∧ Kept [] w wr) (fun _ i _ => ((intOf i) + 1).toNat)
  case atStart => exact ⟨0, by omega, by simp, by simp, by rw [hexA_zero]; exact Blk.new _ _ _, (Kept.refl _ _).alloc _⟩
  case round =>
    obtain ⟨j, hj, rfl, rfl, hblk, hkp⟩ := hrel
    have HB := Lib.hid hblk
    by_cases hlt : j < 16
    · obtain ⟨u, hc1⟩ := hblk.cell_lt (i := 15 - j) (by rw [hexA_size x j (by omega)]; omega)
      have hfr1 := hblk.frozen (15 - j)
      clear hblk
      generalize hy : x / 16 ^ j = y at *
      have hyb : y < 18446744073709551616 := by rw [← hy]; exact Nat.lt_of_le_of_lt (Nat.div_le_self _ _) hx
      have HY := Lib.hid hy
      clear hy
      have hand := and15 y hyb
      obtain ⟨d, hd⟩ : ∃ d, y % 16 = d := ⟨_, rfl⟩
      rw [hd] at hand
      have hd16 : d < 16 := by omega
      have HD := Lib.hid hd
      clear hd
      have hidx : (⟨#[48, 49, 50, 51, 52, 53, 54, 55, 56, 57, 97, 98, 99, 100, 101, 102]⟩ : ByteArray)[d]'(show d < 16 from hd16) = hexB d := figs_get ⟨d, hd16⟩
      obtain ⟨i, hi⟩ : ∃ i, 15 - j = i := ⟨_, rfl⟩
      rw [hi] at hc1 hfr1
      have hij : (15 : Int) - (j : Int) = (i : Int) := by omega
      have hi15 : i ≤ 15 := by omega
      have HI := Lib.hid hi
      have HIJ := Lib.hid hij
      rw [hij]
      clear hi hij
      go_wp2_with fail
      go_roundw
      case rel =>
        refine ⟨j + 1, by omega, ?_, ?_, ?_, hkp.setCell (.inr (Nat.le_refl _)) _⟩
        · rw [Nat.pow_succ, ← Nat.div_div_eq_div_mul, HY.out]; go_num
        · rw [← HIJ.out]; exact congrArg (Value.int .i64) (by omega)
        · rw [← hexA_step x j hlt, HI.out, HY.out, HD.out]
          exact HB.out.set _ _
      case measure => simp [intOf]
    · obtain rfl : j = 16 := by omega
      clear hblk
      have hr : Reads wr 1 (some ⟨w.heap.size, 0, none⟩) 16 ((hex x).map B) := by
        refine ⟨by simp [hex, hexN_len], fun _ => ⟨_, rfl, fun i u hu => ?_⟩⟩
        rw [add_mk, HB.out.cell]
        simpa [hexA, hex] using hu
      have hst := run_string_of (P := Tryz.prog) (c := 16) hr 76 9 5 Tryz.underlying76 Tryz.underlying5 Tryz.underlying9
      go_wp2_with fail
      go_ret
      exact ⟨rfl, hkp⟩

theorem figs_slice (d : Fin 16) : (figs.drop d.val).take 1 = [hexB d.val] := by revert d; decide

theorem str_append (a b : List UInt8) : (⟨a.toArray⟩ : ByteArray) ++ ⟨b.toArray⟩ = ⟨(a ++ b).toArray⟩ := by
  apply ByteArray.ext
  simp

set_option maxHeartbeats 800000 in
theorem refReadHex (l : List UInt8) (w : World) (hl : l.length ≤ 9223372036854775807) :
    Calls Tryz.prog 66 #[strV l] w fun e w' => e = .returned (.tuple #[.int .u64 (readH l).1, .int .i64 (readH l).2]) ∧ w = w' := by
  obtain ⟨r, hr⟩ : ∃ r, readH l = r := ⟨_, rfl⟩
  rw [hr]
  unfold readH at hr
  have HR := Lib.hid hr
  clear hr
  by_cases h16 : l.length = 16
  · have HL := Lib.hid h16
    have hb : ((l.length : Int) != 16) = false := by simp [h16]
    have h1 : l.length ≤ 16 := by omega
    have h2 : 16 ≤ l.length := by omega
    clear h16
    go_enter Tryz.func66, Tryz.ntmps66
    go_wp2_with fail
    go_loop [4, 5] (fun x i => ∃ k : Nat, k ≤ 16 ∧ i = .int .i64 k ∧ x = .int .u64 (valH (l.take k) : Nat) ∧ (l.take k).all (fun b => decide (hexV b < 16)) = true) (fun _ i => 16 - (intOf i).toNat)
    case atStart => exact ⟨0, by omega, rfl, rfl, rfl⟩
    case round =>
      obtain ⟨k, hk, rfl, rfl, hall⟩ := hrel
      have HA := Lib.hid hall
      clear hall
      by_cases hlt : k < 16
      · have hkl : k < l.length := by omega
        have hst := valH_step hkl
        have hv1 := valH_lt (l.take k) HA.out
        have hv2 : (l.take k).length ≤ 15 := by simp; omega
        have hv3 : 16 ^ (l.take k).length ≤ 16 ^ 15 := Nat.pow_le_pow_right (by omega) hv2
        have hv4 : valH (l.take k) < 1152921504606846976 := by omega
        generalize hxx : valH (l.take k) = x at *
        clear hv1 hv2 hv3 hxx
        obtain ⟨b, hlk⟩ : ∃ b : UInt8, l[k] = b := ⟨_, rfl⟩
        have hidx : (⟨l.toArray⟩ : ByteArray)[k]'(show k < (⟨l.toArray⟩ : ByteArray).size from hkl) = b := hlk
        rw [hlk] at hst
        have HS := Lib.hid hst
        have HB := Lib.hid hlk
        clear hst hlk
        have hb256 := b.toNat_lt
        have hc := refValue b.toNat w hb256
        rw [show UInt8.ofNat b.toNat = b from by simp] at hc
        by_cases hx : hexV b < 16
        · generalize hvv : hexV b = v at *
          have HV := Lib.hid hvv
          have HC := Lib.hid hc
          clear hc hvv
          go_wp2_with fail
          refine HC.out.mono ?_
          rintro e w1 ⟨rfl, rfl⟩
          go_wp2_with fail
          refine HC.out.mono ?_
          rintro e w1 ⟨rfl, rfl⟩
          go_wp2_with fail
          go_round
          case rel => exact ⟨k + 1, by omega, by go_num, by rw [HS.out]; go_num, all_take hkl HA.out (by rw [HB.out, HV.out]; simpa using hx)⟩
          case measure => simp [intOf]; omega
        · have HC := Lib.hid hc
          have HR2 : Hid (r = (0, 3)) := by
            rw [← HR.out, if_neg (fun h => by have := all_not (p := fun b => decide (hexV b < 16)) hkl (by rw [HB.out]; simpa using hx); rw [this] at h; exact Bool.noConfusion h.2)]; exact rfl
          have hv16 : hexV b ≤ 16 := by unfold hexV; (repeat' split) <;> omega
          generalize hexV b = v at *
          clear hc HR
          go_wp2_with fail
          refine HC.out.mono ?_
          rintro e w1 ⟨rfl, rfl⟩
          go_wp2_with fail
          go_ret2
          rw [HR2.out]
          exact ⟨rfl, rfl⟩
      · obtain rfl : k = 16 := by omega
        have HR2 : Hid (r = (valH l, 0)) := by
          have ht : l.take 16 = l := List.take_of_length_le (by omega)
          have := HA.out
          rw [ht] at this
          rw [← HR.out, if_pos ⟨HL.out, this⟩]; exact rfl
        clear HR
        go_wp2_with fail
        go_ret2
        rw [HR2.out]
        have ht : l.take 16 = l := List.take_of_length_le (by omega)
        rw [ht]
        exact ⟨rfl, rfl⟩
  · have hb : ((l.length : Int) != 16) = true := by simp; omega
    have HR2 : Hid (r = (0, 3)) := by rw [← HR.out, if_neg (fun h => h16 h.1)]; exact rfl
    clear h16 HR
    go_enter Tryz.func66, Tryz.ntmps66
    go_wp2_with fail
    go_ret2
    rw [HR2.out]
    exact ⟨rfl, rfl⟩

end Go.Proofs.YtladfdpcdjjifaaGreatDoor
