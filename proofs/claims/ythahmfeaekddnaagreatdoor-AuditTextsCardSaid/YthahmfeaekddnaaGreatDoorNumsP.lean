/- Package nums: Print, and the document's Print. -/
import Derived.Test.YthahmfeaekddnaaGreatDoorNumsI
import Derived.Lib.ItoaMem
namespace Go.Proofs.YthahmfeaekddnaaGreatDoor
open Go.RowKit Go.Sort

abbrev U8 : UInt8 → Value := fun (b : UInt8) => Value.int .u8 (b.toNat : Int)

theorem decN_digits : ∀ (f x : Nat), x < 10 ^ f → 0 < f → decN f x = Lib.decDigits x
  | 0, _, _, h => absurd h (by omega)
  | f + 1, x, hx, _ => by
    unfold decN Lib.decDigits
    by_cases h : x < 10
    · simp [h, digB]
    · have hf : 0 < f := by
        rcases f with _ | f
        · simp at hx; omega
        · omega
      rw [if_neg h, dif_neg h, decN_digits f (x / 10) (by rw [Nat.pow_succ] at hx; omega) hf]
      rfl
theorem dec_digits (x : Nat) (hx : x < 18446744073709551616) : Lib.decDigits x = dec x := (decN_digits 20 x (by omega) (by omega)).symm

theorem putRow_kept (w : World) (o : Obj) (dk : Array UInt8) (k : Nat) : Kept [] w ((putRow U8 (w.alloc o) w.heap.size 0 dk).drewN k) := by
  refine Kept.drewN (G := []) ?_ k
  have hk : Kept [] w (w.alloc o) := (Kept.refl _ _).alloc o
  refine ⟨hk.os, hk.tape, hk.output, ?_, fun j hj hn => ?_⟩
  · simp
  · have hne : j ≠ w.heap.size := by omega
    refine Eq.trans ?_ (hk.block j hj hn)
    simp only [putRow, mapBlock, Array.getElem?_modify]
    rw [if_neg (fun h => hne h.symm)]

theorem holds_zero0 (w : World) (T : TypeId) (nd : Nat) (hs : nd ≤ 24) : Holds U8 (w.alloc (.cells Lib.zeros24 T)) w.heap.size 0 (Array.replicate nd (0 : UInt8)) := fun j hj => by
  have hj' : j < nd := by simpa using hj
  refine ⟨?_, World.frozen?_alloc_new _ _ _ _⟩
  rw [World.cell?_alloc_new, Lib.zeros24_at _ (by omega), getElem!_pos _ j hj]
  simp

/-- The table of powers of ten lies. -/
abbrev HasPow (w : World) : Prop := Lib.TabIs Tryz.prog w "internal/strconv.uint64pow10" .u64 Lib.pow10Tab
theorem HasPow.old {w w' : World} (h : HasPow w) (hk : Kept [] w w') : HasPow w' := by
  unfold HasPow Lib.TabIs World.var? at *
  cases hg : Tryz.prog.globalNamed "internal/strconv.uint64pow10" with
  | none => simp [hg] at h
  | some g =>
    simp only [hg, Option.bind_some] at h ⊢
    have hlt : g < w.heap.size := by
      rcases Nat.lt_or_ge g w.heap.size with h' | h'
      · exact h'
      · rw [Array.getElem?_eq_none h'] at h; simp at h
    rw [hk.block g hlt (by simp)]
    exact h

theorem digB_hexB (d : Nat) (h : d < 10) : hexB d = digB d := by simp [hexB, h, digB]
/-- A number's digits but the last one. -/
def decPre (x : Nat) : List UInt8 := if x < 10 then [] else Lib.decDigits (x / 10)
theorem decDigits_step (x : Nat) : Lib.decDigits x = decPre x ++ [digB (x % 10)] := by
  unfold decPre
  rw [Lib.decDigits]
  by_cases h : x < 10
  · rw [if_pos h]; simp [h, digB, Nat.mod_eq_of_lt h]
  · rw [if_neg h, dif_neg h]; rfl
theorem decDigits_len (x : Nat) (hx : x < 18446744073709551616) : (Lib.decDigits x).length ≤ 20 := by
  rw [Lib.decDigits_length]
  by_cases h0 : x = 0
  · subst h0; simp [Lib.nDigits]
  · have := Lib.numDigits_eq x (by omega) hx
    split at this <;> omega

set_option maxHeartbeats 800000 in
theorem refPrint (x : Nat) (w : World) (hx : x < 18446744073709551616) : Calls Tryz.prog 73 #[.int .u64 x] w fun e w' => e = .returned (strV (dec x)) ∧ w = w' := by
  have HD := Lib.hid (dec_digits x hx)
  have HC0 : Hid (Calls Tryz.prog 144 #[.int .u64 ((x : Int) % 10)] w fun e w' => e = .returned (strV [hexB (x % 10)]) ∧ w = w') := refDigit (x % 10) w (by omega)
  have hl0 := decDigits_len x hx
  go_enter Tryz.func73, Tryz.ntmps73
  go_wp2_with fail
  refine HC0.out.mono ?_
  rintro e w1 ⟨rfl, rfl⟩
  go_wp2_with fail
  go_loop [0, 3] (fun xv sv => ∃ (y : Nat) (s : List UInt8), y ≤ x ∧ xv = .int .u64 y ∧ sv = strV s ∧ Hid (Lib.decDigits x = decPre y ++ s)) (fun x _ => (intOf x).toNat)
  case atStart => exact ⟨x, [hexB (x % 10)], by omega, rfl, rfl, by rw [digB_hexB _ (by omega)]; exact decDigits_step x⟩
  case round =>
    obtain ⟨y, s, hy, rfl, rfl, HS⟩ := hrel
    have hsl : s.length ≤ 20 := by
      have := congrArg List.length HS.out
      rw [List.length_append] at this; omega
    by_cases hlt : 9 < y
    · have HC : Hid (Calls Tryz.prog 144 #[.int .u64 ((y : Int) / 10 % 10)] w fun e w' => e = .returned (strV [hexB (y / 10 % 10)]) ∧ w = w') := refDigit (y / 10 % 10) w (by omega)
      have HAP := Lib.hid (str_append [hexB (y / 10 % 10)] s)
      have HST : Hid (Lib.decDigits x = decPre (y / 10) ++ (hexB (y / 10 % 10) :: s)) := by
        have := HS.out
        rw [this, digB_hexB _ (by omega), show decPre y = Lib.decDigits (y / 10) from if_neg (by omega), decDigits_step (y / 10)]
        simp [Hid]
      clear HS
      go_wp2_with fail
      refine HC.out.mono ?_
      rintro e w1 ⟨rfl, rfl⟩
      go_wp2_with fail
      go_round
      case rel => exact ⟨y / 10, hexB (y / 10 % 10) :: s, by omega, by go_num, congrArg Value.string HAP.out, HST⟩
      case measure => simp [intOf]; omega
    · have HE : Hid (s = dec x) := by
        have := HS.out
        rw [show decPre y = [] from if_pos (by omega), List.nil_append] at this
        rw [Hid, ← this, HD.out]
      clear HS
      go_wp2_with fail
      go_ret
      exact ⟨by rw [HE.out]; rfl, rfl⟩

end Go.Proofs.YthahmfeaekddnaaGreatDoor
