/- Package audit: Text, and the document's Text. -/
import Derived.Test.YthahmfeaekddnaaGreatDoorNumsP
import Derived.Deep.RegionHeld3
import Derived.Deep.DrawnRows
namespace Go.Proofs.YthahmfeaekddnaaGreatDoor
open Go.RowKit Go.Sort
attribute [local go_sem ↓] Go.wp_at_zero Go.wp_at_succ

theorem Kept.grow {G : List Nat} {w w' : World} (h : Kept G w w') (os : Array Obj) : Kept G w (Go.Sort.grow w' os) :=
  ⟨h.os, h.tape, h.output, by
    have := h.size
    show w.heap.size ≤ (w'.heap ++ os).size
    rw [Array.size_append]; omega, fun j hj hn => by
    have h1 := h.block j hj hn
    have h2 := h.size
    show (w'.heap ++ os)[j]? = _
    rw [Array.getElem?_append_left (by omega)]
    exact h1⟩
theorem itoa_any (n : Nat) (w : World) (hn : n ≤ 9223372036854775807) (hP : HasPow w) : Calls Tryz.prog 72 #[.int .i64 n] w fun e w' => e = .returned (strV (dec n)) ∧ Kept [] w w' := by
  refine (Tryz.strconv_Itoa (n : Int) (by omega) (by omega) w hP).mono fun e w' ⟨h1, k, os, h2⟩ => ⟨?_, ?_⟩
  · rw [h1]
    have : Lib.itoa (n : Int) = dec n := by
      unfold Lib.itoa
      rw [if_neg (by omega)]
      exact dec_digits n (by omega)
    rw [this]
  · rw [h2]
    exact (Kept.drewN (Kept.refl [] w) k).grow os
def faultD (k : Int) : List UInt8 := if k = 1 then [108, 111, 115, 116] else if k = 2 then [116, 119, 105, 99, 101] else if k = 3 then [97, 115, 116, 114, 97, 121] else [99, 114, 111, 119, 100]
def textD (k s c : Int) : List UInt8 := if 1 ≤ k ∧ k ≤ 4 ∧ 0 ≤ s ∧ 0 ≤ c then (((faultD k ++ [32]) ++ dec s.toNat) ++ [32]) ++ dec c.toNat else [63]
theorem decs_len (x : Nat) (hx : x < 18446744073709551616) : (dec x).length ≤ 20 := by rw [← dec_digits x hx]; exact decDigits_len x hx

set_option maxHeartbeats 1600000 in
theorem auText_bad (k s c : Int) (w : World) (hb : ¬ (1 ≤ k ∧ k ≤ 4 ∧ 0 ≤ s ∧ 0 ≤ c)) :
    Calls Tryz.prog 30 #[.agg #[.int .i64 k, .int .i64 s, .int .i64 c]] w fun e w' => e = .returned (strV (textD k s c)) ∧ Kept [] w w' := by
  have HF : Hid (textD k s c = [63]) := if_neg hb
  have hB := Blk.new w 67 #[.int .i64 k, .int .i64 s, .int .i64 c]
  have hc := hB.cell
  have hlt := hB.lt
  clear hB
  by_cases h1 : k < 1
  · clear hb
    go_enter Tryz.func30, Tryz.ntmps30
    go_wp2_with fail
    go_ret
    exact ⟨by rw [HF.out]; rfl, (Kept.refl [] w).alloc _⟩
  · by_cases h2 : 5 ≤ k
    · clear hb
      go_enter Tryz.func30, Tryz.ntmps30
      go_wp2_with fail
      go_ret
      exact ⟨by rw [HF.out]; rfl, (Kept.refl [] w).alloc _⟩
    · by_cases h3 : s < 0
      · clear hb
        go_enter Tryz.func30, Tryz.ntmps30
        go_wp2_with fail
        go_ret
        exact ⟨by rw [HF.out]; rfl, (Kept.refl [] w).alloc _⟩
      · have h4 : c < 0 := by omega
        clear hb
        go_enter Tryz.func30, Tryz.ntmps30
        go_wp2_with fail
        go_ret
        exact ⟨by rw [HF.out]; rfl, (Kept.refl [] w).alloc _⟩
set_option maxHeartbeats 1600000 in
theorem R34Text_bad (k s c : Int) (w : World) (hb : ¬ (1 ≤ k ∧ k ≤ 4 ∧ 0 ≤ s ∧ 0 ≤ c)) :
    Calls Tryz.prog 31 #[.int .i64 k, .int .i64 s, .int .i64 c] w fun e w' => e = .returned (strV (textD k s c)) ∧ Kept [] w w' := by
  have HF : Hid (textD k s c = [63]) := if_neg hb
  by_cases h1 : k < 1
  · clear hb
    go_enter Tryz.func31, Tryz.ntmps31
    go_wp2_with fail
    go_ret
    exact ⟨by rw [HF.out]; rfl, Kept.refl [] w⟩
  · by_cases h2 : 4 < k
    · clear hb
      go_enter Tryz.func31, Tryz.ntmps31
      go_wp2_with fail
      go_ret
      exact ⟨by rw [HF.out]; rfl, Kept.refl [] w⟩
    · by_cases h3 : s < 0
      · clear hb
        go_enter Tryz.func31, Tryz.ntmps31
        go_wp2_with fail
        go_ret
        exact ⟨by rw [HF.out]; rfl, Kept.refl [] w⟩
      · have h4 : c < 0 := by omega
        clear hb
        go_enter Tryz.func31, Tryz.ntmps31
        go_wp2_with fail
        go_ret
        exact ⟨by rw [HF.out]; rfl, Kept.refl [] w⟩
end Go.Proofs.YthahmfeaekddnaaGreatDoor
