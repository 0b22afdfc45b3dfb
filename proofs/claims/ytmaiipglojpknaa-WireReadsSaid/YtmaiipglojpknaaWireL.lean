/- The functions of the statements' package bosunlaw04, and the writing half of bosunref04. -/
import Derived.Test.YtmaiipglojpknaaWireR2
namespace Go.Proofs.Ytmaiipglojpknaa
open Go.RowKit

theorem reads_cells (w : World) (t : TypeId) (xs : List Value) (n : Nat) (hn : xs.length = n) : Reads (w.alloc (.cells xs.toArray t)) 1 (some ⟨w.heap.size, 0, none⟩) n xs := by
  refine ⟨by simp [hn], fun _ => ⟨_, rfl, fun j u hu => ?_⟩⟩
  rw [add_mk, (Blk.new w t xs.toArray).cell]
  simpa using hu

set_option maxHeartbeats 1000000 in
theorem awake4 (w : World) : Calls Try.prog 12 #[] w fun e w' => e = .returned (.bool true) ∧ Kept [] w w' := by
  go_enter Try.func12, Try.ntmps12
  go_wp2_with fail
  refine (wnew_any 4 w).mono ?_
  rintro e w1 ⟨rfl, hW1, hk1⟩
  generalize hg : w.heap.size = g at *
  have hgk : w.heap.size ≤ g := by omega
  have HG := Lib.hid hg
  clear hg
  go_wp2_with fail
  refine (wnum_any g none 0 0 [] 4 0 w1 hW1 (by omega) (by simp) (by omega)).mono ?_
  rintro e w2 ⟨rfl, A2, c2, hW2, hk2, hn2⟩
  have e2 : putS (0, [], 4) (encNum 0) = (0, [0], 3) := by decide
  rw [e2] at hW2
  go_wp2_with fail
  refine (wnum_any g A2 c2 0 [0] 3 300 w2 hW2 (by omega) (by simp) (by omega)).mono ?_
  rintro e w3 ⟨rfl, A3, c3, hW3, hk3, hn3⟩
  have e3 : putS (0, [0], 3) (encNum 300) = (0, [0, 2, 1, 44], 0) := by decide
  rw [e3] at hW3
  go_wp2_with fail
  refine (wdone_ok g A3 c3 [0, 2, 1, 44] 0 w3 hW3 (by simp)).mono ?_
  rintro e w4 ⟨v, rfl, hown, hk4, hnew4⟩
  obtain ⟨A4, c4, rfl, _, _⟩ := own_form hown
  have hr4 := Reads.of_own hown
  have hk : Kept [] w w4 := by
    refine (hk1.trans' hk2 fun k hm => ?_).trans' ((hk3.trans' hk4 (by simp))) fun k hm => ?_
    · simp [fpW] at hm; omega
    · rcases hn2 k hm with h | h
      · simp [fpW] at h; omega
      · have := hk1.size; omega
  have HR4 := Lib.hid hr4
  clear hW1 hk1 hW2 hk2 hW3 hk3 hn2 hn3 e2 e3 hown hk4 hnew4 hr4
  go_wp2_with fail
  refine (rread_any _ 3 3 [2, 0, 44] _ (reads_cells w4 5 ([2, 0, 44].map B) 3 rfl) (by simp)).mono ?_
  rintro e w5 ⟨g5, A5, c5, rfl, hR5, hk5, hg5, hn5⟩
  have hr5 : Reads w5 1 A4 4 (([0, 2, 1, 44] : List UInt8).map B) := (HR4.out.alloc _).old hk5
  have hk0 : Kept [] w w5 := (hk.alloc _).trans hk5
  have hlt4 : w4.heap.size < g5 := by simp at hg5; omega
  have hA4 : ∀ ad, A4 = some ad → ad.block ∉ [g5] := by
    intro ad e
    obtain ⟨ad', e', hc⟩ := HR4.out.2 (by simp)
    have := World.block_lt_of_cell? w4 _ (hc 0 _ rfl)
    rw [block_of_add] at this
    rw [e] at e'; injection e' with e'; subst e'
    simp; omega
  go_wp2_with fail
  refine (rnum_any g5 A5 c5 _ w5 hR5).mono ?_
  rintro e w6 ⟨rfl, A6, c6, hR6, hk6, hn6⟩
  have hr6 := hr5.kept hk6 hA4
  have e6 : numS (0, [2, 0, 44]) = ((3, []), 0) := by decide
  have hk00 : Kept [] w w6 := hk0.trans' hk6 fun k hm => .inr (by simp at hm; have := hk.size; omega)
  rw [e6] at hR6 ⊢
  have hst := run_string_of (P := Try.prog) (c := c4) hr6 25 9 5 Try.underlying25 Try.underlying5 Try.underlying9
  have HE := Lib.hid (rerr_any g5 A6 c6 _ w6 hR6)
  clear hR5 hk5 hn5 hr5 hR6 hn6 hr6 e6 hk6 hk0 hk HR4 HG hA4
  go_wp2_with (first | (go_at_call 17; refine HE.out.mono ?_; rintro e w' ⟨rfl, rfl⟩))
  go_ret
  exact ⟨rfl, hk00⟩

/-- A slice value of the given bytes that was made after w. -/
def Fresh (w w' : World) (l : List UInt8) (A : Option Addr) (n c : Nat) : Prop :=
  w'.ownsRow 0 5 1 (.slice A n c) n (l.map B) ∧ Kept [] w w' ∧ ∀ k, k ∈ fp (.slice A n c) → w.heap.size ≤ k

theorem own_one (w : World) (t : TypeId) (x : Value) : (w.alloc (.cells #[x] t)).ownsRow 0 t 1 (.slice (some ⟨w.heap.size, 0, none⟩) 1 1) 1 [x] :=
  own_of_blk (Blk.new w t #[x]) (xs := [x]) rfl (by simp [maxLen])

theorem cons_B (n : Nat) (h : n < 256) (l : List UInt8) : [.int .u8 (n : Int)] ++ l.map B = (UInt8.ofNat n :: l).map B := by
  rw [List.map_cons, B_ofNat n h]; rfl

set_option maxHeartbeats 800000 in
theorem refNum_any (x : Nat) (w : World) (hx : x < 18446744073709551616) :
    Calls Try.prog 29 #[.int .u64 x] w fun e w' => ∃ A c, e = .returned (.slice A (encNum x).length c) ∧ Fresh w w' (encNum x) A (encNum x).length c := by
  have HX : Hid (x < 256 ^ 8) := by simpa [Hid] using hx
  go_enter Try.func29, Try.ntmps29
  go_wp2_with fail
  go_loopw [0, 3] (fun xv lv wr => ∃ (k : Nat) (A : Option Addr) (c : Nat), k ≤ 8 ∧ xv = .int .u64 (x / 256 ^ k : Nat) ∧ lv = .slice A k c ∧ Hid ((be x).length = k + (beN (8 - k) (x / 256 ^ k)).length) ∧ Fresh w wr ((be x).drop ((be x).length - k)) A k c) (fun xv _ _ => (intOf xv).toNat)
  case atStart =>
    refine ⟨0, none, 0, by omega, by simp, rfl, by simp [be, Hid], ?_, Kept.refl _ _, by simp [fp, Value.ownBlock]⟩
    simpa using World.ownsRow_nil _ _ _ _
  case round =>
    obtain ⟨k, A, c, hk, rfl, rfl, HL, hfr⟩ := hrel
    have HF := Lib.hid hfr
    clear hfr
    generalize hy : x / 256 ^ k = y at *
    have hyb : y < 18446744073709551616 := by rw [← hy]; exact Nat.lt_of_le_of_lt (Nat.div_le_self _ _) hx
    have HY := Lib.hid hy
    clear hy
    by_cases h0 : 0 < y
    · have hs := count_step HX.out (k := k) (by rw [HY.out]; exact h0) (by rw [HY.out]; exact HL.out) hk
      have HS := Lib.hid hs.2
      have hk8 := hs.1
      clear hs
      go_wp2_with (at_builtin; go_must (refine wpList_append_any _ rfl _ _ _ rfl 5 (.int .u8 0) 1 1 Try.underlying25 Try.info5 rfl (by omega) (.slice (some ⟨wr.heap.size, 0, none⟩) 1 1) 1 [.int .u8 ((y : Int) % 256)] rfl (own_one _ _ _) A k c (((be x).drop ((be x).length - k)).map B) rfl ((Reads.of_own HF.out.1).alloc _) (B_one _) (by simp only [maxLen]; omega) (by omega) ?_); intro A2 c2 w2 happ; have HA := Lib.hid happ; clear happ)
      go_roundw
      case rel =>
        have happ := HA.out
        have hF := HF.out
        refine ⟨k + 1, A2, c2, by omega, ?_, ?_, HS, ?_, ?_, ?_⟩
        · rw [Nat.pow_succ, ← Nat.div_div_eq_div_mul, HY.out]; go_num
        · rw [Nat.add_comm]
        · rw [be_drop_step x k HX.out (by rw [HL.out, show 8 - k = 8 - k - 1 + 1 by omega]; have := beN_len_pos (8 - k - 1) y h0; omega), HY.out, ← cons_B _ (Nat.mod_lt _ (by omega)), Nat.add_comm k 1]
          exact happ.1
        · exact (hF.2.1.alloc _).trans' happ.2.1 fun q hm => .inr (by have := hF.2.1.size; simp [fp, Value.ownBlock] at hm; omega)
        · intro q hq
          have := hF.2.1.size
          rcases happ.2.2 q (by rw [fp_slice] at hq ⊢; exact hq) with h | h
          · simp [fp, Value.ownBlock] at h; omega
          · simp at h; omega
      case measure => simp [intOf]; omega
    · have hy0 : y = 0 := by omega
      subst hy0
      have HK : Hid ((be x).length = k) := by have := HL.out; rw [beN_zero] at this; exact this
      clear HL h0 hyb
      go_wp2_with (at_builtin; go_must (refine wpList_append_any _ rfl _ _ _ rfl 5 (.int .u8 0) 1 1 Try.underlying25 Try.info5 rfl (by omega) (.slice (some ⟨wr.heap.size, 0, none⟩) 1 1) 1 [.int .u8 (k : Int)] rfl (own_one _ _ _) A k c (((be x).drop ((be x).length - k)).map B) rfl ((Reads.of_own HF.out.1).alloc _) (B_one _) (by simp only [maxLen]; omega) (by omega) ?_); intro A2 c2 w2 happ; have HA := Lib.hid happ; clear happ)
      go_ret
      have happ := HA.out
      have hF := HF.out
      have hl : (encNum x).length = 1 + k := by rw [encNum_len, HK.out]; omega
      refine ⟨A2, c2, by rw [hl]; exact rfl, ?_, ?_, ?_⟩
      · have e1 : (encNum x).map B = [.int .u8 (k : Int)] ++ ((be x).drop ((be x).length - k)).map B := by
          rw [cons_B k (by omega), HK.out, Nat.sub_self, List.drop_zero]; unfold encNum; rw [HK.out]
        rw [hl, e1]
        exact happ.1
      · exact (hF.2.1.alloc _).trans' happ.2.1 fun q hm => .inr (by have := hF.2.1.size; simp [fp, Value.ownBlock] at hm; omega)
      · intro q hq
        have := hF.2.1.size
        rcases happ.2.2 q (by rw [fp_slice] at hq ⊢; exact hq) with h | h
        · simp [fp, Value.ownBlock] at h; omega
        · simp at h; omega

set_option maxHeartbeats 400000 in
theorem refTruth_any (b : Bool) (w : World) :
    Calls Try.prog 30 #[.bool b] w fun e w' => ∃ A c, e = .returned (.slice A (encTruth b).length c) ∧ Fresh w w' (encTruth b) A (encTruth b).length c := by
  cases b
  · go_enter Try.func30, Try.ntmps30
    go_wp2_with fail
    go_ret
    exact ⟨_, _, rfl, own_one _ _ _, (Kept.refl _ _).alloc _, by simp [fp, Value.ownBlock]⟩
  · go_enter Try.func30, Try.ntmps30
    go_wp2_with fail
    go_ret
    exact ⟨_, _, rfl, own_one _ _ _, (Kept.refl _ _).alloc _, by simp [fp, Value.ownBlock]⟩

set_option maxHeartbeats 400000 in
theorem refBytes_any (A : Option Addr) (m c : Nat) (l : List UInt8) (w : World) (hr : Reads w 1 A m (l.map B)) (hb : l.length ≤ 999999990) :
    Calls Try.prog 31 #[.slice A m c] w fun e w' => ∃ A' c', e = .returned (.slice A' (encBytes l).length c') ∧ Fresh w w' (encBytes l) A' (encBytes l).length c' := by
  have hm : m = l.length := by have := hr.1; simpa using this.symm
  subst hm
  have HR := Lib.hid hr
  clear hr
  have hl : (encNum l.length).length ≤ 9 := by rw [encNum_len]; have := be_len l.length; omega
  go_enter Try.func31, Try.ntmps31
  go_wp2_with fail
  refine (refNum_any l.length _ (by omega)).mono ?_
  rintro e w1 ⟨A1, c1, rfl, hown, hk, hnew⟩
  have HO := Lib.hid hown
  clear hown
  go_wp2_with (at_builtin; go_must (refine wpList_append_any _ rfl _ _ _ rfl 5 (.int .u8 0) 1 1 Try.underlying25 Try.info5 rfl (by omega) (.slice A1 (encNum l.length).length c1) (encNum l.length).length ((encNum l.length).map B) rfl HO.out A l.length c (l.map B) rfl (HR.out.old hk) (B_one l) (by simp only [maxLen]; omega) (by omega) ?_); intro A2 c2 w2 happ; have HA := Lib.hid happ; clear happ)
  go_ret
  have happ := HA.out
  have e1 : (encBytes l).length = (encNum l.length).length + l.length := by simp [encBytes]
  refine ⟨A2, c2, by rw [e1]; exact rfl, ?_, hk.trans' happ.2.1 fun k hm => .inr (hnew k hm), fun k hm => ?_⟩
  · rw [e1]
    simpa [encBytes] using happ.1
  · have := hk.size
    rcases happ.2.2 k (by rw [fp_slice] at hm ⊢; exact hm) with h | h
    · exact hnew k h
    · omega

set_option maxHeartbeats 400000 in
theorem short4 (A : Option Addr) (m c : Nat) (l : List UInt8) (w : World) (hr : Reads w 1 A m (l.map B)) (hmc : m ≤ c) (hc : c ≤ maxLen) :
    Calls Try.prog 24 #[.slice A m c] w fun e w' => (e = .returned (.slice A (l.take 60).length c) ∧ Reads w 1 A (l.take 60).length ((l.take 60).map B)) ∧ w = w' := by
  have hm : m = l.length := by have := hr.1; simpa using this.symm
  subst hm
  unfold maxLen at hc
  have HR := Lib.hid hr
  clear hr
  by_cases h60 : 60 < l.length
  · have hsl := run_cut_h (P := Try.prog) 25 5 (.int .u8 0) 1 Try.underlying25 Try.info5 A l.length c .i64 60 60 rfl (by omega)
    have h2 : (l.take 60).length = 60 := by simp; omega
    have H2 := Lib.hid h2
    clear h2
    go_enter Try.func24, Try.ntmps24
    go_wp2_with fail
    go_ret
    refine ⟨⟨by rw [H2.out]; exact rfl, ?_⟩, rfl⟩
    rw [H2.out, List.map_take]
    simpa using HR.out.upto (k := 60) (by omega)
  · have h2 : l.take 60 = l := List.take_of_length_le (by omega)
    have H2 := Lib.hid h2
    clear h2
    go_enter Try.func24, Try.ntmps24
    go_wp2_with fail
    go_ret
    exact ⟨⟨by rw [H2.out]; exact rfl, by rw [H2.out]; exact HR.out⟩, rfl⟩

end Go.Proofs.Ytmaiipglojpknaa
