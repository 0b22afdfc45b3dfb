/- The functions of the statements' package bosunlaw04, and the writing half of bosunref04. -/
import Derived.Test.YtmhlmoojmdfnfaaDoorWireR2
namespace Go.Proofs.YtmhlmoojmdfnfaaDoor
open Go.RowKit

theorem reads_cells (w : World) (t : TypeId) (xs : List Value) (n : Nat) (hn : xs.length = n) : Reads (w.alloc (.cells xs.toArray t)) 1 (some ⟨w.heap.size, 0, none⟩) n xs := by
  refine ⟨by simp [hn], fun _ => ⟨_, rfl, fun j u hu => ?_⟩⟩
  rw [add_mk, (Blk.new w t xs.toArray).cell]
  simpa using hu

/-- A slice value of the given bytes that was made after w. -/
def Fresh (w w' : World) (l : List UInt8) (A : Option Addr) (n c : Nat) : Prop :=
  w'.ownsRow 0 5 1 (.slice A n c) n (l.map B) ∧ Kept [] w w' ∧ ∀ k, k ∈ fp (.slice A n c) → w.heap.size ≤ k

theorem cons_B (n : Nat) (h : n < 256) (l : List UInt8) : [.int .u8 (n : Int)] ++ l.map B = (UInt8.ofNat n :: l).map B := by
  rw [List.map_cons, B_ofNat n h]; rfl

set_option maxHeartbeats 800000 in
theorem refNum_any (x : Nat) (w : World) (hx : x < 18446744073709551616) :
    Calls Tryd.prog 69 #[.int .u64 x] w fun e w' => ∃ A c, e = .returned (.slice A (encNum x).length c) ∧ Fresh w w' (encNum x) A (encNum x).length c := by
  have HX : Hid (x < 256 ^ 8) := by simpa [Hid] using hx
  go_enter Tryd.func69, Tryd.ntmps69
  go_wp2_with fail
  go_loopw [0, 3] (fun xv lv wr => ∃ (k : Nat) (A : Option Addr) (c : Nat), k ≤ 8 ∧ xv = .int .u64 (x / 256 ^ k : Nat) ∧ lv = .slice A k c ∧ Hid ((be x).length = k + (beN (8 - k) (x / 256 ^ k)).length) ∧ Fresh w wr ((be x).drop ((be x).length - k)) A k c) (fun xv _ _ => (intOf xv).toNat)
  case atStart =>
    refine ⟨0, none, 0, by omega, by simp, rfl, by simp [be, Hid], ?_, Kept.refl _ _, by simp [fp, Value.ownBlock]⟩
    simpa using World.ownsRow_nil _ _ _ _
  case round =>
    obtain ⟨k, A, c, hk, rfl, rfl, HL, hfr⟩ := hrel
    have HF := Lib.hid hfr
    clear hfr
    generalize hy : x / 256 ^ k = y at *
    have hyb : y < 18446744073709551616 := by rw [← hy]; exact Nat.lt_of_le_of_lt (Nat.div_le_self _ _) hx
    have HY := Lib.hid hy
    clear hy
    by_cases h0 : 0 < y
    · have hs := count_step HX.out (k := k) (by rw [HY.out]; exact h0) (by rw [HY.out]; exact HL.out) hk
      have HS := Lib.hid hs.2
      have hk8 := hs.1
      clear hs
      go_wp2_with (at_builtin; go_must (refine wpList_append_any _ rfl _ _ _ rfl 5 (.int .u8 0) 1 1 Tryd.underlying32 Tryd.info5 rfl (by omega) (.slice (some ⟨wr.heap.size, 0, none⟩) 1 1) 1 [.int .u8 ((y : Int) % 256)] rfl (own_one _ _ _) A k c (((be x).drop ((be x).length - k)).map B) rfl ((Reads.of_own HF.out.1).alloc _) (B_one _) (by simp only [maxLen]; omega) (by omega) ?_); intro A2 c2 w2 happ; have HA := Lib.hid happ; clear happ)
      go_roundw
      case rel =>
        have happ := HA.out
        have hF := HF.out
        refine ⟨k + 1, A2, c2, by omega, ?_, ?_, HS, ?_, ?_, ?_⟩
        · rw [Nat.pow_succ, ← Nat.div_div_eq_div_mul, HY.out]; go_num
        · rw [Nat.add_comm]
        · rw [be_drop_step x k HX.out (by rw [HL.out, show 8 - k = 8 - k - 1 + 1 by omega]; have := beN_len_pos (8 - k - 1) y h0; omega), HY.out, ← cons_B _ (Nat.mod_lt _ (by omega)), Nat.add_comm k 1]
          exact happ.1
        · exact (hF.2.1.alloc _).trans' happ.2.1 fun q hm => .inr (by have := hF.2.1.size; simp [fp, Value.ownBlock] at hm; omega)
        · intro q hq
          have := hF.2.1.size
          rcases happ.2.2 q (by rw [fp_slice] at hq ⊢; exact hq) with h | h
          · simp [fp, Value.ownBlock] at h; omega
          · simp at h; omega
      case measure => simp [intOf]; omega
    · have hy0 : y = 0 := by omega
      subst hy0
      have HK : Hid ((be x).length = k) := by have := HL.out; rw [beN_zero] at this; exact this
      clear HL h0 hyb
      go_wp2_with (at_builtin; go_must (refine wpList_append_any _ rfl _ _ _ rfl 5 (.int .u8 0) 1 1 Tryd.underlying32 Tryd.info5 rfl (by omega) (.slice (some ⟨wr.heap.size, 0, none⟩) 1 1) 1 [.int .u8 (k : Int)] rfl (own_one _ _ _) A k c (((be x).drop ((be x).length - k)).map B) rfl ((Reads.of_own HF.out.1).alloc _) (B_one _) (by simp only [maxLen]; omega) (by omega) ?_); intro A2 c2 w2 happ; have HA := Lib.hid happ; clear happ)
      go_ret
      have happ := HA.out
      have hF := HF.out
      have hl : (encNum x).length = 1 + k := by rw [encNum_len, HK.out]; omega
      refine ⟨A2, c2, by rw [hl]; exact rfl, ?_, ?_, ?_⟩
      · have e1 : (encNum x).map B = [.int .u8 (k : Int)] ++ ((be x).drop ((be x).length - k)).map B := by
          rw [cons_B k (by omega), HK.out, Nat.sub_self, List.drop_zero]; unfold encNum; rw [HK.out]
        rw [hl, e1]
        exact happ.1
      · exact (hF.2.1.alloc _).trans' happ.2.1 fun q hm => .inr (by have := hF.2.1.size; simp [fp, Value.ownBlock] at hm; omega)
      · intro q hq
        have := hF.2.1.size
        rcases happ.2.2 q (by rw [fp_slice] at hq ⊢; exact hq) with h | h
        · simp [fp, Value.ownBlock] at h; omega
        · simp at h; omega

set_option maxHeartbeats 400000 in
theorem refTruth_any (b : Bool) (w : World) :
    Calls Tryd.prog 115 #[.bool b] w fun e w' => ∃ A c, e = .returned (.slice A (encTruth b).length c) ∧ Fresh w w' (encTruth b) A (encTruth b).length c := by
  cases b
  · go_enter Tryd.func115, Tryd.ntmps115
    go_wp2_with fail
    go_ret
    exact ⟨_, _, rfl, own_one _ _ _, (Kept.refl _ _).alloc _, by simp [fp, Value.ownBlock]⟩
  · go_enter Tryd.func115, Tryd.ntmps115
    go_wp2_with fail
    go_ret
    exact ⟨_, _, rfl, own_one _ _ _, (Kept.refl _ _).alloc _, by simp [fp, Value.ownBlock]⟩

end Go.Proofs.YtmhlmoojmdfnfaaDoor
