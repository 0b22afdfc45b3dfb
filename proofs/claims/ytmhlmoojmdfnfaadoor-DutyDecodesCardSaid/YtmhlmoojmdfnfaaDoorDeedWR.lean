/- The document's Bytes of a deed (printed by a program: gen/deedwr.py). -/
import Derived.Test.YtmhlmoojmdfnfaaDoorDeedN
import Derived.Test.YtmhlmoojmdfnfaaDoorDeedR
import Derived.Test.YtmhlmoojmdfnfaaDoorDeedWP
import Derived.Test.YtmhlmoojmdfnfaaDoorWireL
namespace Go.Proofs.YtmhlmoojmdfnfaaDoor
open Go.RowKit

theorem Fresh.append {w wr w2 w3 : World} {l l2 : List UInt8} {A A' : Option Addr} {n c m c' : Nat} (h : Fresh w wr l A n c) (hk : Kept [] wr w2) (ha : Appended w2 w3 5 1 (.slice A n c) (.slice A' m c') m (l2.map B)) : Fresh w w3 l2 A' m c' :=
  ⟨ha.1, (h.2.1.trans hk).trans' ha.2.1 (fun k hk' => .inr (h.2.2 k hk')), fun k hk' => by
    rcases ha.2.2 k hk' with h1 | h1
    · exact h.2.2 k h1
    · exact Nat.le_trans (Nat.le_trans h.2.1.size hk.size) h1⟩
theorem Fresh.len {w w' : World} {l : List UInt8} {A : Option Addr} {n c : Nat} (h : Fresh w w' l A n c) : n = l.length := by have := h.1.1; simp at this; omega
/-- The bytes that the document's Bytes has laid behind k parts. -/
def bytesK (o : Nat) (d : Dd) (ps : List UInt8) : List UInt8 := UInt8.ofNat o :: ps.flatMap (pieceB d)
theorem bytesK_snoc (o : Nat) (d : Dd) (ps : List UInt8) (c : UInt8) : bytesK o d (ps ++ [c]) = bytesK o d ps ++ pieceB d c := by simp [bytesK]
theorem bytesK_len (o : Nat) (d : Dd) (ps : List UInt8) : (bytesK o d ps).length ≤ 1 + 9 * ps.length := by
  have := flatB_len d ps
  simp only [bytesK, List.length_cons]; omega

set_option maxHeartbeats 6400000 in
set_option maxRecDepth 100000 in
theorem refBytesD (o a b r n m : Nat) (l : Bool) (w : World) (ho : o < 256) (ha : a < 256) (hb : b < 256) (hr : r < 256) (hn : n < 18446744073709551616) (hm : m < 18446744073709551616) :
    Calls Tryd.prog 56 #[.agg (dC (o : Int) (a : Int) (b : Int) (r : Int) n m l)] w fun e w' => ∃ A n' c, e = .returned (.slice A n' c) ∧ Fresh w w' (encD ⟨o, a, b, r, n, m, l⟩) A n' c := by
  have HP := Lib.hid (fun w => refParts (o : Int) w)
  have HE : Hid (encD ⟨o, a, b, r, n, m, l⟩ = bytesK o ⟨o, a, b, r, n, m, l⟩ (partsL o)) := by show _ = _; simp [encD, bytesK]
  have hlen := partsL_len (o : Int)
  have HPL : Hid (∀ x ∈ partsL (o : Int), x ∈ letters) := (partsL_nodup (o : Int)).2
  generalize partsL (o : Int) = ps at *
  have ho0 : (0 : Int) ≤ (o : Int) := by omega
  have ho1 : (o : Int) < 256 := by omega
  have ha0 : (0 : Int) ≤ (a : Int) := by omega
  have ha1 : (a : Int) < 256 := by omega
  have hb0 : (0 : Int) ≤ (b : Int) := by omega
  have hb1 : (b : Int) < 256 := by omega
  have hr0 : (0 : Int) ≤ (r : Int) := by omega
  have hr1 : (r : Int) < 256 := by omega
  have HA := Lib.hid (B_ofNat a ha)
  have HB := Lib.hid (B_ofNat b hb)
  have HR := Lib.hid (B_ofNat r hr)
  have HO := Lib.hid (B_ofNat o ho)
  have HNU := Lib.hid (fun w => refNum_any n w hn)
  have HMU := Lib.hid (fun w => refNum_any m w hm)
  have HTU := Lib.hid (fun w => refTruth_any l w)
  have en := encNum_le9 n
  have em := encNum_le9 m
  have HD0 : Hid (∃ d : Dd, d = ⟨o, a, b, r, n, m, l⟩) := ⟨_, rfl⟩
  obtain ⟨d, hd⟩ := HD0
  rw [← hd] at HE ⊢
  have HPA : Hid (pieceB d 65 = [UInt8.ofNat a] ∧ pieceB d 66 = [UInt8.ofNat b] ∧ pieceB d 82 = [UInt8.ofNat r] ∧ pieceB d 78 = encNum n ∧ pieceB d 77 = encNum m ∧ pieceB d 76 = encTruth l) := by subst hd; exact ⟨rfl, rfl, rfl, rfl, rfl, rfl⟩
  clear hd ho ha hb hr hn hm
  obtain ⟨ln, hln⟩ : ∃ ln, (encNum n).length = ln := ⟨_, rfl⟩
  obtain ⟨lm, hlm⟩ : ∃ lm, (encNum m).length = lm := ⟨_, rfl⟩
  rw [hln] at en HNU
  rw [hlm] at em HMU
  have HLT := Lib.hid (show (encTruth l).length = 1 by cases l <;> rfl)
  rw [HLT.out] at HTU
  clear hln hlm
  go_enter Tryd.func56, Tryd.ntmps56
  go_wp2_with fail
  refine (HP.out _).mono ?_
  rintro e w1 ⟨rfl, hk1⟩
  have HX1 := Lib.hid (((Blk.new w 41 (dC (o : Int) (a : Int) (b : Int) (r : Int) n m l)).alloc (.cells #[.int .u8 o] 5)).kept hk1 (by simp))
  have HF1 : Hid (Fresh w w1 (bytesK o d []) (some ⟨w.heap.size + 1, 0, none⟩) 1 1) := by
    refine ⟨?_, (((Kept.refl [] w).alloc _).alloc _).trans hk1, by simp [fp, Value.ownBlock]⟩
    have h2 := own_one (w.alloc (.cells (dC (o : Int) (a : Int) (b : Int) (r : Int) n m l) 41)) 5 (.int .u8 o)
    rw [World.size_alloc] at h2
    have h3 := own_kept h2 hk1 (by simp)
    rw [← HO.out] at h3
    exact h3
  clear hk1
  go_wp2_with fail
  go_loopw [3, 5] (fun bv iv wr => ∃ (k : Nat) (A' : Option Addr) (n' c' : Nat), k ≤ ps.length ∧ iv = .int .i64 k ∧ bv = .slice A' n' c' ∧ n' ≤ 1 + 9 * k ∧ Hid (Fresh w wr (bytesK o d (ps.take k)) A' n' c') ∧ Hid (Blk wr w.heap.size 41 (dC (o : Int) (a : Int) (b : Int) (r : Int) n m l))) (fun _ i _ => ps.length - (intOf i).toNat)
  case atStart => exact ⟨0, _, 1, 1, by omega, rfl, rfl, by omega, HF1, HX1⟩
  case round =>
    clear HF1 HX1
    obtain ⟨k, A', n', c', hk, rfl, rfl, hn', HF, HX⟩ := hrel
    by_cases hlt : k < ps.length
    · obtain ⟨c, hlk⟩ : ∃ c : UInt8, ps[k] = c := ⟨_, rfl⟩
      have hidx : (⟨ps.toArray⟩ : ByteArray)[k]'(show k < (⟨ps.toArray⟩ : ByteArray).size from hlt) = c := hlk
      have hcl : c ∈ letters := HPL.out c (by rw [← hlk]; exact List.getElem_mem _)
      have HE2 : Hid (bytesK o d (ps.take (k + 1)) = bytesK o d (ps.take k) ++ pieceB d c) := by
        show _ = _
        rw [List.take_succ_eq_append_getElem hlt, hlk]; exact bytesK_snoc _ _ _ _
      have hcx := HX.out.cell
      have hk5 : k < 5 := by omega
      clear hlk
      simp only [letters, List.mem_cons, List.not_mem_nil, or_false] at hcl
      rcases hcl with rfl | rfl | rfl | rfl | rfl | rfl
      · have HRD : Hid (Reads (wr.alloc (.cells #[.int .u8 a] 5)) 1 (some ⟨wr.heap.size, 0, none⟩) 1 ([UInt8.ofNat a].map B)) := by
          have := reads_one wr 5 (.int .u8 a)
          rw [← HA.out] at this ⊢
          exact this
        have HOW : Hid ((wr.alloc (.cells #[.int .u8 a] 5)).ownsRow 0 5 1 (.slice A' n' c') n' ((bytesK o d (ps.take k)).map B)) := own_kept HF.out.1 ((Kept.refl [] _).alloc _) (by simp)
        go_wp2_with (at_builtin; refine wpList_append_any _ rfl _ _ 32 rfl 5 (.int .u8 0) 1 1 Tryd.underlying32 Tryd.info5 rfl (by decide) (.slice A' n' c') n' _ rfl HOW.out _ 1 1 ([UInt8.ofNat a].map B) rfl HRD.out (B_one _) (by simp only [maxLen]; omega) (by omega) ?_; rintro A3 c3 w3 happ; have HP3 := Lib.hid happ; clear happ)
        go_roundw
        case rel => exact ⟨k + 1, A3, n' + 1, c3, by omega, by go_num, rfl, by omega, HF.out.append ((Kept.refl [] _).alloc _) (by rw [HE2.out, HPA.out.1, List.map_append]; exact HP3.out), (HX.out.alloc _).kept HP3.out.2.1 (fun hm => by have := HF.out.2.2 _ hm; exact absurd hm (fun hm => own_blk_ne HOW.out (HX.out.alloc _) (by decide) (mem_fp.1 hm)))⟩
        case measure => simp [intOf]; omega
      · have HRD : Hid (Reads (wr.alloc (.cells #[.int .u8 b] 5)) 1 (some ⟨wr.heap.size, 0, none⟩) 1 ([UInt8.ofNat b].map B)) := by
          have := reads_one wr 5 (.int .u8 b)
          rw [← HB.out] at this ⊢
          exact this
        have HOW : Hid ((wr.alloc (.cells #[.int .u8 b] 5)).ownsRow 0 5 1 (.slice A' n' c') n' ((bytesK o d (ps.take k)).map B)) := own_kept HF.out.1 ((Kept.refl [] _).alloc _) (by simp)
        go_wp2_with (at_builtin; refine wpList_append_any _ rfl _ _ 32 rfl 5 (.int .u8 0) 1 1 Tryd.underlying32 Tryd.info5 rfl (by decide) (.slice A' n' c') n' _ rfl HOW.out _ 1 1 ([UInt8.ofNat b].map B) rfl HRD.out (B_one _) (by simp only [maxLen]; omega) (by omega) ?_; rintro A3 c3 w3 happ; have HP3 := Lib.hid happ; clear happ)
        go_roundw
        case rel => exact ⟨k + 1, A3, n' + 1, c3, by omega, by go_num, rfl, by omega, HF.out.append ((Kept.refl [] _).alloc _) (by rw [HE2.out, HPA.out.2.1, List.map_append]; exact HP3.out), (HX.out.alloc _).kept HP3.out.2.1 (fun hm => by have := HF.out.2.2 _ hm; exact absurd hm (fun hm => own_blk_ne HOW.out (HX.out.alloc _) (by decide) (mem_fp.1 hm)))⟩
        case measure => simp [intOf]; omega
      · have HRD : Hid (Reads (wr.alloc (.cells #[.int .u8 r] 5)) 1 (some ⟨wr.heap.size, 0, none⟩) 1 ([UInt8.ofNat r].map B)) := by
          have := reads_one wr 5 (.int .u8 r)
          rw [← HR.out] at this ⊢
          exact this
        have HOW : Hid ((wr.alloc (.cells #[.int .u8 r] 5)).ownsRow 0 5 1 (.slice A' n' c') n' ((bytesK o d (ps.take k)).map B)) := own_kept HF.out.1 ((Kept.refl [] _).alloc _) (by simp)
        go_wp2_with (at_builtin; refine wpList_append_any _ rfl _ _ 32 rfl 5 (.int .u8 0) 1 1 Tryd.underlying32 Tryd.info5 rfl (by decide) (.slice A' n' c') n' _ rfl HOW.out _ 1 1 ([UInt8.ofNat r].map B) rfl HRD.out (B_one _) (by simp only [maxLen]; omega) (by omega) ?_; rintro A3 c3 w3 happ; have HP3 := Lib.hid happ; clear happ)
        go_roundw
        case rel => exact ⟨k + 1, A3, n' + 1, c3, by omega, by go_num, rfl, by omega, HF.out.append ((Kept.refl [] _).alloc _) (by rw [HE2.out, HPA.out.2.2.1, List.map_append]; exact HP3.out), (HX.out.alloc _).kept HP3.out.2.1 (fun hm => by have := HF.out.2.2 _ hm; exact absurd hm (fun hm => own_blk_ne HOW.out (HX.out.alloc _) (by decide) (mem_fp.1 hm)))⟩
        case measure => simp [intOf]; omega
      · go_wp2_with fail
        refine (HNU.out _).mono ?_
        rintro e w2 ⟨A2, c2, rfl, hf2⟩
        have HF2 := Lib.hid hf2
        have HOW : Hid (w2.ownsRow 0 5 1 (.slice A' n' c') n' ((bytesK o d (ps.take k)).map B)) := own_kept HF.out.1 hf2.2.1 (by simp)
        clear hf2
        go_wp2_with (at_builtin; refine wpList_append_any _ rfl _ _ 32 rfl 5 (.int .u8 0) 1 1 Tryd.underlying32 Tryd.info5 rfl (by decide) (.slice A' n' c') n' _ rfl HOW.out A2 ln c2 ((encNum n).map B) rfl (Reads.of_own HF2.out.1) (B_one _) (by simp only [maxLen]; omega) (by omega) ?_; rintro A3 c3 w3 happ; have HP3 := Lib.hid happ; clear happ)
        go_roundw
        case rel => exact ⟨k + 1, A3, n' + ln, c3, by omega, by go_num, rfl, by omega, HF.out.append HF2.out.2.1 (by rw [HE2.out, HPA.out.2.2.2.1, List.map_append]; exact HP3.out), (HX.out.kept HF2.out.2.1 (by simp)).kept HP3.out.2.1 (fun hm => own_blk_ne HOW.out (HX.out.kept HF2.out.2.1 (by simp)) (by decide) (mem_fp.1 hm))⟩
        case measure => simp [intOf]; omega
      · go_wp2_with fail
        refine (HMU.out _).mono ?_
        rintro e w2 ⟨A2, c2, rfl, hf2⟩
        have HF2 := Lib.hid hf2
        have HOW : Hid (w2.ownsRow 0 5 1 (.slice A' n' c') n' ((bytesK o d (ps.take k)).map B)) := own_kept HF.out.1 hf2.2.1 (by simp)
        clear hf2
        go_wp2_with (at_builtin; refine wpList_append_any _ rfl _ _ 32 rfl 5 (.int .u8 0) 1 1 Tryd.underlying32 Tryd.info5 rfl (by decide) (.slice A' n' c') n' _ rfl HOW.out A2 lm c2 ((encNum m).map B) rfl (Reads.of_own HF2.out.1) (B_one _) (by simp only [maxLen]; omega) (by omega) ?_; rintro A3 c3 w3 happ; have HP3 := Lib.hid happ; clear happ)
        go_roundw
        case rel => exact ⟨k + 1, A3, n' + lm, c3, by omega, by go_num, rfl, by omega, HF.out.append HF2.out.2.1 (by rw [HE2.out, HPA.out.2.2.2.2.1, List.map_append]; exact HP3.out), (HX.out.kept HF2.out.2.1 (by simp)).kept HP3.out.2.1 (fun hm => own_blk_ne HOW.out (HX.out.kept HF2.out.2.1 (by simp)) (by decide) (mem_fp.1 hm))⟩
        case measure => simp [intOf]; omega
      · go_wp2_with fail
        refine (HTU.out _).mono ?_
        rintro e w2 ⟨A2, c2, rfl, hf2⟩
        have HF2 := Lib.hid hf2
        have HOW : Hid (w2.ownsRow 0 5 1 (.slice A' n' c') n' ((bytesK o d (ps.take k)).map B)) := own_kept HF.out.1 hf2.2.1 (by simp)
        clear hf2
        go_wp2_with (at_builtin; refine wpList_append_any _ rfl _ _ 32 rfl 5 (.int .u8 0) 1 1 Tryd.underlying32 Tryd.info5 rfl (by decide) (.slice A' n' c') n' _ rfl HOW.out A2 1 c2 ((encTruth l).map B) rfl (Reads.of_own HF2.out.1) (B_one _) (by simp only [maxLen]; omega) (by omega) ?_; rintro A3 c3 w3 happ; have HP3 := Lib.hid happ; clear happ)
        go_roundw
        case rel => exact ⟨k + 1, A3, n' + 1, c3, by omega, by go_num, rfl, by omega, HF.out.append HF2.out.2.1 (by rw [HE2.out, HPA.out.2.2.2.2.2, List.map_append]; exact HP3.out), (HX.out.kept HF2.out.2.1 (by simp)).kept HP3.out.2.1 (fun hm => own_blk_ne HOW.out (HX.out.kept HF2.out.2.1 (by simp)) (by decide) (mem_fp.1 hm))⟩
        case measure => simp [intOf]; omega
    · obtain rfl : k = ps.length := by omega
      rw [List.take_of_length_le (Nat.le_refl _)] at HF
      go_wp2_with fail
      go_ret
      exact ⟨_, _, _, rfl, by rw [HE.out]; exact HF.out⟩

end Go.Proofs.YtmhlmoojmdfnfaaDoor
