/- The document's Get and Decode of programs. -/
import Derived.Test.YtmhlmoojmdfnfaaDoorPgR
import Derived.Test.YtmhlmoojmdfnfaaDoorDeedRG
import Derived.Deep.QuietTactic
import Derived.BigQuiet
namespace Go.Proofs.YtmhlmoojmdfnfaaDoor
open Go.RowKit

/-- The document's reader behind a program. -/
def refSP (x : RS × List Dd × Int) : RS := if x.2.2 = 0 then x.1 else (x.2.2, [])
/-- What the document's Get of a program hands back. -/
def GivesP (w : World) (b0 : Nat) (s : RS) (l : List Dd) (e : Ending) (w' : World) : Prop :=
  ∃ A m c Av n cv, e = .returned (.tuple #[.agg #[.slice A m c, .int .i64 s.1], .slice Av n cv]) ∧ IsD w' b0 A m c s ∧ RowD w w' l Av n cv ∧ Kept [] w w'

theorem getD_ok {s : RS} (h : (getD s).2.2 = 0) : (getD s).1.1 = 0 := by
  unfold getD at h ⊢
  split at h
  · rename_i h1; exact absurd h h1
  · rename_i h1
    rw [if_neg h1]
    split at h
    · simp at h
    · rename_i h2
      rw [if_neg h2]
      split at h
      · rename_i h3; exact absurd h h3
      · rename_i h3
        rw [if_neg h3]
        split at h
        · rename_i h4; rw [if_pos h4]; simpa using h3
        · simp at h

set_option maxHeartbeats 3200000 in
set_option maxRecDepth 100000 in
theorem refGetP_err (b0 : Nat) (A : Option Addr) (m c : Nat) (s : RS) (w : World) (h : IsD w b0 A m c s) (hb0 : b0 ≤ w.heap.size) (h1 : (numS s).1.1 ≠ 0) :
    Calls Tryd.prog 70 #[.agg #[.slice A m c, .int .i64 s.1]] w (GivesP w b0 (refSP (getPr s)) (getPr s).2.1) := by
  have hE : getPr s = ((numS s).1, [], (numS s).1.1) := by unfold getPr; rw [if_pos h1]
  have HE := Lib.hid (show refSP (getPr s) = ((numS s).1.1, []) from by rw [hE, refSP, if_neg h1])
  have HE2 := Lib.hid (show (getPr s).2.1 = [] from by rw [hE])
  have HB := Lib.hid (fun w' (hk : Kept [] w w') => refGetNum b0 A m c s w' (h.old hk) (by have := hk.size; omega))
  have hN := numS_err s h1
  rw [hN] at HB
  clear hN
  generalize (numS s).1 = s1 at *
  have hb : (s1.1 == 0) = false := beq_eq_false_iff_ne.2 h1
  have hb2 : (s1.1 != 0) = true := by simp [h1]
  have H1 := Lib.hid h1
  clear hE h1 h
  go_enter Tryd.func70, Tryd.ntmps70
  go_wp2_with fail
  refine (HB.out _ (((Kept.refl [] w).alloc _).alloc _)).mono ?_
  rintro e w1 ⟨A1, m1, c1, rfl, hD1, hk1⟩
  have HD1 := Lib.hid hD1
  have HK1 := Lib.hid (((Kept.refl [] w).alloc _).alloc _ |>.trans hk1)
  have HX1 : Hid (Blk w1 w.heap.size 62 #[.slice A m c, .int .i64 s.1]) := ((Blk.new w _ _).alloc _).kept hk1 (by simp)
  have HY1 : Hid (Blk w1 (w.heap.size + 1) 62 #[.slice none 0 0, .int .i64 0]) := (Blk.newAt (w := w.alloc _) (by simp) _ _).kept hk1 (by simp)
  have hx1 := HX1.out.cell
  have hxf1 := HX1.out.frozen
  have hxl1 := HX1.out.lt
  have hy1 := HY1.out.cell
  have hyf1 := HY1.out.frozen
  have hyl1 := HY1.out.lt
  clear hD1 hk1
  go_wp2_with fail
  go_loopw [6] (fun iv wr => iv = .int .u64 0 ∧ Hid (Blk wr w.heap.size 62 #[.slice A1 m1 c1, .int .i64 s1.1]) ∧ Hid (Blk wr (w.heap.size + 1) 62 #[.slice none 0 0, .int .i64 0]) ∧ Hid (IsD wr b0 A1 m1 c1 s1) ∧ Hid (Kept [] w wr)) (fun _ _ => 0)
  case atStart => exact ⟨rfl, (HX1.out.set 0 _).set 1 _, (HY1.out.far (p := ⟨w.heap.size, 0, none⟩) (by simp) _).far (p := ⟨w.heap.size, 1, none⟩) (by simp) _, (HD1.out.set (p := ⟨w.heap.size, 0, none⟩) hb0 _).set (p := ⟨w.heap.size, 1, none⟩) hb0 _, HK1.out.set2 (Nat.le_refl _) _ _⟩
  case round =>
    obtain ⟨rfl, HX, HY, HD, HK⟩ := hrel
    have hx := HX.out.cell
    have hxf := HX.out.frozen
    have hxl := HX.out.lt
    have hy := HY.out.cell
    have hyf := HY.out.frozen
    have hyl := HY.out.lt
    clear hx1 hxf1 hxl1 hy1 hyf1 hyl1
    go_wp2_with fail
    refine bodyPost_ret (v := .tuple #[.agg #[.slice A1 m1 c1, .int .i64 s1.1], .slice none 0 0]) (by simp [results, Tryd.results70, go_sem, hy]) rfl ?_
    rw [HE.out, HE2.out]
    exact ⟨A1, m1, c1, none, 0, 0, rfl, IsD.kept (G := [w.heap.size + 1]) (HD.out.err rfl H1.out) (by (repeat (first | (with_reducible exact Kept.refl _ _) | (with_reducible refine Kept.setCell ?_ ?_ _) | (exact .inl (by simp))))) (by simp; omega), RowD.nil _ _, HK.out.set2 (by omega) _ _⟩

set_option maxHeartbeats 3200000 in
set_option maxRecDepth 100000 in
theorem refGetP_long (b0 : Nat) (A : Option Addr) (m c : Nat) (s : RS) (w : World) (h : IsD w b0 A m c s) (hb0 : b0 ≤ w.heap.size) (h1 : (numS s).1.1 = 0) (h2 : 256 < (numS s).2) :
    Calls Tryd.prog 70 #[.agg #[.slice A m c, .int .i64 s.1]] w (GivesP w b0 (refSP (getPr s)) (getPr s).2.1) := by
  have hE : getPr s = ((numS s).1, [], 4) := by unfold getPr; rw [if_neg (by simp [h1]), if_pos h2]
  have HE := Lib.hid (show refSP (getPr s) = (4, []) from by rw [hE]; rfl)
  have HE2 := Lib.hid (show (getPr s).2.1 = [] from by rw [hE])
  have HB := Lib.hid (fun w' (hk : Kept [] w w') => refGetNum b0 A m c s w' (h.old hk) (by have := hk.size; omega))
  generalize (numS s).2 = N at *
  generalize (numS s).1 = s1 at *
  have hb : (s1.1 == 0) = true := beq_iff_eq.2 h1
  have d1 : decide ((256 : Int) < (N : Int)) = true := by simp; omega
  clear hE h1 h h2
  go_enter Tryd.func70, Tryd.ntmps70
  go_wp2_with fail
  refine (HB.out _ (((Kept.refl [] w).alloc _).alloc _)).mono ?_
  rintro e w1 ⟨A1, m1, c1, rfl, hD1, hk1⟩
  have HK1 := Lib.hid (((Kept.refl [] w).alloc _).alloc _ |>.trans hk1)
  have HX1 : Hid (Blk w1 w.heap.size 62 #[.slice A m c, .int .i64 s.1]) := ((Blk.new w _ _).alloc _).kept hk1 (by simp)
  have HY1 : Hid (Blk w1 (w.heap.size + 1) 62 #[.slice none 0 0, .int .i64 0]) := (Blk.newAt (w := w.alloc _) (by simp) _ _).kept hk1 (by simp)
  have hx1 := HX1.out.cell
  have hxf1 := HX1.out.frozen
  have hxl1 := HX1.out.lt
  have hy1 := HY1.out.cell
  have hyf1 := HY1.out.frozen
  have hyl1 := HY1.out.lt
  clear hD1 hk1
  go_wp2_with fail
  refine bodyPost_ret (v := .tuple #[.agg #[.slice none 0 0, .int .i64 4], .slice none 0 0]) (by simp [results, Tryd.results70, go_sem, hy1]) rfl ?_
  rw [HE.out, HE2.out]
  exact ⟨none, 0, 0, none, 0, 0, rfl, isD_err _ _ (by simp), RowD.nil _ _, (HK1.out.set2 (Nat.le_refl _) _ _).set2 (by omega) _ _⟩

set_option maxHeartbeats 3200000 in
set_option maxRecDepth 100000 in
theorem refGetP_run (b0 : Nat) (A : Option Addr) (m c : Nat) (s : RS) (w : World) (h : IsD w b0 A m c s) (hb0 : b0 ≤ w.heap.size) (h1 : (numS s).1.1 = 0) (h2 : ¬ 256 < (numS s).2) :
    Calls Tryd.prog 70 #[.agg #[.slice A m c, .int .i64 s.1]] w (GivesP w b0 (refSP (getPr s)) (getPr s).2.1) := by
  have HU := Lib.hid (show getPr s = getPk (numS s).2 (numS s).1 [] from by unfold getPr; rw [if_neg (by simp [h1]), if_neg h2])
  have HB := Lib.hid (fun w' (hk : Kept [] w w') => refGetNum b0 A m c s w' (h.old hk) (by have := hk.size; omega))
  have hnl := numS_lt s
  generalize (numS s).2 = N at *
  generalize (numS s).1 = s1 at *
  have hb : (s1.1 == 0) = true := beq_iff_eq.2 h1
  have d1 : decide ((256 : Int) < (N : Int)) = false := by simp; omega
  have H1 := Lib.hid h1
  clear h1 h
  go_enter Tryd.func70, Tryd.ntmps70
  go_wp2_with fail
  refine (HB.out _ (((Kept.refl [] w).alloc _).alloc _)).mono ?_
  rintro e w1 ⟨A1, m1, c1, rfl, hD1, hk1⟩
  have HD1 := Lib.hid hD1
  have HK1 := Lib.hid (((Kept.refl [] w).alloc _).alloc _ |>.trans hk1)
  have HX1 : Hid (Blk w1 w.heap.size 62 #[.slice A m c, .int .i64 s.1]) := ((Blk.new w _ _).alloc _).kept hk1 (by simp)
  have HY1 : Hid (Blk w1 (w.heap.size + 1) 62 #[.slice none 0 0, .int .i64 0]) := (Blk.newAt (w := w.alloc _) (by simp) _ _).kept hk1 (by simp)
  have hx1 := HX1.out.cell
  have hxf1 := HX1.out.frozen
  have hxl1 := HX1.out.lt
  have hy1 := HY1.out.cell
  have hyf1 := HY1.out.frozen
  have hyl1 := HY1.out.lt
  clear hD1 hk1
  go_wp2_with fail
  go_loopw [5, 6] (fun pv iv wr => ∃ (k : Nat) (sx : RS) (acc : List Dd) (A' : Option Addr) (m' c' : Nat) (Av : Option Addr) (cv : Nat), k ≤ N ∧ iv = .int .u64 (k : Nat) ∧ pv = .slice Av k cv ∧ Hid ((sx.1 = 0 ∧ getPr s = getPk (N - k) sx acc) ∨ (sx.1 ≠ 0 ∧ (getPr s).2 = ([], sx.1))) ∧ Hid (IsD wr b0 A' m' c' sx) ∧ Hid (Blk wr w.heap.size 62 #[.slice A' m' c', .int .i64 sx.1]) ∧ Hid (Blk wr (w.heap.size + 1) 62 #[.slice none 0 0, .int .i64 0]) ∧ Hid (RowD w wr acc Av k cv ∧ ∀ q, q ∈ fp (.slice Av k cv) → w.heap.size + 1 < q) ∧ Hid (Kept [] w wr)) (fun _ i _ => N - (intOf i).toNat)
  case atStart => exact ⟨0, s1, [], A1, m1, c1, none, 0, by omega, rfl, rfl, .inl ⟨H1.out, HU.out⟩, (HD1.out.set (p := ⟨w.heap.size, 0, none⟩) hb0 _).set (p := ⟨w.heap.size, 1, none⟩) hb0 _, (HX1.out.set 0 _).set 1 _, (HY1.out.far (p := ⟨w.heap.size, 0, none⟩) (by simp) _).far (p := ⟨w.heap.size, 1, none⟩) (by simp) _, ⟨RowD.nil _ _, by simp [fp, Value.ownBlock]⟩, HK1.out.set2 (Nat.le_refl _) _ _⟩
  case round =>
    clear HU H1 HD1 HX1 HY1 HK1
    obtain ⟨k, sx, acc, A', m', c', Av, cv, hk, rfl, rfl, HU, HD, HX, HY, HRW, HK⟩ := hrel
    have hx := HX.out.cell
    have hxf := HX.out.frozen
    have hxl := HX.out.lt
    have hy := HY.out.cell
    have hyf := HY.out.frozen
    have hyl := HY.out.lt
    clear hx1 hxf1 hxl1 hy1 hyf1 hyl1
    by_cases h3 : sx.1 = 0
    · have b3 : (sx.1 == 0) = true := beq_iff_eq.2 h3
      have b4 : (sx.1 != 0) = false := by simp [h3]
      have HP : Hid (getPr s = getPk (N - k) sx acc) := by
        rcases HU.out with h | h
        · exact h.2
        · exact absurd h3 h.1
      clear HU
      by_cases hlt : k < N
      · have hi1 : (k : Int) < (N : Int) := by omega
        have HDG := Lib.hid (refGetD b0 A' m' c' sx wr HD.out (Nat.le_trans hb0 HK.out.size))
        obtain ⟨j, hj⟩ : ∃ j, N - k = j + 1 := ⟨N - k - 1, by omega⟩
        have HU2 : Hid (((refS (getD sx)).1 = 0 ∧ getPr s = getPk (N - (k + 1)) (refS (getD sx)) (acc ++ [(getD sx).2.1])) ∨ ((refS (getD sx)).1 ≠ 0 ∧ (getPr s).2 = ([], (refS (getD sx)).1))) := by
          show _ ∨ _
          rw [HP.out, hj, getPk, show N - (k + 1) = j by omega]
          by_cases h4 : (getD sx).2.2 = 0
          · rw [refS, if_pos h4, if_neg (by simp [h4])]
            exact .inl ⟨getD_ok h4, rfl⟩
          · rw [refS, if_neg h4, if_pos h4]
            exact .inr ⟨h4, rfl⟩
        generalize refS (getD sx) = s2 at *
        generalize (getD sx).2.1 = d at *
        obtain ⟨o2, a2, b2, r2, n2, mm2, l2⟩ := d
        clear hj HP h3
        go_wp2_with fail
        refine (HDG.out).mono ?_
        rintro e w3 ⟨A3, m3, c3, rfl, hd3, hk3⟩
        have HD3 := Lib.hid hd3
        have HX3 := Lib.hid (HX.out.kept hk3 (by simp))
        have HY3 := Lib.hid (HY.out.kept hk3 (by simp))
        have HRW3 := Lib.hid (HRW.out.1.kept hk3 (by simp))
        have HK3 := Lib.hid (HK.out.trans hk3)
        have hx3 := HX3.out.cell
        have hxf3 := HX3.out.frozen
        have hxl3 := HX3.out.lt
        clear hd3 hk3 hx hxf hxl hy hyf hyl
        simp only [dCd]
        have HKA : Hid (Kept [] w (((((w3.setCell ⟨w.heap.size, 0, none⟩ (.slice A3 m3 c3)).setCell ⟨w.heap.size, 1, none⟩ (.int .i64 s2.1)).alloc (.cells #[.slice A3 m3 c3, .int .i64 s2.1] 62)).alloc (.cells (dC o2 a2 b2 r2 n2 mm2 l2) 41)).alloc (.cells (dC o2 a2 b2 r2 n2 mm2 l2) 41))) := (((HK3.out.set2 (Nat.le_refl _) _ _).alloc _).alloc _).alloc _
        have HKB : Hid (Kept [w.heap.size] w3 (((((w3.setCell ⟨w.heap.size, 0, none⟩ (.slice A3 m3 c3)).setCell ⟨w.heap.size, 1, none⟩ (.int .i64 s2.1)).alloc (.cells #[.slice A3 m3 c3, .int .i64 s2.1] 62)).alloc (.cells (dC o2 a2 b2 r2 n2 mm2 l2) 41)).alloc (.cells (dC o2 a2 b2 r2 n2 mm2 l2) 41))) := (((((Kept.refl _ _).setCell (.inl (by simp)) _).setCell (.inl (by simp)) _).alloc _).alloc _).alloc _
        have HXA : Hid (Blk (((((w3.setCell ⟨w.heap.size, 0, none⟩ (.slice A3 m3 c3)).setCell ⟨w.heap.size, 1, none⟩ (.int .i64 s2.1)).alloc (.cells #[.slice A3 m3 c3, .int .i64 s2.1] 62)).alloc (.cells (dC o2 a2 b2 r2 n2 mm2 l2) 41)).alloc (.cells (dC o2 a2 b2 r2 n2 mm2 l2) 41)) w.heap.size 62 #[.slice A3 m3 c3, .int .i64 s2.1]) := ((((HX3.out.set 0 _).set 1 _).alloc _).alloc _).alloc _
        have HRD : Hid (Reads (((((w3.setCell ⟨w.heap.size, 0, none⟩ (.slice A3 m3 c3)).setCell ⟨w.heap.size, 1, none⟩ (.int .i64 s2.1)).alloc (.cells #[.slice A3 m3 c3, .int .i64 s2.1] 62)).alloc (.cells (dC o2 a2 b2 r2 n2 mm2 l2) 41)).alloc (.cells (dC o2 a2 b2 r2 n2 mm2 l2) 41)) 7 (some ⟨w3.heap.size + 1 + 1, 0, none⟩) 1 (dL ⟨o2, a2, b2, r2, n2, mm2, l2⟩)) := by
          have := reads_dd (((((w3.setCell ⟨w.heap.size, 0, none⟩ (.slice A3 m3 c3)).setCell ⟨w.heap.size, 1, none⟩ (.int .i64 s2.1)).alloc (.cells #[.slice A3 m3 c3, .int .i64 s2.1] 62)).alloc (.cells (dC o2 a2 b2 r2 n2 mm2 l2) 41))) 41 ⟨o2, a2, b2, r2, n2, mm2, l2⟩
          simp only [World.size_alloc, World.size_setCell] at this
          exact this
        have HSA : Hid (w3.heap.size ≤ (((((w3.setCell ⟨w.heap.size, 0, none⟩ (.slice A3 m3 c3)).setCell ⟨w.heap.size, 1, none⟩ (.int .i64 s2.1)).alloc (.cells #[.slice A3 m3 c3, .int .i64 s2.1] 62)).alloc (.cells (dC o2 a2 b2 r2 n2 mm2 l2) 41)).alloc (.cells (dC o2 a2 b2 r2 n2 mm2 l2) 41)).heap.size) := HKB.out.size
        simp only [dC] at HKA HKB HXA HRD HSA
        go_wp2_with (
          at_builtin
          generalize (((((w3.setCell ⟨w.heap.size, 0, none⟩ (.slice A3 m3 c3)).setCell ⟨w.heap.size, 1, none⟩ (.int .i64 s2.1)).alloc (.cells #[.slice A3 m3 c3, .int .i64 s2.1] 62)).alloc (.cells #[.int .i64 o2, .int .i64 a2, .int .i64 b2, .int .i64 r2, .int .u64 n2, .int .u64 mm2, .bool l2] 41)).alloc (.cells #[.int .i64 o2, .int .i64 a2, .int .i64 b2, .int .i64 r2, .int .u64 n2, .int .u64 mm2, .bool l2] 41)) = wA at *
          have HRWA := Lib.hid (own_kept HRW3.out.1 HKB.out (fun q hq hm => by have h5 := HRW.out.2 q hq; simp at hm; omega))
          refine wpList_append_any _ rfl _ _ 22 rfl 41 (.agg (dC 0 0 0 0 0 0 false)) 7 56 Tryd.underlying22 Tryd.info41 rfl (by decide) (.slice Av k cv) k _ rfl HRWA.out _ 1 1 (dL ⟨o2, a2, b2, r2, n2, mm2, l2⟩) rfl HRD.out (dL_one _) (by simp only [maxLen]; omega) (by omega) ?_
          rintro A5 c5 w5 happ
          have HA5 := Lib.hid happ
          clear happ)
        have HF : Hid (∀ q, q ∈ fp (.slice Av k cv) → w.heap.size + 1 < q) := HRW.out.2
        have hl3 : w.heap.size ≤ w3.heap.size := HK3.out.size
        have hyl4 : w.heap.size + 1 < w3.heap.size := HY3.out.lt
        go_roundw
        case rel =>
          have hYA : Blk wA (w.heap.size + 1) 62 #[.slice none 0 0, .int .i64 0] := HY3.out.kept HKB.out (by simp)
          exact ⟨k + 1, s2, acc ++ [⟨o2, a2, b2, r2, n2, mm2, l2⟩], A3, m3, c3, A5, c5, by omega, by go_num, rfl, HU2, (HD3.out.kept HKB.out (by simpa using hb0)).kept HA5.out.2.1 (fun q hq => by have := HF.out q hq; omega), HXA.out.kept HA5.out.2.1 (fun hq => by have := HF.out _ hq; omega), hYA.kept HA5.out.2.1 (fun hq => by have := HF.out _ hq; omega), ⟨RowD.append ⟨HRWA.out, HRW3.out.2⟩ (by have := HSA.out; omega) HA5.out, fun q hq => by
            rcases HA5.out.2.2 q hq with h6 | h6
            · exact HF.out q h6
            · have := HSA.out; omega⟩, HKA.out.trans' HA5.out.2.1 (fun q hq => .inr (by have := HF.out q hq; omega))⟩
        case measure => simp [intOf]; omega
      · obtain rfl : k = N := by omega
        rw [Nat.sub_self] at HP
        have HE := Lib.hid (show refSP (getPr s) = sx from by rw [HP.out]; rfl)
        have HE2 := Lib.hid (show (getPr s).2.1 = acc from by rw [HP.out]; rfl)
        clear h3
        go_wp2_with fail
        refine bodyPost_ret (v := .tuple #[.agg #[.slice A' m' c', .int .i64 sx.1], .slice Av k cv]) (by simp [results, Tryd.results70, go_sem, hy]) rfl ?_
        rw [HE.out, HE2.out]
        exact ⟨A', m', c', Av, k, cv, rfl, IsD.kept (G := [w.heap.size + 1]) HD.out (by (repeat (first | (with_reducible exact Kept.refl _ _) | (with_reducible refine Kept.setCell ?_ ?_ _) | (exact .inl (by simp))))) (by simp; omega), ⟨own_kept HRW.out.1.1 (Kept.setCell (Kept.setCell (Kept.refl [w.heap.size + 1] wr) (.inl (by simp)) _) (.inl (by simp)) _) (fun q hq hm => by have h5 := HRW.out.2 q hq; simp at hm; omega), HRW.out.1.2⟩, HK.out.set2 (by omega) _ _⟩
    · have b3 : (sx.1 == 0) = false := beq_eq_false_iff_ne.2 h3
      have b4 : (sx.1 != 0) = true := by simp [h3]
      have HP : Hid ((getPr s).2 = ([], sx.1)) := by
        rcases HU.out with h | h
        · exact absurd h.1 h3
        · exact h.2
      have HE := Lib.hid (show refSP (getPr s) = (sx.1, []) from by rw [refSP, HP.out, if_neg h3])
      have HE2 := Lib.hid (show (getPr s).2.1 = [] from by rw [HP.out])
      have H3 := Lib.hid h3
      clear h3 HU
      by_cases hlt : k < N
      · have d5 : decide ((k : Int) < (N : Int)) = true := by simp; omega
        go_wp2_with fail
        refine bodyPost_ret (v := .tuple #[.agg #[.slice A' m' c', .int .i64 sx.1], .slice none 0 0]) (by simp [results, Tryd.results70, go_sem, hy]) rfl ?_
        rw [HE.out, HE2.out]
        exact ⟨A', m', c', none, 0, 0, rfl, IsD.kept (G := [w.heap.size + 1]) (HD.out.err rfl H3.out) (by (repeat (first | (with_reducible exact Kept.refl _ _) | (with_reducible refine Kept.setCell ?_ ?_ _) | (exact .inl (by simp))))) (by simp; omega), RowD.nil _ _, HK.out.set2 (by omega) _ _⟩
      · have d5 : decide ((k : Int) < (N : Int)) = false := by simp; omega
        go_wp2_with fail
        refine bodyPost_ret (v := .tuple #[.agg #[.slice A' m' c', .int .i64 sx.1], .slice none 0 0]) (by simp [results, Tryd.results70, go_sem, hy]) rfl ?_
        rw [HE.out, HE2.out]
        exact ⟨A', m', c', none, 0, 0, rfl, IsD.kept (G := [w.heap.size + 1]) (HD.out.err rfl H3.out) (by (repeat (first | (with_reducible exact Kept.refl _ _) | (with_reducible refine Kept.setCell ?_ ?_ _) | (exact .inl (by simp))))) (by simp; omega), RowD.nil _ _, HK.out.set2 (by omega) _ _⟩

theorem refGetP (b0 : Nat) (A : Option Addr) (m c : Nat) (s : RS) (w : World) (h : IsD w b0 A m c s) (hb0 : b0 ≤ w.heap.size) :
    Calls Tryd.prog 70 #[.agg #[.slice A m c, .int .i64 s.1]] w (GivesP w b0 (refSP (getPr s)) (getPr s).2.1) := by
  by_cases h1 : (numS s).1.1 = 0
  · by_cases h2 : 256 < (numS s).2
    · exact refGetP_long b0 A m c s w h hb0 h1 h2
    · exact refGetP_run b0 A m c s w h hb0 h1 h2
  · exact refGetP_err b0 A m c s w h hb0 h1

theorem doneS_err (e : Int) : doneS (e, []) = e := by simp [doneS, leftS]

set_option maxHeartbeats 3200000 in
set_option maxRecDepth 100000 in
theorem refDecodeP (A : Option Addr) (m c : Nat) (l : List UInt8) (w : World) (hD : IsD w w.heap.size A m c (0, l)) :
    Calls Tryd.prog 29 #[.slice A m c] w fun e w' => ∃ A' n' c', e = .returned (.tuple #[.slice A' n' c', .int .i64 (decP l).2]) ∧ RowD w w' (decP l).1 A' n' c' ∧ Kept [] w w' := by
  have HG := Lib.hid (refGetP w.heap.size A m c (0, l) w hD (Nat.le_refl _))
  have HU : Hid (decP l = if (getPr (0, l)).2.2 ≠ 0 then ([], (getPr (0, l)).2.2) else if doneS (getPr (0, l)).1 ≠ 0 then ([], doneS (getPr (0, l)).1) else ((getPr (0, l)).2.1, 0)) := rfl
  obtain ⟨s2, p, ev, hx⟩ : ∃ s2 p ev, getPr (0, l) = (s2, p, ev) := ⟨_, _, _, rfl⟩
  rw [hx] at HG HU
  simp only at HG HU
  clear hx hD
  have HX : Hid ((doneS (refSP (s2, p, ev)) ≠ 0 ∧ decP l = ([], doneS (refSP (s2, p, ev)))) ∨ (doneS (refSP (s2, p, ev)) = 0 ∧ decP l = (p, 0))) := by
    show _ ∨ _
    by_cases h1 : ev = 0
    · rw [show refSP (s2, p, ev) = s2 from by rw [refSP, if_pos h1]]
      by_cases h2 : doneS s2 = 0
      · exact .inr ⟨h2, by rw [HU.out, if_neg (by simp [h1]), if_neg (by simp [h2])]⟩
      · exact .inl ⟨h2, by rw [HU.out, if_neg (by simp [h1]), if_pos h2]⟩
    · rw [show refSP (s2, p, ev) = (ev, []) from by rw [refSP, if_neg h1], doneS_err]
      exact .inl ⟨h1, by rw [HU.out, if_pos h1]⟩
  clear HU
  generalize refSP (s2, p, ev) = s3 at *
  have HDN := Lib.hid (fun b0 A m c w h => refDone b0 A m c s3 w h)
  generalize doneS s3 = dn at *
  rcases HX.out with ⟨h1, h2⟩ | ⟨h1, h2⟩
  · have hb : (dn != 0) = true := by simp [h1]
    have H2 := Lib.hid h2
    clear h1 h2 HX
    go_enter Tryd.func29, Tryd.ntmps29
    go_wp2_with fail
    refine (HG.out).mono ?_
    rintro e w1 ⟨A1, m1, c1, Av, nv, cv, rfl, hd1, hrow1, hk1⟩
    have HK1 := Lib.hid (hk1.alloc (.cells #[.slice A1 m1 c1, .int .i64 s3.1] 62))
    have HD1 := Lib.hid (hd1.old ((Kept.refl [] _).alloc (.cells #[.slice A1 m1 c1, .int .i64 s3.1] 62)))
    clear hd1 hrow1 hk1
    go_wp2_with fail
    refine (HDN.out _ A1 m1 c1 _ HD1.out).mono ?_
    rintro e w2 ⟨rfl, hk2⟩
    have HX2 : Hid (Blk w2 w1.heap.size 62 #[.slice A1 m1 c1, .int .i64 s3.1]) := (Blk.new w1 _ _).kept hk2 (by simp)
    have HK2 := Lib.hid (HK1.out.trans hk2)
    have HD2 := Lib.hid (HD1.out.old hk2)
    have hx2 := HX2.out.cell
    have hxl2 := HX2.out.lt
    clear hk2
    go_wp2_with fail
    refine (HDN.out _ A1 m1 c1 _ HD2.out).mono ?_
    rintro e w3 ⟨rfl, hk3⟩
    go_wp2_with fail
    go_ret2
    rw [H2.out]
    exact ⟨none, 0, 0, rfl, RowD.nil _ _, HK2.out.trans hk3⟩
  · have hb : (dn != 0) = false := by simp [h1]
    have H2 := Lib.hid h2
    clear h1 h2 HX
    go_enter Tryd.func29, Tryd.ntmps29
    go_wp2_with fail
    refine (HG.out).mono ?_
    rintro e w1 ⟨A1, m1, c1, Av, nv, cv, rfl, hd1, hrow1, hk1⟩
    have HK1 := Lib.hid (hk1.alloc (.cells #[.slice A1 m1 c1, .int .i64 s3.1] 62))
    have HD1 := Lib.hid (hd1.old ((Kept.refl [] _).alloc (.cells #[.slice A1 m1 c1, .int .i64 s3.1] 62)))
    have HR1 := Lib.hid (hrow1.kept ((Kept.refl [] _).alloc (.cells #[.slice A1 m1 c1, .int .i64 s3.1] 62)) (by simp))
    clear hd1 hrow1 hk1
    go_wp2_with fail
    refine (HDN.out _ A1 m1 c1 _ HD1.out).mono ?_
    rintro e w2 ⟨rfl, hk2⟩
    go_wp2_with fail
    go_ret2
    rw [H2.out]
    exact ⟨Av, nv, cv, rfl, HR1.out.kept hk2 (by simp), HK1.out.trans hk2⟩

end Go.Proofs.YtmhlmoojmdfnfaaDoor
