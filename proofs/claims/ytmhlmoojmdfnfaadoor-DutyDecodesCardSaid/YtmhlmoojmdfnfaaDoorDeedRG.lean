/- The document's Get of a deed (printed by a program: gen/deedrg.py). -/
import Derived.Test.YtmhlmoojmdfnfaaDoorDeedR4
import Derived.Test.YtmhlmoojmdfnfaaDoorDeedWP
import Derived.Test.YtmhlmoojmdfnfaaDoorWireRef
namespace Go.Proofs.YtmhlmoojmdfnfaaDoor
open Go.RowKit

/-- The document's reader behind a deed. -/
def refS (x : RS × Dd × Int) : RS := if x.2.2 = 0 then x.1 else (x.2.2, [])
/-- What the document's Get hands back. -/
def GivesD (w : World) (b0 : Nat) (s : RS) (d : Dd) (e : Ending) (w' : World) : Prop :=
  ∃ A m c, e = .returned (.tuple #[.agg #[.slice A m c, .int .i64 s.1], .agg (dCd d)]) ∧ IsD w' b0 A m c s ∧ Kept [] w w'
theorem fold_err : ∀ (ps : List UInt8) (s : RS) (d : Dd), True := fun _ _ _ => trivial

set_option maxHeartbeats 3200000 in
set_option maxRecDepth 100000 in
theorem refGetD_err (b0 : Nat) (A : Option Addr) (m c : Nat) (s : RS) (w : World) (h : IsD w b0 A m c s) (hb0 : b0 ≤ w.heap.size) (h1 : (byteS s).1.1 ≠ 0) :
    Calls Tryd.prog 47 #[.agg #[.slice A m c, .int .i64 s.1]] w (GivesD w b0 (refS (getD s)) (getD s).2.1) := by
  have hE : getD s = ((byteS s).1, Dd.zero, (byteS s).1.1) := by unfold getD; rw [if_pos h1]
  have HE := Lib.hid (show refS (getD s) = ((byteS s).1.1, []) from by rw [hE]; rw [refS, if_neg h1])
  have HE2 := Lib.hid (show (getD s).2.1 = Dd.zero from by rw [hE])
  have HB := Lib.hid (fun w' (hk : Kept [] w w') => refGetByte b0 A m c s w' (h.old hk) (by have := hk.size; omega))
  have hkb := UInt8.toNat_lt (byteS s).2
  generalize (byteS s).2.toNat = kb at *
  generalize (byteS s).1 = s1 at *
  have hb : (s1.1 != 0) = true := by simp [h1]
  have H1 := Lib.hid h1
  clear hE h1
  have hk0 : (0 : Int) ≤ (kb : Int) := by omega
  have hk9 : (kb : Int) < 256 := by omega
  have HD0 := Lib.hid h
  clear h
  go_enter Tryd.func47, Tryd.ntmps47
  go_wp2_with fail
  refine (HB.out _ ((((Kept.refl [] w).alloc _).alloc _).alloc _)).mono ?_
  rintro e w1 ⟨A1, m1, c1, rfl, hD1, hk1⟩
  have HD1 := Lib.hid hD1
  have HK1 := Lib.hid ((((Kept.refl [] w).alloc _).alloc _).alloc _ |>.trans hk1)
  have HX1 : Hid (Blk w1 w.heap.size 62 #[.slice A m c, .int .i64 s.1]) := (((Blk.new w _ _).alloc _).alloc _).kept hk1 (by simp)
  have HY1 : Hid (Blk w1 (w.heap.size + 1) 62 #[.slice none 0 0, .int .i64 0]) := ((Blk.newAt (w := w.alloc _) (by simp) _ _).alloc _).kept hk1 (by simp)
  have HZ1 : Hid (Blk w1 (w.heap.size + 1 + 1) 41 (dC 0 0 0 0 0 0 false)) := (Blk.newAt (w := (w.alloc _).alloc _) (by simp) _ _).kept hk1 (by simp)
  have hx1 := HX1.out.cell
  have hxf1 := HX1.out.frozen
  have hxl1 := HX1.out.lt
  have hy1 := HY1.out.cell
  have hyf1 := HY1.out.frozen
  have hyl1 := HY1.out.lt
  have hz1 := HZ1.out.cell
  have hzf1 := HZ1.out.frozen
  have hzl1 := HZ1.out.lt
  clear hD1 hk1
  go_wp2_with fail
  refine bodyPost_ret (v := .tuple #[.agg #[.slice A1 m1 c1, .int .i64 s1.1], .agg (dC 0 0 0 0 0 0 false)]) (by simp [results, Tryd.results47, go_sem, hx1, hy1, hz1, hxl1, hyl1, hzl1]) rfl ?_
  rw [HE.out, HE2.out]
  exact ⟨A1, m1, c1, rfl, IsD.kept (G := [w.heap.size, w.heap.size + 1, w.heap.size + 1 + 1]) (HD1.out.err rfl H1.out) (by (repeat (first | (with_reducible exact Kept.refl _ _) | (with_reducible refine Kept.setCell ?_ ?_ _) | (exact .inl (by simp))))) (by simp; omega), (by (repeat (first | (with_reducible exact HK1.out) | (with_reducible refine Kept.alloc ?_ _) | (with_reducible refine Kept.setCell ?_ ?_ _) | (exact .inr (by simp only; omega)) | (exact .inr (by omega)))))⟩

set_option maxHeartbeats 3200000 in
set_option maxRecDepth 100000 in
theorem refGetD_lo (b0 : Nat) (A : Option Addr) (m c : Nat) (s : RS) (w : World) (h : IsD w b0 A m c s) (hb0 : b0 ≤ w.heap.size) (h1 : (byteS s).1.1 = 0) (h2 : ((byteS s).2.toNat : Int) < 1) :
    Calls Tryd.prog 47 #[.agg #[.slice A m c, .int .i64 s.1]] w (GivesD w b0 (refS (getD s)) (getD s).2.1) := by
  have hE : getD s = ((byteS s).1, Dd.zero, 3) := by unfold getD; rw [if_neg (by simp [h1]), if_pos (.inl h2)]
  have HE := Lib.hid (show refS (getD s) = (3, []) from by rw [hE]; rfl)
  have HE2 := Lib.hid (show (getD s).2.1 = Dd.zero from by rw [hE])
  have HB := Lib.hid (fun w' (hk : Kept [] w w') => refGetByte b0 A m c s w' (h.old hk) (by have := hk.size; omega))
  have hkb := UInt8.toNat_lt (byteS s).2
  generalize (byteS s).2.toNat = kb at *
  generalize (byteS s).1 = s1 at *
  have hb : (s1.1 != 0) = false := by simp [h1]
  have d1 : decide ((kb : Int) < 1) = true := by simpa using h2
  clear hE h1 h2
  have hk0 : (0 : Int) ≤ (kb : Int) := by omega
  have hk9 : (kb : Int) < 256 := by omega
  have HD0 := Lib.hid h
  clear h
  go_enter Tryd.func47, Tryd.ntmps47
  go_wp2_with fail
  refine (HB.out _ ((((Kept.refl [] w).alloc _).alloc _).alloc _)).mono ?_
  rintro e w1 ⟨A1, m1, c1, rfl, hD1, hk1⟩
  have HD1 := Lib.hid hD1
  have HK1 := Lib.hid ((((Kept.refl [] w).alloc _).alloc _).alloc _ |>.trans hk1)
  have HX1 : Hid (Blk w1 w.heap.size 62 #[.slice A m c, .int .i64 s.1]) := (((Blk.new w _ _).alloc _).alloc _).kept hk1 (by simp)
  have HY1 : Hid (Blk w1 (w.heap.size + 1) 62 #[.slice none 0 0, .int .i64 0]) := ((Blk.newAt (w := w.alloc _) (by simp) _ _).alloc _).kept hk1 (by simp)
  have HZ1 : Hid (Blk w1 (w.heap.size + 1 + 1) 41 (dC 0 0 0 0 0 0 false)) := (Blk.newAt (w := (w.alloc _).alloc _) (by simp) _ _).kept hk1 (by simp)
  have hx1 := HX1.out.cell
  have hxf1 := HX1.out.frozen
  have hxl1 := HX1.out.lt
  have hy1 := HY1.out.cell
  have hyf1 := HY1.out.frozen
  have hyl1 := HY1.out.lt
  have hz1 := HZ1.out.cell
  have hzf1 := HZ1.out.frozen
  have hzl1 := HZ1.out.lt
  clear hD1 hk1
  go_wp2_with fail
  refine bodyPost_ret (v := .tuple #[.agg #[.slice none 0 0, .int .i64 3], .agg (dC 0 0 0 0 0 0 false)]) (by simp [results, Tryd.results47, go_sem, hx1, hy1, hz1, hxl1, hyl1, hzl1]) rfl ?_
  rw [HE.out, HE2.out]
  exact ⟨none, 0, 0, rfl, isD_err _ _ (by simp), (by (repeat (first | (with_reducible exact HK1.out) | (with_reducible refine Kept.alloc ?_ _) | (with_reducible refine Kept.setCell ?_ ?_ _) | (exact .inr (by simp only; omega)) | (exact .inr (by omega)))))⟩

set_option maxHeartbeats 3200000 in
set_option maxRecDepth 100000 in
theorem refGetD_hi (b0 : Nat) (A : Option Addr) (m c : Nat) (s : RS) (w : World) (h : IsD w b0 A m c s) (hb0 : b0 ≤ w.heap.size) (h1 : (byteS s).1.1 = 0) (h2 : ¬ ((byteS s).2.toNat : Int) < 1) (h3 : 11 < ((byteS s).2.toNat : Int)) :
    Calls Tryd.prog 47 #[.agg #[.slice A m c, .int .i64 s.1]] w (GivesD w b0 (refS (getD s)) (getD s).2.1) := by
  have hE : getD s = ((byteS s).1, Dd.zero, 3) := by unfold getD; rw [if_neg (by simp [h1]), if_pos (.inr h3)]
  have HE := Lib.hid (show refS (getD s) = (3, []) from by rw [hE]; rfl)
  have HE2 := Lib.hid (show (getD s).2.1 = Dd.zero from by rw [hE])
  have HB := Lib.hid (fun w' (hk : Kept [] w w') => refGetByte b0 A m c s w' (h.old hk) (by have := hk.size; omega))
  have hkb := UInt8.toNat_lt (byteS s).2
  generalize (byteS s).2.toNat = kb at *
  generalize (byteS s).1 = s1 at *
  have hb : (s1.1 != 0) = false := by simp [h1]
  have d1 : decide ((kb : Int) < 1) = false := by simpa using h2
  have d2 : decide ((11 : Int) < (kb : Int)) = true := by simpa using h3
  clear hE h1 h2 h3
  have hk0 : (0 : Int) ≤ (kb : Int) := by omega
  have hk9 : (kb : Int) < 256 := by omega
  have HD0 := Lib.hid h
  clear h
  go_enter Tryd.func47, Tryd.ntmps47
  go_wp2_with fail
  refine (HB.out _ ((((Kept.refl [] w).alloc _).alloc _).alloc _)).mono ?_
  rintro e w1 ⟨A1, m1, c1, rfl, hD1, hk1⟩
  have HD1 := Lib.hid hD1
  have HK1 := Lib.hid ((((Kept.refl [] w).alloc _).alloc _).alloc _ |>.trans hk1)
  have HX1 : Hid (Blk w1 w.heap.size 62 #[.slice A m c, .int .i64 s.1]) := (((Blk.new w _ _).alloc _).alloc _).kept hk1 (by simp)
  have HY1 : Hid (Blk w1 (w.heap.size + 1) 62 #[.slice none 0 0, .int .i64 0]) := ((Blk.newAt (w := w.alloc _) (by simp) _ _).alloc _).kept hk1 (by simp)
  have HZ1 : Hid (Blk w1 (w.heap.size + 1 + 1) 41 (dC 0 0 0 0 0 0 false)) := (Blk.newAt (w := (w.alloc _).alloc _) (by simp) _ _).kept hk1 (by simp)
  have hx1 := HX1.out.cell
  have hxf1 := HX1.out.frozen
  have hxl1 := HX1.out.lt
  have hy1 := HY1.out.cell
  have hyf1 := HY1.out.frozen
  have hyl1 := HY1.out.lt
  have hz1 := HZ1.out.cell
  have hzf1 := HZ1.out.frozen
  have hzl1 := HZ1.out.lt
  clear hD1 hk1
  go_wp2_with fail
  refine bodyPost_ret (v := .tuple #[.agg #[.slice none 0 0, .int .i64 3], .agg (dC 0 0 0 0 0 0 false)]) (by simp [results, Tryd.results47, go_sem, hx1, hy1, hz1, hxl1, hyl1, hzl1]) rfl ?_
  rw [HE.out, HE2.out]
  exact ⟨none, 0, 0, rfl, isD_err _ _ (by simp), (by (repeat (first | (with_reducible exact HK1.out) | (with_reducible refine Kept.alloc ?_ _) | (with_reducible refine Kept.setCell ?_ ?_ _) | (exact .inr (by simp only; omega)) | (exact .inr (by omega)))))⟩

set_option maxHeartbeats 3200000 in
set_option maxRecDepth 100000 in
theorem refGetD_run (b0 : Nat) (A : Option Addr) (m c : Nat) (s : RS) (w : World) (h : IsD w b0 A m c s) (hb0 : b0 ≤ w.heap.size) (h1 : (byteS s).1.1 = 0) (h2 : ¬ (((byteS s).2.toNat : Int) < 1 ∨ 11 < ((byteS s).2.toNat : Int))) :
    Calls Tryd.prog 47 #[.agg #[.slice A m c, .int .i64 s.1]] w (GivesD w b0 (refS (getD s)) (getD s).2.1) := by
  have hU : getD s = (if (readP (byteS s).1 (byteS s).2.toNat).1.1 ≠ 0 then ((readP (byteS s).1 (byteS s).2.toNat).1, Dd.zero, (readP (byteS s).1 (byteS s).2.toNat).1.1) else if goodD (readP (byteS s).1 (byteS s).2.toNat).2 then ((readP (byteS s).1 (byteS s).2.toNat).1, (readP (byteS s).1 (byteS s).2.toNat).2, 0) else ((readP (byteS s).1 (byteS s).2.toNat).1, Dd.zero, 5)) := by
    conv => lhs; unfold getD
    rw [if_neg (by simp [h1]), if_neg h2]
  have HB := Lib.hid (fun w' (hk : Kept [] w w') => refGetByte b0 A m c s w' (h.old hk) (by have := hk.size; omega))
  have hkb := UInt8.toNat_lt (byteS s).2
  generalize (byteS s).2.toNat = kb at *
  generalize (byteS s).1 = s1 at *
  have hb : (s1.1 != 0) = false := by simp [h1]
  have d1 : decide ((kb : Int) < 1) = false := by simp; omega
  have d2 : decide ((11 : Int) < (kb : Int)) = false := by simp; omega
  have HPT := Lib.hid (fun w => refParts (kb : Int) w)
  have HRP : Hid (readP s1 kb = (partsL kb).foldl getP (s1, ⟨kb, 0, 0, 0, 0, 0, false⟩)) := rfl
  have HPL : Hid (∀ x ∈ partsL (kb : Int), x ∈ letters) := (partsL_nodup (kb : Int)).2
  have hpl := partsL_len (kb : Int)
  generalize partsL (kb : Int) = ps at *
  have HU := Lib.hid hU
  clear hU h1 h2
  have hk0 : (0 : Int) ≤ (kb : Int) := by omega
  have hk9 : (kb : Int) < 256 := by omega
  have HD0 := Lib.hid h
  clear h
  go_enter Tryd.func47, Tryd.ntmps47
  go_wp2_with fail
  refine (HB.out _ ((((Kept.refl [] w).alloc _).alloc _).alloc _)).mono ?_
  rintro e w1 ⟨A1, m1, c1, rfl, hD1, hk1⟩
  have HD1 := Lib.hid hD1
  have HK1 := Lib.hid ((((Kept.refl [] w).alloc _).alloc _).alloc _ |>.trans hk1)
  have HX1 : Hid (Blk w1 w.heap.size 62 #[.slice A m c, .int .i64 s.1]) := (((Blk.new w _ _).alloc _).alloc _).kept hk1 (by simp)
  have HY1 : Hid (Blk w1 (w.heap.size + 1) 62 #[.slice none 0 0, .int .i64 0]) := ((Blk.newAt (w := w.alloc _) (by simp) _ _).alloc _).kept hk1 (by simp)
  have HZ1 : Hid (Blk w1 (w.heap.size + 1 + 1) 41 (dC 0 0 0 0 0 0 false)) := (Blk.newAt (w := (w.alloc _).alloc _) (by simp) _ _).kept hk1 (by simp)
  have hx1 := HX1.out.cell
  have hxf1 := HX1.out.frozen
  have hxl1 := HX1.out.lt
  have hy1 := HY1.out.cell
  have hyf1 := HY1.out.frozen
  have hyl1 := HY1.out.lt
  have hz1 := HZ1.out.cell
  have hzf1 := HZ1.out.frozen
  have hzl1 := HZ1.out.lt
  clear hD1 hk1
  go_wp2_with fail
  refine (HPT.out _).mono ?_
  rintro e w2 ⟨rfl, hk2⟩
  have HKq := Lib.hid ((((HK1.out.setCell (.inr (Nat.le_refl _)) (.slice A1 m1 c1)).setCell (p := ⟨w.heap.size, 1, none⟩) (.inr (Nat.le_refl _)) (.int .i64 s1.1)).alloc (.cells (dC kb 0 0 0 0 0 false) 41)).trans hk2)
  have HXq := Lib.hid ((((HX1.out.set 0 (.slice A1 m1 c1)).set 1 (.int .i64 s1.1)).alloc (.cells (dC kb 0 0 0 0 0 false) 41)).kept hk2 (by simp))
  have HYq := Lib.hid ((((HY1.out.far (p := ⟨w.heap.size, 0, none⟩) (by simp) (.slice A1 m1 c1)).far (p := ⟨w.heap.size, 1, none⟩) (by simp) (.int .i64 s1.1)).alloc (.cells (dC kb 0 0 0 0 0 false) 41)).kept hk2 (by simp))
  have HZq := Lib.hid ((((HZ1.out.far (p := ⟨w.heap.size, 0, none⟩) (by simp only; omega) (.slice A1 m1 c1)).far (p := ⟨w.heap.size, 1, none⟩) (by simp only; omega) (.int .i64 s1.1)).alloc (.cells (dC kb 0 0 0 0 0 false) 41)).kept hk2 (by simp))
  have HVq : Hid (Blk w2 w1.heap.size 41 (dC kb 0 0 0 0 0 false)) := (Blk.newAt (w := (w1.setCell ⟨w.heap.size, 0, none⟩ (.slice A1 m1 c1)).setCell ⟨w.heap.size, 1, none⟩ (.int .i64 s1.1)) (by simp [World.setCell]) _ _).kept hk2 (by simp)
  have HDq : Hid (IsD w2 b0 A1 m1 c1 s1) := ((((HD1.out.set (p := ⟨w.heap.size, 0, none⟩) hb0 _).set (p := ⟨w.heap.size, 1, none⟩) hb0 _).old ((Kept.refl [] _).alloc (.cells (dC kb 0 0 0 0 0 false) 41))).old hk2)
  have hv0 : w.heap.size + 1 + 1 < w1.heap.size := hzl1
  clear hk2 hx1 hxf1 hxl1 hy1 hyf1 hyl1 hz1 hzf1 hzl1
  go_wp2_with fail
  go_loopw [7] (fun iv wr => ∃ (k : Nat) (sx : RS) (dx : Dd) (A' : Option Addr) (m' c' : Nat), k ≤ ps.length ∧ iv = .int .i64 k ∧ Hid ((ps.take k).foldl getP (s1, ⟨kb, 0, 0, 0, 0, 0, false⟩) = (sx, dx)) ∧ Hid (IsD wr b0 A' m' c' sx) ∧ Hid (Blk wr w.heap.size 62 #[.slice A' m' c', .int .i64 sx.1]) ∧ Hid (Blk wr (w.heap.size + 1) 62 #[.slice none 0 0, .int .i64 0]) ∧ Hid (Blk wr (w.heap.size + 1 + 1) 41 (dC 0 0 0 0 0 0 false)) ∧ Hid (Blk wr w1.heap.size 41 (dCd dx)) ∧ Hid (Kept [] w wr)) (fun i _ => ps.length - (intOf i).toNat)
  case atStart => exact ⟨0, s1, ⟨kb, 0, 0, 0, 0, 0, false⟩, A1, m1, c1, by omega, rfl, rfl, HDq, HXq, HYq, HZq, HVq, HKq⟩
  case round =>
    clear HDq HXq HYq HZq HVq HKq
    obtain ⟨k, sx, dx, A', m', c', hk, rfl, HF, HD, HX, HY, HZ, HV, HK⟩ := hrel
    have hx := HX.out.cell
    have hxf := HX.out.frozen
    have hxl := HX.out.lt
    have hv := HV.out.cell
    have hvf := HV.out.frozen
    have hvl := HV.out.lt
    have hy := HY.out.cell
    have hyf := HY.out.frozen
    have hz := HZ.out.cell
    have hzf := HZ.out.frozen
    have hzl := HZ.out.lt
    have hyl := HY.out.lt
    by_cases hlt : k < ps.length
    · obtain ⟨cc, hlk⟩ : ∃ cc : UInt8, ps[k] = cc := ⟨_, rfl⟩
      have hidx : (⟨ps.toArray⟩ : ByteArray)[k]'(show k < (⟨ps.toArray⟩ : ByteArray).size from hlt) = cc := hlk
      have hcl : cc ∈ letters := HPL.out cc (by rw [← hlk]; exact List.getElem_mem _)
      have HE5 : Hid ((ps.take (k + 1)).foldl getP (s1, ⟨kb, 0, 0, 0, 0, 0, false⟩) = getP (sx, dx) cc) := by
        show _ = _
        rw [List.take_succ_eq_append_getElem hlt, hlk, List.foldl_append, HF.out]; rfl
      have HGB := Lib.hid (refGetByte b0 A' m' c' sx wr HD.out (Nat.le_trans hb0 HK.out.size))
      have HGN := Lib.hid (refGetNum b0 A' m' c' sx wr HD.out (Nat.le_trans hb0 HK.out.size))
      have HGT := Lib.hid (refGetTruth b0 A' m' c' sx wr HD.out (Nat.le_trans hb0 HK.out.size))
      have hkb2 := UInt8.toNat_lt (byteS sx).2
      have HP5 : Hid (getP (sx, dx) 65 = ((byteS sx).1, { dx with a := ((byteS sx).2.toNat : Int) }) ∧ getP (sx, dx) 66 = ((byteS sx).1, { dx with b := ((byteS sx).2.toNat : Int) }) ∧ getP (sx, dx) 82 = ((byteS sx).1, { dx with r := ((byteS sx).2.toNat : Int) }) ∧ getP (sx, dx) 78 = ((numS sx).1, { dx with n := (numS sx).2 }) ∧ getP (sx, dx) 77 = ((numS sx).1, { dx with mask := (numS sx).2 }) ∧ getP (sx, dx) 76 = ((truthS sx).1, { dx with loose := (truthS sx).2 })) := ⟨rfl, rfl, rfl, rfl, rfl, rfl⟩
      generalize (byteS sx).2.toNat = vb at *
      generalize (byteS sx).1 = sb at *
      generalize (numS sx).2 = vn at *
      generalize (numS sx).1 = sn at *
      generalize (truthS sx).2 = vt at *
      generalize (truthS sx).1 = st at *
      have hvb0 : (0 : Int) ≤ (vb : Int) := by omega
      have hvb1 : (vb : Int) < 256 := by omega
      obtain ⟨do_, da, db, dr, dn, dm, dl⟩ := dx
      simp only [letters, List.mem_cons, List.not_mem_nil, or_false] at hcl
      clear hlk hkb2
      rcases hcl with rfl | rfl | rfl | rfl | rfl | rfl
      · go_wp2_with fail
        refine (HGB.out).mono ?_
        rintro e w4 ⟨A4, m4, c4, rfl, hd4, hk4⟩
        have HD4 := Lib.hid hd4
        have HX4 := Lib.hid (HX.out.kept hk4 (by simp))
        have HY4 := Lib.hid (HY.out.kept hk4 (by simp))
        have HZ4 := Lib.hid (HZ.out.kept hk4 (by simp))
        have HV4 := Lib.hid (HV.out.kept hk4 (by simp))
        have HK4 := Lib.hid (HK.out.trans hk4)
        have hx4 := HX4.out.cell
        have hxf4 := HX4.out.frozen
        have hxl4 := HX4.out.lt
        have hv4 := HV4.out.cell
        have hvf4 := HV4.out.frozen
        have hvl4 := HV4.out.lt
        have hn1 : ¬ (w.heap.size = w1.heap.size) := by omega
        have hn2 : ¬ (w1.heap.size = w.heap.size) := by omega
        clear hd4 hk4 hx hxf hxl hv hvf hvl hy hyf hyl hz hzf hzl
        go_wp2_with fail
        go_roundw
        case rel => exact ⟨k + 1, sb, ⟨do_, vb, db, dr, dn, dm, dl⟩, A4, m4, c4, by omega, by go_num, by rw [HE5.out]; exact HP5.out.1, ((HD4.out.set (p := ⟨w.heap.size, 0, none⟩) hb0 _).set (p := ⟨w.heap.size, 1, none⟩) hb0 _).set (p := ⟨w1.heap.size, 1, none⟩) (by simp only; omega) _, ((HX4.out.set 0 _).set 1 _).far (p := ⟨w1.heap.size, 1, none⟩) hn1 _, ((HY4.out.far (p := ⟨w.heap.size, 0, none⟩) (by simp) _).far (p := ⟨w.heap.size, 1, none⟩) (by simp) _).far (p := ⟨w1.heap.size, 1, none⟩) (by simp only; omega) _, ((HZ4.out.far (p := ⟨w.heap.size, 0, none⟩) (by simp only; omega) _).far (p := ⟨w.heap.size, 1, none⟩) (by simp only; omega) _).far (p := ⟨w1.heap.size, 1, none⟩) (by simp only; omega) _, ((HV4.out.far (p := ⟨w.heap.size, 0, none⟩) hn2 _).far (p := ⟨w.heap.size, 1, none⟩) hn2 _).set 1 _, ((HK4.out.setCell (.inr (Nat.le_refl _)) _).setCell (.inr (Nat.le_refl _)) _).setCell (.inr (by simp only; omega)) _⟩
        case measure => simp [intOf]; omega
      · go_wp2_with fail
        refine (HGB.out).mono ?_
        rintro e w4 ⟨A4, m4, c4, rfl, hd4, hk4⟩
        have HD4 := Lib.hid hd4
        have HX4 := Lib.hid (HX.out.kept hk4 (by simp))
        have HY4 := Lib.hid (HY.out.kept hk4 (by simp))
        have HZ4 := Lib.hid (HZ.out.kept hk4 (by simp))
        have HV4 := Lib.hid (HV.out.kept hk4 (by simp))
        have HK4 := Lib.hid (HK.out.trans hk4)
        have hx4 := HX4.out.cell
        have hxf4 := HX4.out.frozen
        have hxl4 := HX4.out.lt
        have hv4 := HV4.out.cell
        have hvf4 := HV4.out.frozen
        have hvl4 := HV4.out.lt
        have hn1 : ¬ (w.heap.size = w1.heap.size) := by omega
        have hn2 : ¬ (w1.heap.size = w.heap.size) := by omega
        clear hd4 hk4 hx hxf hxl hv hvf hvl hy hyf hyl hz hzf hzl
        go_wp2_with fail
        go_roundw
        case rel => exact ⟨k + 1, sb, ⟨do_, da, vb, dr, dn, dm, dl⟩, A4, m4, c4, by omega, by go_num, by rw [HE5.out]; exact HP5.out.2.1, ((HD4.out.set (p := ⟨w.heap.size, 0, none⟩) hb0 _).set (p := ⟨w.heap.size, 1, none⟩) hb0 _).set (p := ⟨w1.heap.size, 2, none⟩) (by simp only; omega) _, ((HX4.out.set 0 _).set 1 _).far (p := ⟨w1.heap.size, 2, none⟩) hn1 _, ((HY4.out.far (p := ⟨w.heap.size, 0, none⟩) (by simp) _).far (p := ⟨w.heap.size, 1, none⟩) (by simp) _).far (p := ⟨w1.heap.size, 2, none⟩) (by simp only; omega) _, ((HZ4.out.far (p := ⟨w.heap.size, 0, none⟩) (by simp only; omega) _).far (p := ⟨w.heap.size, 1, none⟩) (by simp only; omega) _).far (p := ⟨w1.heap.size, 2, none⟩) (by simp only; omega) _, ((HV4.out.far (p := ⟨w.heap.size, 0, none⟩) hn2 _).far (p := ⟨w.heap.size, 1, none⟩) hn2 _).set 2 _, ((HK4.out.setCell (.inr (Nat.le_refl _)) _).setCell (.inr (Nat.le_refl _)) _).setCell (.inr (by simp only; omega)) _⟩
        case measure => simp [intOf]; omega
      · go_wp2_with fail
        refine (HGB.out).mono ?_
        rintro e w4 ⟨A4, m4, c4, rfl, hd4, hk4⟩
        have HD4 := Lib.hid hd4
        have HX4 := Lib.hid (HX.out.kept hk4 (by simp))
        have HY4 := Lib.hid (HY.out.kept hk4 (by simp))
        have HZ4 := Lib.hid (HZ.out.kept hk4 (by simp))
        have HV4 := Lib.hid (HV.out.kept hk4 (by simp))
        have HK4 := Lib.hid (HK.out.trans hk4)
        have hx4 := HX4.out.cell
        have hxf4 := HX4.out.frozen
        have hxl4 := HX4.out.lt
        have hv4 := HV4.out.cell
        have hvf4 := HV4.out.frozen
        have hvl4 := HV4.out.lt
        have hn1 : ¬ (w.heap.size = w1.heap.size) := by omega
        have hn2 : ¬ (w1.heap.size = w.heap.size) := by omega
        clear hd4 hk4 hx hxf hxl hv hvf hvl hy hyf hyl hz hzf hzl
        go_wp2_with fail
        go_roundw
        case rel => exact ⟨k + 1, sb, ⟨do_, da, db, vb, dn, dm, dl⟩, A4, m4, c4, by omega, by go_num, by rw [HE5.out]; exact HP5.out.2.2.1, ((HD4.out.set (p := ⟨w.heap.size, 0, none⟩) hb0 _).set (p := ⟨w.heap.size, 1, none⟩) hb0 _).set (p := ⟨w1.heap.size, 3, none⟩) (by simp only; omega) _, ((HX4.out.set 0 _).set 1 _).far (p := ⟨w1.heap.size, 3, none⟩) hn1 _, ((HY4.out.far (p := ⟨w.heap.size, 0, none⟩) (by simp) _).far (p := ⟨w.heap.size, 1, none⟩) (by simp) _).far (p := ⟨w1.heap.size, 3, none⟩) (by simp only; omega) _, ((HZ4.out.far (p := ⟨w.heap.size, 0, none⟩) (by simp only; omega) _).far (p := ⟨w.heap.size, 1, none⟩) (by simp only; omega) _).far (p := ⟨w1.heap.size, 3, none⟩) (by simp only; omega) _, ((HV4.out.far (p := ⟨w.heap.size, 0, none⟩) hn2 _).far (p := ⟨w.heap.size, 1, none⟩) hn2 _).set 3 _, ((HK4.out.setCell (.inr (Nat.le_refl _)) _).setCell (.inr (Nat.le_refl _)) _).setCell (.inr (by simp only; omega)) _⟩
        case measure => simp [intOf]; omega
      · go_wp2_with fail
        refine (HGN.out).mono ?_
        rintro e w4 ⟨A4, m4, c4, rfl, hd4, hk4⟩
        have HD4 := Lib.hid hd4
        have HX4 := Lib.hid (HX.out.kept hk4 (by simp))
        have HY4 := Lib.hid (HY.out.kept hk4 (by simp))
        have HZ4 := Lib.hid (HZ.out.kept hk4 (by simp))
        have HV4 := Lib.hid (HV.out.kept hk4 (by simp))
        have HK4 := Lib.hid (HK.out.trans hk4)
        have hx4 := HX4.out.cell
        have hxf4 := HX4.out.frozen
        have hxl4 := HX4.out.lt
        have hv4 := HV4.out.cell
        have hvf4 := HV4.out.frozen
        have hvl4 := HV4.out.lt
        have hn1 : ¬ (w.heap.size = w1.heap.size) := by omega
        have hn2 : ¬ (w1.heap.size = w.heap.size) := by omega
        clear hd4 hk4 hx hxf hxl hv hvf hvl hy hyf hyl hz hzf hzl
        go_wp2_with fail
        go_roundw
        case rel => exact ⟨k + 1, sn, ⟨do_, da, db, dr, vn, dm, dl⟩, A4, m4, c4, by omega, by go_num, by rw [HE5.out]; exact HP5.out.2.2.2.1, ((HD4.out.set (p := ⟨w.heap.size, 0, none⟩) hb0 _).set (p := ⟨w.heap.size, 1, none⟩) hb0 _).set (p := ⟨w1.heap.size, 4, none⟩) (by simp only; omega) _, ((HX4.out.set 0 _).set 1 _).far (p := ⟨w1.heap.size, 4, none⟩) hn1 _, ((HY4.out.far (p := ⟨w.heap.size, 0, none⟩) (by simp) _).far (p := ⟨w.heap.size, 1, none⟩) (by simp) _).far (p := ⟨w1.heap.size, 4, none⟩) (by simp only; omega) _, ((HZ4.out.far (p := ⟨w.heap.size, 0, none⟩) (by simp only; omega) _).far (p := ⟨w.heap.size, 1, none⟩) (by simp only; omega) _).far (p := ⟨w1.heap.size, 4, none⟩) (by simp only; omega) _, ((HV4.out.far (p := ⟨w.heap.size, 0, none⟩) hn2 _).far (p := ⟨w.heap.size, 1, none⟩) hn2 _).set 4 _, ((HK4.out.setCell (.inr (Nat.le_refl _)) _).setCell (.inr (Nat.le_refl _)) _).setCell (.inr (by simp only; omega)) _⟩
        case measure => simp [intOf]; omega
      · go_wp2_with fail
        refine (HGN.out).mono ?_
        rintro e w4 ⟨A4, m4, c4, rfl, hd4, hk4⟩
        have HD4 := Lib.hid hd4
        have HX4 := Lib.hid (HX.out.kept hk4 (by simp))
        have HY4 := Lib.hid (HY.out.kept hk4 (by simp))
        have HZ4 := Lib.hid (HZ.out.kept hk4 (by simp))
        have HV4 := Lib.hid (HV.out.kept hk4 (by simp))
        have HK4 := Lib.hid (HK.out.trans hk4)
        have hx4 := HX4.out.cell
        have hxf4 := HX4.out.frozen
        have hxl4 := HX4.out.lt
        have hv4 := HV4.out.cell
        have hvf4 := HV4.out.frozen
        have hvl4 := HV4.out.lt
        have hn1 : ¬ (w.heap.size = w1.heap.size) := by omega
        have hn2 : ¬ (w1.heap.size = w.heap.size) := by omega
        clear hd4 hk4 hx hxf hxl hv hvf hvl hy hyf hyl hz hzf hzl
        go_wp2_with fail
        go_roundw
        case rel => exact ⟨k + 1, sn, ⟨do_, da, db, dr, dn, vn, dl⟩, A4, m4, c4, by omega, by go_num, by rw [HE5.out]; exact HP5.out.2.2.2.2.1, ((HD4.out.set (p := ⟨w.heap.size, 0, none⟩) hb0 _).set (p := ⟨w.heap.size, 1, none⟩) hb0 _).set (p := ⟨w1.heap.size, 5, none⟩) (by simp only; omega) _, ((HX4.out.set 0 _).set 1 _).far (p := ⟨w1.heap.size, 5, none⟩) hn1 _, ((HY4.out.far (p := ⟨w.heap.size, 0, none⟩) (by simp) _).far (p := ⟨w.heap.size, 1, none⟩) (by simp) _).far (p := ⟨w1.heap.size, 5, none⟩) (by simp only; omega) _, ((HZ4.out.far (p := ⟨w.heap.size, 0, none⟩) (by simp only; omega) _).far (p := ⟨w.heap.size, 1, none⟩) (by simp only; omega) _).far (p := ⟨w1.heap.size, 5, none⟩) (by simp only; omega) _, ((HV4.out.far (p := ⟨w.heap.size, 0, none⟩) hn2 _).far (p := ⟨w.heap.size, 1, none⟩) hn2 _).set 5 _, ((HK4.out.setCell (.inr (Nat.le_refl _)) _).setCell (.inr (Nat.le_refl _)) _).setCell (.inr (by simp only; omega)) _⟩
        case measure => simp [intOf]; omega
      · go_wp2_with fail
        refine (HGT.out).mono ?_
        rintro e w4 ⟨A4, m4, c4, rfl, hd4, hk4⟩
        have HD4 := Lib.hid hd4
        have HX4 := Lib.hid (HX.out.kept hk4 (by simp))
        have HY4 := Lib.hid (HY.out.kept hk4 (by simp))
        have HZ4 := Lib.hid (HZ.out.kept hk4 (by simp))
        have HV4 := Lib.hid (HV.out.kept hk4 (by simp))
        have HK4 := Lib.hid (HK.out.trans hk4)
        have hx4 := HX4.out.cell
        have hxf4 := HX4.out.frozen
        have hxl4 := HX4.out.lt
        have hv4 := HV4.out.cell
        have hvf4 := HV4.out.frozen
        have hvl4 := HV4.out.lt
        have hn1 : ¬ (w.heap.size = w1.heap.size) := by omega
        have hn2 : ¬ (w1.heap.size = w.heap.size) := by omega
        clear hd4 hk4 hx hxf hxl hv hvf hvl hy hyf hyl hz hzf hzl
        go_wp2_with fail
        go_roundw
        case rel => exact ⟨k + 1, st, ⟨do_, da, db, dr, dn, dm, vt⟩, A4, m4, c4, by omega, by go_num, by rw [HE5.out]; exact HP5.out.2.2.2.2.2, ((HD4.out.set (p := ⟨w.heap.size, 0, none⟩) hb0 _).set (p := ⟨w.heap.size, 1, none⟩) hb0 _).set (p := ⟨w1.heap.size, 6, none⟩) (by simp only; omega) _, ((HX4.out.set 0 _).set 1 _).far (p := ⟨w1.heap.size, 6, none⟩) hn1 _, ((HY4.out.far (p := ⟨w.heap.size, 0, none⟩) (by simp) _).far (p := ⟨w.heap.size, 1, none⟩) (by simp) _).far (p := ⟨w1.heap.size, 6, none⟩) (by simp only; omega) _, ((HZ4.out.far (p := ⟨w.heap.size, 0, none⟩) (by simp only; omega) _).far (p := ⟨w.heap.size, 1, none⟩) (by simp only; omega) _).far (p := ⟨w1.heap.size, 6, none⟩) (by simp only; omega) _, ((HV4.out.far (p := ⟨w.heap.size, 0, none⟩) hn2 _).far (p := ⟨w.heap.size, 1, none⟩) hn2 _).set 6 _, ((HK4.out.setCell (.inr (Nat.le_refl _)) _).setCell (.inr (Nat.le_refl _)) _).setCell (.inr (by simp only; omega)) _⟩
        case measure => simp [intOf]; omega
    · obtain rfl : k = ps.length := by omega
      rw [List.take_of_length_le (Nat.le_refl _)] at HF
      have HFR : Hid (readP s1 kb = (sx, dx)) := by show _ = _; rw [HRP.out]; exact HF.out
      clear HF
      obtain ⟨do_, da, db, dr, dn, dm, dl⟩ := dx
      have HGD := Lib.hid (fun w => refGood do_ da db dr dn dm dl w)
      have HXP : Hid (readP s1 kb = (sx, ⟨do_, da, db, dr, dn, dm, dl⟩)) := HFR
      by_cases h6 : sx.1 = 0
      · have b6 : (sx.1 == 0) = true := beq_iff_eq.2 h6
        have b7 : (sx.1 != 0) = false := by simp [h6]
        cases hgd : goodD ⟨do_, da, db, dr, dn, dm, dl⟩
        · rw [hgd] at HGD
          have HE := Lib.hid (show refS (getD s) = (5, []) from by rw [HU.out, HXP.out, if_neg (by simp [h6]), if_neg (by simp [hgd])]; rfl)
          have HE2 := Lib.hid (show (getD s).2.1 = Dd.zero from by rw [HU.out, HXP.out, if_neg (by simp [h6]), if_neg (by simp [hgd])])
          clear hgd h6
          go_wp2_with fail
          refine (HGD.out _).mono ?_
          rintro e w5 ⟨rfl, hk5⟩
          have HY5 := Lib.hid (HY.out.kept hk5 (by simp))
          have HZ5 := Lib.hid (HZ.out.kept hk5 (by simp))
          have HX5 := Lib.hid (HX.out.kept hk5 (by simp))
          have HK5 := Lib.hid (HK.out.trans hk5)
          have hx5 := HX5.out.cell
          have hxl5 := HX5.out.lt
          have hy5 := HY5.out.cell
          have hyf5 := HY5.out.frozen
          have hyl5 := HY5.out.lt
          have hz5 := HZ5.out.cell
          have hzf5 := HZ5.out.frozen
          have hzl5 := HZ5.out.lt
          clear hk5 hx hxf hxl hv hvf hvl hy hyf hyl hz hzf hzl
          go_wp2_with fail
          refine bodyPost_ret (v := .tuple #[.agg #[.slice none 0 0, .int .i64 5], .agg (dC 0 0 0 0 0 0 false)]) (by simp [results, Tryd.results47, go_sem, hy5, hz5]) rfl ?_
          rw [HE.out, HE2.out]
          exact ⟨none, 0, 0, rfl, isD_err _ _ (by simp), (by (repeat (first | (with_reducible exact HK5.out) | (with_reducible refine Kept.setCell ?_ ?_ _) | (exact .inr (by simp only; omega)) | (exact .inr (by omega)))))⟩
        · rw [hgd] at HGD
          have HE := Lib.hid (show refS (getD s) = sx from by rw [HU.out, HXP.out, if_neg (by simp [h6]), if_pos hgd]; rfl)
          have HE2 := Lib.hid (show (getD s).2.1 = ⟨do_, da, db, dr, dn, dm, dl⟩ from by rw [HU.out, HXP.out, if_neg (by simp [h6]), if_pos hgd])
          clear hgd h6
          go_wp2_with fail
          refine (HGD.out _).mono ?_
          rintro e w5 ⟨rfl, hk5⟩
          have HY5 := Lib.hid (HY.out.kept hk5 (by simp))
          have HZ5 := Lib.hid (HZ.out.kept hk5 (by simp))
          have HX5 := Lib.hid (HX.out.kept hk5 (by simp))
          have HV5 := Lib.hid (HV.out.kept hk5 (by simp))
          have HD5 := Lib.hid (HD.out.old hk5)
          have HK5 := Lib.hid (HK.out.trans hk5)
          have hx5 := HX5.out.cell
          have hxl5 := HX5.out.lt
          have hv5 := HV5.out.cell
          have hvl5 := HV5.out.lt
          have hy5 := HY5.out.cell
          have hyf5 := HY5.out.frozen
          have hyl5 := HY5.out.lt
          have hz5 := HZ5.out.cell
          have hzf5 := HZ5.out.frozen
          have hzl5 := HZ5.out.lt
          have n1 : ¬ (w.heap.size + 1 = w1.heap.size) := by omega
          have n2 : ¬ (w1.heap.size = w.heap.size + 1) := by omega
          have n3 : ¬ (w.heap.size + 1 + 1 = w1.heap.size) := by omega
          have n4 : ¬ (w1.heap.size = w.heap.size + 1 + 1) := by omega
          have n5 : ¬ (w.heap.size + 1 + 1 = w.heap.size) := by omega
          have n6 : ¬ (w.heap.size = w.heap.size + 1 + 1) := by omega
          clear hk5 hx hxf hxl hv hvf hvl hy hyf hyl hz hzf hzl
          go_wp2_with fail
          go_region_held3 (fun w' => w'.cell? ⟨w.heap.size, 0, none⟩ = some (.slice A' m' c') ∧ w'.cell? ⟨w.heap.size, 1, none⟩ = some (.int .i64 sx.1) ∧ w'.cell? ⟨w1.heap.size, 0, none⟩ = some (.int .i64 do_) ∧ w'.cell? ⟨w1.heap.size, 1, none⟩ = some (.int .i64 da) ∧ w'.cell? ⟨w1.heap.size, 2, none⟩ = some (.int .i64 db) ∧ w'.cell? ⟨w1.heap.size, 3, none⟩ = some (.int .i64 dr) ∧ w'.cell? ⟨w1.heap.size, 4, none⟩ = some (.int .u64 dn) ∧ w'.cell? ⟨w1.heap.size, 5, none⟩ = some (.int .u64 dm) ∧ w'.cell? ⟨w1.heap.size, 6, none⟩ = some (.bool dl)) (go_keep) (first | fail)
          all_goals
            go_wp2_with fail
            refine bodyPost_ret (v := .tuple #[.agg #[.slice A' m' c', .int .i64 sx.1], .agg (dC do_ da db dr dn dm dl)]) (by simp [results, Tryd.results47, go_sem, hy5, hz5]) rfl ?_
            rw [HE.out, HE2.out]
            exact ⟨A', m', c', rfl, IsD.kept (G := [w.heap.size + 1, w.heap.size + 1 + 1]) HD5.out (by (repeat (first | (with_reducible exact Kept.refl _ _) | (with_reducible refine Kept.drew ?_) | (with_reducible refine Kept.setCell ?_ ?_ _) | (exact .inl (by simp))))) (by simp; omega), (by (repeat (first | (with_reducible exact HK5.out) | (with_reducible refine Kept.drew ?_) | (with_reducible refine Kept.setCell ?_ ?_ _) | (exact .inr (by simp only; omega)) | (exact .inr (by omega)))))⟩
      · have b6 : (sx.1 == 0) = false := beq_eq_false_iff_ne.2 h6
        have b7 : (sx.1 != 0) = true := by simp [h6]
        have HE := Lib.hid (show refS (getD s) = (sx.1, []) from by rw [HU.out, HXP.out, if_pos h6, refS, if_neg h6])
        have HE2 := Lib.hid (show (getD s).2.1 = Dd.zero from by rw [HU.out, HXP.out, if_pos h6])
        have H6 := Lib.hid h6
        clear h6
        go_wp2_with fail
        refine bodyPost_ret (v := .tuple #[.agg #[.slice A' m' c', .int .i64 sx.1], .agg (dC 0 0 0 0 0 0 false)]) (by simp [results, Tryd.results47, go_sem, hx, hy, hz]) rfl ?_
        rw [HE.out, HE2.out]
        exact ⟨A', m', c', rfl, IsD.kept (G := [w.heap.size + 1, w.heap.size + 1 + 1]) (HD.out.err rfl H6.out) (by (repeat (first | (with_reducible exact Kept.refl _ _) | (with_reducible refine Kept.setCell ?_ ?_ _) | (exact .inl (by simp))))) (by simp; omega), (by (repeat (first | (with_reducible exact HK.out) | (with_reducible refine Kept.setCell ?_ ?_ _) | (exact .inr (by simp only; omega)) | (exact .inr (by omega)))))⟩

theorem refGetD (b0 : Nat) (A : Option Addr) (m c : Nat) (s : RS) (w : World) (h : IsD w b0 A m c s) (hb0 : b0 ≤ w.heap.size) :
    Calls Tryd.prog 47 #[.agg #[.slice A m c, .int .i64 s.1]] w (GivesD w b0 (refS (getD s)) (getD s).2.1) := by
  by_cases h1 : (byteS s).1.1 = 0
  · by_cases h2 : ((byteS s).2.toNat : Int) < 1 ∨ 11 < ((byteS s).2.toNat : Int)
    · by_cases h3 : ((byteS s).2.toNat : Int) < 1
      · exact refGetD_lo b0 A m c s w h hb0 h1 h3
      · exact refGetD_hi b0 A m c s w h hb0 h1 h3 (by omega)
    · exact refGetD_run b0 A m c s w h hb0 h1 h2
  · exact refGetD_err b0 A m c s w h hb0 h1

end Go.Proofs.YtmhlmoojmdfnfaaDoor
