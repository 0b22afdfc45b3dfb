/- Package deed: Get (printed by a program: gen/deedget2.py). -/
import Derived.Test.YtmhlmoojmdfnfaaDoorDeedGet
namespace Go.Proofs.YtmhlmoojmdfnfaaDoor
open Go.RowKit

theorem dread_any (g : Nat) (A0 : Option Addr) (c0 : Nat) (s0 : RS) (gd : Nat) (k : Int) (w0 : World) (hk1 : 1 ≤ k) (hk2 : k ≤ 11) (hR : IsR w0 g A0 c0 s0) (hD : Blk w0 gd 41 (dC k 0 0 0 0 0 false)) (hA : ∀ ad, A0 = some ad → ad.block ≠ gd) :
    Calls Tryd.prog 104 #[.pointer (some ⟨g, 0, none⟩), .pointer (some ⟨gd, 0, none⟩)] w0 (ReadDone w0 g A0 gd (readP s0 k)) := by
  rcases (by omega : k = 1 ∨ k = 2 ∨ k = 3 ∨ k = 4 ∨ k = 5 ∨ k = 6 ∨ k = 7 ∨ k = 8 ∨ k = 9 ∨ k = 10 ∨ k = 11) with rfl | rfl | rfl | rfl | rfl | rfl | rfl | rfl | rfl | rfl | rfl
  · exact dread_op1 g A0 c0 s0 gd w0 hR hD hA
  · exact dread_op2 g A0 c0 s0 gd w0 hR hD hA
  · exact dread_op3 g A0 c0 s0 gd w0 hR hD hA
  · exact dread_op4 g A0 c0 s0 gd w0 hR hD hA
  · exact dread_op5 g A0 c0 s0 gd w0 hR hD hA
  · exact dread_op6 g A0 c0 s0 gd w0 hR hD hA
  · exact dread_op7 g A0 c0 s0 gd w0 hR hD hA
  · exact dread_op8 g A0 c0 s0 gd w0 hR hD hA
  · exact dread_op9 g A0 c0 s0 gd w0 hR hD hA
  · exact dread_op10 g A0 c0 s0 gd w0 hR hD hA
  · exact dread_op11 g A0 c0 s0 gd w0 hR hD hA

theorem rgoes_fin {w w3 w4 : World} {g : Nat} {A : Option Addr} {c : Nat} {s : RS} {A3 : Option Addr} {c3 : Nat} {s' : RS} {R : Nat} (h0 : IsR w g A c s) (h3 : IsR w3 g A3 c3 s') (hk : Kept [g] w w3) (hA : ∀ ad, A3 = some ad → ∃ a0, A = some a0 ∧ ad.block = a0.block) (hk4 : Kept [R] w3 w4) (hR : w.heap.size ≤ R) : RGoes w g A s' w4 := by
  have hg := h0.1.lt
  refine ⟨A3, c3, h3.kept hk4 (by simp; omega) (fun ad e => ?_), hk.trans' hk4 (fun k hm => .inr (by simp at hm; omega)), hA⟩
  obtain ⟨a0, e0, b0⟩ := hA ad e
  have := (h0.2.2.2.2 a0 e0).2
  rw [b0]; simp; omega
/-- What Get leaves. -/
def Got (w : World) (g : Nat) (A : Option Addr) (x : RS × Dd × Int) (e : Ending) (w' : World) : Prop :=
  e = .returned (.tuple #[.agg (dCd x.2.1), .int .i64 x.2.2]) ∧ RGoes w g A x.1 w'

set_option maxHeartbeats 3200000 in
set_option maxRecDepth 100000 in
theorem dget_err (g : Nat) (A : Option Addr) (c : Nat) (s : RS) (w : World) (h : IsR w g A c s) (h1 : (byteS s).1.1 ≠ 0) :
    Calls Tryd.prog 46 #[.pointer (some ⟨g, 0, none⟩)] w (Got w g A (getD s)) := by
  have hE : getD s = ((byteS s).1, Dd.zero, (byteS s).1.1) := by unfold getD; rw [if_pos h1]
  have HB := Lib.hid (rbyte_any g A c s (w.alloc (.cells (dC 0 0 0 0 0 0 false) 41)) (h.kept ((Kept.refl [] w).alloc _) (by simp) (by simp)))
  have hkb := UInt8.toNat_lt (byteS s).2
  have H0 := Lib.hid h
  have hgl := h.1.lt
  generalize (byteS s).2.toNat = kb at *
  generalize (byteS s).1 = s1 at *
  have HE := Lib.hid hE
  have hb : (s1.1 != 0) = true := by simp [h1]
  clear hE h1
  have hk0 : (0 : Int) ≤ (kb : Int) := by omega
  have hk9 : (kb : Int) < 256 := by omega
  clear h
  go_enter Tryd.func46, Tryd.ntmps46
  go_wp2_with fail
  refine (HB.out).mono ?_
  rintro e w1 ⟨rfl, A1, c1, hR1, hk1, hA1⟩
  have HK1 := Lib.hid (((Kept.refl [g] w).alloc (.cells (dC 0 0 0 0 0 0 false) 41)).trans hk1)
  have HRR1 := Lib.hid ((Blk.new w 41 (dC 0 0 0 0 0 0 false)).kept hk1 (by simp; omega))
  have hrl : w.heap.size < w1.heap.size := HRR1.out.lt
  have HR1 := Lib.hid hR1
  have HR2 := Lib.hid (hR1.kept ((Kept.refl [] w1).alloc (.cells (dC kb 0 0 0 0 0 false) 41)) (by simp) (by simp))
  have HD2 := Lib.hid (Blk.new w1 41 (dC kb 0 0 0 0 0 false))
  have HRR2 := Lib.hid (HRR1.out.alloc (.cells (dC kb 0 0 0 0 0 false) 41))
  have HK2 := Lib.hid (HK1.out.alloc (.cells (dC kb 0 0 0 0 0 false) 41))
  have HA1 := Lib.hid hA1
  have HEr := Lib.hid (rerr_any g A1 c1 s1 _ HR2.out)
  have hcd2 := HD2.out.cell
  have hcr2 := HRR1.out.cell
  have hfr2 := HRR1.out.frozen
  have hlr2 := HRR1.out.lt
  have hld2 := HD2.out.lt
  clear hR1 hk1 hA1
  go_wp2_with fail
  refine (HEr.out).mono ?_
  rintro e w2 ⟨rfl, rfl⟩
  go_wp2_with fail
  refine bodyPost_ret (v := .tuple #[.agg (dC 0 0 0 0 0 0 false), .int .i64 s1.1]) (by simp [results, Tryd.results46, go_sem, hcr2, hlr2]) rfl ?_
  refine ⟨by rw [HE.out]; try rfl, ?_⟩
  rw [HE.out]
  exact rgoes_fin (R := w.heap.size) H0.out HR1.out HK1.out HA1.out (by (repeat (first | (with_reducible exact Kept.refl _ _) | (with_reducible refine Kept.alloc ?_ _) | (with_reducible refine Kept.setCell ?_ ?_ _) | (exact .inl (by simp))))) (Nat.le_refl _)

set_option maxHeartbeats 3200000 in
set_option maxRecDepth 100000 in
theorem dget_lo (g : Nat) (A : Option Addr) (c : Nat) (s : RS) (w : World) (h : IsR w g A c s) (h1 : (byteS s).1.1 = 0) (h2 : ((byteS s).2.toNat : Int) < 1) :
    Calls Tryd.prog 46 #[.pointer (some ⟨g, 0, none⟩)] w (Got w g A (getD s)) := by
  have hE : getD s = ((byteS s).1, Dd.zero, 3) := by unfold getD; rw [if_neg (by simp [h1]), if_pos (.inl h2)]
  have HB := Lib.hid (rbyte_any g A c s (w.alloc (.cells (dC 0 0 0 0 0 0 false) 41)) (h.kept ((Kept.refl [] w).alloc _) (by simp) (by simp)))
  have hkb := UInt8.toNat_lt (byteS s).2
  have H0 := Lib.hid h
  have hgl := h.1.lt
  generalize (byteS s).2.toNat = kb at *
  generalize (byteS s).1 = s1 at *
  have HE := Lib.hid hE
  have hb : (s1.1 != 0) = false := by simp [h1]
  have d1 : decide ((kb : Int) < 1) = true := by simpa using h2
  clear hE h1 h2
  have hk0 : (0 : Int) ≤ (kb : Int) := by omega
  have hk9 : (kb : Int) < 256 := by omega
  clear h
  go_enter Tryd.func46, Tryd.ntmps46
  go_wp2_with fail
  refine (HB.out).mono ?_
  rintro e w1 ⟨rfl, A1, c1, hR1, hk1, hA1⟩
  have HK1 := Lib.hid (((Kept.refl [g] w).alloc (.cells (dC 0 0 0 0 0 0 false) 41)).trans hk1)
  have HRR1 := Lib.hid ((Blk.new w 41 (dC 0 0 0 0 0 0 false)).kept hk1 (by simp; omega))
  have hrl : w.heap.size < w1.heap.size := HRR1.out.lt
  have HR1 := Lib.hid hR1
  have HR2 := Lib.hid (hR1.kept ((Kept.refl [] w1).alloc (.cells (dC kb 0 0 0 0 0 false) 41)) (by simp) (by simp))
  have HD2 := Lib.hid (Blk.new w1 41 (dC kb 0 0 0 0 0 false))
  have HRR2 := Lib.hid (HRR1.out.alloc (.cells (dC kb 0 0 0 0 0 false) 41))
  have HK2 := Lib.hid (HK1.out.alloc (.cells (dC kb 0 0 0 0 0 false) 41))
  have HA1 := Lib.hid hA1
  have HEr := Lib.hid (rerr_any g A1 c1 s1 _ HR2.out)
  have hcd2 := HD2.out.cell
  have hcr2 := HRR1.out.cell
  have hfr2 := HRR1.out.frozen
  have hlr2 := HRR1.out.lt
  have hld2 := HD2.out.lt
  clear hR1 hk1 hA1
  go_wp2_with fail
  refine (HEr.out).mono ?_
  rintro e w2 ⟨rfl, rfl⟩
  go_wp2_with fail
  refine bodyPost_ret (v := .tuple #[.agg (dC 0 0 0 0 0 0 false), .int .i64 3]) (by simp [results, Tryd.results46, go_sem, hcr2, hlr2]) rfl ?_
  refine ⟨by rw [HE.out]; try rfl, ?_⟩
  rw [HE.out]
  exact rgoes_fin (R := w.heap.size) H0.out HR1.out HK1.out HA1.out (by (repeat (first | (with_reducible exact Kept.refl _ _) | (with_reducible refine Kept.alloc ?_ _) | (with_reducible refine Kept.setCell ?_ ?_ _) | (exact .inl (by simp))))) (Nat.le_refl _)

set_option maxHeartbeats 3200000 in
set_option maxRecDepth 100000 in
theorem dget_hi (g : Nat) (A : Option Addr) (c : Nat) (s : RS) (w : World) (h : IsR w g A c s) (h1 : (byteS s).1.1 = 0) (h2 : ¬ ((byteS s).2.toNat : Int) < 1) (h3 : 11 < ((byteS s).2.toNat : Int)) :
    Calls Tryd.prog 46 #[.pointer (some ⟨g, 0, none⟩)] w (Got w g A (getD s)) := by
  have hE : getD s = ((byteS s).1, Dd.zero, 3) := by unfold getD; rw [if_neg (by simp [h1]), if_pos (.inr h3)]
  have HB := Lib.hid (rbyte_any g A c s (w.alloc (.cells (dC 0 0 0 0 0 0 false) 41)) (h.kept ((Kept.refl [] w).alloc _) (by simp) (by simp)))
  have hkb := UInt8.toNat_lt (byteS s).2
  have H0 := Lib.hid h
  have hgl := h.1.lt
  generalize (byteS s).2.toNat = kb at *
  generalize (byteS s).1 = s1 at *
  have HE := Lib.hid hE
  have hb : (s1.1 != 0) = false := by simp [h1]
  have d1 : decide ((kb : Int) < 1) = false := by simpa using h2
  have d2 : decide ((11 : Int) < (kb : Int)) = true := by simpa using h3
  clear hE h1 h2 h3
  have hk0 : (0 : Int) ≤ (kb : Int) := by omega
  have hk9 : (kb : Int) < 256 := by omega
  clear h
  go_enter Tryd.func46, Tryd.ntmps46
  go_wp2_with fail
  refine (HB.out).mono ?_
  rintro e w1 ⟨rfl, A1, c1, hR1, hk1, hA1⟩
  have HK1 := Lib.hid (((Kept.refl [g] w).alloc (.cells (dC 0 0 0 0 0 0 false) 41)).trans hk1)
  have HRR1 := Lib.hid ((Blk.new w 41 (dC 0 0 0 0 0 0 false)).kept hk1 (by simp; omega))
  have hrl : w.heap.size < w1.heap.size := HRR1.out.lt
  have HR1 := Lib.hid hR1
  have HR2 := Lib.hid (hR1.kept ((Kept.refl [] w1).alloc (.cells (dC kb 0 0 0 0 0 false) 41)) (by simp) (by simp))
  have HD2 := Lib.hid (Blk.new w1 41 (dC kb 0 0 0 0 0 false))
  have HRR2 := Lib.hid (HRR1.out.alloc (.cells (dC kb 0 0 0 0 0 false) 41))
  have HK2 := Lib.hid (HK1.out.alloc (.cells (dC kb 0 0 0 0 0 false) 41))
  have HA1 := Lib.hid hA1
  have HEr := Lib.hid (rerr_any g A1 c1 s1 _ HR2.out)
  have hcd2 := HD2.out.cell
  have hcr2 := HRR1.out.cell
  have hfr2 := HRR1.out.frozen
  have hlr2 := HRR1.out.lt
  have hld2 := HD2.out.lt
  clear hR1 hk1 hA1
  go_wp2_with fail
  refine (HEr.out).mono ?_
  rintro e w2 ⟨rfl, rfl⟩
  go_wp2_with fail
  refine bodyPost_ret (v := .tuple #[.agg (dC 0 0 0 0 0 0 false), .int .i64 3]) (by simp [results, Tryd.results46, go_sem, hcr2, hlr2]) rfl ?_
  refine ⟨by rw [HE.out]; try rfl, ?_⟩
  rw [HE.out]
  exact rgoes_fin (R := w.heap.size) H0.out HR1.out HK1.out HA1.out (by (repeat (first | (with_reducible exact Kept.refl _ _) | (with_reducible refine Kept.alloc ?_ _) | (with_reducible refine Kept.setCell ?_ ?_ _) | (exact .inl (by simp))))) (Nat.le_refl _)

set_option maxHeartbeats 3200000 in
set_option maxRecDepth 100000 in
theorem dget_short (g : Nat) (A : Option Addr) (c : Nat) (s : RS) (w : World) (h : IsR w g A c s) (h1 : (byteS s).1.1 = 0) (h2 : ¬ (((byteS s).2.toNat : Int) < 1 ∨ 11 < ((byteS s).2.toNat : Int))) (h3 : (readP (byteS s).1 (byteS s).2.toNat).1.1 ≠ 0) :
    Calls Tryd.prog 46 #[.pointer (some ⟨g, 0, none⟩)] w (Got w g A (getD s)) := by
  have hE : getD s = ((readP (byteS s).1 (byteS s).2.toNat).1, Dd.zero, (readP (byteS s).1 (byteS s).2.toNat).1.1) := by unfold getD; rw [if_neg (by simp [h1]), if_neg h2, if_pos h3]
  have HB := Lib.hid (rbyte_any g A c s (w.alloc (.cells (dC 0 0 0 0 0 0 false) 41)) (h.kept ((Kept.refl [] w).alloc _) (by simp) (by simp)))
  have hkb := UInt8.toNat_lt (byteS s).2
  have H0 := Lib.hid h
  have hgl := h.1.lt
  generalize (byteS s).2.toNat = kb at *
  generalize (byteS s).1 = s1 at *
  have HE := Lib.hid hE
  have hb : (s1.1 != 0) = false := by simp [h1]
  have HRD0 := Lib.hid (fun gd w A c h1 h2 h3 => dread_any g A c s1 gd kb w (by omega) (by omega) h1 h2 h3)
  have d1 : decide ((kb : Int) < 1) = false := by simp; omega
  have d2 : decide ((11 : Int) < (kb : Int)) = false := by simp; omega
  generalize readP s1 kb = x2 at *
  obtain ⟨s2, o2, a2, b2, r2, n2, m2, l2⟩ := x2
  simp only at h3 HE
  have HG := Lib.hid (fun w => good_any o2 a2 b2 r2 n2 m2 l2 w)
  have hb3 : (s2.1 != 0) = true := by simp [h3]
  clear hE h1 h2 h3
  have hk0 : (0 : Int) ≤ (kb : Int) := by omega
  have hk9 : (kb : Int) < 256 := by omega
  clear h
  go_enter Tryd.func46, Tryd.ntmps46
  go_wp2_with fail
  refine (HB.out).mono ?_
  rintro e w1 ⟨rfl, A1, c1, hR1, hk1, hA1⟩
  have HK1 := Lib.hid (((Kept.refl [g] w).alloc (.cells (dC 0 0 0 0 0 0 false) 41)).trans hk1)
  have HRR1 := Lib.hid ((Blk.new w 41 (dC 0 0 0 0 0 0 false)).kept hk1 (by simp; omega))
  have hrl : w.heap.size < w1.heap.size := HRR1.out.lt
  have HR1 := Lib.hid hR1
  have HR2 := Lib.hid (hR1.kept ((Kept.refl [] w1).alloc (.cells (dC kb 0 0 0 0 0 false) 41)) (by simp) (by simp))
  have HD2 := Lib.hid (Blk.new w1 41 (dC kb 0 0 0 0 0 false))
  have HRR2 := Lib.hid (HRR1.out.alloc (.cells (dC kb 0 0 0 0 0 false) 41))
  have HK2 := Lib.hid (HK1.out.alloc (.cells (dC kb 0 0 0 0 0 false) 41))
  have HA1 := Lib.hid hA1
  have HEr := Lib.hid (rerr_any g A1 c1 s1 _ HR2.out)
  have hcd2 := HD2.out.cell
  have hcr2 := HRR1.out.cell
  have hfr2 := HRR1.out.frozen
  have hlr2 := HRR1.out.lt
  have hld2 := HD2.out.lt
  clear hR1 hk1 hA1
  go_wp2_with fail
  refine (HEr.out).mono ?_
  rintro e w2 ⟨rfl, rfl⟩
  go_wp2_with fail
  refine (HRD0.out w1.heap.size _ A1 c1 HR2.out HD2.out (fun ad e => by obtain ⟨a0, e0, b0⟩ := HA1.out ad e; have := (H0.out.2.2.2.2 a0 e0).2; rw [b0]; omega)).mono ?_
  rintro e w3 ⟨rfl, A3, c3, hR3, hD3, hk3, hA3⟩
  have HR3 := Lib.hid hR3
  have HD3 := Lib.hid hD3
  have HRR3 := Lib.hid (HRR2.out.kept hk3 (by simp; omega))
  have HK3 : Hid (Kept [g] w w3) := HK2.out.trans' hk3 (fun k hm => by
    simp at hm
    rcases hm with rfl | rfl
    · exact .inl (by simp)
    · exact .inr (by omega))
  have HA3 : Hid (∀ ad, A3 = some ad → ∃ a0, A = some a0 ∧ ad.block = a0.block) := fun ad e => by
    obtain ⟨a1, e1, b1⟩ := hA3 ad e
    obtain ⟨a0, e0, b0⟩ := HA1.out a1 e1
    exact ⟨a0, e0, b1.trans b0⟩
  have HEr3 := Lib.hid (rerr_any g A3 c3 s2 _ HR3.out)
  have hcd3 := HD3.out.cell
  have hcr3 := HRR3.out.cell
  have hfr3 := HRR3.out.frozen
  have hlr3 := HRR3.out.lt
  clear hR3 hD3 hk3 hA3 hcd2 hcr2 hfr2 hlr2
  go_wp2_with fail
  refine (HEr3.out).mono ?_
  rintro e w4 ⟨rfl, rfl⟩
  go_wp2_with fail
  refine bodyPost_ret (v := .tuple #[.agg (dC 0 0 0 0 0 0 false), .int .i64 s2.1]) (by simp [results, Tryd.results46, go_sem, hcr3]) rfl ?_
  refine ⟨by rw [HE.out]; try rfl, ?_⟩
  rw [HE.out]
  exact rgoes_fin (R := w.heap.size) H0.out HR3.out HK3.out HA3.out (by (repeat (first | (with_reducible exact Kept.refl _ _) | (with_reducible refine Kept.alloc ?_ _) | (with_reducible refine Kept.setCell ?_ ?_ _) | (exact .inl (by simp))))) (Nat.le_refl _)

set_option maxHeartbeats 3200000 in
set_option maxRecDepth 100000 in
theorem dget_range (g : Nat) (A : Option Addr) (c : Nat) (s : RS) (w : World) (h : IsR w g A c s) (h1 : (byteS s).1.1 = 0) (h2 : ¬ (((byteS s).2.toNat : Int) < 1 ∨ 11 < ((byteS s).2.toNat : Int))) (h3 : (readP (byteS s).1 (byteS s).2.toNat).1.1 = 0) (h4 : goodD (readP (byteS s).1 (byteS s).2.toNat).2 = false) :
    Calls Tryd.prog 46 #[.pointer (some ⟨g, 0, none⟩)] w (Got w g A (getD s)) := by
  have hE : getD s = ((readP (byteS s).1 (byteS s).2.toNat).1, Dd.zero, 5) := by unfold getD; rw [if_neg (by simp [h1]), if_neg h2, if_neg (by simp [h3]), if_neg (by simp [h4])]
  have HB := Lib.hid (rbyte_any g A c s (w.alloc (.cells (dC 0 0 0 0 0 0 false) 41)) (h.kept ((Kept.refl [] w).alloc _) (by simp) (by simp)))
  have hkb := UInt8.toNat_lt (byteS s).2
  have H0 := Lib.hid h
  have hgl := h.1.lt
  generalize (byteS s).2.toNat = kb at *
  generalize (byteS s).1 = s1 at *
  have HE := Lib.hid hE
  have hb : (s1.1 != 0) = false := by simp [h1]
  have HRD0 := Lib.hid (fun gd w A c h1 h2 h3 => dread_any g A c s1 gd kb w (by omega) (by omega) h1 h2 h3)
  have d1 : decide ((kb : Int) < 1) = false := by simp; omega
  have d2 : decide ((11 : Int) < (kb : Int)) = false := by simp; omega
  generalize readP s1 kb = x2 at *
  obtain ⟨s2, o2, a2, b2, r2, n2, m2, l2⟩ := x2
  simp only at h3 h4 HE
  have HG := Lib.hid (fun w => good_any o2 a2 b2 r2 n2 m2 l2 w)
  rw [h4] at HG
  have hb3 : (s2.1 != 0) = false := by simp [h3]
  clear hE h1 h2 h3 h4
  have hk0 : (0 : Int) ≤ (kb : Int) := by omega
  have hk9 : (kb : Int) < 256 := by omega
  clear h
  go_enter Tryd.func46, Tryd.ntmps46
  go_wp2_with fail
  refine (HB.out).mono ?_
  rintro e w1 ⟨rfl, A1, c1, hR1, hk1, hA1⟩
  have HK1 := Lib.hid (((Kept.refl [g] w).alloc (.cells (dC 0 0 0 0 0 0 false) 41)).trans hk1)
  have HRR1 := Lib.hid ((Blk.new w 41 (dC 0 0 0 0 0 0 false)).kept hk1 (by simp; omega))
  have hrl : w.heap.size < w1.heap.size := HRR1.out.lt
  have HR1 := Lib.hid hR1
  have HR2 := Lib.hid (hR1.kept ((Kept.refl [] w1).alloc (.cells (dC kb 0 0 0 0 0 false) 41)) (by simp) (by simp))
  have HD2 := Lib.hid (Blk.new w1 41 (dC kb 0 0 0 0 0 false))
  have HRR2 := Lib.hid (HRR1.out.alloc (.cells (dC kb 0 0 0 0 0 false) 41))
  have HK2 := Lib.hid (HK1.out.alloc (.cells (dC kb 0 0 0 0 0 false) 41))
  have HA1 := Lib.hid hA1
  have HEr := Lib.hid (rerr_any g A1 c1 s1 _ HR2.out)
  have hcd2 := HD2.out.cell
  have hcr2 := HRR1.out.cell
  have hfr2 := HRR1.out.frozen
  have hlr2 := HRR1.out.lt
  have hld2 := HD2.out.lt
  clear hR1 hk1 hA1
  go_wp2_with fail
  refine (HEr.out).mono ?_
  rintro e w2 ⟨rfl, rfl⟩
  go_wp2_with fail
  refine (HRD0.out w1.heap.size _ A1 c1 HR2.out HD2.out (fun ad e => by obtain ⟨a0, e0, b0⟩ := HA1.out ad e; have := (H0.out.2.2.2.2 a0 e0).2; rw [b0]; omega)).mono ?_
  rintro e w3 ⟨rfl, A3, c3, hR3, hD3, hk3, hA3⟩
  have HR3 := Lib.hid hR3
  have HD3 := Lib.hid hD3
  have HRR3 := Lib.hid (HRR2.out.kept hk3 (by simp; omega))
  have HK3 : Hid (Kept [g] w w3) := HK2.out.trans' hk3 (fun k hm => by
    simp at hm
    rcases hm with rfl | rfl
    · exact .inl (by simp)
    · exact .inr (by omega))
  have HA3 : Hid (∀ ad, A3 = some ad → ∃ a0, A = some a0 ∧ ad.block = a0.block) := fun ad e => by
    obtain ⟨a1, e1, b1⟩ := hA3 ad e
    obtain ⟨a0, e0, b0⟩ := HA1.out a1 e1
    exact ⟨a0, e0, b1.trans b0⟩
  have HEr3 := Lib.hid (rerr_any g A3 c3 s2 _ HR3.out)
  have hcd3 := HD3.out.cell
  have hcr3 := HRR3.out.cell
  have hfr3 := HRR3.out.frozen
  have hlr3 := HRR3.out.lt
  clear hR3 hD3 hk3 hA3 hcd2 hcr2 hfr2 hlr2
  go_wp2_with fail
  refine (HEr3.out).mono ?_
  rintro e w4 ⟨rfl, rfl⟩
  go_wp2_with fail
  refine (HG.out _).mono ?_
  rintro e w5 ⟨rfl, hk5⟩
  have HR5 := Lib.hid (HR3.out.kept hk5 (by simp) (by simp))
  have HK5 := Lib.hid (HK3.out.trans (hk5.mono (by simp)))
  have HD5 := Lib.hid (HD3.out.kept hk5 (by simp))
  have HRR5 := Lib.hid (HRR3.out.kept hk5 (by simp))
  have hcd5 := HD5.out.cell
  have hcr5 := HRR5.out.cell
  have hfr5 := HRR5.out.frozen
  have hlr5 := HRR5.out.lt
  clear hk5 hcd3 hcr3 hfr3 hlr3
  go_wp2_with fail
  refine bodyPost_ret (v := .tuple #[.agg (dC 0 0 0 0 0 0 false), .int .i64 5]) (by simp [results, Tryd.results46, go_sem, hcr5]) rfl ?_
  refine ⟨by rw [HE.out]; try rfl, ?_⟩
  rw [HE.out]
  exact rgoes_fin (R := w.heap.size) H0.out HR5.out HK5.out HA3.out (by (repeat (first | (with_reducible exact Kept.refl _ _) | (with_reducible refine Kept.alloc ?_ _) | (with_reducible refine Kept.setCell ?_ ?_ _) | (exact .inl (by simp))))) (Nat.le_refl _)

set_option maxHeartbeats 3200000 in
set_option maxRecDepth 100000 in
theorem dget_ok (g : Nat) (A : Option Addr) (c : Nat) (s : RS) (w : World) (h : IsR w g A c s) (h1 : (byteS s).1.1 = 0) (h2 : ¬ (((byteS s).2.toNat : Int) < 1 ∨ 11 < ((byteS s).2.toNat : Int))) (h3 : (readP (byteS s).1 (byteS s).2.toNat).1.1 = 0) (h4 : goodD (readP (byteS s).1 (byteS s).2.toNat).2 = true) :
    Calls Tryd.prog 46 #[.pointer (some ⟨g, 0, none⟩)] w (Got w g A (getD s)) := by
  have hE : getD s = ((readP (byteS s).1 (byteS s).2.toNat).1, (readP (byteS s).1 (byteS s).2.toNat).2, 0) := by unfold getD; rw [if_neg (by simp [h1]), if_neg h2, if_neg (by simp [h3]), if_pos h4]
  have HB := Lib.hid (rbyte_any g A c s (w.alloc (.cells (dC 0 0 0 0 0 0 false) 41)) (h.kept ((Kept.refl [] w).alloc _) (by simp) (by simp)))
  have hkb := UInt8.toNat_lt (byteS s).2
  have H0 := Lib.hid h
  have hgl := h.1.lt
  generalize (byteS s).2.toNat = kb at *
  generalize (byteS s).1 = s1 at *
  have HE := Lib.hid hE
  have hb : (s1.1 != 0) = false := by simp [h1]
  have HRD0 := Lib.hid (fun gd w A c h1 h2 h3 => dread_any g A c s1 gd kb w (by omega) (by omega) h1 h2 h3)
  have d1 : decide ((kb : Int) < 1) = false := by simp; omega
  have d2 : decide ((11 : Int) < (kb : Int)) = false := by simp; omega
  generalize readP s1 kb = x2 at *
  obtain ⟨s2, o2, a2, b2, r2, n2, m2, l2⟩ := x2
  simp only at h3 h4 HE
  have HG := Lib.hid (fun w => good_any o2 a2 b2 r2 n2 m2 l2 w)
  rw [h4] at HG
  have hb3 : (s2.1 != 0) = false := by simp [h3]
  clear hE h1 h2 h3 h4
  have hk0 : (0 : Int) ≤ (kb : Int) := by omega
  have hk9 : (kb : Int) < 256 := by omega
  clear h
  go_enter Tryd.func46, Tryd.ntmps46
  go_wp2_with fail
  refine (HB.out).mono ?_
  rintro e w1 ⟨rfl, A1, c1, hR1, hk1, hA1⟩
  have HK1 := Lib.hid (((Kept.refl [g] w).alloc (.cells (dC 0 0 0 0 0 0 false) 41)).trans hk1)
  have HRR1 := Lib.hid ((Blk.new w 41 (dC 0 0 0 0 0 0 false)).kept hk1 (by simp; omega))
  have hrl : w.heap.size < w1.heap.size := HRR1.out.lt
  have HR1 := Lib.hid hR1
  have HR2 := Lib.hid (hR1.kept ((Kept.refl [] w1).alloc (.cells (dC kb 0 0 0 0 0 false) 41)) (by simp) (by simp))
  have HD2 := Lib.hid (Blk.new w1 41 (dC kb 0 0 0 0 0 false))
  have HRR2 := Lib.hid (HRR1.out.alloc (.cells (dC kb 0 0 0 0 0 false) 41))
  have HK2 := Lib.hid (HK1.out.alloc (.cells (dC kb 0 0 0 0 0 false) 41))
  have HA1 := Lib.hid hA1
  have HEr := Lib.hid (rerr_any g A1 c1 s1 _ HR2.out)
  have hcd2 := HD2.out.cell
  have hcr2 := HRR1.out.cell
  have hfr2 := HRR1.out.frozen
  have hlr2 := HRR1.out.lt
  have hld2 := HD2.out.lt
  clear hR1 hk1 hA1
  go_wp2_with fail
  refine (HEr.out).mono ?_
  rintro e w2 ⟨rfl, rfl⟩
  go_wp2_with fail
  refine (HRD0.out w1.heap.size _ A1 c1 HR2.out HD2.out (fun ad e => by obtain ⟨a0, e0, b0⟩ := HA1.out ad e; have := (H0.out.2.2.2.2 a0 e0).2; rw [b0]; omega)).mono ?_
  rintro e w3 ⟨rfl, A3, c3, hR3, hD3, hk3, hA3⟩
  have HR3 := Lib.hid hR3
  have HD3 := Lib.hid hD3
  have HRR3 := Lib.hid (HRR2.out.kept hk3 (by simp; omega))
  have HK3 : Hid (Kept [g] w w3) := HK2.out.trans' hk3 (fun k hm => by
    simp at hm
    rcases hm with rfl | rfl
    · exact .inl (by simp)
    · exact .inr (by omega))
  have HA3 : Hid (∀ ad, A3 = some ad → ∃ a0, A = some a0 ∧ ad.block = a0.block) := fun ad e => by
    obtain ⟨a1, e1, b1⟩ := hA3 ad e
    obtain ⟨a0, e0, b0⟩ := HA1.out a1 e1
    exact ⟨a0, e0, b1.trans b0⟩
  have HEr3 := Lib.hid (rerr_any g A3 c3 s2 _ HR3.out)
  have hcd3 := HD3.out.cell
  have hcr3 := HRR3.out.cell
  have hfr3 := HRR3.out.frozen
  have hlr3 := HRR3.out.lt
  clear hR3 hD3 hk3 hA3 hcd2 hcr2 hfr2 hlr2
  go_wp2_with fail
  refine (HEr3.out).mono ?_
  rintro e w4 ⟨rfl, rfl⟩
  go_wp2_with fail
  refine (HG.out _).mono ?_
  rintro e w5 ⟨rfl, hk5⟩
  have HR5 := Lib.hid (HR3.out.kept hk5 (by simp) (by simp))
  have HK5 := Lib.hid (HK3.out.trans (hk5.mono (by simp)))
  have HD5 := Lib.hid (HD3.out.kept hk5 (by simp))
  have HRR5 := Lib.hid (HRR3.out.kept hk5 (by simp))
  have hcd5 := HD5.out.cell
  have hcr5 := HRR5.out.cell
  have hfr5 := HRR5.out.frozen
  have hlr5 := HRR5.out.lt
  clear hk5 hcd3 hcr3 hfr3 hlr3
  go_wp2_with fail
  refine bodyPost_ret (v := .tuple #[.agg (dC o2 a2 b2 r2 n2 m2 l2), .int .i64 0]) (by simp [results, Tryd.results46, go_sem, hcr5]) rfl ?_
  refine ⟨by rw [HE.out]; try rfl, ?_⟩
  rw [HE.out]
  exact rgoes_fin (R := w.heap.size) H0.out HR5.out HK5.out HA3.out (by (repeat (first | (with_reducible exact Kept.refl _ _) | (with_reducible refine Kept.alloc ?_ _) | (with_reducible refine Kept.setCell ?_ ?_ _) | (exact .inl (by simp))))) (Nat.le_refl _)

theorem dget_any (g : Nat) (A : Option Addr) (c : Nat) (s : RS) (w : World) (h : IsR w g A c s) :
    Calls Tryd.prog 46 #[.pointer (some ⟨g, 0, none⟩)] w (Got w g A (getD s)) := by
  by_cases h1 : (byteS s).1.1 = 0
  · by_cases h2 : ((byteS s).2.toNat : Int) < 1 ∨ 11 < ((byteS s).2.toNat : Int)
    · by_cases h3 : ((byteS s).2.toNat : Int) < 1
      · exact dget_lo g A c s w h h1 h3
      · exact dget_hi g A c s w h h1 h3 (by omega)
    · by_cases h3 : (readP (byteS s).1 (byteS s).2.toNat).1.1 = 0
      · cases h4 : goodD (readP (byteS s).1 (byteS s).2.toNat).2 with
        | false => exact dget_range g A c s w h h1 h2 h3 h4
        | true => exact dget_ok g A c s w h h1 h2 h3 h4
      · exact dget_short g A c s w h h1 h2 h3
  · exact dget_err g A c s w h h1

end Go.Proofs.YtmhlmoojmdfnfaaDoor
