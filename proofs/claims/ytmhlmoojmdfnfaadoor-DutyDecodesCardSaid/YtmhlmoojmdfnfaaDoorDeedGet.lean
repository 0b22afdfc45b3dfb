/- Package deed: read (printed by a program: gen/deedget.py). -/
import Derived.Test.YtmhlmoojmdfnfaaDoorDeedG
import Derived.Test.YtmhlmoojmdfnfaaDoorDeedWP
import Derived.Test.YtmhlmoojmdfnfaaDoorWireR2
import Derived.Test.YtmhlmoojmdfnfaaDoorDeedR
import Derived.Deep.RegionHeld3
namespace Go.Proofs.YtmhlmoojmdfnfaaDoor
open Go.RowKit

set_option maxHeartbeats 800000 in
theorem dread1_any (bx g : Nat) (A : Option Addr) (c : Nat) (s : RS) (w : World) (hb : Blk w bx 58 #[.pointer (some ⟨g, 0, none⟩)]) (h : IsR w g A c s) :
    Calls Tryd.prog 143 #[.pointer (some ⟨bx, 0, none⟩)] w fun e w' => e = .returned (.int .i64 ((byteS s).2.toNat : Int)) ∧ RGoes w g A (byteS s).1 w' := by
  have HB := Lib.hid (rbyte_any g A c s w h)
  have hc0 : w.cell? ⟨bx, 0, none⟩ = some (.pointer (some ⟨g, 0, none⟩)) := by rw [hb.cell]; rfl
  have hlt := UInt8.toNat_lt (byteS s).2
  generalize (byteS s).2.toNat = v at *
  generalize (byteS s).1 = s1 at *
  have h0 : (0 : Int) ≤ (v : Int) := by omega
  have h1 : (v : Int) < 256 := by omega
  clear hb h
  go_enter Tryd.func143, Tryd.ntmps143
  go_wp2_with fail
  refine (HB.out).mono ?_
  rintro e w1 ⟨rfl, hg⟩
  have HG := Lib.hid hg
  clear hg
  go_wp2_with fail
  go_ret
  exact ⟨rfl, HG.out⟩

/-- What read leaves: the reader has gone on, the deed has its parts; nothing else has turned. -/
def ReadDone (w : World) (g : Nat) (A : Option Addr) (gd : Nat) (x : RS × Dd) (e : Ending) (w' : World) : Prop :=
  e = .returned (.tuple #[]) ∧ ∃ A' c', IsR w' g A' c' x.1 ∧ Blk w' gd 41 (dCd x.2) ∧ Kept [g, gd] w w' ∧ ∀ ad, A' = some ad → ∃ a0, A = some a0 ∧ ad.block = a0.block

set_option maxHeartbeats 3200000 in
set_option maxRecDepth 100000 in
theorem dread_op1 (g : Nat) (A0 : Option Addr) (c0 : Nat) (s0 : RS) (gd : Nat) (w0 : World) (hR : IsR w0 g A0 c0 s0) (hD : Blk w0 gd 41 (dC 1 0 0 0 0 0 false)) (hA : ∀ ad, A0 = some ad → ad.block ≠ gd) :
    Calls Tryd.prog 104 #[.pointer (some ⟨g, 0, none⟩), .pointer (some ⟨gd, 0, none⟩)] w0 (ReadDone w0 g A0 gd (readP s0 1)) := by
  have hne : gd ≠ g := hD.ne hR.1 (by decide)
  have hgl := hR.1.lt
  have hdl := hD.lt
  have HE : Hid (readP s0 1 = ((numS s0).1, ⟨1, 0, 0, 0, (numS s0).2, 0, false⟩)) := by show _ = _; simp [readP, partsL, getP]
  have HC1 : Hid (∀ A c w, IsR w g A c s0 → Calls Tryd.prog 90 #[.pointer (some ⟨g, 0, none⟩)] w fun e w' => e = .returned (.int .u64 ((numS s0).2 : Int)) ∧ RGoes w g A (numS s0).1 w') := fun A c w h => rnum_any g A c s0 w h
  generalize (numS s0).2 = v1 at *
  generalize (numS s0).1 = s1 at *
  have HR0 := Lib.hid (hR.kept ((Kept.refl [] w0).alloc (.cells #[.pointer (some ⟨g, 0, none⟩)] 58)) (by simp) (by simp))
  have HD0 := Lib.hid (hD.alloc (.cells #[.pointer (some ⟨g, 0, none⟩)] 58))
  have HX0 := Lib.hid (Blk.new w0 58 #[.pointer (some ⟨g, 0, none⟩)])
  have HK0 := Lib.hid ((Kept.refl [g, gd] w0).alloc (.cells #[.pointer (some ⟨g, 0, none⟩)] 58))
  have HA := Lib.hid hA
  have HA0 : Hid (∀ ad, A0 = some ad → ∃ a0, A0 = some a0 ∧ ad.block = a0.block) := fun ad e => ⟨ad, e, rfl⟩
  have hb1 : ¬ (gd = w0.heap.size) := by omega
  have hb2 : ¬ (w0.heap.size = gd) := by omega
  have hb3 : ¬ (w0.heap.size = g) := by omega
  have hcd0 := HD0.out.cell
  have hfd0 := HD0.out.frozen
  have hcx0 := HX0.out.cell
  clear hR hD hA
  go_enter Tryd.func104, Tryd.ntmps104
  go_wp2_with fail
  refine (HC1.out _ _ _ (by exact HR0.out)).mono ?_
  rintro e w1 ⟨rfl, hg1⟩
  obtain ⟨A1, c1, hR1, hk1, hA1⟩ := hg1
  have HD1 := Lib.hid (Blk.kept (h := by exact HD0.out) (hk := hk1) (hg := by simpa using hne))
  have HX1 := Lib.hid (Blk.kept (h := by exact HX0.out) (hk := hk1) (hg := by simpa using hb3))
  have HK1 := Lib.hid (Kept.trans (h := by first | exact HK0.out | exact HK0.out.drew) (h' := hk1.mono (by simp)))
  have HA1 : Hid (∀ ad, A1 = some ad → ∃ a0, A0 = some a0 ∧ ad.block = a0.block) := (fun ad e => by obtain ⟨a1, e1, b1⟩ := hA1 ad e; obtain ⟨a0, e0, b0⟩ := HA0.out a1 e1; exact ⟨a0, e0, b1.trans b0⟩)
  have HR1 := Lib.hid hR1
  have hcd1 := HD1.out.cell
  have hfd1 := HD1.out.frozen
  have hcx1 := HX1.out.cell
  clear hR1 hk1 hA1
  clear hcd0 hfd0 hcx0
  go_wp2_with fail
  first | go_end0 | ((try simp only [Exit.inBlock, Exit.then]); refine bodyPost_ret (results_none rfl _ _ _) rfl ?_)
  refine ⟨rfl, A1, c1, ?_, by rw [HE.out]; exact (HD1.out.set 4 _), (HK1.out.setCell (.inl (by simp)) _), HA1.out⟩
  rw [HE.out]
  exact IsR.kept (G := [gd]) HR1.out (by (repeat (first | (with_reducible exact Kept.refl _ _) | (with_reducible refine Kept.setCell ?_ ?_ _) | (exact .inl (by simp))))) (by simpa using Ne.symm hne) (fun ad e => by obtain ⟨a0, e0, b0⟩ := HA1.out ad e; rw [b0]; simpa using HA.out a0 e0)

set_option maxHeartbeats 3200000 in
set_option maxRecDepth 100000 in
theorem dread_op2 (g : Nat) (A0 : Option Addr) (c0 : Nat) (s0 : RS) (gd : Nat) (w0 : World) (hR : IsR w0 g A0 c0 s0) (hD : Blk w0 gd 41 (dC 2 0 0 0 0 0 false)) (hA : ∀ ad, A0 = some ad → ad.block ≠ gd) :
    Calls Tryd.prog 104 #[.pointer (some ⟨g, 0, none⟩), .pointer (some ⟨gd, 0, none⟩)] w0 (ReadDone w0 g A0 gd (readP s0 2)) := by
  have hne : gd ≠ g := hD.ne hR.1 (by decide)
  have hgl := hR.1.lt
  have hdl := hD.lt
  have HE : Hid (readP s0 2 = ((truthS (numS (byteS (byteS (byteS s0).1).1).1).1).1, ⟨2, ((byteS s0).2.toNat : Int), ((byteS (byteS s0).1).2.toNat : Int), ((byteS (byteS (byteS s0).1).1).2.toNat : Int), 0, (numS (byteS (byteS (byteS s0).1).1).1).2, (truthS (numS (byteS (byteS (byteS s0).1).1).1).1).2⟩)) := by show _ = _; simp [readP, partsL, getP]
  have HC1 : Hid (∀ A c w, Blk w w0.heap.size 58 #[.pointer (some ⟨g, 0, none⟩)] → IsR w g A c s0 → Calls Tryd.prog 143 #[.pointer (some ⟨w0.heap.size, 0, none⟩)] w fun e w' => e = .returned (.int .i64 ((byteS s0).2.toNat : Int)) ∧ RGoes w g A (byteS s0).1 w') := fun A c w hb h => dread1_any _ g A c s0 w hb h
  generalize ((byteS s0).2.toNat : Int) = v1 at *
  generalize (byteS s0).1 = s1 at *
  have HC2 : Hid (∀ A c w, Blk w w0.heap.size 58 #[.pointer (some ⟨g, 0, none⟩)] → IsR w g A c s1 → Calls Tryd.prog 143 #[.pointer (some ⟨w0.heap.size, 0, none⟩)] w fun e w' => e = .returned (.int .i64 ((byteS s1).2.toNat : Int)) ∧ RGoes w g A (byteS s1).1 w') := fun A c w hb h => dread1_any _ g A c s1 w hb h
  generalize ((byteS s1).2.toNat : Int) = v2 at *
  generalize (byteS s1).1 = s2 at *
  have HC3 : Hid (∀ A c w, Blk w w0.heap.size 58 #[.pointer (some ⟨g, 0, none⟩)] → IsR w g A c s2 → Calls Tryd.prog 143 #[.pointer (some ⟨w0.heap.size, 0, none⟩)] w fun e w' => e = .returned (.int .i64 ((byteS s2).2.toNat : Int)) ∧ RGoes w g A (byteS s2).1 w') := fun A c w hb h => dread1_any _ g A c s2 w hb h
  generalize ((byteS s2).2.toNat : Int) = v3 at *
  generalize (byteS s2).1 = s3 at *
  have HC4 : Hid (∀ A c w, IsR w g A c s3 → Calls Tryd.prog 90 #[.pointer (some ⟨g, 0, none⟩)] w fun e w' => e = .returned (.int .u64 ((numS s3).2 : Int)) ∧ RGoes w g A (numS s3).1 w') := fun A c w h => rnum_any g A c s3 w h
  generalize (numS s3).2 = v4 at *
  generalize (numS s3).1 = s4 at *
  have HC5 : Hid (∀ A c w, IsR w g A c s4 → Calls Tryd.prog 144 #[.pointer (some ⟨g, 0, none⟩)] w fun e w' => e = .returned (.bool (truthS s4).2) ∧ RGoes w g A (truthS s4).1 w') := fun A c w h => rtruth_any g A c s4 w h
  generalize (truthS s4).2 = v5 at *
  generalize (truthS s4).1 = s5 at *
  have HR0 := Lib.hid (hR.kept ((Kept.refl [] w0).alloc (.cells #[.pointer (some ⟨g, 0, none⟩)] 58)) (by simp) (by simp))
  have HD0 := Lib.hid (hD.alloc (.cells #[.pointer (some ⟨g, 0, none⟩)] 58))
  have HX0 := Lib.hid (Blk.new w0 58 #[.pointer (some ⟨g, 0, none⟩)])
  have HK0 := Lib.hid ((Kept.refl [g, gd] w0).alloc (.cells #[.pointer (some ⟨g, 0, none⟩)] 58))
  have HA := Lib.hid hA
  have HA0 : Hid (∀ ad, A0 = some ad → ∃ a0, A0 = some a0 ∧ ad.block = a0.block) := fun ad e => ⟨ad, e, rfl⟩
  have hb1 : ¬ (gd = w0.heap.size) := by omega
  have hb2 : ¬ (w0.heap.size = gd) := by omega
  have hb3 : ¬ (w0.heap.size = g) := by omega
  have hcd0 := HD0.out.cell
  have hfd0 := HD0.out.frozen
  have hcx0 := HX0.out.cell
  clear hR hD hA
  go_enter Tryd.func104, Tryd.ntmps104
  go_wp2_with fail
  refine (HC1.out _ _ _ (by exact HX0.out) (by exact HR0.out)).mono ?_
  rintro e w1 ⟨rfl, hg1⟩
  obtain ⟨A1, c1, hR1, hk1, hA1⟩ := hg1
  have HD1 := Lib.hid (Blk.kept (h := by exact HD0.out) (hk := hk1) (hg := by simpa using hne))
  have HX1 := Lib.hid (Blk.kept (h := by exact HX0.out) (hk := hk1) (hg := by simpa using hb3))
  have HK1 := Lib.hid (Kept.trans (h := by first | exact HK0.out | exact HK0.out.drew) (h' := hk1.mono (by simp)))
  have HA1 : Hid (∀ ad, A1 = some ad → ∃ a0, A0 = some a0 ∧ ad.block = a0.block) := (fun ad e => by obtain ⟨a1, e1, b1⟩ := hA1 ad e; obtain ⟨a0, e0, b0⟩ := HA0.out a1 e1; exact ⟨a0, e0, b1.trans b0⟩)
  have HR1 := Lib.hid hR1
  have hcd1 := HD1.out.cell
  have hfd1 := HD1.out.frozen
  have hcx1 := HX1.out.cell
  clear hR1 hk1 hA1
  clear hcd0 hfd0 hcx0
  go_wp2_with fail
  refine (HC2.out _ _ _ (by exact HX1.out) (by exact HR1.out)).mono ?_
  rintro e w2 ⟨rfl, hg2⟩
  obtain ⟨A2, c2, hR2, hk2, hA2⟩ := hg2
  have HD2 := Lib.hid (Blk.kept (h := by exact HD1.out) (hk := hk2) (hg := by simpa using hne))
  have HX2 := Lib.hid (Blk.kept (h := by exact HX1.out) (hk := hk2) (hg := by simpa using hb3))
  have HK2 := Lib.hid (Kept.trans (h := by first | exact HK1.out | exact HK1.out.drew) (h' := hk2.mono (by simp)))
  have HA2 : Hid (∀ ad, A2 = some ad → ∃ a0, A0 = some a0 ∧ ad.block = a0.block) := (fun ad e => by obtain ⟨a1, e1, b1⟩ := hA2 ad e; obtain ⟨a0, e0, b0⟩ := HA1.out a1 e1; exact ⟨a0, e0, b1.trans b0⟩)
  have HR2 := Lib.hid hR2
  have hcd2 := HD2.out.cell
  have hfd2 := HD2.out.frozen
  have hcx2 := HX2.out.cell
  clear hR2 hk2 hA2
  clear hcd1 hfd1 hcx1
  go_wp2_with fail
  refine (HC3.out _ _ _ (by exact HX2.out) (by exact HR2.out)).mono ?_
  rintro e w3 ⟨rfl, hg3⟩
  obtain ⟨A3, c3, hR3, hk3, hA3⟩ := hg3
  have HD3 := Lib.hid (Blk.kept (h := by exact HD2.out) (hk := hk3) (hg := by simpa using hne))
  have HX3 := Lib.hid (Blk.kept (h := by exact HX2.out) (hk := hk3) (hg := by simpa using hb3))
  have HK3 := Lib.hid (Kept.trans (h := by first | exact HK2.out | exact HK2.out.drew) (h' := hk3.mono (by simp)))
  have HA3 : Hid (∀ ad, A3 = some ad → ∃ a0, A0 = some a0 ∧ ad.block = a0.block) := (fun ad e => by obtain ⟨a1, e1, b1⟩ := hA3 ad e; obtain ⟨a0, e0, b0⟩ := HA2.out a1 e1; exact ⟨a0, e0, b1.trans b0⟩)
  have HR3 := Lib.hid hR3
  have hcd3 := HD3.out.cell
  have hfd3 := HD3.out.frozen
  have hcx3 := HX3.out.cell
  clear hR3 hk3 hA3
  clear hcd2 hfd2 hcx2
  go_wp2_with fail
  have hk3' : Kept [gd] w3 (((w3.setCell ⟨gd, 1, none⟩ (.int .i64 v1)).setCell ⟨gd, 2, none⟩ (.int .i64 v2)).setCell ⟨gd, 3, none⟩ (.int .i64 v3)) := by (repeat (first | (with_reducible exact Kept.refl _ _) | (with_reducible refine Kept.setCell ?_ ?_ _) | (exact .inl (by simp))))
  have HR3x := Lib.hid (HR3.out.kept hk3' (by simpa using Ne.symm hne) (fun ad e => by obtain ⟨a0, e0, b0⟩ := HA3.out ad e; rw [b0]; simpa using HA.out a0 e0))
  have HD3x := Lib.hid (((HD3.out.set 1 (.int .i64 v1)).set 2 (.int .i64 v2)).set 3 (.int .i64 v3))
  have HX3x := Lib.hid (HX3.out.kept hk3' (by simpa using hb2))
  have HK3x := Lib.hid (HK3.out.trans (hk3'.mono (by simp)))
  have HA3x := HA3
  have hcd3x := HD3x.out.cell
  have hfd3x := HD3x.out.frozen
  have hcx3x := HX3x.out.cell
  clear hk3' hcd3 hfd3 hcx3
  generalize (((w3.setCell ⟨gd, 1, none⟩ (.int .i64 v1)).setCell ⟨gd, 2, none⟩ (.int .i64 v2)).setCell ⟨gd, 3, none⟩ (.int .i64 v3)) = W3 at *
  go_region_held3 (fun w' => w'.cell? ⟨w0.heap.size, 0, none⟩ = some (.pointer (some ⟨g, 0, none⟩))) (go_keep) (first | (go_at_call 90; refine (HC4.out _ _ _ (by exact HR3x.out)).mono ?_; rintro e w4 ⟨rfl, hg4⟩; obtain ⟨A4, c4, hR4, hk4, hA4⟩ := hg4; have HD4 := Lib.hid (Blk.kept (h := by exact HD3x.out) (hk := hk4) (hg := by simpa using hne)); have HX4 := Lib.hid (Blk.kept (h := by exact HX3x.out) (hk := hk4) (hg := by simpa using hb3)); have HK4 := Lib.hid (Kept.trans (h := by first | exact HK3x.out | exact HK3x.out.drew) (h' := hk4.mono (by simp))); have HA4 : Hid (∀ ad, A4 = some ad → ∃ a0, A0 = some a0 ∧ ad.block = a0.block) := (fun ad e => by obtain ⟨a1, e1, b1⟩ := hA4 ad e; obtain ⟨a0, e0, b0⟩ := HA3x.out a1 e1; exact ⟨a0, e0, b1.trans b0⟩); have HR4 := Lib.hid hR4; have hcd4 := HD4.out.cell; have hfd4 := HD4.out.frozen; have hcx4 := HX4.out.cell; clear hR4 hk4 hA4) | (go_at_call 144; refine (HC5.out _ _ _ (by exact HR4.out)).mono ?_; rintro e w5 ⟨rfl, hg5⟩; obtain ⟨A5, c5, hR5, hk5, hA5⟩ := hg5; have HD5 := Lib.hid (Blk.kept (h := by exact HD4.out) (hk := hk5) (hg := by simpa using hne)); have HX5 := Lib.hid (Blk.kept (h := by exact HX4.out) (hk := hk5) (hg := by simpa using hb3)); have HK5 := Lib.hid (Kept.trans (h := by first | exact HK4.out | exact HK4.out.drew) (h' := hk5.mono (by simp))); have HA5 : Hid (∀ ad, A5 = some ad → ∃ a0, A0 = some a0 ∧ ad.block = a0.block) := (fun ad e => by obtain ⟨a1, e1, b1⟩ := hA5 ad e; obtain ⟨a0, e0, b0⟩ := HA4.out a1 e1; exact ⟨a0, e0, b1.trans b0⟩); have HR5 := Lib.hid hR5; have hcd5 := HD5.out.cell; have hfd5 := HD5.out.frozen; have hcx5 := HX5.out.cell; clear hR5 hk5 hA5))
  go_wp2_with fail
  first | go_end0 | ((try simp only [Exit.inBlock, Exit.then]); refine bodyPost_ret (results_none rfl _ _ _) rfl ?_)
  refine ⟨rfl, A5, c5, ?_, by rw [HE.out]; exact ((HD5.out.set 5 _).set 6 _), ((HK5.out.setCell (.inl (by simp)) _).setCell (.inl (by simp)) _), HA5.out⟩
  rw [HE.out]
  exact IsR.kept (G := [gd]) HR5.out (by (repeat (first | (with_reducible exact Kept.refl _ _) | (with_reducible refine Kept.setCell ?_ ?_ _) | (exact .inl (by simp))))) (by simpa using Ne.symm hne) (fun ad e => by obtain ⟨a0, e0, b0⟩ := HA5.out ad e; rw [b0]; simpa using HA.out a0 e0)

set_option maxHeartbeats 3200000 in
set_option maxRecDepth 100000 in
theorem dread_op3 (g : Nat) (A0 : Option Addr) (c0 : Nat) (s0 : RS) (gd : Nat) (w0 : World) (hR : IsR w0 g A0 c0 s0) (hD : Blk w0 gd 41 (dC 3 0 0 0 0 0 false)) (hA : ∀ ad, A0 = some ad → ad.block ≠ gd) :
    Calls Tryd.prog 104 #[.pointer (some ⟨g, 0, none⟩), .pointer (some ⟨gd, 0, none⟩)] w0 (ReadDone w0 g A0 gd (readP s0 3)) := by
  have hne : gd ≠ g := hD.ne hR.1 (by decide)
  have hgl := hR.1.lt
  have hdl := hD.lt
  have HE : Hid (readP s0 3 = ((numS s0).1, ⟨3, 0, 0, 0, (numS s0).2, 0, false⟩)) := by show _ = _; simp [readP, partsL, getP]
  have HC1 : Hid (∀ A c w, IsR w g A c s0 → Calls Tryd.prog 90 #[.pointer (some ⟨g, 0, none⟩)] w fun e w' => e = .returned (.int .u64 ((numS s0).2 : Int)) ∧ RGoes w g A (numS s0).1 w') := fun A c w h => rnum_any g A c s0 w h
  generalize (numS s0).2 = v1 at *
  generalize (numS s0).1 = s1 at *
  have HR0 := Lib.hid (hR.kept ((Kept.refl [] w0).alloc (.cells #[.pointer (some ⟨g, 0, none⟩)] 58)) (by simp) (by simp))
  have HD0 := Lib.hid (hD.alloc (.cells #[.pointer (some ⟨g, 0, none⟩)] 58))
  have HX0 := Lib.hid (Blk.new w0 58 #[.pointer (some ⟨g, 0, none⟩)])
  have HK0 := Lib.hid ((Kept.refl [g, gd] w0).alloc (.cells #[.pointer (some ⟨g, 0, none⟩)] 58))
  have HA := Lib.hid hA
  have HA0 : Hid (∀ ad, A0 = some ad → ∃ a0, A0 = some a0 ∧ ad.block = a0.block) := fun ad e => ⟨ad, e, rfl⟩
  have hb1 : ¬ (gd = w0.heap.size) := by omega
  have hb2 : ¬ (w0.heap.size = gd) := by omega
  have hb3 : ¬ (w0.heap.size = g) := by omega
  have hcd0 := HD0.out.cell
  have hfd0 := HD0.out.frozen
  have hcx0 := HX0.out.cell
  clear hR hD hA
  go_enter Tryd.func104, Tryd.ntmps104
  go_wp2_with fail
  refine (HC1.out _ _ _ (by exact HR0.out)).mono ?_
  rintro e w1 ⟨rfl, hg1⟩
  obtain ⟨A1, c1, hR1, hk1, hA1⟩ := hg1
  have HD1 := Lib.hid (Blk.kept (h := by exact HD0.out) (hk := hk1) (hg := by simpa using hne))
  have HX1 := Lib.hid (Blk.kept (h := by exact HX0.out) (hk := hk1) (hg := by simpa using hb3))
  have HK1 := Lib.hid (Kept.trans (h := by first | exact HK0.out | exact HK0.out.drew) (h' := hk1.mono (by simp)))
  have HA1 : Hid (∀ ad, A1 = some ad → ∃ a0, A0 = some a0 ∧ ad.block = a0.block) := (fun ad e => by obtain ⟨a1, e1, b1⟩ := hA1 ad e; obtain ⟨a0, e0, b0⟩ := HA0.out a1 e1; exact ⟨a0, e0, b1.trans b0⟩)
  have HR1 := Lib.hid hR1
  have hcd1 := HD1.out.cell
  have hfd1 := HD1.out.frozen
  have hcx1 := HX1.out.cell
  clear hR1 hk1 hA1
  clear hcd0 hfd0 hcx0
  go_wp2_with fail
  first | go_end0 | ((try simp only [Exit.inBlock, Exit.then]); refine bodyPost_ret (results_none rfl _ _ _) rfl ?_)
  refine ⟨rfl, A1, c1, ?_, by rw [HE.out]; exact (HD1.out.set 4 _), (HK1.out.setCell (.inl (by simp)) _), HA1.out⟩
  rw [HE.out]
  exact IsR.kept (G := [gd]) HR1.out (by (repeat (first | (with_reducible exact Kept.refl _ _) | (with_reducible refine Kept.setCell ?_ ?_ _) | (exact .inl (by simp))))) (by simpa using Ne.symm hne) (fun ad e => by obtain ⟨a0, e0, b0⟩ := HA1.out ad e; rw [b0]; simpa using HA.out a0 e0)

set_option maxHeartbeats 3200000 in
set_option maxRecDepth 100000 in
theorem dread_op4 (g : Nat) (A0 : Option Addr) (c0 : Nat) (s0 : RS) (gd : Nat) (w0 : World) (hR : IsR w0 g A0 c0 s0) (hD : Blk w0 gd 41 (dC 4 0 0 0 0 0 false)) (hA : ∀ ad, A0 = some ad → ad.block ≠ gd) :
    Calls Tryd.prog 104 #[.pointer (some ⟨g, 0, none⟩), .pointer (some ⟨gd, 0, none⟩)] w0 (ReadDone w0 g A0 gd (readP s0 4)) := by
  have hne : gd ≠ g := hD.ne hR.1 (by decide)
  have hgl := hR.1.lt
  have hdl := hD.lt
  have HE : Hid (readP s0 4 = ((byteS s0).1, ⟨4, 0, 0, ((byteS s0).2.toNat : Int), 0, 0, false⟩)) := by show _ = _; simp [readP, partsL, getP]
  have HC1 : Hid (∀ A c w, Blk w w0.heap.size 58 #[.pointer (some ⟨g, 0, none⟩)] → IsR w g A c s0 → Calls Tryd.prog 143 #[.pointer (some ⟨w0.heap.size, 0, none⟩)] w fun e w' => e = .returned (.int .i64 ((byteS s0).2.toNat : Int)) ∧ RGoes w g A (byteS s0).1 w') := fun A c w hb h => dread1_any _ g A c s0 w hb h
  generalize ((byteS s0).2.toNat : Int) = v1 at *
  generalize (byteS s0).1 = s1 at *
  have HR0 := Lib.hid (hR.kept ((Kept.refl [] w0).alloc (.cells #[.pointer (some ⟨g, 0, none⟩)] 58)) (by simp) (by simp))
  have HD0 := Lib.hid (hD.alloc (.cells #[.pointer (some ⟨g, 0, none⟩)] 58))
  have HX0 := Lib.hid (Blk.new w0 58 #[.pointer (some ⟨g, 0, none⟩)])
  have HK0 := Lib.hid ((Kept.refl [g, gd] w0).alloc (.cells #[.pointer (some ⟨g, 0, none⟩)] 58))
  have HA := Lib.hid hA
  have HA0 : Hid (∀ ad, A0 = some ad → ∃ a0, A0 = some a0 ∧ ad.block = a0.block) := fun ad e => ⟨ad, e, rfl⟩
  have hb1 : ¬ (gd = w0.heap.size) := by omega
  have hb2 : ¬ (w0.heap.size = gd) := by omega
  have hb3 : ¬ (w0.heap.size = g) := by omega
  have hcd0 := HD0.out.cell
  have hfd0 := HD0.out.frozen
  have hcx0 := HX0.out.cell
  clear hR hD hA
  go_enter Tryd.func104, Tryd.ntmps104
  go_wp2_with fail
  refine (HC1.out _ _ _ (by exact HX0.out) (by exact HR0.out)).mono ?_
  rintro e w1 ⟨rfl, hg1⟩
  obtain ⟨A1, c1, hR1, hk1, hA1⟩ := hg1
  have HD1 := Lib.hid (Blk.kept (h := by exact HD0.out) (hk := hk1) (hg := by simpa using hne))
  have HX1 := Lib.hid (Blk.kept (h := by exact HX0.out) (hk := hk1) (hg := by simpa using hb3))
  have HK1 := Lib.hid (Kept.trans (h := by first | exact HK0.out | exact HK0.out.drew) (h' := hk1.mono (by simp)))
  have HA1 : Hid (∀ ad, A1 = some ad → ∃ a0, A0 = some a0 ∧ ad.block = a0.block) := (fun ad e => by obtain ⟨a1, e1, b1⟩ := hA1 ad e; obtain ⟨a0, e0, b0⟩ := HA0.out a1 e1; exact ⟨a0, e0, b1.trans b0⟩)
  have HR1 := Lib.hid hR1
  have hcd1 := HD1.out.cell
  have hfd1 := HD1.out.frozen
  have hcx1 := HX1.out.cell
  clear hR1 hk1 hA1
  clear hcd0 hfd0 hcx0
  go_wp2_with fail
  first | go_end0 | ((try simp only [Exit.inBlock, Exit.then]); refine bodyPost_ret (results_none rfl _ _ _) rfl ?_)
  refine ⟨rfl, A1, c1, ?_, by rw [HE.out]; exact (HD1.out.set 3 _), (HK1.out.setCell (.inl (by simp)) _), HA1.out⟩
  rw [HE.out]
  exact IsR.kept (G := [gd]) HR1.out (by (repeat (first | (with_reducible exact Kept.refl _ _) | (with_reducible refine Kept.setCell ?_ ?_ _) | (exact .inl (by simp))))) (by simpa using Ne.symm hne) (fun ad e => by obtain ⟨a0, e0, b0⟩ := HA1.out ad e; rw [b0]; simpa using HA.out a0 e0)

set_option maxHeartbeats 3200000 in
set_option maxRecDepth 100000 in
theorem dread_op5 (g : Nat) (A0 : Option Addr) (c0 : Nat) (s0 : RS) (gd : Nat) (w0 : World) (hR : IsR w0 g A0 c0 s0) (hD : Blk w0 gd 41 (dC 5 0 0 0 0 0 false)) (hA : ∀ ad, A0 = some ad → ad.block ≠ gd) :
    Calls Tryd.prog 104 #[.pointer (some ⟨g, 0, none⟩), .pointer (some ⟨gd, 0, none⟩)] w0 (ReadDone w0 g A0 gd (readP s0 5)) := by
  have hne : gd ≠ g := hD.ne hR.1 (by decide)
  have hgl := hR.1.lt
  have hdl := hD.lt
  have HE : Hid (readP s0 5 = (s0, ⟨5, 0, 0, 0, 0, 0, false⟩)) := by show _ = _; simp [readP, partsL, getP]
  have HR0 := Lib.hid (hR.kept ((Kept.refl [] w0).alloc (.cells #[.pointer (some ⟨g, 0, none⟩)] 58)) (by simp) (by simp))
  have HD0 := Lib.hid (hD.alloc (.cells #[.pointer (some ⟨g, 0, none⟩)] 58))
  have HX0 := Lib.hid (Blk.new w0 58 #[.pointer (some ⟨g, 0, none⟩)])
  have HK0 := Lib.hid ((Kept.refl [g, gd] w0).alloc (.cells #[.pointer (some ⟨g, 0, none⟩)] 58))
  have HA := Lib.hid hA
  have HA0 : Hid (∀ ad, A0 = some ad → ∃ a0, A0 = some a0 ∧ ad.block = a0.block) := fun ad e => ⟨ad, e, rfl⟩
  have hb1 : ¬ (gd = w0.heap.size) := by omega
  have hb2 : ¬ (w0.heap.size = gd) := by omega
  have hb3 : ¬ (w0.heap.size = g) := by omega
  have hcd0 := HD0.out.cell
  have hfd0 := HD0.out.frozen
  have hcx0 := HX0.out.cell
  clear hR hD hA
  go_enter Tryd.func104, Tryd.ntmps104
  go_wp2_with fail
  first | go_end0 | ((try simp only [Exit.inBlock, Exit.then]); refine bodyPost_ret (results_none rfl _ _ _) rfl ?_)
  exact ⟨rfl, _, _, by rw [HE.out]; exact HR0.out, by rw [HE.out]; exact HD0.out, HK0.out, HA0.out⟩

set_option maxHeartbeats 3200000 in
set_option maxRecDepth 100000 in
theorem dread_op6 (g : Nat) (A0 : Option Addr) (c0 : Nat) (s0 : RS) (gd : Nat) (w0 : World) (hR : IsR w0 g A0 c0 s0) (hD : Blk w0 gd 41 (dC 6 0 0 0 0 0 false)) (hA : ∀ ad, A0 = some ad → ad.block ≠ gd) :
    Calls Tryd.prog 104 #[.pointer (some ⟨g, 0, none⟩), .pointer (some ⟨gd, 0, none⟩)] w0 (ReadDone w0 g A0 gd (readP s0 6)) := by
  have hne : gd ≠ g := hD.ne hR.1 (by decide)
  have hgl := hR.1.lt
  have hdl := hD.lt
  have HE : Hid (readP s0 6 = ((numS s0).1, ⟨6, 0, 0, 0, (numS s0).2, 0, false⟩)) := by show _ = _; simp [readP, partsL, getP]
  have HC1 : Hid (∀ A c w, IsR w g A c s0 → Calls Tryd.prog 90 #[.pointer (some ⟨g, 0, none⟩)] w fun e w' => e = .returned (.int .u64 ((numS s0).2 : Int)) ∧ RGoes w g A (numS s0).1 w') := fun A c w h => rnum_any g A c s0 w h
  generalize (numS s0).2 = v1 at *
  generalize (numS s0).1 = s1 at *
  have HR0 := Lib.hid (hR.kept ((Kept.refl [] w0).alloc (.cells #[.pointer (some ⟨g, 0, none⟩)] 58)) (by simp) (by simp))
  have HD0 := Lib.hid (hD.alloc (.cells #[.pointer (some ⟨g, 0, none⟩)] 58))
  have HX0 := Lib.hid (Blk.new w0 58 #[.pointer (some ⟨g, 0, none⟩)])
  have HK0 := Lib.hid ((Kept.refl [g, gd] w0).alloc (.cells #[.pointer (some ⟨g, 0, none⟩)] 58))
  have HA := Lib.hid hA
  have HA0 : Hid (∀ ad, A0 = some ad → ∃ a0, A0 = some a0 ∧ ad.block = a0.block) := fun ad e => ⟨ad, e, rfl⟩
  have hb1 : ¬ (gd = w0.heap.size) := by omega
  have hb2 : ¬ (w0.heap.size = gd) := by omega
  have hb3 : ¬ (w0.heap.size = g) := by omega
  have hcd0 := HD0.out.cell
  have hfd0 := HD0.out.frozen
  have hcx0 := HX0.out.cell
  clear hR hD hA
  go_enter Tryd.func104, Tryd.ntmps104
  go_wp2_with fail
  refine (HC1.out _ _ _ (by exact HR0.out)).mono ?_
  rintro e w1 ⟨rfl, hg1⟩
  obtain ⟨A1, c1, hR1, hk1, hA1⟩ := hg1
  have HD1 := Lib.hid (Blk.kept (h := by exact HD0.out) (hk := hk1) (hg := by simpa using hne))
  have HX1 := Lib.hid (Blk.kept (h := by exact HX0.out) (hk := hk1) (hg := by simpa using hb3))
  have HK1 := Lib.hid (Kept.trans (h := by first | exact HK0.out | exact HK0.out.drew) (h' := hk1.mono (by simp)))
  have HA1 : Hid (∀ ad, A1 = some ad → ∃ a0, A0 = some a0 ∧ ad.block = a0.block) := (fun ad e => by obtain ⟨a1, e1, b1⟩ := hA1 ad e; obtain ⟨a0, e0, b0⟩ := HA0.out a1 e1; exact ⟨a0, e0, b1.trans b0⟩)
  have HR1 := Lib.hid hR1
  have hcd1 := HD1.out.cell
  have hfd1 := HD1.out.frozen
  have hcx1 := HX1.out.cell
  clear hR1 hk1 hA1
  clear hcd0 hfd0 hcx0
  go_wp2_with fail
  first | go_end0 | ((try simp only [Exit.inBlock, Exit.then]); refine bodyPost_ret (results_none rfl _ _ _) rfl ?_)
  refine ⟨rfl, A1, c1, ?_, by rw [HE.out]; exact (HD1.out.set 4 _), (HK1.out.setCell (.inl (by simp)) _), HA1.out⟩
  rw [HE.out]
  exact IsR.kept (G := [gd]) HR1.out (by (repeat (first | (with_reducible exact Kept.refl _ _) | (with_reducible refine Kept.setCell ?_ ?_ _) | (exact .inl (by simp))))) (by simpa using Ne.symm hne) (fun ad e => by obtain ⟨a0, e0, b0⟩ := HA1.out ad e; rw [b0]; simpa using HA.out a0 e0)

set_option maxHeartbeats 3200000 in
set_option maxRecDepth 100000 in
theorem dread_op7 (g : Nat) (A0 : Option Addr) (c0 : Nat) (s0 : RS) (gd : Nat) (w0 : World) (hR : IsR w0 g A0 c0 s0) (hD : Blk w0 gd 41 (dC 7 0 0 0 0 0 false)) (hA : ∀ ad, A0 = some ad → ad.block ≠ gd) :
    Calls Tryd.prog 104 #[.pointer (some ⟨g, 0, none⟩), .pointer (some ⟨gd, 0, none⟩)] w0 (ReadDone w0 g A0 gd (readP s0 7)) := by
  have hne : gd ≠ g := hD.ne hR.1 (by decide)
  have hgl := hR.1.lt
  have hdl := hD.lt
  have HE : Hid (readP s0 7 = ((numS (byteS s0).1).1, ⟨7, 0, 0, ((byteS s0).2.toNat : Int), 0, (numS (byteS s0).1).2, false⟩)) := by show _ = _; simp [readP, partsL, getP]
  have HC1 : Hid (∀ A c w, Blk w w0.heap.size 58 #[.pointer (some ⟨g, 0, none⟩)] → IsR w g A c s0 → Calls Tryd.prog 143 #[.pointer (some ⟨w0.heap.size, 0, none⟩)] w fun e w' => e = .returned (.int .i64 ((byteS s0).2.toNat : Int)) ∧ RGoes w g A (byteS s0).1 w') := fun A c w hb h => dread1_any _ g A c s0 w hb h
  generalize ((byteS s0).2.toNat : Int) = v1 at *
  generalize (byteS s0).1 = s1 at *
  have HC2 : Hid (∀ A c w, IsR w g A c s1 → Calls Tryd.prog 90 #[.pointer (some ⟨g, 0, none⟩)] w fun e w' => e = .returned (.int .u64 ((numS s1).2 : Int)) ∧ RGoes w g A (numS s1).1 w') := fun A c w h => rnum_any g A c s1 w h
  generalize (numS s1).2 = v2 at *
  generalize (numS s1).1 = s2 at *
  have HR0 := Lib.hid (hR.kept ((Kept.refl [] w0).alloc (.cells #[.pointer (some ⟨g, 0, none⟩)] 58)) (by simp) (by simp))
  have HD0 := Lib.hid (hD.alloc (.cells #[.pointer (some ⟨g, 0, none⟩)] 58))
  have HX0 := Lib.hid (Blk.new w0 58 #[.pointer (some ⟨g, 0, none⟩)])
  have HK0 := Lib.hid ((Kept.refl [g, gd] w0).alloc (.cells #[.pointer (some ⟨g, 0, none⟩)] 58))
  have HA := Lib.hid hA
  have HA0 : Hid (∀ ad, A0 = some ad → ∃ a0, A0 = some a0 ∧ ad.block = a0.block) := fun ad e => ⟨ad, e, rfl⟩
  have hb1 : ¬ (gd = w0.heap.size) := by omega
  have hb2 : ¬ (w0.heap.size = gd) := by omega
  have hb3 : ¬ (w0.heap.size = g) := by omega
  have hcd0 := HD0.out.cell
  have hfd0 := HD0.out.frozen
  have hcx0 := HX0.out.cell
  clear hR hD hA
  go_enter Tryd.func104, Tryd.ntmps104
  go_wp2_with fail
  go_region_held3 (fun w' => w'.cell? ⟨w0.heap.size, 0, none⟩ = some (.pointer (some ⟨g, 0, none⟩))) (go_keep) (first | (go_at_call 143; refine (HC1.out _ _ _ (by exact HX0.out) (by exact HR0.out)).mono ?_; rintro e w1 ⟨rfl, hg1⟩; obtain ⟨A1, c1, hR1, hk1, hA1⟩ := hg1; have HD1 := Lib.hid (Blk.kept (h := by exact HD0.out) (hk := hk1) (hg := by simpa using hne)); have HX1 := Lib.hid (Blk.kept (h := by exact HX0.out) (hk := hk1) (hg := by simpa using hb3)); have HK1 := Lib.hid (Kept.trans (h := by first | exact HK0.out | exact HK0.out.drew) (h' := hk1.mono (by simp))); have HA1 : Hid (∀ ad, A1 = some ad → ∃ a0, A0 = some a0 ∧ ad.block = a0.block) := (fun ad e => by obtain ⟨a1, e1, b1⟩ := hA1 ad e; obtain ⟨a0, e0, b0⟩ := HA0.out a1 e1; exact ⟨a0, e0, b1.trans b0⟩); have HR1 := Lib.hid hR1; have hcd1 := HD1.out.cell; have hfd1 := HD1.out.frozen; have hcx1 := HX1.out.cell; clear hR1 hk1 hA1) | (go_at_call 90; refine (HC2.out _ _ _ (by exact HR1.out)).mono ?_; rintro e w2 ⟨rfl, hg2⟩; obtain ⟨A2, c2, hR2, hk2, hA2⟩ := hg2; have HD2 := Lib.hid (Blk.kept (h := by exact HD1.out) (hk := hk2) (hg := by simpa using hne)); have HX2 := Lib.hid (Blk.kept (h := by exact HX1.out) (hk := hk2) (hg := by simpa using hb3)); have HK2 := Lib.hid (Kept.trans (h := by first | exact HK1.out | exact HK1.out.drew) (h' := hk2.mono (by simp))); have HA2 : Hid (∀ ad, A2 = some ad → ∃ a0, A0 = some a0 ∧ ad.block = a0.block) := (fun ad e => by obtain ⟨a1, e1, b1⟩ := hA2 ad e; obtain ⟨a0, e0, b0⟩ := HA1.out a1 e1; exact ⟨a0, e0, b1.trans b0⟩); have HR2 := Lib.hid hR2; have hcd2 := HD2.out.cell; have hfd2 := HD2.out.frozen; have hcx2 := HX2.out.cell; clear hR2 hk2 hA2))
  go_wp2_with fail
  first | go_end0 | ((try simp only [Exit.inBlock, Exit.then]); refine bodyPost_ret (results_none rfl _ _ _) rfl ?_)
  refine ⟨rfl, A2, c2, ?_, by rw [HE.out]; exact ((HD2.out.set 3 _).set 5 _), ((HK2.out.setCell (.inl (by simp)) _).setCell (.inl (by simp)) _), HA2.out⟩
  rw [HE.out]
  exact IsR.kept (G := [gd]) HR2.out (by (repeat (first | (with_reducible exact Kept.refl _ _) | (with_reducible refine Kept.setCell ?_ ?_ _) | (exact .inl (by simp))))) (by simpa using Ne.symm hne) (fun ad e => by obtain ⟨a0, e0, b0⟩ := HA2.out ad e; rw [b0]; simpa using HA.out a0 e0)

set_option maxHeartbeats 3200000 in
set_option maxRecDepth 100000 in
theorem dread_op8 (g : Nat) (A0 : Option Addr) (c0 : Nat) (s0 : RS) (gd : Nat) (w0 : World) (hR : IsR w0 g A0 c0 s0) (hD : Blk w0 gd 41 (dC 8 0 0 0 0 0 false)) (hA : ∀ ad, A0 = some ad → ad.block ≠ gd) :
    Calls Tryd.prog 104 #[.pointer (some ⟨g, 0, none⟩), .pointer (some ⟨gd, 0, none⟩)] w0 (ReadDone w0 g A0 gd (readP s0 8)) := by
  have hne : gd ≠ g := hD.ne hR.1 (by decide)
  have hgl := hR.1.lt
  have hdl := hD.lt
  have HE : Hid (readP s0 8 = ((byteS (byteS s0).1).1, ⟨8, 0, ((byteS (byteS s0).1).2.toNat : Int), ((byteS s0).2.toNat : Int), 0, 0, false⟩)) := by show _ = _; simp [readP, partsL, getP]
  have HC1 : Hid (∀ A c w, Blk w w0.heap.size 58 #[.pointer (some ⟨g, 0, none⟩)] → IsR w g A c s0 → Calls Tryd.prog 143 #[.pointer (some ⟨w0.heap.size, 0, none⟩)] w fun e w' => e = .returned (.int .i64 ((byteS s0).2.toNat : Int)) ∧ RGoes w g A (byteS s0).1 w') := fun A c w hb h => dread1_any _ g A c s0 w hb h
  generalize ((byteS s0).2.toNat : Int) = v1 at *
  generalize (byteS s0).1 = s1 at *
  have HC2 : Hid (∀ A c w, Blk w w0.heap.size 58 #[.pointer (some ⟨g, 0, none⟩)] → IsR w g A c s1 → Calls Tryd.prog 143 #[.pointer (some ⟨w0.heap.size, 0, none⟩)] w fun e w' => e = .returned (.int .i64 ((byteS s1).2.toNat : Int)) ∧ RGoes w g A (byteS s1).1 w') := fun A c w hb h => dread1_any _ g A c s1 w hb h
  generalize ((byteS s1).2.toNat : Int) = v2 at *
  generalize (byteS s1).1 = s2 at *
  have HR0 := Lib.hid (hR.kept ((Kept.refl [] w0).alloc (.cells #[.pointer (some ⟨g, 0, none⟩)] 58)) (by simp) (by simp))
  have HD0 := Lib.hid (hD.alloc (.cells #[.pointer (some ⟨g, 0, none⟩)] 58))
  have HX0 := Lib.hid (Blk.new w0 58 #[.pointer (some ⟨g, 0, none⟩)])
  have HK0 := Lib.hid ((Kept.refl [g, gd] w0).alloc (.cells #[.pointer (some ⟨g, 0, none⟩)] 58))
  have HA := Lib.hid hA
  have HA0 : Hid (∀ ad, A0 = some ad → ∃ a0, A0 = some a0 ∧ ad.block = a0.block) := fun ad e => ⟨ad, e, rfl⟩
  have hb1 : ¬ (gd = w0.heap.size) := by omega
  have hb2 : ¬ (w0.heap.size = gd) := by omega
  have hb3 : ¬ (w0.heap.size = g) := by omega
  have hcd0 := HD0.out.cell
  have hfd0 := HD0.out.frozen
  have hcx0 := HX0.out.cell
  clear hR hD hA
  go_enter Tryd.func104, Tryd.ntmps104
  go_wp2_with fail
  refine (HC1.out _ _ _ (by exact HX0.out) (by exact HR0.out)).mono ?_
  rintro e w1 ⟨rfl, hg1⟩
  obtain ⟨A1, c1, hR1, hk1, hA1⟩ := hg1
  have HD1 := Lib.hid (Blk.kept (h := by exact HD0.out) (hk := hk1) (hg := by simpa using hne))
  have HX1 := Lib.hid (Blk.kept (h := by exact HX0.out) (hk := hk1) (hg := by simpa using hb3))
  have HK1 := Lib.hid (Kept.trans (h := by first | exact HK0.out | exact HK0.out.drew) (h' := hk1.mono (by simp)))
  have HA1 : Hid (∀ ad, A1 = some ad → ∃ a0, A0 = some a0 ∧ ad.block = a0.block) := (fun ad e => by obtain ⟨a1, e1, b1⟩ := hA1 ad e; obtain ⟨a0, e0, b0⟩ := HA0.out a1 e1; exact ⟨a0, e0, b1.trans b0⟩)
  have HR1 := Lib.hid hR1
  have hcd1 := HD1.out.cell
  have hfd1 := HD1.out.frozen
  have hcx1 := HX1.out.cell
  clear hR1 hk1 hA1
  clear hcd0 hfd0 hcx0
  go_wp2_with fail
  refine (HC2.out _ _ _ (by exact HX1.out) (by exact HR1.out)).mono ?_
  rintro e w2 ⟨rfl, hg2⟩
  obtain ⟨A2, c2, hR2, hk2, hA2⟩ := hg2
  have HD2 := Lib.hid (Blk.kept (h := by exact HD1.out) (hk := hk2) (hg := by simpa using hne))
  have HX2 := Lib.hid (Blk.kept (h := by exact HX1.out) (hk := hk2) (hg := by simpa using hb3))
  have HK2 := Lib.hid (Kept.trans (h := by first | exact HK1.out | exact HK1.out.drew) (h' := hk2.mono (by simp)))
  have HA2 : Hid (∀ ad, A2 = some ad → ∃ a0, A0 = some a0 ∧ ad.block = a0.block) := (fun ad e => by obtain ⟨a1, e1, b1⟩ := hA2 ad e; obtain ⟨a0, e0, b0⟩ := HA1.out a1 e1; exact ⟨a0, e0, b1.trans b0⟩)
  have HR2 := Lib.hid hR2
  have hcd2 := HD2.out.cell
  have hfd2 := HD2.out.frozen
  have hcx2 := HX2.out.cell
  clear hR2 hk2 hA2
  clear hcd1 hfd1 hcx1
  go_wp2_with fail
  first | go_end0 | ((try simp only [Exit.inBlock, Exit.then]); refine bodyPost_ret (results_none rfl _ _ _) rfl ?_)
  refine ⟨rfl, A2, c2, ?_, by rw [HE.out]; exact ((HD2.out.set 3 _).set 2 _), ((HK2.out.setCell (.inl (by simp)) _).setCell (.inl (by simp)) _), HA2.out⟩
  rw [HE.out]
  exact IsR.kept (G := [gd]) HR2.out (by (repeat (first | (with_reducible exact Kept.refl _ _) | (with_reducible refine Kept.setCell ?_ ?_ _) | (exact .inl (by simp))))) (by simpa using Ne.symm hne) (fun ad e => by obtain ⟨a0, e0, b0⟩ := HA2.out ad e; rw [b0]; simpa using HA.out a0 e0)

set_option maxHeartbeats 3200000 in
set_option maxRecDepth 100000 in
theorem dread_op9 (g : Nat) (A0 : Option Addr) (c0 : Nat) (s0 : RS) (gd : Nat) (w0 : World) (hR : IsR w0 g A0 c0 s0) (hD : Blk w0 gd 41 (dC 9 0 0 0 0 0 false)) (hA : ∀ ad, A0 = some ad → ad.block ≠ gd) :
    Calls Tryd.prog 104 #[.pointer (some ⟨g, 0, none⟩), .pointer (some ⟨gd, 0, none⟩)] w0 (ReadDone w0 g A0 gd (readP s0 9)) := by
  have hne : gd ≠ g := hD.ne hR.1 (by decide)
  have hgl := hR.1.lt
  have hdl := hD.lt
  have HE : Hid (readP s0 9 = ((byteS s0).1, ⟨9, ((byteS s0).2.toNat : Int), 0, 0, 0, 0, false⟩)) := by show _ = _; simp [readP, partsL, getP]
  have HC1 : Hid (∀ A c w, Blk w w0.heap.size 58 #[.pointer (some ⟨g, 0, none⟩)] → IsR w g A c s0 → Calls Tryd.prog 143 #[.pointer (some ⟨w0.heap.size, 0, none⟩)] w fun e w' => e = .returned (.int .i64 ((byteS s0).2.toNat : Int)) ∧ RGoes w g A (byteS s0).1 w') := fun A c w hb h => dread1_any _ g A c s0 w hb h
  generalize ((byteS s0).2.toNat : Int) = v1 at *
  generalize (byteS s0).1 = s1 at *
  have HR0 := Lib.hid (hR.kept ((Kept.refl [] w0).alloc (.cells #[.pointer (some ⟨g, 0, none⟩)] 58)) (by simp) (by simp))
  have HD0 := Lib.hid (hD.alloc (.cells #[.pointer (some ⟨g, 0, none⟩)] 58))
  have HX0 := Lib.hid (Blk.new w0 58 #[.pointer (some ⟨g, 0, none⟩)])
  have HK0 := Lib.hid ((Kept.refl [g, gd] w0).alloc (.cells #[.pointer (some ⟨g, 0, none⟩)] 58))
  have HA := Lib.hid hA
  have HA0 : Hid (∀ ad, A0 = some ad → ∃ a0, A0 = some a0 ∧ ad.block = a0.block) := fun ad e => ⟨ad, e, rfl⟩
  have hb1 : ¬ (gd = w0.heap.size) := by omega
  have hb2 : ¬ (w0.heap.size = gd) := by omega
  have hb3 : ¬ (w0.heap.size = g) := by omega
  have hcd0 := HD0.out.cell
  have hfd0 := HD0.out.frozen
  have hcx0 := HX0.out.cell
  clear hR hD hA
  go_enter Tryd.func104, Tryd.ntmps104
  go_wp2_with fail
  refine (HC1.out _ _ _ (by exact HX0.out) (by exact HR0.out)).mono ?_
  rintro e w1 ⟨rfl, hg1⟩
  obtain ⟨A1, c1, hR1, hk1, hA1⟩ := hg1
  have HD1 := Lib.hid (Blk.kept (h := by exact HD0.out) (hk := hk1) (hg := by simpa using hne))
  have HX1 := Lib.hid (Blk.kept (h := by exact HX0.out) (hk := hk1) (hg := by simpa using hb3))
  have HK1 := Lib.hid (Kept.trans (h := by first | exact HK0.out | exact HK0.out.drew) (h' := hk1.mono (by simp)))
  have HA1 : Hid (∀ ad, A1 = some ad → ∃ a0, A0 = some a0 ∧ ad.block = a0.block) := (fun ad e => by obtain ⟨a1, e1, b1⟩ := hA1 ad e; obtain ⟨a0, e0, b0⟩ := HA0.out a1 e1; exact ⟨a0, e0, b1.trans b0⟩)
  have HR1 := Lib.hid hR1
  have hcd1 := HD1.out.cell
  have hfd1 := HD1.out.frozen
  have hcx1 := HX1.out.cell
  clear hR1 hk1 hA1
  clear hcd0 hfd0 hcx0
  go_wp2_with fail
  first | go_end0 | ((try simp only [Exit.inBlock, Exit.then]); refine bodyPost_ret (results_none rfl _ _ _) rfl ?_)
  refine ⟨rfl, A1, c1, ?_, by rw [HE.out]; exact (HD1.out.set 1 _), (HK1.out.setCell (.inl (by simp)) _), HA1.out⟩
  rw [HE.out]
  exact IsR.kept (G := [gd]) HR1.out (by (repeat (first | (with_reducible exact Kept.refl _ _) | (with_reducible refine Kept.setCell ?_ ?_ _) | (exact .inl (by simp))))) (by simpa using Ne.symm hne) (fun ad e => by obtain ⟨a0, e0, b0⟩ := HA1.out ad e; rw [b0]; simpa using HA.out a0 e0)

set_option maxHeartbeats 3200000 in
set_option maxRecDepth 100000 in
theorem dread_op10 (g : Nat) (A0 : Option Addr) (c0 : Nat) (s0 : RS) (gd : Nat) (w0 : World) (hR : IsR w0 g A0 c0 s0) (hD : Blk w0 gd 41 (dC 10 0 0 0 0 0 false)) (hA : ∀ ad, A0 = some ad → ad.block ≠ gd) :
    Calls Tryd.prog 104 #[.pointer (some ⟨g, 0, none⟩), .pointer (some ⟨gd, 0, none⟩)] w0 (ReadDone w0 g A0 gd (readP s0 10)) := by
  have hne : gd ≠ g := hD.ne hR.1 (by decide)
  have hgl := hR.1.lt
  have hdl := hD.lt
  have HE : Hid (readP s0 10 = ((numS (byteS s0).1).1, ⟨10, ((byteS s0).2.toNat : Int), 0, 0, (numS (byteS s0).1).2, 0, false⟩)) := by show _ = _; simp [readP, partsL, getP]
  have HC1 : Hid (∀ A c w, Blk w w0.heap.size 58 #[.pointer (some ⟨g, 0, none⟩)] → IsR w g A c s0 → Calls Tryd.prog 143 #[.pointer (some ⟨w0.heap.size, 0, none⟩)] w fun e w' => e = .returned (.int .i64 ((byteS s0).2.toNat : Int)) ∧ RGoes w g A (byteS s0).1 w') := fun A c w hb h => dread1_any _ g A c s0 w hb h
  generalize ((byteS s0).2.toNat : Int) = v1 at *
  generalize (byteS s0).1 = s1 at *
  have HC2 : Hid (∀ A c w, IsR w g A c s1 → Calls Tryd.prog 90 #[.pointer (some ⟨g, 0, none⟩)] w fun e w' => e = .returned (.int .u64 ((numS s1).2 : Int)) ∧ RGoes w g A (numS s1).1 w') := fun A c w h => rnum_any g A c s1 w h
  generalize (numS s1).2 = v2 at *
  generalize (numS s1).1 = s2 at *
  have HR0 := Lib.hid (hR.kept ((Kept.refl [] w0).alloc (.cells #[.pointer (some ⟨g, 0, none⟩)] 58)) (by simp) (by simp))
  have HD0 := Lib.hid (hD.alloc (.cells #[.pointer (some ⟨g, 0, none⟩)] 58))
  have HX0 := Lib.hid (Blk.new w0 58 #[.pointer (some ⟨g, 0, none⟩)])
  have HK0 := Lib.hid ((Kept.refl [g, gd] w0).alloc (.cells #[.pointer (some ⟨g, 0, none⟩)] 58))
  have HA := Lib.hid hA
  have HA0 : Hid (∀ ad, A0 = some ad → ∃ a0, A0 = some a0 ∧ ad.block = a0.block) := fun ad e => ⟨ad, e, rfl⟩
  have hb1 : ¬ (gd = w0.heap.size) := by omega
  have hb2 : ¬ (w0.heap.size = gd) := by omega
  have hb3 : ¬ (w0.heap.size = g) := by omega
  have hcd0 := HD0.out.cell
  have hfd0 := HD0.out.frozen
  have hcx0 := HX0.out.cell
  clear hR hD hA
  go_enter Tryd.func104, Tryd.ntmps104
  go_wp2_with fail
  go_region_held3 (fun w' => w'.cell? ⟨w0.heap.size, 0, none⟩ = some (.pointer (some ⟨g, 0, none⟩))) (go_keep) (first | (go_at_call 143; refine (HC1.out _ _ _ (by exact HX0.out) (by exact HR0.out)).mono ?_; rintro e w1 ⟨rfl, hg1⟩; obtain ⟨A1, c1, hR1, hk1, hA1⟩ := hg1; have HD1 := Lib.hid (Blk.kept (h := by exact HD0.out) (hk := hk1) (hg := by simpa using hne)); have HX1 := Lib.hid (Blk.kept (h := by exact HX0.out) (hk := hk1) (hg := by simpa using hb3)); have HK1 := Lib.hid (Kept.trans (h := by first | exact HK0.out | exact HK0.out.drew) (h' := hk1.mono (by simp))); have HA1 : Hid (∀ ad, A1 = some ad → ∃ a0, A0 = some a0 ∧ ad.block = a0.block) := (fun ad e => by obtain ⟨a1, e1, b1⟩ := hA1 ad e; obtain ⟨a0, e0, b0⟩ := HA0.out a1 e1; exact ⟨a0, e0, b1.trans b0⟩); have HR1 := Lib.hid hR1; have hcd1 := HD1.out.cell; have hfd1 := HD1.out.frozen; have hcx1 := HX1.out.cell; clear hR1 hk1 hA1) | (go_at_call 90; refine (HC2.out _ _ _ (by exact HR1.out)).mono ?_; rintro e w2 ⟨rfl, hg2⟩; obtain ⟨A2, c2, hR2, hk2, hA2⟩ := hg2; have HD2 := Lib.hid (Blk.kept (h := by exact HD1.out) (hk := hk2) (hg := by simpa using hne)); have HX2 := Lib.hid (Blk.kept (h := by exact HX1.out) (hk := hk2) (hg := by simpa using hb3)); have HK2 := Lib.hid (Kept.trans (h := by first | exact HK1.out | exact HK1.out.drew) (h' := hk2.mono (by simp))); have HA2 : Hid (∀ ad, A2 = some ad → ∃ a0, A0 = some a0 ∧ ad.block = a0.block) := (fun ad e => by obtain ⟨a1, e1, b1⟩ := hA2 ad e; obtain ⟨a0, e0, b0⟩ := HA1.out a1 e1; exact ⟨a0, e0, b1.trans b0⟩); have HR2 := Lib.hid hR2; have hcd2 := HD2.out.cell; have hfd2 := HD2.out.frozen; have hcx2 := HX2.out.cell; clear hR2 hk2 hA2))
  go_wp2_with fail
  first | go_end0 | ((try simp only [Exit.inBlock, Exit.then]); refine bodyPost_ret (results_none rfl _ _ _) rfl ?_)
  refine ⟨rfl, A2, c2, ?_, by rw [HE.out]; exact ((HD2.out.set 1 _).set 4 _), ((HK2.out.setCell (.inl (by simp)) _).setCell (.inl (by simp)) _), HA2.out⟩
  rw [HE.out]
  exact IsR.kept (G := [gd]) HR2.out (by (repeat (first | (with_reducible exact Kept.refl _ _) | (with_reducible refine Kept.setCell ?_ ?_ _) | (exact .inl (by simp))))) (by simpa using Ne.symm hne) (fun ad e => by obtain ⟨a0, e0, b0⟩ := HA2.out ad e; rw [b0]; simpa using HA.out a0 e0)

set_option maxHeartbeats 3200000 in
set_option maxRecDepth 100000 in
theorem dread_op11 (g : Nat) (A0 : Option Addr) (c0 : Nat) (s0 : RS) (gd : Nat) (w0 : World) (hR : IsR w0 g A0 c0 s0) (hD : Blk w0 gd 41 (dC 11 0 0 0 0 0 false)) (hA : ∀ ad, A0 = some ad → ad.block ≠ gd) :
    Calls Tryd.prog 104 #[.pointer (some ⟨g, 0, none⟩), .pointer (some ⟨gd, 0, none⟩)] w0 (ReadDone w0 g A0 gd (readP s0 11)) := by
  have hne : gd ≠ g := hD.ne hR.1 (by decide)
  have hgl := hR.1.lt
  have hdl := hD.lt
  have HE : Hid (readP s0 11 = ((byteS s0).1, ⟨11, ((byteS s0).2.toNat : Int), 0, 0, 0, 0, false⟩)) := by show _ = _; simp [readP, partsL, getP]
  have HC1 : Hid (∀ A c w, Blk w w0.heap.size 58 #[.pointer (some ⟨g, 0, none⟩)] → IsR w g A c s0 → Calls Tryd.prog 143 #[.pointer (some ⟨w0.heap.size, 0, none⟩)] w fun e w' => e = .returned (.int .i64 ((byteS s0).2.toNat : Int)) ∧ RGoes w g A (byteS s0).1 w') := fun A c w hb h => dread1_any _ g A c s0 w hb h
  generalize ((byteS s0).2.toNat : Int) = v1 at *
  generalize (byteS s0).1 = s1 at *
  have HR0 := Lib.hid (hR.kept ((Kept.refl [] w0).alloc (.cells #[.pointer (some ⟨g, 0, none⟩)] 58)) (by simp) (by simp))
  have HD0 := Lib.hid (hD.alloc (.cells #[.pointer (some ⟨g, 0, none⟩)] 58))
  have HX0 := Lib.hid (Blk.new w0 58 #[.pointer (some ⟨g, 0, none⟩)])
  have HK0 := Lib.hid ((Kept.refl [g, gd] w0).alloc (.cells #[.pointer (some ⟨g, 0, none⟩)] 58))
  have HA := Lib.hid hA
  have HA0 : Hid (∀ ad, A0 = some ad → ∃ a0, A0 = some a0 ∧ ad.block = a0.block) := fun ad e => ⟨ad, e, rfl⟩
  have hb1 : ¬ (gd = w0.heap.size) := by omega
  have hb2 : ¬ (w0.heap.size = gd) := by omega
  have hb3 : ¬ (w0.heap.size = g) := by omega
  have hcd0 := HD0.out.cell
  have hfd0 := HD0.out.frozen
  have hcx0 := HX0.out.cell
  clear hR hD hA
  go_enter Tryd.func104, Tryd.ntmps104
  go_wp2_with fail
  refine (HC1.out _ _ _ (by exact HX0.out) (by exact HR0.out)).mono ?_
  rintro e w1 ⟨rfl, hg1⟩
  obtain ⟨A1, c1, hR1, hk1, hA1⟩ := hg1
  have HD1 := Lib.hid (Blk.kept (h := by exact HD0.out) (hk := hk1) (hg := by simpa using hne))
  have HX1 := Lib.hid (Blk.kept (h := by exact HX0.out) (hk := hk1) (hg := by simpa using hb3))
  have HK1 := Lib.hid (Kept.trans (h := by first | exact HK0.out | exact HK0.out.drew) (h' := hk1.mono (by simp)))
  have HA1 : Hid (∀ ad, A1 = some ad → ∃ a0, A0 = some a0 ∧ ad.block = a0.block) := (fun ad e => by obtain ⟨a1, e1, b1⟩ := hA1 ad e; obtain ⟨a0, e0, b0⟩ := HA0.out a1 e1; exact ⟨a0, e0, b1.trans b0⟩)
  have HR1 := Lib.hid hR1
  have hcd1 := HD1.out.cell
  have hfd1 := HD1.out.frozen
  have hcx1 := HX1.out.cell
  clear hR1 hk1 hA1
  clear hcd0 hfd0 hcx0
  go_wp2_with fail
  first | go_end0 | ((try simp only [Exit.inBlock, Exit.then]); refine bodyPost_ret (results_none rfl _ _ _) rfl ?_)
  refine ⟨rfl, A1, c1, ?_, by rw [HE.out]; exact (HD1.out.set 1 _), (HK1.out.setCell (.inl (by simp)) _), HA1.out⟩
  rw [HE.out]
  exact IsR.kept (G := [gd]) HR1.out (by (repeat (first | (with_reducible exact Kept.refl _ _) | (with_reducible refine Kept.setCell ?_ ?_ _) | (exact .inl (by simp))))) (by simpa using Ne.symm hne) (fun ad e => by obtain ⟨a0, e0, b0⟩ := HA1.out ad e; rw [b0]; simpa using HA.out a0 e0)

end Go.Proofs.YtmhlmoojmdfnfaaDoor
