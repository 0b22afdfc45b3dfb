/- Package deed: (*line).fill, a theorem for each op (printed by a program: gen/fill.py). -/
import Derived.Test.YtladfdpcdjjifaaGreatDoorDeedC
namespace Go.Proofs.YtladfdpcdjjifaaGreatDoor
open Go.RowKit

/-- What fill leaves: the deed at gd, whether a word was bad, and nothing else turned. -/
def Filled (w : World) (gl gd : Nat) (d : Dd) (bad : Bool) (e : Ending) (w' : World) : Prop :=
  e = .returned (.tuple #[]) ∧ Blk w' gd 60 (dC d.op d.a d.b d.r d.n d.mask d.loose) ∧ (∃ sl, Blk w' gl 96 #[sl, .bool bad]) ∧ Kept [gl, gd] w w'

set_option maxHeartbeats 1600000 in
theorem fill_op1 (gl gd : Nat) (A : Option Addr) (n c : Nat) (x1 : List UInt8) (w : World) (hL : IsL w gl A n c [x1] false) (hD : Blk w gd 60 (dC 1 0 0 0 0 0 false)) (hA : ∀ ad, A = some ad → ad.block ≠ gd) (hx1 : x1.length ≤ 1000000) :
    Calls Tryz.prog 60 #[.pointer (some ⟨gl, 0, none⟩), .pointer (some ⟨gd, 0, none⟩)] w (Filled w gl gd ⟨1, 0, 0, 0, (readD x1).1, 0, false⟩ (false || (readD x1).2 != 0)) := by
  have hne : gl ≠ gd := hL.blk.ne hD (by decide)
  have hcd := hD.cell
  have hfd := hD.frozen
  have HD0 := Lib.hid hD
  have HL0 := Lib.hid hL
  have HA := Lib.hid hA
  have HK0 := Lib.hid (Kept.refl [gl, gd] w)
  have HC1 : Hid (∀ A n c ws bad w, IsL w gl A n c (x1 :: ws) bad → Calls Tryz.prog 83 #[.pointer (some ⟨gl, 0, none⟩)] w fun e w' => e = .returned (.int .u64 (((readD x1).1 : Nat) : Int)) ∧ LGoes w gl A ws (bad || ((readD x1).2 != 0)) w') := fun A n c ws bad w h => num_any gl A n c x1 ws bad w h hx1
  generalize (readD x1).1 = v1 at *
  generalize ((readD x1).2 != 0) = b1 at *
  clear hL hD hA
  go_enter Tryz.func60, Tryz.ntmps60
  go_wp2_with fail
  refine (HC1.out _ _ _ _ _ _ HL0.out).mono ?_
  rintro e1 w1 ⟨rfl, A1, n1, c1, hL1, hk1, hA1⟩
  have HD1 := Lib.hid (HD0.out.kept hk1 (by simpa using Ne.symm hne))
  have HK1 := Lib.hid (HK0.out.trans (hk1.mono (by simp)))
  have HA1 : Hid (∀ ad, A1 = some ad → ad.block ≠ gd) := fun ad e => by obtain ⟨a0, e0, b0⟩ := hA1 ad e; rw [b0]; exact HA.out a0 e0
  have HL1 := Lib.hid hL1
  have hcd1 := HD1.out.cell
  have hfd1 := HD1.out.frozen
  clear hL1 hk1 hA1
  clear hcd hfd
  go_wp2_with fail
  go_end0
  exact ⟨rfl, (HD1.out.set 4 _), ⟨_, (HL1.out.blk.far (p := ⟨gd, 4, none⟩) hne _)⟩, (HK1.out.setCell (.inl (by simp)) _)⟩

set_option maxHeartbeats 1600000 in
theorem fill_op2 (gl gd : Nat) (A : Option Addr) (n c : Nat) (x1 x2 x3 x4 : List UInt8) (w : World) (hL : IsL w gl A n c [x1, x2, x3, x4] false) (hD : Blk w gd 60 (dC 2 0 0 0 0 0 false)) (hA : ∀ ad, A = some ad → ad.block ≠ gd) (hx1 : x1.length ≤ 1000000) (hx2 : x2.length ≤ 1000000) (hx3 : x3.length ≤ 1000000) (hx4 : x4.length ≤ 1000000) :
    Calls Tryz.prog 60 #[.pointer (some ⟨gl, 0, none⟩), .pointer (some ⟨gd, 0, none⟩)] w (Filled w gl gd ⟨2, ((min (readD x1).1 1048576 : Nat) : Int), ((min (readD x2).1 1048576 : Nat) : Int), ((min (readD x3).1 1048576 : Nat) : Int), 0, (readH x4).1, false⟩ ((((false || (readD x1).2 != 0) || (readD x2).2 != 0) || (readD x3).2 != 0) || (readH x4).2 != 0)) := by
  have hne : gl ≠ gd := hL.blk.ne hD (by decide)
  have hcd := hD.cell
  have hfd := hD.frozen
  have HD0 := Lib.hid hD
  have HL0 := Lib.hid hL
  have HA := Lib.hid hA
  have HK0 := Lib.hid (Kept.refl [gl, gd] w)
  have HC1 : Hid (∀ A n c ws bad w, IsL w gl A n c (x1 :: ws) bad → Calls Tryz.prog 84 #[.pointer (some ⟨gl, 0, none⟩)] w fun e w' => e = .returned (.int .i64 (((min (readD x1).1 1048576) : Nat) : Int)) ∧ LGoes w gl A ws (bad || ((readD x1).2 != 0)) w') := fun A n c ws bad w h => small_any gl A n c x1 ws bad w h hx1
  have HC2 : Hid (∀ A n c ws bad w, IsL w gl A n c (x2 :: ws) bad → Calls Tryz.prog 84 #[.pointer (some ⟨gl, 0, none⟩)] w fun e w' => e = .returned (.int .i64 (((min (readD x2).1 1048576) : Nat) : Int)) ∧ LGoes w gl A ws (bad || ((readD x2).2 != 0)) w') := fun A n c ws bad w h => small_any gl A n c x2 ws bad w h hx2
  have HC3 : Hid (∀ A n c ws bad w, IsL w gl A n c (x3 :: ws) bad → Calls Tryz.prog 84 #[.pointer (some ⟨gl, 0, none⟩)] w fun e w' => e = .returned (.int .i64 (((min (readD x3).1 1048576) : Nat) : Int)) ∧ LGoes w gl A ws (bad || ((readD x3).2 != 0)) w') := fun A n c ws bad w h => small_any gl A n c x3 ws bad w h hx3
  have HC4 : Hid (∀ A n c ws bad w, IsL w gl A n c (x4 :: ws) bad → Calls Tryz.prog 85 #[.pointer (some ⟨gl, 0, none⟩)] w fun e w' => e = .returned (.int .u64 (((readH x4).1 : Nat) : Int)) ∧ LGoes w gl A ws (bad || ((readH x4).2 != 0)) w') := fun A n c ws bad w h => hexw_any gl A n c x4 ws bad w h hx4
  generalize min (readD x1).1 1048576 = v1 at *
  generalize ((readD x1).2 != 0) = b1 at *
  generalize min (readD x2).1 1048576 = v2 at *
  generalize ((readD x2).2 != 0) = b2 at *
  generalize min (readD x3).1 1048576 = v3 at *
  generalize ((readD x3).2 != 0) = b3 at *
  generalize (readH x4).1 = v4 at *
  generalize ((readH x4).2 != 0) = b4 at *
  clear hL hD hA
  go_enter Tryz.func60, Tryz.ntmps60
  go_wp2_with fail
  refine (HC1.out _ _ _ _ _ _ HL0.out).mono ?_
  rintro e1 w1 ⟨rfl, A1, n1, c1, hL1, hk1, hA1⟩
  have HD1 := Lib.hid (HD0.out.kept hk1 (by simpa using Ne.symm hne))
  have HK1 := Lib.hid (HK0.out.trans (hk1.mono (by simp)))
  have HA1 : Hid (∀ ad, A1 = some ad → ad.block ≠ gd) := fun ad e => by obtain ⟨a0, e0, b0⟩ := hA1 ad e; rw [b0]; exact HA.out a0 e0
  have HL1 := Lib.hid hL1
  have hcd1 := HD1.out.cell
  have hfd1 := HD1.out.frozen
  clear hL1 hk1 hA1
  clear hcd hfd
  go_wp2_with fail
  refine (HC2.out _ _ _ _ _ _ HL1.out).mono ?_
  rintro e2 w2 ⟨rfl, A2, n2, c2, hL2, hk2, hA2⟩
  have HD2 := Lib.hid (HD1.out.kept hk2 (by simpa using Ne.symm hne))
  have HK2 := Lib.hid (HK1.out.trans (hk2.mono (by simp)))
  have HA2 : Hid (∀ ad, A2 = some ad → ad.block ≠ gd) := fun ad e => by obtain ⟨a0, e0, b0⟩ := hA2 ad e; rw [b0]; exact HA1.out a0 e0
  have HL2 := Lib.hid hL2
  have hcd2 := HD2.out.cell
  have hfd2 := HD2.out.frozen
  clear hL2 hk2 hA2
  clear hcd1 hfd1
  go_wp2_with fail
  refine (HC3.out _ _ _ _ _ _ HL2.out).mono ?_
  rintro e3 w3 ⟨rfl, A3, n3, c3, hL3, hk3, hA3⟩
  have HD3 := Lib.hid (HD2.out.kept hk3 (by simpa using Ne.symm hne))
  have HK3 := Lib.hid (HK2.out.trans (hk3.mono (by simp)))
  have HA3 : Hid (∀ ad, A3 = some ad → ad.block ≠ gd) := fun ad e => by obtain ⟨a0, e0, b0⟩ := hA3 ad e; rw [b0]; exact HA2.out a0 e0
  have HL3 := Lib.hid hL3
  have hcd3 := HD3.out.cell
  have hfd3 := HD3.out.frozen
  clear hL3 hk3 hA3
  clear hcd2 hfd2
  go_wp2_with fail
  refine (HC4.out _ _ _ _ _ _ HL3.out).mono ?_
  rintro e4 w4 ⟨rfl, A4, n4, c4, hL4, hk4, hA4⟩
  have HD4 := Lib.hid (HD3.out.kept hk4 (by simpa using Ne.symm hne))
  have HK4 := Lib.hid (HK3.out.trans (hk4.mono (by simp)))
  have HA4 : Hid (∀ ad, A4 = some ad → ad.block ≠ gd) := fun ad e => by obtain ⟨a0, e0, b0⟩ := hA4 ad e; rw [b0]; exact HA3.out a0 e0
  have HL4 := Lib.hid hL4
  have hcd4 := HD4.out.cell
  have hfd4 := HD4.out.frozen
  have hcl := HL4.out.blk.cell
  have hfl := HL4.out.blk.frozen
  have hlen := HL4.out.len
  simp only [List.length_nil] at hlen
  subst hlen
  clear hL4 hk4 hA4
  clear hcd3 hfd3
  go_wp2_with fail
  go_end0
  exact ⟨rfl, ((((HD4.out.set 1 _).set 2 _).set 3 _).set 5 _), ⟨_, ((((HL4.out.blk.far (p := ⟨gd, 1, none⟩) hne _).far (p := ⟨gd, 2, none⟩) hne _).far (p := ⟨gd, 3, none⟩) hne _).far (p := ⟨gd, 5, none⟩) hne _)⟩, ((((HK4.out.setCell (.inl (by simp)) _).setCell (.inl (by simp)) _).setCell (.inl (by simp)) _).setCell (.inl (by simp)) _)⟩

set_option maxHeartbeats 1600000 in
theorem fill_op2l (gl gd : Nat) (A : Option Addr) (n c : Nat) (x1 x2 x3 x4 x5 : List UInt8) (w : World) (hL : IsL w gl A n c [x1, x2, x3, x4, x5] false) (hD : Blk w gd 60 (dC 2 0 0 0 0 0 false)) (hA : ∀ ad, A = some ad → ad.block ≠ gd) (hx1 : x1.length ≤ 1000000) (hx2 : x2.length ≤ 1000000) (hx3 : x3.length ≤ 1000000) (hx4 : x4.length ≤ 1000000) (_hx5 : x5.length ≤ 1000000) :
    Calls Tryz.prog 60 #[.pointer (some ⟨gl, 0, none⟩), .pointer (some ⟨gd, 0, none⟩)] w (Filled w gl gd ⟨2, ((min (readD x1).1 1048576 : Nat) : Int), ((min (readD x2).1 1048576 : Nat) : Int), ((min (readD x3).1 1048576 : Nat) : Int), 0, (readH x4).1, true⟩ (((((false || (readD x1).2 != 0) || (readD x2).2 != 0) || (readD x3).2 != 0) || (readH x4).2 != 0) || x5 != [108, 111, 111, 115, 101])) := by
  have hne : gl ≠ gd := hL.blk.ne hD (by decide)
  have hcd := hD.cell
  have hfd := hD.frozen
  have HD0 := Lib.hid hD
  have HL0 := Lib.hid hL
  have HA := Lib.hid hA
  have HK0 := Lib.hid (Kept.refl [gl, gd] w)
  have HC1 : Hid (∀ A n c ws bad w, IsL w gl A n c (x1 :: ws) bad → Calls Tryz.prog 84 #[.pointer (some ⟨gl, 0, none⟩)] w fun e w' => e = .returned (.int .i64 (((min (readD x1).1 1048576) : Nat) : Int)) ∧ LGoes w gl A ws (bad || ((readD x1).2 != 0)) w') := fun A n c ws bad w h => small_any gl A n c x1 ws bad w h hx1
  have HC2 : Hid (∀ A n c ws bad w, IsL w gl A n c (x2 :: ws) bad → Calls Tryz.prog 84 #[.pointer (some ⟨gl, 0, none⟩)] w fun e w' => e = .returned (.int .i64 (((min (readD x2).1 1048576) : Nat) : Int)) ∧ LGoes w gl A ws (bad || ((readD x2).2 != 0)) w') := fun A n c ws bad w h => small_any gl A n c x2 ws bad w h hx2
  have HC3 : Hid (∀ A n c ws bad w, IsL w gl A n c (x3 :: ws) bad → Calls Tryz.prog 84 #[.pointer (some ⟨gl, 0, none⟩)] w fun e w' => e = .returned (.int .i64 (((min (readD x3).1 1048576) : Nat) : Int)) ∧ LGoes w gl A ws (bad || ((readD x3).2 != 0)) w') := fun A n c ws bad w h => small_any gl A n c x3 ws bad w h hx3
  have HC4 : Hid (∀ A n c ws bad w, IsL w gl A n c (x4 :: ws) bad → Calls Tryz.prog 85 #[.pointer (some ⟨gl, 0, none⟩)] w fun e w' => e = .returned (.int .u64 (((readH x4).1 : Nat) : Int)) ∧ LGoes w gl A ws (bad || ((readH x4).2 != 0)) w') := fun A n c ws bad w h => hexw_any gl A n c x4 ws bad w h hx4
  generalize min (readD x1).1 1048576 = v1 at *
  generalize ((readD x1).2 != 0) = b1 at *
  generalize min (readD x2).1 1048576 = v2 at *
  generalize ((readD x2).2 != 0) = b2 at *
  generalize min (readD x3).1 1048576 = v3 at *
  generalize ((readD x3).2 != 0) = b3 at *
  generalize (readH x4).1 = v4 at *
  generalize ((readH x4).2 != 0) = b4 at *
  clear hL hD hA
  go_enter Tryz.func60, Tryz.ntmps60
  go_wp2_with fail
  refine (HC1.out _ _ _ _ _ _ HL0.out).mono ?_
  rintro e1 w1 ⟨rfl, A1, n1, c1, hL1, hk1, hA1⟩
  have HD1 := Lib.hid (HD0.out.kept hk1 (by simpa using Ne.symm hne))
  have HK1 := Lib.hid (HK0.out.trans (hk1.mono (by simp)))
  have HA1 : Hid (∀ ad, A1 = some ad → ad.block ≠ gd) := fun ad e => by obtain ⟨a0, e0, b0⟩ := hA1 ad e; rw [b0]; exact HA.out a0 e0
  have HL1 := Lib.hid hL1
  have hcd1 := HD1.out.cell
  have hfd1 := HD1.out.frozen
  clear hL1 hk1 hA1
  clear hcd hfd
  go_wp2_with fail
  refine (HC2.out _ _ _ _ _ _ HL1.out).mono ?_
  rintro e2 w2 ⟨rfl, A2, n2, c2, hL2, hk2, hA2⟩
  have HD2 := Lib.hid (HD1.out.kept hk2 (by simpa using Ne.symm hne))
  have HK2 := Lib.hid (HK1.out.trans (hk2.mono (by simp)))
  have HA2 : Hid (∀ ad, A2 = some ad → ad.block ≠ gd) := fun ad e => by obtain ⟨a0, e0, b0⟩ := hA2 ad e; rw [b0]; exact HA1.out a0 e0
  have HL2 := Lib.hid hL2
  have hcd2 := HD2.out.cell
  have hfd2 := HD2.out.frozen
  clear hL2 hk2 hA2
  clear hcd1 hfd1
  go_wp2_with fail
  refine (HC3.out _ _ _ _ _ _ HL2.out).mono ?_
  rintro e3 w3 ⟨rfl, A3, n3, c3, hL3, hk3, hA3⟩
  have HD3 := Lib.hid (HD2.out.kept hk3 (by simpa using Ne.symm hne))
  have HK3 := Lib.hid (HK2.out.trans (hk3.mono (by simp)))
  have HA3 : Hid (∀ ad, A3 = some ad → ad.block ≠ gd) := fun ad e => by obtain ⟨a0, e0, b0⟩ := hA3 ad e; rw [b0]; exact HA2.out a0 e0
  have HL3 := Lib.hid hL3
  have hcd3 := HD3.out.cell
  have hfd3 := HD3.out.frozen
  clear hL3 hk3 hA3
  clear hcd2 hfd2
  go_wp2_with fail
  refine (HC4.out _ _ _ _ _ _ HL3.out).mono ?_
  rintro e4 w4 ⟨rfl, A4, n4, c4, hL4, hk4, hA4⟩
  have HD4 := Lib.hid (HD3.out.kept hk4 (by simpa using Ne.symm hne))
  have HK4 := Lib.hid (HK3.out.trans (hk4.mono (by simp)))
  have HA4 : Hid (∀ ad, A4 = some ad → ad.block ≠ gd) := fun ad e => by obtain ⟨a0, e0, b0⟩ := hA4 ad e; rw [b0]; exact HA3.out a0 e0
  have HL4 := Lib.hid hL4
  have hcd4 := HD4.out.cell
  have hfd4 := HD4.out.frozen
  generalize (((false || b1) || b2) || b3 || b4) = bb at *
  have hcl := HL4.out.blk.cell
  have hfl := HL4.out.blk.frozen
  have hlen := HL4.out.len
  simp only [List.length_cons, List.length_nil] at hlen
  subst hlen
  clear hL4 hk4 hA4
  clear hcd3 hfd3
  cases bb
  all_goals go_wp2_with fail
  · have hkd : Kept [gd] w4 (((((w4.setCell ⟨gd, 1, none⟩ (.int .i64 v1)).setCell ⟨gd, 2, none⟩ (.int .i64 v2)).setCell ⟨gd, 3, none⟩ (.int .i64 v3)).setCell ⟨gd, 5, none⟩ (.int .u64 v4)).setCell ⟨gd, 6, none⟩ (.bool true)) := by (repeat (first | (with_reducible exact Kept.refl _ _) | (with_reducible refine Kept.setCell ?_ ?_ _) | (exact .inl (by simp))))
    refine (next_any gl A4 1 c4 x5 [] false _ (HL4.out.kept hkd (by simpa using hne) (fun ad e => by simpa using HA4.out ad e))).mono ?_
    rintro e5 w5 ⟨rfl, A5, n5, c5, hL5, hk5, hA5⟩
    have hcl5 := hL5.blk.cell
    have hfl5 := hL5.blk.frozen
    have HL5 := Lib.hid hL5
    have HK5 := Lib.hid ((((((HK4.out.setCell (.inl (by simp)) _).setCell (.inl (by simp)) _).setCell (.inl (by simp)) _).setCell (.inl (by simp)) _).setCell (.inl (by simp)) _).trans (hk5.mono (by simp)))
    have HD5 := Lib.hid ((((((HD4.out.set 1 _).set 2 _).set 3 _).set 5 _).set 6 _).kept hk5 (by simpa using Ne.symm hne))
    clear hL5 hk5 hA5 hcd4 hfd4 hcl hkd
    go_wp2_with fail
    go_end0
    exact ⟨rfl, HD5.out.far (p := ⟨gl, 1, none⟩) (Ne.symm hne) _, ⟨_, HL5.out.blk.set 1 _⟩, HK5.out.setCell (.inl (by simp)) _⟩
  · go_end0
    exact ⟨rfl, (((((HD4.out.set 1 _).set 2 _).set 3 _).set 5 _).set 6 _).far (p := ⟨gl, 1, none⟩) (Ne.symm hne) _, ⟨_, (((((HL4.out.blk.far (p := ⟨gd, 1, none⟩) hne _).far (p := ⟨gd, 2, none⟩) hne _).far (p := ⟨gd, 3, none⟩) hne _).far (p := ⟨gd, 5, none⟩) hne _).far (p := ⟨gd, 6, none⟩) hne _).set 1 _⟩, (((((HK4.out.setCell (.inl (by simp)) _).setCell (.inl (by simp)) _).setCell (.inl (by simp)) _).setCell (.inl (by simp)) _).setCell (.inl (by simp)) _).setCell (.inl (by simp)) _⟩

set_option maxHeartbeats 1600000 in
theorem fill_op3 (gl gd : Nat) (A : Option Addr) (n c : Nat) (x1 : List UInt8) (w : World) (hL : IsL w gl A n c [x1] false) (hD : Blk w gd 60 (dC 3 0 0 0 0 0 false)) (hA : ∀ ad, A = some ad → ad.block ≠ gd) (hx1 : x1.length ≤ 1000000) :
    Calls Tryz.prog 60 #[.pointer (some ⟨gl, 0, none⟩), .pointer (some ⟨gd, 0, none⟩)] w (Filled w gl gd ⟨3, 0, 0, 0, (readD x1).1, 0, false⟩ (false || (readD x1).2 != 0)) := by
  have hne : gl ≠ gd := hL.blk.ne hD (by decide)
  have hcd := hD.cell
  have hfd := hD.frozen
  have HD0 := Lib.hid hD
  have HL0 := Lib.hid hL
  have HA := Lib.hid hA
  have HK0 := Lib.hid (Kept.refl [gl, gd] w)
  have HC1 : Hid (∀ A n c ws bad w, IsL w gl A n c (x1 :: ws) bad → Calls Tryz.prog 83 #[.pointer (some ⟨gl, 0, none⟩)] w fun e w' => e = .returned (.int .u64 (((readD x1).1 : Nat) : Int)) ∧ LGoes w gl A ws (bad || ((readD x1).2 != 0)) w') := fun A n c ws bad w h => num_any gl A n c x1 ws bad w h hx1
  generalize (readD x1).1 = v1 at *
  generalize ((readD x1).2 != 0) = b1 at *
  clear hL hD hA
  go_enter Tryz.func60, Tryz.ntmps60
  go_wp2_with fail
  refine (HC1.out _ _ _ _ _ _ HL0.out).mono ?_
  rintro e1 w1 ⟨rfl, A1, n1, c1, hL1, hk1, hA1⟩
  have HD1 := Lib.hid (HD0.out.kept hk1 (by simpa using Ne.symm hne))
  have HK1 := Lib.hid (HK0.out.trans (hk1.mono (by simp)))
  have HA1 : Hid (∀ ad, A1 = some ad → ad.block ≠ gd) := fun ad e => by obtain ⟨a0, e0, b0⟩ := hA1 ad e; rw [b0]; exact HA.out a0 e0
  have HL1 := Lib.hid hL1
  have hcd1 := HD1.out.cell
  have hfd1 := HD1.out.frozen
  clear hL1 hk1 hA1
  clear hcd hfd
  go_wp2_with fail
  go_end0
  exact ⟨rfl, (HD1.out.set 4 _), ⟨_, (HL1.out.blk.far (p := ⟨gd, 4, none⟩) hne _)⟩, (HK1.out.setCell (.inl (by simp)) _)⟩

set_option maxHeartbeats 1600000 in
theorem fill_op4 (gl gd : Nat) (A : Option Addr) (n c : Nat) (x1 : List UInt8) (w : World) (hL : IsL w gl A n c [x1] false) (hD : Blk w gd 60 (dC 4 0 0 0 0 0 false)) (hA : ∀ ad, A = some ad → ad.block ≠ gd) (hx1 : x1.length ≤ 1000000) :
    Calls Tryz.prog 60 #[.pointer (some ⟨gl, 0, none⟩), .pointer (some ⟨gd, 0, none⟩)] w (Filled w gl gd ⟨4, 0, 0, ((min (readD x1).1 1048576 : Nat) : Int), 0, 0, false⟩ (false || (readD x1).2 != 0)) := by
  have hne : gl ≠ gd := hL.blk.ne hD (by decide)
  have hcd := hD.cell
  have hfd := hD.frozen
  have HD0 := Lib.hid hD
  have HL0 := Lib.hid hL
  have HA := Lib.hid hA
  have HK0 := Lib.hid (Kept.refl [gl, gd] w)
  have HC1 : Hid (∀ A n c ws bad w, IsL w gl A n c (x1 :: ws) bad → Calls Tryz.prog 84 #[.pointer (some ⟨gl, 0, none⟩)] w fun e w' => e = .returned (.int .i64 (((min (readD x1).1 1048576) : Nat) : Int)) ∧ LGoes w gl A ws (bad || ((readD x1).2 != 0)) w') := fun A n c ws bad w h => small_any gl A n c x1 ws bad w h hx1
  generalize min (readD x1).1 1048576 = v1 at *
  generalize ((readD x1).2 != 0) = b1 at *
  clear hL hD hA
  go_enter Tryz.func60, Tryz.ntmps60
  go_wp2_with fail
  refine (HC1.out _ _ _ _ _ _ HL0.out).mono ?_
  rintro e1 w1 ⟨rfl, A1, n1, c1, hL1, hk1, hA1⟩
  have HD1 := Lib.hid (HD0.out.kept hk1 (by simpa using Ne.symm hne))
  have HK1 := Lib.hid (HK0.out.trans (hk1.mono (by simp)))
  have HA1 : Hid (∀ ad, A1 = some ad → ad.block ≠ gd) := fun ad e => by obtain ⟨a0, e0, b0⟩ := hA1 ad e; rw [b0]; exact HA.out a0 e0
  have HL1 := Lib.hid hL1
  have hcd1 := HD1.out.cell
  have hfd1 := HD1.out.frozen
  clear hL1 hk1 hA1
  clear hcd hfd
  go_wp2_with fail
  go_end0
  exact ⟨rfl, (HD1.out.set 3 _), ⟨_, (HL1.out.blk.far (p := ⟨gd, 3, none⟩) hne _)⟩, (HK1.out.setCell (.inl (by simp)) _)⟩

set_option maxHeartbeats 1600000 in
theorem fill_op5 (gl gd : Nat) (A : Option Addr) (n c : Nat) (w : World) (hL : IsL w gl A n c [] false) (hD : Blk w gd 60 (dC 5 0 0 0 0 0 false)) (hA : ∀ ad, A = some ad → ad.block ≠ gd) :
    Calls Tryz.prog 60 #[.pointer (some ⟨gl, 0, none⟩), .pointer (some ⟨gd, 0, none⟩)] w (Filled w gl gd ⟨5, 0, 0, 0, 0, 0, false⟩ false) := by
  have hne : gl ≠ gd := hL.blk.ne hD (by decide)
  have hcd := hD.cell
  have hfd := hD.frozen
  have HD0 := Lib.hid hD
  have HL0 := Lib.hid hL
  have HA := Lib.hid hA
  have HK0 := Lib.hid (Kept.refl [gl, gd] w)
  clear hL hD hA
  go_enter Tryz.func60, Tryz.ntmps60
  go_wp2_with fail
  ((try simp only [Exit.inBlock, Exit.then]); refine bodyPost_ret (results_none rfl _ _ _) rfl ?_)
  exact ⟨rfl, HD0.out, ⟨_, HL0.out.blk⟩, HK0.out⟩

set_option maxHeartbeats 1600000 in
theorem fill_op6 (gl gd : Nat) (A : Option Addr) (n c : Nat) (x1 : List UInt8) (w : World) (hL : IsL w gl A n c [x1] false) (hD : Blk w gd 60 (dC 6 0 0 0 0 0 false)) (hA : ∀ ad, A = some ad → ad.block ≠ gd) (hx1 : x1.length ≤ 1000000) :
    Calls Tryz.prog 60 #[.pointer (some ⟨gl, 0, none⟩), .pointer (some ⟨gd, 0, none⟩)] w (Filled w gl gd ⟨6, 0, 0, 0, (readD x1).1, 0, false⟩ (false || (readD x1).2 != 0)) := by
  have hne : gl ≠ gd := hL.blk.ne hD (by decide)
  have hcd := hD.cell
  have hfd := hD.frozen
  have HD0 := Lib.hid hD
  have HL0 := Lib.hid hL
  have HA := Lib.hid hA
  have HK0 := Lib.hid (Kept.refl [gl, gd] w)
  have HC1 : Hid (∀ A n c ws bad w, IsL w gl A n c (x1 :: ws) bad → Calls Tryz.prog 83 #[.pointer (some ⟨gl, 0, none⟩)] w fun e w' => e = .returned (.int .u64 (((readD x1).1 : Nat) : Int)) ∧ LGoes w gl A ws (bad || ((readD x1).2 != 0)) w') := fun A n c ws bad w h => num_any gl A n c x1 ws bad w h hx1
  generalize (readD x1).1 = v1 at *
  generalize ((readD x1).2 != 0) = b1 at *
  clear hL hD hA
  go_enter Tryz.func60, Tryz.ntmps60
  go_wp2_with fail
  refine (HC1.out _ _ _ _ _ _ HL0.out).mono ?_
  rintro e1 w1 ⟨rfl, A1, n1, c1, hL1, hk1, hA1⟩
  have HD1 := Lib.hid (HD0.out.kept hk1 (by simpa using Ne.symm hne))
  have HK1 := Lib.hid (HK0.out.trans (hk1.mono (by simp)))
  have HA1 : Hid (∀ ad, A1 = some ad → ad.block ≠ gd) := fun ad e => by obtain ⟨a0, e0, b0⟩ := hA1 ad e; rw [b0]; exact HA.out a0 e0
  have HL1 := Lib.hid hL1
  have hcd1 := HD1.out.cell
  have hfd1 := HD1.out.frozen
  clear hL1 hk1 hA1
  clear hcd hfd
  go_wp2_with fail
  go_end0
  exact ⟨rfl, (HD1.out.set 4 _), ⟨_, (HL1.out.blk.far (p := ⟨gd, 4, none⟩) hne _)⟩, (HK1.out.setCell (.inl (by simp)) _)⟩

set_option maxHeartbeats 1600000 in
theorem fill_op7 (gl gd : Nat) (A : Option Addr) (n c : Nat) (x1 x2 : List UInt8) (w : World) (hL : IsL w gl A n c [x1, x2] false) (hD : Blk w gd 60 (dC 7 0 0 0 0 0 false)) (hA : ∀ ad, A = some ad → ad.block ≠ gd) (hx1 : x1.length ≤ 1000000) (hx2 : x2.length ≤ 1000000) :
    Calls Tryz.prog 60 #[.pointer (some ⟨gl, 0, none⟩), .pointer (some ⟨gd, 0, none⟩)] w (Filled w gl gd ⟨7, 0, 0, ((min (readD x1).1 1048576 : Nat) : Int), 0, (readH x2).1, false⟩ ((false || (readD x1).2 != 0) || (readH x2).2 != 0)) := by
  have hne : gl ≠ gd := hL.blk.ne hD (by decide)
  have hcd := hD.cell
  have hfd := hD.frozen
  have HD0 := Lib.hid hD
  have HL0 := Lib.hid hL
  have HA := Lib.hid hA
  have HK0 := Lib.hid (Kept.refl [gl, gd] w)
  have HC1 : Hid (∀ A n c ws bad w, IsL w gl A n c (x1 :: ws) bad → Calls Tryz.prog 84 #[.pointer (some ⟨gl, 0, none⟩)] w fun e w' => e = .returned (.int .i64 (((min (readD x1).1 1048576) : Nat) : Int)) ∧ LGoes w gl A ws (bad || ((readD x1).2 != 0)) w') := fun A n c ws bad w h => small_any gl A n c x1 ws bad w h hx1
  have HC2 : Hid (∀ A n c ws bad w, IsL w gl A n c (x2 :: ws) bad → Calls Tryz.prog 85 #[.pointer (some ⟨gl, 0, none⟩)] w fun e w' => e = .returned (.int .u64 (((readH x2).1 : Nat) : Int)) ∧ LGoes w gl A ws (bad || ((readH x2).2 != 0)) w') := fun A n c ws bad w h => hexw_any gl A n c x2 ws bad w h hx2
  generalize min (readD x1).1 1048576 = v1 at *
  generalize ((readD x1).2 != 0) = b1 at *
  generalize (readH x2).1 = v2 at *
  generalize ((readH x2).2 != 0) = b2 at *
  clear hL hD hA
  go_enter Tryz.func60, Tryz.ntmps60
  go_wp2_with fail
  refine (HC1.out _ _ _ _ _ _ HL0.out).mono ?_
  rintro e1 w1 ⟨rfl, A1, n1, c1, hL1, hk1, hA1⟩
  have HD1 := Lib.hid (HD0.out.kept hk1 (by simpa using Ne.symm hne))
  have HK1 := Lib.hid (HK0.out.trans (hk1.mono (by simp)))
  have HA1 : Hid (∀ ad, A1 = some ad → ad.block ≠ gd) := fun ad e => by obtain ⟨a0, e0, b0⟩ := hA1 ad e; rw [b0]; exact HA.out a0 e0
  have HL1 := Lib.hid hL1
  have hcd1 := HD1.out.cell
  have hfd1 := HD1.out.frozen
  clear hL1 hk1 hA1
  clear hcd hfd
  go_wp2_with fail
  refine (HC2.out _ _ _ _ _ _ HL1.out).mono ?_
  rintro e2 w2 ⟨rfl, A2, n2, c2, hL2, hk2, hA2⟩
  have HD2 := Lib.hid (HD1.out.kept hk2 (by simpa using Ne.symm hne))
  have HK2 := Lib.hid (HK1.out.trans (hk2.mono (by simp)))
  have HA2 : Hid (∀ ad, A2 = some ad → ad.block ≠ gd) := fun ad e => by obtain ⟨a0, e0, b0⟩ := hA2 ad e; rw [b0]; exact HA1.out a0 e0
  have HL2 := Lib.hid hL2
  have hcd2 := HD2.out.cell
  have hfd2 := HD2.out.frozen
  clear hL2 hk2 hA2
  clear hcd1 hfd1
  go_wp2_with fail
  go_end0
  exact ⟨rfl, ((HD2.out.set 3 _).set 5 _), ⟨_, ((HL2.out.blk.far (p := ⟨gd, 3, none⟩) hne _).far (p := ⟨gd, 5, none⟩) hne _)⟩, ((HK2.out.setCell (.inl (by simp)) _).setCell (.inl (by simp)) _)⟩

set_option maxHeartbeats 1600000 in
theorem fill_op8 (gl gd : Nat) (A : Option Addr) (n c : Nat) (x1 x2 : List UInt8) (w : World) (hL : IsL w gl A n c [x1, x2] false) (hD : Blk w gd 60 (dC 8 0 0 0 0 0 false)) (hA : ∀ ad, A = some ad → ad.block ≠ gd) (hx1 : x1.length ≤ 1000000) (hx2 : x2.length ≤ 1000000) :
    Calls Tryz.prog 60 #[.pointer (some ⟨gl, 0, none⟩), .pointer (some ⟨gd, 0, none⟩)] w (Filled w gl gd ⟨8, 0, ((min (readD x2).1 1048576 : Nat) : Int), ((min (readD x1).1 1048576 : Nat) : Int), 0, 0, false⟩ ((false || (readD x1).2 != 0) || (readD x2).2 != 0)) := by
  have hne : gl ≠ gd := hL.blk.ne hD (by decide)
  have hcd := hD.cell
  have hfd := hD.frozen
  have HD0 := Lib.hid hD
  have HL0 := Lib.hid hL
  have HA := Lib.hid hA
  have HK0 := Lib.hid (Kept.refl [gl, gd] w)
  have HC1 : Hid (∀ A n c ws bad w, IsL w gl A n c (x1 :: ws) bad → Calls Tryz.prog 84 #[.pointer (some ⟨gl, 0, none⟩)] w fun e w' => e = .returned (.int .i64 (((min (readD x1).1 1048576) : Nat) : Int)) ∧ LGoes w gl A ws (bad || ((readD x1).2 != 0)) w') := fun A n c ws bad w h => small_any gl A n c x1 ws bad w h hx1
  have HC2 : Hid (∀ A n c ws bad w, IsL w gl A n c (x2 :: ws) bad → Calls Tryz.prog 84 #[.pointer (some ⟨gl, 0, none⟩)] w fun e w' => e = .returned (.int .i64 (((min (readD x2).1 1048576) : Nat) : Int)) ∧ LGoes w gl A ws (bad || ((readD x2).2 != 0)) w') := fun A n c ws bad w h => small_any gl A n c x2 ws bad w h hx2
  generalize min (readD x1).1 1048576 = v1 at *
  generalize ((readD x1).2 != 0) = b1 at *
  generalize min (readD x2).1 1048576 = v2 at *
  generalize ((readD x2).2 != 0) = b2 at *
  clear hL hD hA
  go_enter Tryz.func60, Tryz.ntmps60
  go_wp2_with fail
  refine (HC1.out _ _ _ _ _ _ HL0.out).mono ?_
  rintro e1 w1 ⟨rfl, A1, n1, c1, hL1, hk1, hA1⟩
  have HD1 := Lib.hid (HD0.out.kept hk1 (by simpa using Ne.symm hne))
  have HK1 := Lib.hid (HK0.out.trans (hk1.mono (by simp)))
  have HA1 : Hid (∀ ad, A1 = some ad → ad.block ≠ gd) := fun ad e => by obtain ⟨a0, e0, b0⟩ := hA1 ad e; rw [b0]; exact HA.out a0 e0
  have HL1 := Lib.hid hL1
  have hcd1 := HD1.out.cell
  have hfd1 := HD1.out.frozen
  clear hL1 hk1 hA1
  clear hcd hfd
  go_wp2_with fail
  refine (HC2.out _ _ _ _ _ _ HL1.out).mono ?_
  rintro e2 w2 ⟨rfl, A2, n2, c2, hL2, hk2, hA2⟩
  have HD2 := Lib.hid (HD1.out.kept hk2 (by simpa using Ne.symm hne))
  have HK2 := Lib.hid (HK1.out.trans (hk2.mono (by simp)))
  have HA2 : Hid (∀ ad, A2 = some ad → ad.block ≠ gd) := fun ad e => by obtain ⟨a0, e0, b0⟩ := hA2 ad e; rw [b0]; exact HA1.out a0 e0
  have HL2 := Lib.hid hL2
  have hcd2 := HD2.out.cell
  have hfd2 := HD2.out.frozen
  clear hL2 hk2 hA2
  clear hcd1 hfd1
  go_wp2_with fail
  go_end0
  exact ⟨rfl, ((HD2.out.set 3 _).set 2 _), ⟨_, ((HL2.out.blk.far (p := ⟨gd, 3, none⟩) hne _).far (p := ⟨gd, 2, none⟩) hne _)⟩, ((HK2.out.setCell (.inl (by simp)) _).setCell (.inl (by simp)) _)⟩

set_option maxHeartbeats 1600000 in
theorem fill_op9 (gl gd : Nat) (A : Option Addr) (n c : Nat) (x1 : List UInt8) (w : World) (hL : IsL w gl A n c [x1] false) (hD : Blk w gd 60 (dC 9 0 0 0 0 0 false)) (hA : ∀ ad, A = some ad → ad.block ≠ gd) (hx1 : x1.length ≤ 1000000) :
    Calls Tryz.prog 60 #[.pointer (some ⟨gl, 0, none⟩), .pointer (some ⟨gd, 0, none⟩)] w (Filled w gl gd ⟨9, ((min (readD x1).1 1048576 : Nat) : Int), 0, 0, 0, 0, false⟩ (false || (readD x1).2 != 0)) := by
  have hne : gl ≠ gd := hL.blk.ne hD (by decide)
  have hcd := hD.cell
  have hfd := hD.frozen
  have HD0 := Lib.hid hD
  have HL0 := Lib.hid hL
  have HA := Lib.hid hA
  have HK0 := Lib.hid (Kept.refl [gl, gd] w)
  have HC1 : Hid (∀ A n c ws bad w, IsL w gl A n c (x1 :: ws) bad → Calls Tryz.prog 84 #[.pointer (some ⟨gl, 0, none⟩)] w fun e w' => e = .returned (.int .i64 (((min (readD x1).1 1048576) : Nat) : Int)) ∧ LGoes w gl A ws (bad || ((readD x1).2 != 0)) w') := fun A n c ws bad w h => small_any gl A n c x1 ws bad w h hx1
  generalize min (readD x1).1 1048576 = v1 at *
  generalize ((readD x1).2 != 0) = b1 at *
  clear hL hD hA
  go_enter Tryz.func60, Tryz.ntmps60
  go_wp2_with fail
  refine (HC1.out _ _ _ _ _ _ HL0.out).mono ?_
  rintro e1 w1 ⟨rfl, A1, n1, c1, hL1, hk1, hA1⟩
  have HD1 := Lib.hid (HD0.out.kept hk1 (by simpa using Ne.symm hne))
  have HK1 := Lib.hid (HK0.out.trans (hk1.mono (by simp)))
  have HA1 : Hid (∀ ad, A1 = some ad → ad.block ≠ gd) := fun ad e => by obtain ⟨a0, e0, b0⟩ := hA1 ad e; rw [b0]; exact HA.out a0 e0
  have HL1 := Lib.hid hL1
  have hcd1 := HD1.out.cell
  have hfd1 := HD1.out.frozen
  clear hL1 hk1 hA1
  clear hcd hfd
  go_wp2_with fail
  go_end0
  exact ⟨rfl, (HD1.out.set 1 _), ⟨_, (HL1.out.blk.far (p := ⟨gd, 1, none⟩) hne _)⟩, (HK1.out.setCell (.inl (by simp)) _)⟩

set_option maxHeartbeats 1600000 in
theorem fill_op10 (gl gd : Nat) (A : Option Addr) (n c : Nat) (x1 x2 : List UInt8) (w : World) (hL : IsL w gl A n c [x1, x2] false) (hD : Blk w gd 60 (dC 10 0 0 0 0 0 false)) (hA : ∀ ad, A = some ad → ad.block ≠ gd) (hx1 : x1.length ≤ 1000000) (hx2 : x2.length ≤ 1000000) :
    Calls Tryz.prog 60 #[.pointer (some ⟨gl, 0, none⟩), .pointer (some ⟨gd, 0, none⟩)] w (Filled w gl gd ⟨10, ((min (readD x1).1 1048576 : Nat) : Int), 0, 0, (readD x2).1, 0, false⟩ ((false || (readD x1).2 != 0) || (readD x2).2 != 0)) := by
  have hne : gl ≠ gd := hL.blk.ne hD (by decide)
  have hcd := hD.cell
  have hfd := hD.frozen
  have HD0 := Lib.hid hD
  have HL0 := Lib.hid hL
  have HA := Lib.hid hA
  have HK0 := Lib.hid (Kept.refl [gl, gd] w)
  have HC1 : Hid (∀ A n c ws bad w, IsL w gl A n c (x1 :: ws) bad → Calls Tryz.prog 84 #[.pointer (some ⟨gl, 0, none⟩)] w fun e w' => e = .returned (.int .i64 (((min (readD x1).1 1048576) : Nat) : Int)) ∧ LGoes w gl A ws (bad || ((readD x1).2 != 0)) w') := fun A n c ws bad w h => small_any gl A n c x1 ws bad w h hx1
  have HC2 : Hid (∀ A n c ws bad w, IsL w gl A n c (x2 :: ws) bad → Calls Tryz.prog 83 #[.pointer (some ⟨gl, 0, none⟩)] w fun e w' => e = .returned (.int .u64 (((readD x2).1 : Nat) : Int)) ∧ LGoes w gl A ws (bad || ((readD x2).2 != 0)) w') := fun A n c ws bad w h => num_any gl A n c x2 ws bad w h hx2
  generalize min (readD x1).1 1048576 = v1 at *
  generalize ((readD x1).2 != 0) = b1 at *
  generalize (readD x2).1 = v2 at *
  generalize ((readD x2).2 != 0) = b2 at *
  clear hL hD hA
  go_enter Tryz.func60, Tryz.ntmps60
  go_wp2_with fail
  refine (HC1.out _ _ _ _ _ _ HL0.out).mono ?_
  rintro e1 w1 ⟨rfl, A1, n1, c1, hL1, hk1, hA1⟩
  have HD1 := Lib.hid (HD0.out.kept hk1 (by simpa using Ne.symm hne))
  have HK1 := Lib.hid (HK0.out.trans (hk1.mono (by simp)))
  have HA1 : Hid (∀ ad, A1 = some ad → ad.block ≠ gd) := fun ad e => by obtain ⟨a0, e0, b0⟩ := hA1 ad e; rw [b0]; exact HA.out a0 e0
  have HL1 := Lib.hid hL1
  have hcd1 := HD1.out.cell
  have hfd1 := HD1.out.frozen
  clear hL1 hk1 hA1
  clear hcd hfd
  go_wp2_with fail
  refine (HC2.out _ _ _ _ _ _ HL1.out).mono ?_
  rintro e2 w2 ⟨rfl, A2, n2, c2, hL2, hk2, hA2⟩
  have HD2 := Lib.hid (HD1.out.kept hk2 (by simpa using Ne.symm hne))
  have HK2 := Lib.hid (HK1.out.trans (hk2.mono (by simp)))
  have HA2 : Hid (∀ ad, A2 = some ad → ad.block ≠ gd) := fun ad e => by obtain ⟨a0, e0, b0⟩ := hA2 ad e; rw [b0]; exact HA1.out a0 e0
  have HL2 := Lib.hid hL2
  have hcd2 := HD2.out.cell
  have hfd2 := HD2.out.frozen
  clear hL2 hk2 hA2
  clear hcd1 hfd1
  go_wp2_with fail
  go_end0
  exact ⟨rfl, ((HD2.out.set 1 _).set 4 _), ⟨_, ((HL2.out.blk.far (p := ⟨gd, 1, none⟩) hne _).far (p := ⟨gd, 4, none⟩) hne _)⟩, ((HK2.out.setCell (.inl (by simp)) _).setCell (.inl (by simp)) _)⟩

set_option maxHeartbeats 1600000 in
theorem fill_op11 (gl gd : Nat) (A : Option Addr) (n c : Nat) (x1 : List UInt8) (w : World) (hL : IsL w gl A n c [x1] false) (hD : Blk w gd 60 (dC 11 0 0 0 0 0 false)) (hA : ∀ ad, A = some ad → ad.block ≠ gd) (hx1 : x1.length ≤ 1000000) :
    Calls Tryz.prog 60 #[.pointer (some ⟨gl, 0, none⟩), .pointer (some ⟨gd, 0, none⟩)] w (Filled w gl gd ⟨11, ((min (readD x1).1 1048576 : Nat) : Int), 0, 0, 0, 0, false⟩ (false || (readD x1).2 != 0)) := by
  have hne : gl ≠ gd := hL.blk.ne hD (by decide)
  have hcd := hD.cell
  have hfd := hD.frozen
  have HD0 := Lib.hid hD
  have HL0 := Lib.hid hL
  have HA := Lib.hid hA
  have HK0 := Lib.hid (Kept.refl [gl, gd] w)
  have HC1 : Hid (∀ A n c ws bad w, IsL w gl A n c (x1 :: ws) bad → Calls Tryz.prog 84 #[.pointer (some ⟨gl, 0, none⟩)] w fun e w' => e = .returned (.int .i64 (((min (readD x1).1 1048576) : Nat) : Int)) ∧ LGoes w gl A ws (bad || ((readD x1).2 != 0)) w') := fun A n c ws bad w h => small_any gl A n c x1 ws bad w h hx1
  generalize min (readD x1).1 1048576 = v1 at *
  generalize ((readD x1).2 != 0) = b1 at *
  clear hL hD hA
  go_enter Tryz.func60, Tryz.ntmps60
  go_wp2_with fail
  refine (HC1.out _ _ _ _ _ _ HL0.out).mono ?_
  rintro e1 w1 ⟨rfl, A1, n1, c1, hL1, hk1, hA1⟩
  have HD1 := Lib.hid (HD0.out.kept hk1 (by simpa using Ne.symm hne))
  have HK1 := Lib.hid (HK0.out.trans (hk1.mono (by simp)))
  have HA1 : Hid (∀ ad, A1 = some ad → ad.block ≠ gd) := fun ad e => by obtain ⟨a0, e0, b0⟩ := hA1 ad e; rw [b0]; exact HA.out a0 e0
  have HL1 := Lib.hid hL1
  have hcd1 := HD1.out.cell
  have hfd1 := HD1.out.frozen
  clear hL1 hk1 hA1
  clear hcd hfd
  go_wp2_with fail
  go_end0
  exact ⟨rfl, (HD1.out.set 1 _), ⟨_, (HL1.out.blk.far (p := ⟨gd, 1, none⟩) hne _)⟩, (HK1.out.setCell (.inl (by simp)) _)⟩

end Go.Proofs.YtladfdpcdjjifaaGreatDoor
