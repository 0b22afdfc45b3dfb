/- Package event: the number of a name among a line's words. -/
import Derived.Test.YtohkgdgdblnbfaaDoorEventT
import Derived.Deep.RegionHeld3
import Derived.Deep.DrawnRows
namespace Go.Proofs.YtohkgdgdblnbfaaDoor
open Go.RowKit

set_option maxHeartbeats 1600000 in
theorem pone_eName (D : Int → List UInt8) (hD : ∀ k w, Calls Tryd.prog 22 #[.int .i64 k] w fun e w' => e = .returned (strV (D k)) ∧ Kept [] w w') (fr tt : Nat) (ht : tt ≤ 100) (hft : fr ≤ tt)
    (g : Nat) (A : Option Addr) (n c : Nat) (ws : List (List UInt8)) (er : Int) (q : Nat) (x : List UInt8) (w : World) (h : IsP w g A n c ws er) (hx : ws[q]? = some x) (hws : ws.length ≤ 100000) :
    Calls Tryd.prog 46 #[.pointer (some ⟨g, 0, none⟩), .int .i64 q, .int .i64 fr, .int .i64 tt, .func (.func 22) #[] #[]] w fun e w' =>
      (∃ k : Nat, fr ≤ k ∧ k ≤ tt ∧ D k = x ∧ e = .returned (.int .i64 k) ∧ PGoes w g A n c ws er w') ∨ ((∀ j : Nat, fr ≤ j → j ≤ tt → D j ≠ x) ∧ e = .returned (.int .i64 0) ∧ PGoes w g A n c ws (addE er 3) w') := by
  have hlen := h.len
  have hkl : q < ws.length := (List.getElem?_eq_some_iff.1 hx).1
  obtain ⟨b, o, rfl, hlt, hcell⟩ := h.reads.addr (by omega) (by omega)
  have hc0 := hcell q (strV x) (by rw [List.getElem?_map, hx]; rfl)
  have H := Lib.hid h
  have HD := Lib.hid hD
  have hi0 : (0 : Int) ≤ (q : Int) := by omega
  have hi1 : (q : Int) < (n : Int) := by omega
  have HBAD := Lib.hid (fun w h => pbad_any g (some ⟨b, o, none⟩) n c ws er 3 w h (by omega))
  clear h hcell hlen hx hD hkl
  go_enter Tryd.func46, Tryd.ntmps46
  go_wp2_with fail
  go_loopw [11] (fun kv wr => ∃ k : Nat, fr ≤ k ∧ k ≤ tt + 1 ∧ kv = .int .i64 k ∧ Hid (∀ j : Nat, fr ≤ j → j < k → D j ≠ x) ∧ Hid (Kept [] w wr)) (fun k _ => tt + 1 - (intOf k).toNat)
  case atStart => exact ⟨fr, by omega, by omega, rfl, (fun j h1 h2 => by omega), Kept.refl _ _⟩
  case round =>
    obtain ⟨k, hk1, hk2, rfl, HJ, HK⟩ := hrel
    have HP := Lib.hid (H.out.old HK.out)
    have hc1 : wr.cell? ⟨b, o + q, none⟩ = some (strV x) := HK.out.cell_some hc0 (by simp)
    have hc2 := HP.out.blk.cell
    by_cases hle : k ≤ tt
    · by_cases he : D k = x
      · have hc : ∀ w, Calls Tryd.prog 22 #[.int .i64 k] w fun e w' => e = .returned (strV x) ∧ Kept [] w w' := fun w => by have := HD.out k w; rw [he] at this; exact this
        have HC := Lib.hid hc
        have HE := Lib.hid he
        clear hc he
        go_wp2_with fail
        go_region_held3 (fun w' => w'.cell? ⟨g, 0, none⟩ = some (.slice (some ⟨b, o, none⟩) n c) ∧ w'.cell? ⟨b, o + q, none⟩ = some (strV x)) (go_keep) (first | (go_at_call 22; refine (HC.out _).mono ?_; rintro e w1 ⟨rfl, hk3⟩; have HP := Lib.hid ((show IsP _ _ _ _ _ _ _ from by first | exact HP.out | exact HP.out.old (Kept.refl _ _).drew).old hk3); have hc2 := HP.out.blk.cell; have hc1 := (show Kept [] wr _ from by first | exact hk3 | exact (Kept.refl _ _).drew.trans hk3).cell_some hc1 (by simp); have HK := Lib.hid (HK.out.trans (show Kept [] wr _ from by first | exact hk3 | exact (Kept.refl _ _).drew.trans hk3)); clear hk3))
        all_goals
          go_wp2_with fail
          go_ret
          refine .inl ⟨k, hk1, hle, HE.out, rfl, ?_⟩
          first
            | exact ⟨HP.out, HK.out.mono (by simp)⟩
            | exact ⟨HP.out.old (Kept.refl _ _).drew, HK.out.drew.mono (by simp)⟩
      · obtain ⟨y, hy⟩ : ∃ y, D k = y := ⟨_, rfl⟩
        have hb : (y == x) = false := beq_eq_false_iff_ne.2 (hy ▸ he)
        have hc : ∀ w, Calls Tryd.prog 22 #[.int .i64 k] w fun e w' => e = .returned (strV y) ∧ Kept [] w w' := fun w => by have := HD.out k w; rw [hy] at this; exact this
        have HC := Lib.hid hc
        have HE := Lib.hid he
        clear hc he hy
        go_wp2_with fail
        go_region_held3 (fun w' => w'.cell? ⟨g, 0, none⟩ = some (.slice (some ⟨b, o, none⟩) n c) ∧ w'.cell? ⟨b, o + q, none⟩ = some (strV x)) (go_keep) (first | (go_at_call 22; refine (HC.out _).mono ?_; rintro e w1 ⟨rfl, hk3⟩; have HP := Lib.hid ((show IsP _ _ _ _ _ _ _ from by first | exact HP.out | exact HP.out.old (Kept.refl _ _).drew).old hk3); have hc2 := HP.out.blk.cell; have hc1 := (show Kept [] wr _ from by first | exact hk3 | exact (Kept.refl _ _).drew.trans hk3).cell_some hc1 (by simp); have HK := Lib.hid (HK.out.trans (show Kept [] wr _ from by first | exact hk3 | exact (Kept.refl _ _).drew.trans hk3)); clear hk3))
        all_goals
          go_wp2_with fail
          go_roundw
          case rel => exact ⟨k + 1, by omega, by omega, by go_num, (fun j h1 h2 => by
            rcases Nat.lt_or_ge j k with h3 | h3
            · exact HJ.out j h1 h3
            · obtain rfl : j = k := by omega
              exact HE.out), by first | exact HK.out | exact HK.out.drew⟩
          case measure => simp [intOf]; omega
    · obtain rfl : k = tt + 1 := by omega
      go_wp2_with fail
      refine (HBAD.out _ HP.out).mono ?_
      rintro e w2 ⟨rfl, hg⟩
      have HG := Lib.hid hg
      clear hg
      go_wp2_with fail
      go_ret
      exact .inr ⟨fun j h1 h2 => HJ.out j h1 (by omega), rfl, HG.out.1, (HK.out.mono (by simp)).trans HG.out.2⟩
set_option maxHeartbeats 1600000 in
theorem pone_eop (D : Int → List UInt8) (hD : ∀ k w, Calls Tryd.prog 37 #[.int .i64 k] w fun e w' => e = .returned (strV (D k)) ∧ Kept [] w w') (fr tt : Nat) (ht : tt ≤ 100) (hft : fr ≤ tt)
    (g : Nat) (A : Option Addr) (n c : Nat) (ws : List (List UInt8)) (er : Int) (q : Nat) (x : List UInt8) (w : World) (h : IsP w g A n c ws er) (hx : ws[q]? = some x) (hws : ws.length ≤ 100000) :
    Calls Tryd.prog 46 #[.pointer (some ⟨g, 0, none⟩), .int .i64 q, .int .i64 fr, .int .i64 tt, .func (.func 37) #[] #[]] w fun e w' =>
      (∃ k : Nat, fr ≤ k ∧ k ≤ tt ∧ D k = x ∧ e = .returned (.int .i64 k) ∧ PGoes w g A n c ws er w') ∨ ((∀ j : Nat, fr ≤ j → j ≤ tt → D j ≠ x) ∧ e = .returned (.int .i64 0) ∧ PGoes w g A n c ws (addE er 3) w') := by
  have hlen := h.len
  have hkl : q < ws.length := (List.getElem?_eq_some_iff.1 hx).1
  obtain ⟨b, o, rfl, hlt, hcell⟩ := h.reads.addr (by omega) (by omega)
  have hc0 := hcell q (strV x) (by rw [List.getElem?_map, hx]; rfl)
  have H := Lib.hid h
  have HD := Lib.hid hD
  have hi0 : (0 : Int) ≤ (q : Int) := by omega
  have hi1 : (q : Int) < (n : Int) := by omega
  have HBAD := Lib.hid (fun w h => pbad_any g (some ⟨b, o, none⟩) n c ws er 3 w h (by omega))
  clear h hcell hlen hx hD hkl
  go_enter Tryd.func46, Tryd.ntmps46
  go_wp2_with fail
  go_loopw [11] (fun kv wr => ∃ k : Nat, fr ≤ k ∧ k ≤ tt + 1 ∧ kv = .int .i64 k ∧ Hid (∀ j : Nat, fr ≤ j → j < k → D j ≠ x) ∧ Hid (Kept [] w wr)) (fun k _ => tt + 1 - (intOf k).toNat)
  case atStart => exact ⟨fr, by omega, by omega, rfl, (fun j h1 h2 => by omega), Kept.refl _ _⟩
  case round =>
    obtain ⟨k, hk1, hk2, rfl, HJ, HK⟩ := hrel
    have HP := Lib.hid (H.out.old HK.out)
    have hc1 : wr.cell? ⟨b, o + q, none⟩ = some (strV x) := HK.out.cell_some hc0 (by simp)
    have hc2 := HP.out.blk.cell
    by_cases hle : k ≤ tt
    · by_cases he : D k = x
      · have hc : ∀ w, Calls Tryd.prog 37 #[.int .i64 k] w fun e w' => e = .returned (strV x) ∧ Kept [] w w' := fun w => by have := HD.out k w; rw [he] at this; exact this
        have HC := Lib.hid hc
        have HE := Lib.hid he
        clear hc he
        go_wp2_with fail
        go_region_held3 (fun w' => w'.cell? ⟨g, 0, none⟩ = some (.slice (some ⟨b, o, none⟩) n c) ∧ w'.cell? ⟨b, o + q, none⟩ = some (strV x)) (go_keep) (first | (go_at_call 37; refine (HC.out _).mono ?_; rintro e w1 ⟨rfl, hk3⟩; have HP := Lib.hid ((show IsP _ _ _ _ _ _ _ from by first | exact HP.out | exact HP.out.old (Kept.refl _ _).drew).old hk3); have hc2 := HP.out.blk.cell; have hc1 := (show Kept [] wr _ from by first | exact hk3 | exact (Kept.refl _ _).drew.trans hk3).cell_some hc1 (by simp); have HK := Lib.hid (HK.out.trans (show Kept [] wr _ from by first | exact hk3 | exact (Kept.refl _ _).drew.trans hk3)); clear hk3))
        all_goals
          go_wp2_with fail
          go_ret
          refine .inl ⟨k, hk1, hle, HE.out, rfl, ?_⟩
          first
            | exact ⟨HP.out, HK.out.mono (by simp)⟩
            | exact ⟨HP.out.old (Kept.refl _ _).drew, HK.out.drew.mono (by simp)⟩
      · obtain ⟨y, hy⟩ : ∃ y, D k = y := ⟨_, rfl⟩
        have hb : (y == x) = false := beq_eq_false_iff_ne.2 (hy ▸ he)
        have hc : ∀ w, Calls Tryd.prog 37 #[.int .i64 k] w fun e w' => e = .returned (strV y) ∧ Kept [] w w' := fun w => by have := HD.out k w; rw [hy] at this; exact this
        have HC := Lib.hid hc
        have HE := Lib.hid he
        clear hc he hy
        go_wp2_with fail
        go_region_held3 (fun w' => w'.cell? ⟨g, 0, none⟩ = some (.slice (some ⟨b, o, none⟩) n c) ∧ w'.cell? ⟨b, o + q, none⟩ = some (strV x)) (go_keep) (first | (go_at_call 37; refine (HC.out _).mono ?_; rintro e w1 ⟨rfl, hk3⟩; have HP := Lib.hid ((show IsP _ _ _ _ _ _ _ from by first | exact HP.out | exact HP.out.old (Kept.refl _ _).drew).old hk3); have hc2 := HP.out.blk.cell; have hc1 := (show Kept [] wr _ from by first | exact hk3 | exact (Kept.refl _ _).drew.trans hk3).cell_some hc1 (by simp); have HK := Lib.hid (HK.out.trans (show Kept [] wr _ from by first | exact hk3 | exact (Kept.refl _ _).drew.trans hk3)); clear hk3))
        all_goals
          go_wp2_with fail
          go_roundw
          case rel => exact ⟨k + 1, by omega, by omega, by go_num, (fun j h1 h2 => by
            rcases Nat.lt_or_ge j k with h3 | h3
            · exact HJ.out j h1 h3
            · obtain rfl : j = k := by omega
              exact HE.out), by first | exact HK.out | exact HK.out.drew⟩
          case measure => simp [intOf]; omega
    · obtain rfl : k = tt + 1 := by omega
      go_wp2_with fail
      refine (HBAD.out _ HP.out).mono ?_
      rintro e w2 ⟨rfl, hg⟩
      have HG := Lib.hid hg
      clear hg
      go_wp2_with fail
      go_ret
      exact .inr ⟨fun j h1 h2 => HJ.out j h1 (by omega), rfl, HG.out.1, (HK.out.mono (by simp)).trans HG.out.2⟩

end Go.Proofs.YtohkgdgdblnbfaaDoor
