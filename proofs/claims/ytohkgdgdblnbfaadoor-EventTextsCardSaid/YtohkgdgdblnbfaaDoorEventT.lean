/- Package event: the pieces of Parse. -/
import Derived.Test.YtohkgdgdblnbfaaDoorEventPP
import Derived.Deep.QuietTactic
import Derived.BigQuiet
namespace Go.Proofs.YtohkgdgdblnbfaaDoor
open Go.RowKit

/-- A line's words at block g, and what is wrong first. -/
structure IsP (w : World) (g : Nat) (A : Option Addr) (n c : Nat) (ws : List (List UInt8)) (er : Int) : Prop where
  blk : Blk w g 65 #[.slice A n c, .int .i64 er]
  reads : Reads w 1 A n (ws.map strV)
  far : ∀ ad, A = some ad → ad.block ≠ g
theorem IsP.len {w : World} {g : Nat} {A : Option Addr} {n c : Nat} {ws : List (List UInt8)} {er : Int} (h : IsP w g A n c ws er) : n = ws.length := by have := h.reads.1; simpa using this.symm
theorem IsP.old {w w' : World} {g : Nat} {A : Option Addr} {n c : Nat} {ws : List (List UInt8)} {er : Int} (h : IsP w g A n c ws er) (hk : Kept [] w w') : IsP w' g A n c ws er :=
  ⟨h.blk.kept hk (by simp), h.reads.old hk, h.far⟩
theorem IsP.set {w : World} {g : Nat} {A : Option Addr} {n c : Nat} {ws : List (List UInt8)} {er : Int} (h : IsP w g A n c ws er) (e : Int) : IsP (w.setCell ⟨g, 1, none⟩ (.int .i64 e)) g A n c ws e :=
  ⟨h.blk.set 1 _, h.reads.kept ((Kept.refl [g] w).setCell (.inl (by simp)) _) (fun ad e => by simpa using h.far ad e), h.far⟩
/-- The words at g are as they were, and this is wrong now. -/
def PGoes (w : World) (g : Nat) (A : Option Addr) (n c : Nat) (ws : List (List UInt8)) (er : Int) (w' : World) : Prop := IsP w' g A n c ws er ∧ Kept [g] w w'

set_option maxHeartbeats 800000 in
theorem pbad_any (g : Nat) (A : Option Addr) (n c : Nat) (ws : List (List UInt8)) (er e0 : Int) (w : World) (h : IsP w g A n c ws er) (h0 : e0 ≠ 0) :
    Calls Tryd.prog 63 #[.pointer (some ⟨g, 0, none⟩), .int .i64 e0] w fun e w' => e = .returned (.tuple #[]) ∧ PGoes w g A n c ws (addE er e0) w' := by
  have hc := h.blk.cell
  have hf := h.blk.frozen
  have H := Lib.hid h
  have e1 : addE er e0 = if er = 0 ∨ e0 = 3 then e0 else er := by rw [addE, if_neg h0]
  have E1 := Lib.hid e1
  clear h e1
  by_cases h1 : er = 0
  · have b1 : (er == 0) = true := beq_iff_eq.2 h1
    have HV : Hid (addE er e0 = e0) := by rw [Hid, E1.out, if_pos (.inl h1)]
    clear E1 h1
    go_enter Tryd.func63, Tryd.ntmps63
    go_wp2_with fail
    go_end0
    exact ⟨rfl, by rw [HV.out]; exact ⟨H.out.set e0, (Kept.refl _ _).setCell (.inl (by simp)) _⟩⟩
  · have b1 : (er == 0) = false := beq_eq_false_iff_ne.2 h1
    by_cases h2 : e0 = 3
    · have b2 : (e0 == 3) = true := beq_iff_eq.2 h2
      have HV : Hid (addE er e0 = e0) := by rw [Hid, E1.out, if_pos (.inr h2)]
      clear E1 h1 h2 h0
      go_enter Tryd.func63, Tryd.ntmps63
      go_wp2_with fail
      go_end0
      exact ⟨rfl, by rw [HV.out]; exact ⟨H.out.set e0, (Kept.refl _ _).setCell (.inl (by simp)) _⟩⟩
    · have b2 : (e0 == 3) = false := beq_eq_false_iff_ne.2 h2
      have HV : Hid (addE er e0 = er) := by rw [Hid, E1.out, if_neg (by omega)]
      clear E1 h1 h2 h0
      go_enter Tryd.func63, Tryd.ntmps63
      go_wp2_with fail
      go_end0
      exact ⟨rfl, by rw [HV.out]; exact ⟨H.out, Kept.refl _ _⟩⟩

set_option maxHeartbeats 1600000 in
theorem pnum_any (g : Nat) (A : Option Addr) (n c : Nat) (ws : List (List UInt8)) (er : Int) (k : Nat) (x : List UInt8) (most : Nat) (w : World) (h : IsP w g A n c ws er) (hx : ws[k]? = some x) (hxl : x.length ≤ 1000000) (hws : ws.length ≤ 100000) (_ : most < 18446744073709551616) :
    Calls Tryd.prog 45 #[.pointer (some ⟨g, 0, none⟩), .int .i64 k, .int .u64 most] w fun e w' => e = .returned (.int .u64 (numE x most).1) ∧ PGoes w g A n c ws (addE er (numE x most).2) w' := by
  have hlen := h.len
  have hkl : k < ws.length := (List.getElem?_eq_some_iff.1 hx).1
  obtain ⟨b, o, rfl, hlt, hcell⟩ := h.reads.addr (by omega) (by omega)
  have hc0 := hcell k (strV x) (by rw [List.getElem?_map, hx]; rfl)
  have hc := h.blk.cell
  have H := Lib.hid h
  have HR := Lib.hid (fun w => read_any x w (by omega))
  have hi0 : (0 : Int) ≤ (k : Int) := by omega
  have hi1 : (k : Int) < (n : Int) := by omega
  have HBAD := Lib.hid (fun e0 w h h0 => pbad_any g (some ⟨b, o, none⟩) n c ws er e0 w h h0)
  have HN : Hid (numE x most = if (readD x).2 ≠ 0 then (0, (readD x).2) else if most < (readD x).1 then (0, 5) else ((readD x).1, 0)) := rfl
  have hrl := readD_lt x
  generalize readD x = r at *
  obtain ⟨v, ec⟩ := r
  simp only at HR HN hrl
  clear h hcell hlen hx
  by_cases h1 : ec = 0
  · subst h1
    by_cases h2 : most < v
    · have HN2 : Hid (numE x most = (0, 5)) := by rw [Hid, HN.out, if_neg (by simp), if_pos h2]
      generalize numE x most = nm at *
      clear HN
      go_enter Tryd.func45, Tryd.ntmps45
      go_wp2_with fail
      refine (HR.out _).mono ?_
      rintro e w1 ⟨rfl, hk1⟩
      have H1 := Lib.hid (H.out.old hk1)
      have hc1 := H1.out.blk.cell
      have HK1 := Lib.hid hk1
      clear hk1
      go_wp2_with fail
      refine (HBAD.out 5 _ H1.out (by omega)).mono ?_
      rintro e w2 ⟨rfl, hg⟩
      have HG := Lib.hid hg
      clear hg
      go_wp2_with fail
      go_ret
      exact ⟨by rw [HN2.out]; rfl, by rw [HN2.out]; exact ⟨HG.out.1, (HK1.out.mono (by simp)).trans HG.out.2⟩⟩
    · have HN2 : Hid (numE x most = (v, 0)) := by rw [Hid, HN.out, if_neg (by simp), if_neg h2]
      generalize numE x most = nm at *
      clear HN
      go_enter Tryd.func45, Tryd.ntmps45
      go_wp2_with fail
      refine (HR.out _).mono ?_
      rintro e w1 ⟨rfl, hk1⟩
      have H1 := Lib.hid (H.out.old hk1)
      have hc1 := H1.out.blk.cell
      have HK1 := Lib.hid hk1
      clear hk1
      go_wp2_with fail
      go_ret
      exact ⟨by rw [HN2.out]; rfl, by rw [HN2.out]; exact ⟨H1.out, HK1.out.mono (by simp)⟩⟩
  · have hb : (ec != 0) = true := by rw [bne_iff_ne]; exact h1
    have HN2 : Hid (numE x most = (0, ec)) := by rw [Hid, HN.out, if_pos h1]
    generalize numE x most = nm at *
    have H0 := Lib.hid h1
    clear HN h1
    go_enter Tryd.func45, Tryd.ntmps45
    go_wp2_with fail
    refine (HR.out _).mono ?_
    rintro e w1 ⟨rfl, hk1⟩
    have H1 := Lib.hid (H.out.old hk1)
    have hc1 := H1.out.blk.cell
    have HK1 := Lib.hid hk1
    clear hk1
    go_wp2_with fail
    refine (HBAD.out ec _ H1.out H0.out).mono ?_
    rintro e w2 ⟨rfl, hg⟩
    have HG := Lib.hid hg
    clear hg
    go_wp2_with fail
    go_ret
    exact ⟨by rw [HN2.out]; rfl, by rw [HN2.out]; exact ⟨HG.out.1, (HK1.out.mono (by simp)).trans HG.out.2⟩⟩

end Go.Proofs.YtohkgdgdblnbfaaDoor
