/- Package deed: the words of a line, taken one by one. -/
import Derived.Test.YtmhlmoojmdfnfaaDoorDeedP
namespace Go.Proofs.YtmhlmoojmdfnfaaDoor
open Go.RowKit

/-- The words of a line that are not read yet, at block g. -/
structure IsL (w : World) (g : Nat) (A : Option Addr) (n c : Nat) (ws : List (List UInt8)) (bad : Bool) : Prop where
  blk : Blk w g 97 #[.slice A n c, .bool bad]
  reads : Reads w 1 A n (ws.map strV)
  le : n ≤ c
  cap : c ≤ 9223372036854775807
  far : ∀ ad, A = some ad → ad.block ≠ g

theorem IsL.len {w : World} {g : Nat} {A : Option Addr} {n c : Nat} {ws : List (List UInt8)} {bad : Bool} (h : IsL w g A n c ws bad) : n = ws.length := by have := h.reads.1; simpa using this.symm
theorem IsL.kept {w w' : World} {g : Nat} {A : Option Addr} {n c : Nat} {ws : List (List UInt8)} {bad : Bool} {G : List Nat} (h : IsL w g A n c ws bad) (hk : Kept G w w') (hg : g ∉ G) (hA : ∀ ad, A = some ad → ad.block ∉ G) : IsL w' g A n c ws bad :=
  ⟨h.blk.kept hk hg, h.reads.kept hk hA, h.le, h.cap, h.far⟩
theorem IsL.old {w w' : World} {g : Nat} {A : Option Addr} {n c : Nat} {ws : List (List UInt8)} {bad : Bool} (h : IsL w g A n c ws bad) (hk : Kept [] w w') : IsL w' g A n c ws bad := h.kept hk (by simp) (by simp)

/-- The line at g, with its words at A, has turned into one of these words. -/
def LGoes (w : World) (g : Nat) (A : Option Addr) (ws : List (List UInt8)) (bad : Bool) (w' : World) : Prop :=
  ∃ A' n' c', IsL w' g A' n' c' ws bad ∧ Kept [g] w w' ∧ ∀ ad, A' = some ad → ∃ a0, A = some a0 ∧ ad.block = a0.block

theorem ret_int {k : IntKind} {a b : Int} (h : a = b) : Ending.returned (.int k a) = .returned (.int k b) := by rw [h]

set_option maxHeartbeats 800000 in
theorem next_any (g : Nat) (A : Option Addr) (n c : Nat) (x : List UInt8) (ws : List (List UInt8)) (bad : Bool) (w : World) (h : IsL w g A n c (x :: ws) bad) :
    Calls Tryd.prog 126 #[.pointer (some ⟨g, 0, none⟩)] w fun e w' => e = .returned (strV x) ∧ LGoes w g A ws bad w' := by
  have hlen := h.len
  simp only [List.length_cons] at hlen
  have hn1 : 1 ≤ n := by omega
  obtain ⟨b, o, rfl, hlt, hcell⟩ := h.reads.addr (by omega) (by omega)
  have hc0 := hcell 0 (strV x) (by simp)
  rw [Nat.add_zero] at hc0
  have hne := h.far _ rfl
  simp only at hne
  have hc := h.blk.cell
  have hf := h.blk.frozen
  have hle := h.le
  have hcap := h.cap
  have H := Lib.hid h
  have HLEN := Lib.hid hlen
  have hsl := run_cut_lo (P := Tryd.prog) 91 9 (.string ByteArray.empty) 16 Tryd.underlying91 Tryd.info9 (some ⟨b, o, none⟩) n c .i64 1 1 rfl (by omega)
  have hi0 : (0 : Int) < (n : Int) := by omega
  clear h hcell hlen
  go_enter Tryd.func126, Tryd.ntmps126
  go_wp2_with fail
  go_ret
  refine ⟨rfl, cutA (some ⟨b, o, none⟩) 1 c, n - 1, c - 1, ?_, (Kept.refl _ _).setCell (.inl (by simp)) _, fun ad e => ?_⟩
  · have hk : Kept [g] w (w.setCell ⟨g, 0, none⟩ (.slice (cutA (some ⟨b, o, none⟩) 1 c) (n - 1) (c - 1))) := (Kept.refl _ _).setCell (.inl (by simp)) _
    refine ⟨H.out.blk.set 0 _, ?_, by omega, by omega, fun ad e => ?_⟩
    · have h1 := (H.out.reads.kept hk (fun ad e => by injection e with e; subst e; simpa using hne)).cutA (k := 1) (cap := c) hn1 hle
      simpa using h1
    · obtain ⟨a0, e0, b0⟩ := cutA_block e
      rw [b0]; exact H.out.far a0 e0
  · exact cutA_block e

set_option maxHeartbeats 800000 in
theorem num_any (g : Nat) (A : Option Addr) (n c : Nat) (x : List UInt8) (ws : List (List UInt8)) (bad : Bool) (w : World) (h : IsL w g A n c (x :: ws) bad) (hx : x.length ≤ 1000000) :
    Calls Tryd.prog 123 #[.pointer (some ⟨g, 0, none⟩)] w fun e w' => e = .returned (.int .u64 (readD x).1) ∧ LGoes w g A ws (bad || (readD x).2 != 0) w' := by
  have HN := Lib.hid (next_any g A n c x ws bad w h)
  have HR := Lib.hid (fun w => read_any x w (by omega))
  clear h
  generalize readD x = r at *
  obtain ⟨v, e⟩ := r
  simp only at HR ⊢
  go_enter Tryd.func123, Tryd.ntmps123
  go_wp2_with fail
  refine HN.out.mono ?_
  rintro e1 w1 ⟨rfl, A1, n1, c1, hL1, hk1, hA1⟩
  go_wp2_with fail
  refine (HR.out _).mono ?_
  rintro e2 w2 ⟨rfl, hk2⟩
  have hL2 := hL1.old hk2
  have hc2 := hL2.blk.cell
  have hf2 := hL2.blk.frozen
  have HL2 := Lib.hid hL2
  have HK2 := Lib.hid (hk1.trans (hk2.mono (by simp)))
  have HA1 := Lib.hid hA1
  clear hL1 hk1 hk2 hL2 hA1
  cases bad
  all_goals
    go_wp2_with fail
    go_ret
    refine ⟨rfl, A1, n1, c1, ?_, HK2.out.setCell (.inl (by simp)) _, HA1.out⟩
    refine ⟨HL2.out.blk.set 1 _, HL2.out.reads.kept ((Kept.refl [g] w2).setCell (.inl (by simp)) _) (fun ad e => by simpa using HL2.out.far ad e), HL2.out.le, HL2.out.cap, HL2.out.far⟩

set_option maxHeartbeats 800000 in
theorem hexw_any (g : Nat) (A : Option Addr) (n c : Nat) (x : List UInt8) (ws : List (List UInt8)) (bad : Bool) (w : World) (h : IsL w g A n c (x :: ws) bad) (hx : x.length ≤ 1000000) :
    Calls Tryd.prog 125 #[.pointer (some ⟨g, 0, none⟩)] w fun e w' => e = .returned (.int .u64 (readH x).1) ∧ LGoes w g A ws (bad || (readH x).2 != 0) w' := by
  have HN := Lib.hid (next_any g A n c x ws bad w h)
  have HR := Lib.hid (fun w => readHex_any x w (by omega))
  clear h
  generalize readH x = r at *
  obtain ⟨v, e⟩ := r
  simp only at HR ⊢
  go_enter Tryd.func125, Tryd.ntmps125
  go_wp2_with fail
  refine HN.out.mono ?_
  rintro e1 w1 ⟨rfl, A1, n1, c1, hL1, hk1, hA1⟩
  go_wp2_with fail
  refine (HR.out _).mono ?_
  rintro e2 w1' ⟨rfl, rfl⟩
  have hk2 : Kept [] w1 w1 := Kept.refl _ _
  have hL2 := hL1.old hk2
  have hc2 := hL2.blk.cell
  have hf2 := hL2.blk.frozen
  have HL2 := Lib.hid hL2
  have HK2 := Lib.hid (hk1.trans (hk2.mono (by simp)))
  have HA1 := Lib.hid hA1
  clear hL1 hk1 hk2 hL2 hA1
  cases bad
  all_goals
    go_wp2_with fail
    go_ret
    refine ⟨rfl, A1, n1, c1, ?_, HK2.out.setCell (.inl (by simp)) _, HA1.out⟩
    refine ⟨HL2.out.blk.set 1 _, HL2.out.reads.kept ((Kept.refl [g] w1).setCell (.inl (by simp)) _) (fun ad e => by simpa using HL2.out.far ad e), HL2.out.le, HL2.out.cap, HL2.out.far⟩

set_option maxHeartbeats 800000 in
theorem small_any (g : Nat) (A : Option Addr) (n c : Nat) (x : List UInt8) (ws : List (List UInt8)) (bad : Bool) (w : World) (h : IsL w g A n c (x :: ws) bad) (hx : x.length ≤ 1000000) :
    Calls Tryd.prog 124 #[.pointer (some ⟨g, 0, none⟩)] w fun e w' => e = .returned (.int .i64 ((min (readD x).1 1048576 : Nat) : Int)) ∧ LGoes w g A ws (bad || (readD x).2 != 0) w' := by
  have HN := Lib.hid (num_any g A n c x ws bad w h hx)
  clear h
  have hlt := readD_lt x
  generalize readD x = r at *
  obtain ⟨v, e⟩ := r
  simp only at HN hlt ⊢
  go_enter Tryd.func124, Tryd.ntmps124
  go_wp2_with fail
  refine HN.out.mono ?_
  rintro e1 w1 ⟨rfl, hg⟩
  have HGO := Lib.hid hg
  clear hg
  go_wp2_with fail
  go_ret
  exact ⟨ret_int (by omega), HGO.out⟩

end Go.Proofs.YtmhlmoojmdfnfaaDoor
