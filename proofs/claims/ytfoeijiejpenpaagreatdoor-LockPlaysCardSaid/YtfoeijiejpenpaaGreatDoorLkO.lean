/- Package lock: Lock, walked. -/
import Derived.Test.YtfoeijiejpenpaaGreatDoorLkB
import Derived.Deep.RegionHeld3
namespace Go.Proofs.YtfoeijiejpenpaaGreatDoor
open Go.RowKit

set_option maxHeartbeats 3200000 in
theorem lock_bad {w0 : Base} {w : World} {a : LkA} {s : Lk} {K : Nat} (h : LkIs w0 w a s) (hw : s.Whole K) (t l : Int) (he : mayM s t l ≠ 0) :
    Calls Tryz.prog 28 #[.pointer (some ⟨a.g, 0, none⟩), .int .i64 t, .int .i64 l] w fun e w' => e = .returned (.tuple #[.bool false, .int .i64 (mayM s t l)]) ∧ LkIs w0 w' a s := by
  have HC := Lib.hid (lkmay_any h.at_ hw t l)
  have HH := Lib.hid h
  generalize mayM s t l = e0 at *
  have hb : (e0 == 0) = false := beq_eq_false_iff_ne.2 he
  clear h hw he
  go_enter Tryz.func28, Tryz.ntmps28
  go_wp2_with fail
  refine (HC.out).mono ?_
  rintro e w1 ⟨rfl, hk⟩
  have HL := Lib.hid (HH.out.old hk)
  clear hk
  go_wp2_with fail
  go_ret2
  exact ⟨rfl, HL.out⟩

set_option maxHeartbeats 3200000 in
theorem lock_got {w0 : Base} {w : World} {a : LkA} {s : Lk} {K : Nat} (h : LkIs w0 w a s) (hw : s.Whole K) (k q : Nat) (hk : k < s.eff.length) (hq : q < s.lines.length) (he : mayM s k q = 0) (ho : getO s.owner q = -1) :
    Calls Tryz.prog 28 #[.pointer (some ⟨a.g, 0, none⟩), .int .i64 k, .int .i64 q] w fun e w' => e = .returned (.tuple #[.bool true, .int .i64 0]) ∧ LkIs w0 w' a { s with owner := s.owner.set q k } := by
  have HC := Lib.hid (lkmay_any h.at_ hw k q)
  rw [he] at HC
  have HO := Lib.hid (fun W (hkk : Kept [] w W) => wbOwner_any ((h.at_.old hkk).web hw) q)
  rw [ho] at HO
  have HOW := Lib.hid (fun W (hkk : Kept [] w W) => lkown_any (h.old hkk) hw q hq k (.inr ⟨by omega, by omega⟩))
  have HB := Lib.hid h.at_.blk
  clear h hw he ho
  go_enter Tryz.func28, Tryz.ntmps28
  go_wp2_with fail
  refine (HC.out).mono ?_
  rintro e w1 ⟨rfl, hk1⟩
  have HK := Lib.hid hk1
  have HB1 := Lib.hid (HB.out.kept hk1 (by simp))
  have hc0 : w1.cell? ⟨a.g, 0, none⟩ = some (.pointer (some ⟨a.gw, 0, none⟩)) := HB1.out.cell 0
  have hl := HB1.out.lt
  clear hk1
  go_wp2_with fail
  refine (HO.out _ HK.out).mono ?_
  rintro e w2 ⟨rfl, rfl⟩
  go_wp2_with fail
  refine (HOW.out _ HK.out).mono ?_
  rintro e w2 ⟨rfl, hl2⟩
  have HL := Lib.hid hl2
  clear hl2
  go_wp2_with fail
  go_ret2
  exact ⟨rfl, HL.out⟩

/-- A thread waits in a line. -/
def putS (s : Lk) (k q : Nat) : Lk := { s with waits := s.waits.set k ((q : Int), -1), lines := s.lines.set q (insW ⟨k, holdL (s.eff.getD k 0), (s.lines.getD q ([], 0)).2 + 1⟩ (s.lines.getD q ([], 0)).1, (s.lines.getD q ([], 0)).2 + 1) }
set_option maxHeartbeats 6400000 in
theorem lock_wait {w0 : Base} {w : World} {a : LkA} {s : Lk} {K : Nat} (h : LkIs w0 w a s) (hw : s.Whole K) (hK : K ≤ 1000000) (k q : Nat) (hk : k < s.eff.length) (hq : q < s.lines.length) (he : mayM s k q = 0) (ho : getO s.owner q ≠ -1) (hf : findW (k : Int) (s.lines.getD q ([], 0)).1 = none) (hw1 : ({ s with waits := s.waits.set k ((q : Int), -1) } : Lk).Whole K) (hw2 : (putS s k q).Whole (K + 1)) :
    Calls Tryz.prog 28 #[.pointer (some ⟨a.g, 0, none⟩), .int .i64 k, .int .i64 q] w fun e w' => e = .returned (.tuple #[.bool false, .int .i64 0]) ∧ ∃ a', a'.key = a.key ∧ LkIs w0 w' a' (betterS (putS s k q) (getO s.owner q) (s.eff.getD k 0)) := by
  have HC := Lib.hid (lkmay_any h.at_ hw k q)
  rw [he] at HC
  have HO := Lib.hid (fun W (hkk : Kept [] w W) => wbOwner_any ((h.at_.old hkk).web hw) q)
  have HWT := Lib.hid (fun W (hkk : Kept [] w W) => lkwait_lock (h.old hkk) hw k hk q ⟨by omega, by omega⟩)
  have hor : -1 ≤ getO s.owner q ∧ getO s.owner q < s.eff.length := by
    rw [getO_in (by rw [hw.owner]; exact hq)]
    exact hw.owners _ (List.getElem_mem _)
  have hgl : s.lines.getD q ([], 0) = s.lines[q] := by rw [List.getD_eq_getElem?_getD, List.getElem?_eq_getElem hq]; rfl
  have hge : s.eff.getD k 0 = s.eff[k] := by rw [List.getD_eq_getElem?_getD, List.getElem?_eq_getElem hk]; rfl
  have HGL := Lib.hid hgl
  have HGE := Lib.hid hge
  have HB := Lib.hid h.at_.blk
  have hb : (getO s.owner q == -1) = false := beq_eq_false_iff_ne.2 ho
  have hnt := hw.nt
  have hlq := hw.lens s.lines[q] (List.getElem_mem hq)
  have hlastq := hw.lasts s.lines[q] (List.getElem_mem hq)
  generalize ho2 : getO s.owner q = o at *
  rw [hge]
  obtain ⟨ev, hev⟩ : ∃ ev, s.eff[k] = ev := ⟨_, rfl⟩
  rw [hev]
  have HEV := Lib.hid hev
  clear he ho hge hev
  go_enter Tryz.func28, Tryz.ntmps28
  go_wp2_with fail
  refine (HC.out).mono ?_
  rintro e w1 ⟨rfl, hk1⟩
  have HK := Lib.hid hk1
  have HB1 := Lib.hid (HB.out.kept hk1 (by simp))
  have hc0 : w1.cell? ⟨a.g, 0, none⟩ = some (.pointer (some ⟨a.gw, 0, none⟩)) := HB1.out.cell 0
  have hl := HB1.out.lt
  clear hk1
  go_wp2_with fail
  refine (HO.out _ HK.out).mono ?_
  rintro e w2 ⟨rfl, rfl⟩
  go_wp2_with fail
  refine (HWT.out _ HK.out).mono ?_
  rintro e w3 ⟨rfl, hl3⟩
  obtain ⟨gl, v, hg, hI, hp0, hp1⟩ := hl3.line q hq
  have hr8 : w3.ownsRow 0 48 1 (.slice a.AL s.lines.length a.cL) s.lines.length (a.gls.map fun x : Nat × Value => .pointer (some ⟨x.1, 0, none⟩)) := hl3.at_.2.get (i := 8) rfl
  have hr7 : w3.ownsRow 0 3 1 (.slice a.AE s.eff.length a.cE) s.eff.length (s.eff.map I64) := hl3.at_.2.get (i := 7) rfl
  obtain ⟨bL, hbL⟩ := own_at0 hr8 (by omega)
  obtain ⟨bE, hbE⟩ := own_at0 hr7 (by omega)
  have hcells : ∀ (w' : World) (gls2 : List (Nat × Value)) (s2 : Lk), LkIs w0 w' { a with gls := gls2 } s2 → s2.eff = s.eff → s2.lines.length = s.lines.length → gls2.map (·.1) = a.gls.map (·.1) → w'.cell? ⟨a.g, 1, none⟩ = some (.slice (some ⟨bL, 0, none⟩) s.lines.length a.cL) ∧ w'.cell? ⟨a.g, 5, none⟩ = some (.slice (some ⟨bE, 0, none⟩) s.eff.length a.cE) ∧ w'.cell? ⟨bL, q, none⟩ = some (.pointer (some ⟨gl, 0, none⟩)) ∧ w'.cell? ⟨bE, k, none⟩ = some (.int .i64 s.eff[k]) := fun w' gls2 s2 hl2 heff hlen2 hmap2 => by
    have hB4 := hl2.at_.blk
    have hr84 : w'.ownsRow 0 48 1 (.slice a.AL s2.lines.length a.cL) s2.lines.length (gls2.map fun x : Nat × Value => .pointer (some ⟨x.1, 0, none⟩)) := hl2.at_.2.get (i := 8) rfl
    have hr74 : w'.ownsRow 0 3 1 (.slice a.AE s2.eff.length a.cE) s2.eff.length (s2.eff.map I64) := hl2.at_.2.get (i := 7) rfl
    have hmm : (gls2.map fun x : Nat × Value => Value.pointer (some ⟨x.1, 0, none⟩)) = a.gls.map fun x : Nat × Value => Value.pointer (some ⟨x.1, 0, none⟩) := by
      have := congrArg (List.map fun y : Nat => Value.pointer (some ⟨y, 0, none⟩)) hmap2
      rw [List.map_map, List.map_map] at this
      exact this
    have h1 := hB4.cell 1
    have h5 := hB4.cell 5
    simp only [heff, hlen2, hbL, hbE] at h1 h5 hr84 hr74
    exact ⟨h1, h5, by rw [hr84.cellAt q (by omega), hmm, List.getElem?_map, hg]; rfl, by rw [hr74.cellAt k (by omega), List.getElem?_map, List.getElem?_eq_getElem hk]; rfl⟩
  obtain ⟨hx1, hx5, hxL, hxE⟩ := hcells w3 a.gls _ hl3 rfl rfl rfl
  have HPUT : Hid (∀ W, Kept [] w3 W → Calls Tryz.prog 68 #[.pointer (some ⟨gl, 0, none⟩), .int .i64 k, .int .i64 s.eff[k]] W fun e w' => e = .returned (.int .i64 0) ∧ ∃ gls2, LkIs w0 w' { a with gls := gls2 } (putS s k q) ∧ w'.cell? ⟨a.g, 1, none⟩ = some (.slice (some ⟨bL, 0, none⟩) s.lines.length a.cL) ∧ w'.cell? ⟨a.g, 5, none⟩ = some (.slice (some ⟨bE, 0, none⟩) s.eff.length a.cE) ∧ w'.cell? ⟨bL, q, none⟩ = some (.pointer (some ⟨gl, 0, none⟩)) ∧ w'.cell? ⟨bE, k, none⟩ = some (.int .i64 s.eff[k])) := fun W hkW => by
    rw [hgl] at hf
    refine (put_new gl v s.lines[q].1 s.lines[q].2 k s.eff[k] W (hI.old hkW) (by omega) (by omega) (by omega) (by omega) hf).mono ?_
    rintro e w' ⟨rfl, hgo⟩
    obtain ⟨v', hL2⟩ := (hl3.old hkW).goes q hq hg hgo
    have hms : (a.gls.set q (gl, v')).map (·.1) = a.gls.map (·.1) := by rw [List.map_set]; exact set_same _ _ _ (by rw [List.getElem?_map, hg]; rfl)
    have hps : LkIs w0 w' { a with gls := a.gls.set q (gl, v') } (putS s k q) := by
      unfold putS
      rw [hgl, HGE.out]
      exact hL2
    exact ⟨rfl, _, hps, hcells _ _ _ hps rfl (by simp [putS]) hms⟩
  have HBT := Lib.hid (fun W gls2 (hl2 : LkIs w0 W { a with gls := gls2 } (putS s k q)) => lkbetter_any hl2 hw2 o s.eff[k] ⟨hor.1, hor.2⟩ (by show 0 < s.eff.length; omega))
  have hlg : a.g < w3.heap.size := hl3.at_.blk.lt
  have hlL := World.block_lt_of_cell? w3 _ hxL
  have hlE := World.block_lt_of_cell? w3 _ hxE
  have hi0 : (0 : Int) ≤ (k : Int) := by omega
  have hi1 : (k : Int) < (s.eff.length : Int) := by omega
  have hi2 : (0 : Int) ≤ (q : Int) := by omega
  have hi3 : (q : Int) < (s.lines.length : Int) := by omega
  rw [HEV.out] at HPUT HBT hxE
  clear hcells hI hp0 hp1 hr8 hr7 hl3 hg hgl HC HO HWT hc0 hl HGE HGL hf hw hw1 hw2 h
  go_wp2_with fail
  go_region_held3 (fun w' => w'.cell? ⟨a.g, 1, none⟩ = some (.slice (some ⟨bL, 0, none⟩) s.lines.length a.cL) ∧ w'.cell? ⟨a.g, 5, none⟩ = some (.slice (some ⟨bE, 0, none⟩) s.eff.length a.cE) ∧ w'.cell? ⟨bL, q, none⟩ = some (.pointer (some ⟨gl, 0, none⟩)) ∧ w'.cell? ⟨bE, k, none⟩ = some (.int .i64 ev)) (go_keep) (first | (go_at_call 68; refine (HPUT.out _ (by (repeat (first | (with_reducible exact Kept.refl _ _) | (with_reducible assumption) | (with_reducible refine Kept.alloc ?_ _) | (with_reducible refine Kept.drew ?_) | (with_reducible refine Kept.drewN ?_ _) | (with_reducible refine Kept.setCell ?_ ?_ _) | (exact .inr (Nat.le_refl _)) | (exact .inr (by simp only; omega)) | (exact .inr (by omega)))))).mono ?_; rintro e w4 ⟨rfl, gls2, hl4, hy1, hy5, hyL, hyE⟩; have HL4 := Lib.hid hl4; have hlg4 : a.g < w4.heap.size := hl4.at_.blk.lt; have hlE4 := World.block_lt_of_cell? w4 _ hyE; clear hl4))
  all_goals
    go_wp2_with fail
    refine (HBT.out _ gls2 HL4.out).mono ?_
    rintro e w5 ⟨rfl, a', ha', hl5⟩
    have HL5 := Lib.hid hl5
    have HA := Lib.hid ha'
    clear hl5 ha'
    go_wp2_with fail
    go_ret2
    exact ⟨rfl, a', HA.out, HL5.out⟩

end Go.Proofs.YtfoeijiejpenpaaGreatDoor
