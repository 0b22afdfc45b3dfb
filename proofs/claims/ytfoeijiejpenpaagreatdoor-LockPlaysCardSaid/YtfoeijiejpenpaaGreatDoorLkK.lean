/- Package lock: take, walked. -/
import Derived.Test.YtfoeijiejpenpaaGreatDoorLkL
import Derived.Test.YtfoeijiejpenpaaGreatDoorGiftA
import Derived.Deep.RegionHeld3
namespace Go.Proofs.YtfoeijiejpenpaaGreatDoor
open Go.RowKit

/-- A waiter's level is another one, in a line of these. -/
def moveM (L : List (List WO × Nat)) (q : Nat) (t lev : Int) : List (List WO × Nat) := match L[q]? with
  | none => L
  | some l => match findW t l.1 with
    | none => L
    | some x => L.set q (insW ⟨x.p, holdL lev, x.n⟩ (l.1.eraseP (isP t)), l.2)
/-- Those who were met stand anew. -/
def takeL (waits : List (Int × Int)) (eff : List Int) : List Int → List (List WO × Nat) → List (List WO × Nat)
  | [], L => L
  | t :: r, L => takeL waits eff r (if (getW waits t).1 = -1 then L else moveM L (getW waits t).1.toNat t (eff.getD t.toNat 0))
theorem moveM_len (L : List (List WO × Nat)) (q : Nat) (t lev : Int) : (moveM L q t lev).length = L.length := by
  unfold moveM
  split
  · rfl
  · split <;> simp
theorem moveM_lens {L : List (List WO × Nat)} {m : Nat} (h : ∀ x ∈ L, x.1.length ≤ m) (q : Nat) (t lev : Int) : ∀ x ∈ moveM L q t lev, x.1.length ≤ m := by
  unfold moveM
  split
  · exact h
  · rename_i l hl
    split
    · exact h
    · rename_i y hy
      intro x hx
      rcases List.mem_or_eq_of_mem_set hx with hx | rfl
      · exact h x hx
      · have h1 := h l (List.mem_of_getElem? hl)
        have hm : y ∈ l.1 := List.mem_of_find?_eq_some hy
        have hp : isP t y = true := List.find?_some hy
        simp only [insW_len]
        have := List.length_eraseP_of_mem hm hp
        have hpos : 0 < l.1.length := List.length_pos_of_mem hm
        omega

/-- The effective levels are others. -/
theorem LkIs.effs {w0 : Base} {w1 w w' : World} {a : LkA} {s : Lk} (h : LkIs w0 w1 a s) (b c' : Nat) (eff' : List Int) (hlen : eff'.length = s.eff.length) (hb : w1.heap.size ≤ b) (hk : Kept [] w1 w) (hB : w.ownsRow 0 3 1 (.slice (some ⟨b, 0, none⟩) s.eff.length c') s.eff.length (eff'.map I64)) (hw' : w' = w.setCell ⟨a.g, 5, none⟩ (.slice (some ⟨b, 0, none⟩) s.eff.length c')) :
    LkIs w0 w' { a with AE := some ⟨b, 0, none⟩, cE := c' } { s with eff := eff' } := by
  subst hw'
  have hg : Blk w a.g 47 _ := (h.old hk).at_.blk
  have hgl := h.at_.blk.lt
  have hset : Kept [a.g] w (w.setCell ⟨a.g, 5, none⟩ (.slice (some ⟨b, 0, none⟩) s.eff.length c')) := (Kept.refl [a.g] w).setCell (.inl (by simp)) _
  have hkk : Kept ([a.g] ++ fp (.slice a.AE s.eff.length a.cE)) w1 (w.setCell ⟨a.g, 5, none⟩ (.slice (some ⟨b, 0, none⟩) s.eff.length c')) := (hk.mono (by simp)).trans (hset.mono (by simp))
  have h2 := h.at_.2.turn2 (i := 0) (j := 7) (by omega) rfl rfl hkk (p' := .blk a.g 47 #[.pointer (some ⟨a.gw, 0, none⟩), .slice a.AL s.lines.length a.cL, .slice a.AV s.eff.length a.cV, .slice a.AW s.eff.length a.cW, .slice a.AO s.lines.length a.cO, .slice (some ⟨b, 0, none⟩) s.eff.length c', a.J]) (q' := .row 3 1 (.slice (some ⟨b, 0, none⟩) s.eff.length c') s.eff.length (eff'.map I64)) (hg.set 5 _) (own_kept hB hset (fun k hk' hm => by simp [fp_some] at hk' hm; omega)) (fun k hk' => .inl hk') (fun k hk' => .inr (by simp [Piece.fp, fp_some] at hk'; omega)) (fun k hk' hm => by simp [Piece.fp, fp_some] at hk' hm; omega)
  have he : (((lkP a s).set 0 (.blk a.g 47 #[.pointer (some ⟨a.gw, 0, none⟩), .slice a.AL s.lines.length a.cL, .slice a.AV s.eff.length a.cV, .slice a.AW s.eff.length a.cW, .slice a.AO s.lines.length a.cO, .slice (some ⟨b, 0, none⟩) s.eff.length c', a.J])).set 7 (.row 3 1 (.slice (some ⟨b, 0, none⟩) s.eff.length c') s.eff.length (eff'.map I64))) = lkP { a with AE := some ⟨b, 0, none⟩, cE := c' } { s with eff := eff' } := by
    unfold lkP
    simp only [hlen]
    rfl
  rw [he] at h2
  refine ⟨⟨h.at_.1, h2⟩, ?_, ?_⟩
  · rw [← he]
    intro r hr k hk'
    rcases List.mem_or_eq_of_mem_set hr with hr | rfl
    · rcases List.mem_or_eq_of_mem_set hr with hr | rfl
      · exact h.new r hr k hk'
      · exact h.new _ (List.mem_of_getElem? (i := 0) rfl) k hk'
    · have := h.kept.size
      simp [Piece.fp, fp_some] at hk'; exact .inr (by omega)
  · exact h.kept.trans' hkk (fun k hk' => (by
      rcases List.mem_append.1 hk' with hk' | hk'
      · exact h.new _ (List.mem_of_getElem? (i := 0) rfl) k hk'
      · exact h.new _ (List.mem_of_getElem? (i := 7) rfl) k hk'))

set_option maxHeartbeats 6400000 in
theorem lktake_any {w0 : Base} {w1 w : World} {a : LkA} {s : Lk} {K : Nat} (h : LkIs w0 w1 a s) (hw : s.Whole K) (b c' : Nat) (eff' : List Int) (hlen : eff'.length = s.eff.length) (hb : w1.heap.size ≤ b) (hk1 : Kept [] w1 w) (hB : w.ownsRow 0 3 1 (.slice (some ⟨b, 0, none⟩) s.eff.length c') s.eff.length (eff'.map I64))
    (Am : Option Addr) (cm : Nat) (met : List Int) (hM : w.ownsRow 0 3 1 (.slice Am met.length cm) met.length (met.map I64)) (hmr : ∀ x ∈ met, 0 ≤ x ∧ x < s.eff.length) (hml : met.length ≤ 1000) :
    Calls Tryz.prog 82 #[.pointer (some ⟨a.g, 0, none⟩), .slice (some ⟨b, 0, none⟩) s.eff.length c', .slice Am met.length cm] w fun e w' => e = .returned (.tuple #[]) ∧ ∃ gls', LkIs w0 w' { a with AE := some ⟨b, 0, none⟩, cE := c', gls := gls' } { s with eff := eff', lines := takeL s.waits eff' met s.lines } := by
  have hg : Blk w a.g 47 _ := (h.old hk1).at_.blk
  have hc0 := hg.cell
  have hgf := hg.frozen
  have hgl := hg.lt
  have HE := Lib.hid (h.effs b c' eff' hlen hb hk1 hB rfl)
  have hset : Kept [a.g] w (w.setCell ⟨a.g, 5, none⟩ (.slice (some ⟨b, 0, none⟩) s.eff.length c')) := (Kept.refl [a.g] w).setCell (.inl (by simp)) _
  have HM := Lib.hid (own_kept hM hset (fun k hk' hm => own_blk_ne hM hg (by decide) (mem_fp.1 (by have := List.mem_singleton.1 hm; subst this; exact hk'))))
  have HMR := Lib.hid hmr
  have HLN := Lib.hid hlen
  have HW := Lib.hid hw
  obtain ⟨ag, agw, aAo, aco, aAw, acw, aAL, acL, aAV, acV, aAW, acW, aAO, acO, aAE, acE, aJ, agls, aex⟩ := a
  obtain ⟨owner, waits, level, eff, lines⟩ := s
  simp only at *
  have hR : ∃ R, takeL waits eff' met lines = R := ⟨_, rfl⟩
  obtain ⟨R, hR⟩ := hR
  rw [hR]
  have HR := Lib.hid hR
  clear h hk1 hB hM hmr hlen hw hg hset hR
  go_enter Tryz.func82, Tryz.ntmps82
  go_wp2_with fail
  clear hc0 hgf hgl
  generalize w.setCell ⟨ag, 5, none⟩ (.slice (some ⟨b, 0, none⟩) eff.length c') = w2 at *
  go_loopw [15] (fun iv wr => ∃ (i : Nat) (gls' : List (Nat × Value)) (L : List (List WO × Nat)), i ≤ met.length ∧ iv = .int .i64 i ∧ Hid (takeL waits eff' (met.drop i) L = R) ∧ Hid (L.length = lines.length ∧ ∀ x ∈ L, x.1.length ≤ 64) ∧ Hid (wr.ownsRow 0 3 1 (.slice Am met.length cm) met.length (met.map I64)) ∧ Hid (LkIs w0 wr ⟨ag, agw, aAo, aco, aAw, acw, aAL, acL, aAV, acV, aAW, acW, aAO, acO, some ⟨b, 0, none⟩, c', aJ, gls', aex⟩ ⟨owner, waits, level, eff', L⟩)) (fun iv _ => met.length - (intOf iv).toNat)
  case atStart => exact ⟨0, agls, lines, by omega, rfl, HR.out, ⟨rfl, HW.out.lens⟩, HM.out, HE.out⟩
  case round =>
    clear HR HM HE
    obtain ⟨i, gls', L, hi, rfl, HD, HLL, HM, HL⟩ := hrel
    by_cases hlt : i < met.length
    · obtain ⟨t, ht⟩ : ∃ t, met[i] = t := ⟨_, rfl⟩
      have hd := HD.out
      rw [List.drop_eq_getElem_cons hlt, ht, takeL] at hd
      have htr := HMR.out t (ht ▸ List.getElem_mem hlt)
      obtain ⟨bm, om, rfl, hbm, hcm⟩ := (Reads.of_own HM.out).addr (by omega) (by omega)
      have hct : wr.cell? ⟨bm, om + i, none⟩ = some (.int .i64 t) := hcm i (I64 t) (by rw [List.getElem?_map, List.getElem?_eq_getElem hlt, ht]; rfl)
      obtain ⟨k, rfl⟩ : ∃ k : Nat, t = k := ⟨t.toNat, by omega⟩
      have hkw : k < waits.length := by have := HW.out.waits; simp only at this; omega
      have hke : k < eff'.length := by rw [HLN.out]; omega
      have hr5 : wr.ownsRow 0 3 1 (.slice aAW eff'.length acW) eff'.length (waits.map fun x : Int × Int => I64 x.1) := HL.out.at_.2.get (i := 5) rfl
      obtain ⟨bW, hbW⟩ := own_at0 hr5 (by omega)
      subst hbW
      have hcW : wr.cell? ⟨bW, k, none⟩ = some (.int .i64 waits[k].1) := by rw [hr5.cellAt k (by omega), List.getElem?_map, List.getElem?_eq_getElem hkw]; rfl
      have hB0 : Blk wr ag 47 #[.pointer (some ⟨agw, 0, none⟩), .slice aAL L.length acL, .slice aAV eff'.length acV, .slice (some ⟨bW, 0, none⟩) eff'.length acW, .slice aAO L.length acO, .slice (some ⟨b, 0, none⟩) eff'.length c', aJ] := HL.out.at_.blk
      have hc3 : wr.cell? ⟨ag, 3, none⟩ = some (.slice (some ⟨bW, 0, none⟩) eff'.length acW) := hB0.cell 3
      have hc1 : wr.cell? ⟨ag, 1, none⟩ = some (.slice aAL L.length acL) := hB0.cell 1
      have hgl := hB0.lt
      have hi0 : (0 : Int) ≤ (k : Int) := by omega
      have hi1 : (k : Int) < (eff'.length : Int) := by omega
      have hi2 : (i : Int) < (met.length : Int) := by omega
      rw [getW_in hkw] at hd
      have hwr := HW.out.wls waits[k] (List.getElem_mem hkw)
      simp only [Int.toNat_natCast] at hd hwr
      generalize waits[k] = x at *
      obtain ⟨x1, x2⟩ := x
      simp only at hd hcW hwr
      clear hcm hr5 HD
      by_cases h1 : x1 = -1
      · subst h1
        rw [if_pos rfl] at hd
        have HDD := Lib.hid hd
        clear hd
        go_wp2_with fail
        go_roundw
        case rel => exact ⟨i + 1, gls', L, by omega, by go_num, HDD.out, HLL.out, HM.out, HL.out⟩
        case measure => simp [intOf]; omega
      · rw [if_neg h1] at hd
        have hb1 : (x1 == -1) = false := beq_eq_false_iff_ne.2 h1
        obtain ⟨q, rfl⟩ : ∃ q : Nat, x1 = q := ⟨x1.toNat, by omega⟩
        simp only [Int.toNat_natCast] at hd
        have hq : q < L.length := by have := HLL.out.1; omega
        obtain ⟨gl, v, hg, hI, hp0, hp1⟩ := HL.out.line q hq
        have hr8 : wr.ownsRow 0 48 1 (.slice aAL L.length acL) L.length (gls'.map fun x : Nat × Value => .pointer (some ⟨x.1, 0, none⟩)) := HL.out.at_.2.get (i := 8) rfl
        have hr7 : wr.ownsRow 0 3 1 (.slice (some ⟨b, 0, none⟩) eff'.length c') eff'.length (eff'.map I64) := HL.out.at_.2.get (i := 7) rfl
        obtain ⟨bL, hbL⟩ := own_at0 hr8 (by omega)
        subst hbL
        have hgq : q < gls'.length := (List.getElem?_eq_some_iff.1 hg).1
        have hcL : wr.cell? ⟨bL, q, none⟩ = some (.pointer (some ⟨gl, 0, none⟩)) := by rw [hr8.cellAt q (by omega), List.getElem?_map, hg]; rfl
        have hcb : wr.cell? ⟨b, k, none⟩ = some (.int .i64 eff'[k]) := by rw [hr7.cellAt k (by omega), List.getElem?_map, List.getElem?_eq_getElem hke]; rfl
        have hge : eff'.getD k 0 = eff'[k] := by rw [List.getD_eq_getElem?_getD, List.getElem?_eq_getElem hke]; rfl
        rw [hge] at hd
        have hlq := HLL.out.2 L[q] (List.getElem_mem hq)
        have hLq : L[q]? = some L[q] := List.getElem?_eq_getElem hq
        have hcells : ∀ (w' : World) (gls2 : List (Nat × Value)) (L2 : List (List WO × Nat)), LkIs w0 w' ⟨ag, agw, aAo, aco, aAw, acw, some ⟨bL, 0, none⟩, acL, aAV, acV, some ⟨bW, 0, none⟩, acW, aAO, acO, some ⟨b, 0, none⟩, c', aJ, gls2, aex⟩ ⟨owner, waits, level, eff', L2⟩ → L2.length = L.length → gls2.map (·.1) = gls'.map (·.1) → w'.cell? ⟨ag, 1, none⟩ = some (.slice (some ⟨bL, 0, none⟩) L.length acL) ∧ w'.cell? ⟨bL, q, none⟩ = some (.pointer (some ⟨gl, 0, none⟩)) ∧ w'.cell? ⟨b, k, none⟩ = some (.int .i64 eff'[k]) := fun w' gls2 L2 hl2 hlen2 hmap2 => by
          have hB4 := hl2.at_.blk
          have hr84 : w'.ownsRow 0 48 1 (.slice (some ⟨bL, 0, none⟩) L2.length acL) L2.length (gls2.map fun x : Nat × Value => .pointer (some ⟨x.1, 0, none⟩)) := hl2.at_.2.get (i := 8) rfl
          have hr74 : w'.ownsRow 0 3 1 (.slice (some ⟨b, 0, none⟩) eff'.length c') eff'.length (eff'.map I64) := hl2.at_.2.get (i := 7) rfl
          have hmm : (gls2.map fun x : Nat × Value => Value.pointer (some ⟨x.1, 0, none⟩)) = gls'.map fun x : Nat × Value => Value.pointer (some ⟨x.1, 0, none⟩) := by
            have := congrArg (List.map fun y : Nat => Value.pointer (some ⟨y, 0, none⟩)) hmap2
            rw [List.map_map, List.map_map] at this
            exact this
          refine ⟨by have := hB4.cell 1; rw [hlen2] at this; exact this, by rw [hr84.cellAt q (by omega), hmm, List.getElem?_map, hg]; rfl, by rw [hr74.cellAt k (by omega), List.getElem?_map, List.getElem?_eq_getElem hke]; rfl⟩
        have HCALL : Hid (∀ W, Kept [] wr W → Calls Tryz.prog 107 #[.pointer (some ⟨gl, 0, none⟩), .int .i64 k, .int .i64 eff'[k]] W fun e w' => (∃ bb, e = .returned (.bool bb)) ∧ ∃ gls2, LkIs w0 w' ⟨ag, agw, aAo, aco, aAw, acw, some ⟨bL, 0, none⟩, acL, aAV, acV, some ⟨bW, 0, none⟩, acW, aAO, acO, some ⟨b, 0, none⟩, c', aJ, gls2, aex⟩ ⟨owner, waits, level, eff', moveM L q k eff'[k]⟩ ∧ gls2.map (·.1) = gls'.map (·.1) ∧ w'.ownsRow 0 3 1 (.slice (some ⟨bm, om, none⟩) met.length cm) met.length (met.map I64) ∧ w'.cell? ⟨ag, 1, none⟩ = some (.slice (some ⟨bL, 0, none⟩) L.length acL) ∧ w'.cell? ⟨bL, q, none⟩ = some (.pointer (some ⟨gl, 0, none⟩)) ∧ w'.cell? ⟨b, k, none⟩ = some (.int .i64 eff'[k])) := fun W hkW => by
          have hLW := HL.out.old hkW
          have hIW := hI.old hkW
          have hMW := own_kept HM.out hkW (by simp)
          unfold moveM
          rw [hLq]
          cases hf : findW (k : Int) L[q].1 with
          | none =>
            refine (move_none gl v L[q].1 L[q].2 k eff'[k] W hIW (by omega) hf).mono ?_
            rintro e w' ⟨rfl, hk'⟩
            exact ⟨⟨_, rfl⟩, gls', by simp only [hf]; exact hLW.old hk', rfl, own_kept hMW hk' (by simp), hcells w' gls' L (hLW.old hk') rfl rfl⟩
          | some x =>
            refine (move_some gl v L[q].1 L[q].2 k eff'[k] x W hIW (by omega) hf).mono ?_
            rintro e w' ⟨rfl, hgo⟩
            obtain ⟨v', hL2⟩ := hLW.goes q hq hg hgo
            have hms : (gls'.set q (gl, v')).map (·.1) = gls'.map (·.1) := by rw [List.map_set]; exact set_same _ _ _ (by rw [List.getElem?_map, hg]; rfl)
            refine ⟨⟨_, rfl⟩, gls'.set q (gl, v'), by simp only [hf]; exact hL2, hms, own_kept hMW hgo.kept (fun m hm hm2 => ?_), hcells _ _ _ hL2 (by simp) hms⟩
            · rcases List.mem_cons.1 hm2 with rfl | hm2
              · exact own_blk_ne hMW hIW.blk (by decide) (mem_fp.1 hm)
              · exact own_own_ne hMW hIW.row (by decide) m hm hm2
        have HDD := Lib.hid hd
        have hlL := World.block_lt_of_cell? wr _ hcL
        have hlb := World.block_lt_of_cell? wr _ hcb
        have hi3 : (0 : Int) ≤ (q : Int) := by omega
        have hi4 : (q : Int) < (L.length : Int) := by omega
        have HGQ := Lib.hid hg
        have HQ := Lib.hid hq
        have hi5 : (k : Int) < (eff.length : Int) := by have := HLN.out; omega
        generalize eff'[k] = ev at *
        clear hcells hI hp0 hp1 hr8 hr7 hd hge hlq hLq hg
        go_wp2_with fail
        go_region_held3 (fun w' => w'.cell? ⟨ag, 1, none⟩ = some (.slice (some ⟨bL, 0, none⟩) L.length acL) ∧ w'.cell? ⟨bL, q, none⟩ = some (.pointer (some ⟨gl, 0, none⟩)) ∧ w'.cell? ⟨b, k, none⟩ = some (.int .i64 ev)) (go_keep) (first | (go_at_call 107; refine (HCALL.out _ (by (repeat (first | (with_reducible exact Kept.refl _ _) | (with_reducible assumption) | (with_reducible refine Kept.alloc ?_ _) | (with_reducible refine Kept.drew ?_) | (with_reducible refine Kept.drewN ?_ _) | (with_reducible refine Kept.setCell ?_ ?_ _) | (exact .inr (Nat.le_refl _)) | (exact .inr (by simp only; omega)) | (exact .inr (by omega)))))).mono ?_; rintro e w4 ⟨⟨bb, rfl⟩, gls2, hl2, hmap, hm2, hx1, hx2, hx3⟩; have HL2 := Lib.hid hl2; have HM2 := Lib.hid hm2; have HMAP := Lib.hid hmap; clear hl2 hm2 hmap))
        all_goals
          go_wp2_with fail
          go_roundw
          case rel => exact ⟨i + 1, gls2, moveM L q k ev, by omega, by go_num, HDD.out, ⟨by rw [moveM_len]; exact HLL.out.1, moveM_lens HLL.out.2 _ _ _⟩, HM2.out, HL2.out⟩
          case measure => simp [intOf]; omega
    · obtain rfl : i = met.length := by omega
      have hd := HD.out
      rw [List.drop_of_length_le (Nat.le_refl _), takeL] at hd
      subst hd
      go_wp2_with fail
      go_end0
      exact ⟨rfl, gls', HL.out⟩

end Go.Proofs.YtfoeijiejpenpaaGreatDoor
