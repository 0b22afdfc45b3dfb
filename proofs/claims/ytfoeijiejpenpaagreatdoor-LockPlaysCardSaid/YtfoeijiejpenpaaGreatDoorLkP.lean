/- Package lock: Eff, Line, pass and Unlock, walked. -/
import Derived.Test.YtfoeijiejpenpaaGreatDoorLkO
namespace Go.Proofs.YtfoeijiejpenpaaGreatDoor
open Go.RowKit

/-- A thread's effective level. -/
def effM (s : Lk) (t : Int) : Int := if 0 ≤ t ∧ t < s.eff.length then s.eff.getD t.toNat 0 else 8
set_option maxHeartbeats 1600000 in
theorem lkEff_any {w : World} {a : LkA} {s : Lk} (h : LkAt w a s) (t : Int) :
    Calls Tryz.prog 33 #[.pointer (some ⟨a.g, 0, none⟩), .int .i64 t] w fun e w' => e = .returned (.int .i64 (effM s t)) ∧ w = w' := by
  have HT := Lib.hid (lkthread_any h t)
  unfold effM
  by_cases ct : 0 ≤ t ∧ t < s.eff.length
  · rw [if_pos ct]
    have hd : decide (0 ≤ t ∧ t < (s.eff.length : Int)) = true := by simp; omega
    rw [hd] at HT
    obtain ⟨k, rfl⟩ : ∃ k : Nat, t = k := ⟨t.toNat, by omega⟩
    have hk : k < s.eff.length := by omega
    simp only [Int.toNat_natCast]
    have hr7 : w.ownsRow 0 3 1 (.slice a.AE s.eff.length a.cE) s.eff.length (s.eff.map I64) := h.2.get (i := 7) rfl
    obtain ⟨bE, hbE⟩ := own_at0 hr7 (by omega)
    have hc5 : w.cell? ⟨a.g, 5, none⟩ = some (.slice a.AE s.eff.length a.cE) := h.blk.cell 5
    have hl := h.blk.lt
    rw [hbE] at hr7 hc5
    have hge : s.eff.getD k 0 = s.eff[k] := by rw [List.getD_eq_getElem?_getD, List.getElem?_eq_getElem hk]; rfl
    rw [hge]
    have hck : w.cell? ⟨bE, k, none⟩ = some (.int .i64 s.eff[k]) := by rw [hr7.cellAt k (by omega), List.getElem?_map, List.getElem?_eq_getElem hk]; rfl
    have hi0 : (0 : Int) ≤ (k : Int) := by omega
    have hi1 : (k : Int) < (s.eff.length : Int) := by omega
    generalize s.eff[k] = y at *
    clear hd hge hr7 ct h
    go_enter Tryz.func33, Tryz.ntmps33
    go_wp2_with fail
    refine (HT.out).mono ?_
    rintro e w1 ⟨rfl, rfl⟩
    go_wp2_with fail
    go_ret
    exact ⟨rfl, rfl⟩
  · rw [if_neg ct]
    have hd : decide (0 ≤ t ∧ t < (s.eff.length : Int)) = false := by simp; omega
    rw [hd] at HT
    clear hd ct h
    go_enter Tryz.func33, Tryz.ntmps33
    go_wp2_with fail
    refine (HT.out).mono ?_
    rintro e w1 ⟨rfl, rfl⟩
    go_wp2_with fail
    go_ret
    exact ⟨rfl, rfl⟩

/-- Who waits for a lock. -/
def lineM (s : Lk) (t : Int) : List Int := if 0 ≤ t ∧ t < s.lines.length then (s.lines.getD t.toNat ([], 0)).1.map WO.p else []
set_option maxHeartbeats 1600000 in
theorem lkLine_any {w0 : Base} {w : World} {a : LkA} {s : Lk} {K : Nat} (h : LkIs w0 w a s) (hw : s.Whole K) (t : Int) :
    Calls Tryz.prog 39 #[.pointer (some ⟨a.g, 0, none⟩), .int .i64 t] w fun e w' => ∃ A n c, e = .returned (.slice A n c) ∧ FreshI w w' (lineM s t) A n c := by
  have HT := Lib.hid (lklock_any h.at_ t)
  unfold lineM
  by_cases ct : 0 ≤ t ∧ t < s.lines.length
  · rw [if_pos ct]
    have hd : decide (0 ≤ t ∧ t < (s.lines.length : Int)) = true := by simp; omega
    rw [hd] at HT
    obtain ⟨q, rfl⟩ : ∃ q : Nat, t = q := ⟨t.toNat, by omega⟩
    have hq : q < s.lines.length := by omega
    simp only [Int.toNat_natCast]
    have hge : s.lines.getD q ([], 0) = s.lines[q] := by rw [List.getD_eq_getElem?_getD, List.getElem?_eq_getElem hq]; rfl
    rw [hge]
    obtain ⟨gl, v, hg, hI, hp0, hp1⟩ := (h.line q hq)
    have HAL := Lib.hid (all_any gl v s.lines[q].1 s.lines[q].2 w hI (by have := hw.lens s.lines[q] (List.getElem_mem hq); omega))
    have hr8 : w.ownsRow 0 48 1 (.slice a.AL s.lines.length a.cL) s.lines.length (a.gls.map fun x : Nat × Value => .pointer (some ⟨x.1, 0, none⟩)) := h.at_.2.get (i := 8) rfl
    obtain ⟨bL, hbL⟩ := own_at0 hr8 (by omega)
    have hc1 : w.cell? ⟨a.g, 1, none⟩ = some (.slice a.AL s.lines.length a.cL) := h.at_.blk.cell 1
    have hl := h.at_.blk.lt
    rw [hbL] at hr8 hc1
    have hcL : w.cell? ⟨bL, q, none⟩ = some (.pointer (some ⟨gl, 0, none⟩)) := by rw [hr8.cellAt q (by omega), List.getElem?_map, hg]; rfl
    have hi0 : (0 : Int) ≤ (q : Int) := by omega
    have hi1 : (q : Int) < (s.lines.length : Int) := by omega
    generalize s.lines[q].1.map WO.p = y at *
    clear hd hge hr8 ct h hI hp0 hp1 hg
    go_enter Tryz.func39, Tryz.ntmps39
    go_wp2_with fail
    refine (HT.out).mono ?_
    rintro e w1 ⟨rfl, rfl⟩
    go_wp2_with fail
    refine (HAL.out).mono ?_
    rintro e w2 ⟨A, n, c, rfl, hf⟩
    have HF := Lib.hid hf
    clear hf
    go_wp2_with fail
    go_ret
    exact ⟨A, n, c, rfl, HF.out⟩
  · rw [if_neg ct]
    have hd : decide (0 ≤ t ∧ t < (s.lines.length : Int)) = false := by simp; omega
    rw [hd] at HT
    clear hd ct h
    go_enter Tryz.func39, Tryz.ntmps39
    go_wp2_with fail
    refine (HT.out).mono ?_
    rintro e w1 ⟨rfl, rfl⟩
    go_wp2_with fail
    go_ret
    exact ⟨none, 0, 0, rfl, World.ownsRow_nil _ _ _ _, Kept.refl _ _, by simp [fp, Value.ownBlock]⟩

/-- A lock goes to the first of its line. -/
def passS1 (s : Lk) (q : Nat) (x : WO) (r : List WO) (last : Nat) : Lk := { s with owner := s.owner.set q x.p, waits := s.waits.set x.p.toNat (-1, -1), lines := s.lines.set q (r, last) }
def passS (s : Lk) (q : Nat) : Lk := match s.lines.getD q ([], 0) with
  | ([], _) => { s with owner := s.owner.set q (-1) }
  | (x :: r, last) => worseS (worseS (passS1 s q x r last) (getO s.owner q)) x.p
def passN (s : Lk) (q : Nat) : Int := match s.lines.getD q ([], 0) with
  | ([], _) => -1
  | (x :: _, _) => x.p
theorem passS1_whole {s : Lk} {K : Nat} (hw : s.Whole K) {q : Nat} {x : WO} {r : List WO} {last : Nat} (hq : s.lines[q]? = some (x :: r, last)) (hx : 0 ≤ x.p ∧ x.p < s.eff.length) : (passS1 s q x r last).Whole K := by
  have hm := List.mem_of_getElem? hq
  exact ⟨hw.nt, by simp [passS1]; exact hw.nl, by simp [passS1]; exact hw.owner, by simp [passS1]; exact hw.waits, hw.level, fun y hy => by
      rcases List.mem_or_eq_of_mem_set hy with hy | rfl
      · exact hw.owners y hy
      · exact ⟨by omega, hx.2⟩, fun y hy => by
      simp only [passS1, List.length_set]
      rcases List.mem_or_eq_of_mem_set hy with hy | rfl
      · exact hw.wls y hy
      · simp; omega, fun y hy => by
      rcases List.mem_or_eq_of_mem_set hy with hy | rfl
      · exact hw.wts y hy
      · simp only [passS1]; omega, hw.levels, hw.effs, fun y hy => by
      rcases List.mem_or_eq_of_mem_set hy with hy | rfl
      · exact hw.lens y hy
      · have := hw.lens _ hm; simp at this ⊢; omega, fun y hy => by
      rcases List.mem_or_eq_of_mem_set hy with hy | rfl
      · exact hw.lasts y hy
      · exact (show last ≤ K from hw.lasts (x :: r, last) hm)⟩

set_option maxHeartbeats 6400000 in
theorem lkpass_any {w0 : Base} {w : World} {a : LkA} {s : Lk} {K : Nat} (h : LkIs w0 w a s) (hw : s.Whole K) (q : Nat) (hq : q < s.lines.length) (hx : ∀ x ∈ s.lines[q].1, 0 ≤ x.p ∧ x.p < s.eff.length) :
    Calls Tryz.prog 50 #[.pointer (some ⟨a.g, 0, none⟩), .int .i64 q] w fun e w' => e = .returned (.int .i64 (passN s q)) ∧ ∃ a', a'.key = a.key ∧ LkIs w0 w' a' (passS s q) := by
  have HO := Lib.hid (wbOwner_any (h.at_.web hw) q)
  have hge : s.lines.getD q ([], 0) = s.lines[q] := by rw [List.getD_eq_getElem?_getD, List.getElem?_eq_getElem hq]; rfl
  unfold passS passN
  rw [hge]
  obtain ⟨gl, v, hg, hI, hp0, hp1⟩ := h.line q hq
  have hr8 : w.ownsRow 0 48 1 (.slice a.AL s.lines.length a.cL) s.lines.length (a.gls.map fun x : Nat × Value => .pointer (some ⟨x.1, 0, none⟩)) := h.at_.2.get (i := 8) rfl
  obtain ⟨bL, hbL⟩ := own_at0 hr8 (by omega)
  have hc0 : w.cell? ⟨a.g, 0, none⟩ = some (.pointer (some ⟨a.gw, 0, none⟩)) := h.at_.blk.cell 0
  have hc1 : w.cell? ⟨a.g, 1, none⟩ = some (.slice a.AL s.lines.length a.cL) := h.at_.blk.cell 1
  have hl := h.at_.blk.lt
  rw [hbL] at hr8 hc1
  have hcL : w.cell? ⟨bL, q, none⟩ = some (.pointer (some ⟨gl, 0, none⟩)) := by rw [hr8.cellAt q (by omega), List.getElem?_map, hg]; rfl
  have hi0 : (0 : Int) ≤ (q : Int) := by omega
  have hi1 : (q : Int) < (s.lines.length : Int) := by omega
  have hqe : s.lines[q]? = some s.lines[q] := List.getElem?_eq_getElem hq
  have hln := hw.lens s.lines[q] (List.getElem_mem hq)
  have HH := Lib.hid h
  have HW := Lib.hid hw
  generalize getO s.owner q = o at *
  rcases hLL : s.lines[q] with ⟨L, last⟩
  rw [hLL] at hI hqe hx hln
  simp only at hI hx hln ⊢
  cases L with
  | nil =>
    simp only
    have HP := Lib.hid (pop_none gl v last w hI)
    have HOW := Lib.hid (lkown_any h hw q hq (-1) (.inl rfl))
    clear h hw hr8 hp0 hp1 hg hI hqe hx hLL hge
    go_enter Tryz.func50, Tryz.ntmps50
    go_wp2_with fail
    refine (HO.out).mono ?_
    rintro e w1 ⟨rfl, rfl⟩
    go_wp2_with fail
    refine (HP.out).mono ?_
    rintro e w1 ⟨rfl, rfl⟩
    go_wp2_with fail
    refine (HOW.out).mono ?_
    rintro e w1 ⟨rfl, hl1⟩
    have HL := Lib.hid hl1
    clear hl1
    go_wp2_with fail
    go_ret
    exact ⟨rfl, a, rfl, HL.out⟩
  | cons x r =>
    simp only
    have hxx := hx x (by simp)
    have HP := Lib.hid (pop_some gl v x r last w hI (by omega))
    have hw3 := passS1_whole hw hqe hxx
    have HW3 := Lib.hid hw3
    have HW4 := Lib.hid (worseS_whole hw3 o)
    have HG := Lib.hid (fun w' (hgo : LineGoes w gl v w' r last) => h.goes q hq hg hgo)
    obtain ⟨k, hk⟩ : ∃ k : Nat, x.p = k := ⟨x.p.toNat, by omega⟩
    have hxp := hxx.2
    have hkn : k < s.eff.length := by omega
    have HWT : Hid (∀ w' a', LkIs w0 w' a' { s with lines := s.lines.set q (r, last) } → Calls Tryz.prog 54 #[.pointer (some ⟨a'.g, 0, none⟩), .int .i64 x.p, .int .i64 (-1)] w' fun e w'' => e = .returned (.tuple #[]) ∧ LkIs w0 w'' a' { s with waits := s.waits.set x.p.toNat (-1, -1), lines := s.lines.set q (r, last) }) := fun w' a' hl' => by
      rw [hk]
      refine lkwait_none (K := K) hl' ⟨hw.nt, by simp; exact hw.nl, by simp; exact hw.owner, hw.waits, hw.level, hw.owners, fun y hy => by simp; exact hw.wls y hy, hw.wts, hw.levels, hw.effs, fun y hy => ?_, fun y hy => ?_⟩ k hkn
      · rcases List.mem_or_eq_of_mem_set hy with hy | rfl
        · exact hw.lens y hy
        · simp at hln ⊢; omega
      · rcases List.mem_or_eq_of_mem_set hy with hy | rfl
        · exact hw.lasts y hy
        · exact (show last ≤ K from hw.lasts (x :: r, last) (List.mem_of_getElem? hqe))
    have HOW : Hid (∀ w' a', LkIs w0 w' a' { s with waits := s.waits.set x.p.toNat (-1, -1), lines := s.lines.set q (r, last) } → Calls Tryz.prog 45 #[.pointer (some ⟨a'.g, 0, none⟩), .int .i64 q, .int .i64 x.p] w' fun e w'' => e = .returned (.tuple #[]) ∧ LkIs w0 w'' a' (passS1 s q x r last)) := fun w' a' hl' => by
      refine lkown_any (K := K) hl' ⟨hw.nt, by simp; exact hw.nl, by simp; exact hw.owner, by simp; exact hw.waits, hw.level, hw.owners, fun y hy => ?_, fun y hy => ?_, hw.levels, hw.effs, fun y hy => ?_, fun y hy => ?_⟩ q (by simp; exact hq) x.p (.inr hxx)
      · simp only [List.length_set]
        rcases List.mem_or_eq_of_mem_set hy with hy | rfl
        · exact hw.wls y hy
        · simp; omega
      · rcases List.mem_or_eq_of_mem_set hy with hy | rfl
        · exact hw.wts y hy
        · simp only; omega
      · rcases List.mem_or_eq_of_mem_set hy with hy | rfl
        · exact hw.lens y hy
        · simp at hln ⊢; omega
      · rcases List.mem_or_eq_of_mem_set hy with hy | rfl
        · exact hw.lasts y hy
        · exact (show last ≤ K from hw.lasts (x :: r, last) (List.mem_of_getElem? hqe))
    obtain ⟨xp, hxpe⟩ : ∃ xp, x.p = xp := ⟨_, rfl⟩
    rw [hxpe] at HP HWT HOW ⊢
    clear h hw hr8 hp0 hp1 hg hI hqe hx hLL hge hw3 hk hxx hxp hkn hln
    go_enter Tryz.func50, Tryz.ntmps50
    go_wp2_with fail
    refine (HO.out).mono ?_
    rintro e w1 ⟨rfl, rfl⟩
    go_wp2_with fail
    refine (HP.out).mono ?_
    rintro e w1 ⟨rfl, hgo⟩
    obtain ⟨v', hl1⟩ := HG.out _ hgo
    have HL1 := Lib.hid hl1
    clear hl1 hgo
    go_wp2_with fail
    refine (HWT.out _ _ HL1.out).mono ?_
    rintro e w2 ⟨rfl, hl2⟩
    have HL2 := Lib.hid hl2
    clear hl2
    go_wp2_with fail
    refine (HOW.out _ _ HL2.out).mono ?_
    rintro e w3 ⟨rfl, hl3⟩
    have HL3 := Lib.hid hl3
    clear hl3
    go_wp2_with fail
    refine (lkworse_any HL3.out HW3.out o).mono ?_
    rintro e w4 ⟨rfl, a4, ha4, hl4⟩
    have HL4 := Lib.hid hl4
    have HA4 := Lib.hid ha4
    have he4 : a.g = a4.g := (congrArg Prod.fst ha4).symm
    clear hl4 ha4
    go_wp2_with fail
    refine (lkworse_any HL4.out HW4.out xp).mono ?_
    rintro e w5 ⟨rfl, a5, ha5, hl5⟩
    have HL5 := Lib.hid hl5
    have HA5 := Lib.hid ha5
    clear hl5 ha5
    go_wp2_with fail
    go_ret
    exact ⟨rfl, a5, HA5.out.trans HA4.out, HL5.out⟩

/-- What an unlock tells. -/
def unlE (s : Lk) (t l : Int) : Int := if ¬ (0 ≤ t ∧ t < s.eff.length) then 5 else if ¬ (0 ≤ l ∧ l < s.lines.length) then 5 else if waitsB s t then 14 else if getO s.owner l ≠ t then 11 else 0
def unlN (s : Lk) (t l : Int) : Int := if unlE s t l = 0 then passN s l.toNat else -1
def unlS (s : Lk) (t l : Int) : Lk := if unlE s t l = 0 then passS s l.toNat else s
set_option maxHeartbeats 6400000 in
theorem lkUnlock_any {w0 : Base} {w : World} {a : LkA} {s : Lk} {K : Nat} (h : LkIs w0 w a s) (hw : s.Whole K) (t l : Int) (hx : ∀ y ∈ s.lines, ∀ x ∈ y.1, 0 ≤ x.p ∧ x.p < s.eff.length) :
    Calls Tryz.prog 15 #[.pointer (some ⟨a.g, 0, none⟩), .int .i64 t, .int .i64 l] w fun e w' => e = .returned (.tuple #[.int .i64 (unlN s t l), .int .i64 (unlE s t l)]) ∧ ∃ a', a'.key = a.key ∧ LkIs w0 w' a' (unlS s t l) := by
  have HT := Lib.hid (lkthread_any h.at_ t)
  have HL := Lib.hid (lklock_any h.at_ l)
  have HWT := Lib.hid (lkwaits_any h.at_ hw t)
  have HO := Lib.hid (fun W (hk : Kept [] w W) => wbOwner_any ((h.at_.old hk).web hw) l)
  have HP := Lib.hid (fun W (hk : Kept [] w W) (q : Nat) (hq : q < s.lines.length) => lkpass_any (h.old hk) hw q hq (fun x hxx => hx _ (List.getElem_mem hq) x hxx))
  have HH := Lib.hid h
  have HB := Lib.hid h.at_.blk
  have hl := h.at_.blk.lt
  obtain ⟨E, hE⟩ : ∃ E, unlE s t l = E := ⟨_, rfl⟩
  unfold unlN unlS
  rw [hE]
  unfold unlE at hE
  clear h hw hx
  by_cases ct : 0 ≤ t ∧ t < s.eff.length
  · rw [if_neg (fun h => h ct)] at hE
    have hd : decide (0 ≤ t ∧ t < (s.eff.length : Int)) = true := by simp; omega
    rw [hd] at HT
    by_cases cl : 0 ≤ l ∧ l < s.lines.length
    · rw [if_neg (fun h => h cl)] at hE
      have hd2 : decide (0 ≤ l ∧ l < (s.lines.length : Int)) = true := by simp; omega
      rw [hd2] at HL
      clear hd hd2
      obtain ⟨q, rfl⟩ : ∃ q : Nat, l = q := ⟨l.toNat, by omega⟩
      have hq : q < s.lines.length := by omega
      have HPQ := Lib.hid (fun W hk => HP.out W hk q hq)
      clear HP ct cl hq
      simp only [Int.toNat_natCast] at hE ⊢
      generalize waitsB s t = wb at *
      generalize getO s.owner q = o at *
      generalize passN s q = pn at *
      generalize passS s q = ps at *
      cases wb
      · simp only [Bool.false_eq_true, if_false] at hE
        by_cases co : o = t
        · subst co
          rw [if_neg (fun h => h rfl)] at hE
          subst hE
          simp only [if_true]
          go_enter Tryz.func15, Tryz.ntmps15
          go_wp2_with fail
          refine (HT.out).mono ?_
          rintro e w1 ⟨rfl, rfl⟩
          go_wp2_with fail
          refine (HL.out).mono ?_
          rintro e w1 ⟨rfl, rfl⟩
          go_wp2_with fail
          refine (HWT.out).mono ?_
          rintro e w1 ⟨rfl, hk⟩
          have HK := Lib.hid hk
          have HB1 := Lib.hid (HB.out.kept hk (by simp))
          have hc1 : w1.cell? ⟨a.g, 0, none⟩ = some (.pointer (some ⟨a.gw, 0, none⟩)) := HB1.out.cell 0
          have hl1 := HB1.out.lt
          clear hk
          go_wp2_with fail
          refine (HO.out _ HK.out).mono ?_
          rintro e w2 ⟨rfl, rfl⟩
          go_wp2_with fail
          refine (HPQ.out _ HK.out).mono ?_
          rintro e w2 ⟨rfl, a', ha', hl2⟩
          have HA := Lib.hid ha'
          have HL2 := Lib.hid hl2
          clear ha' hl2
          go_wp2_with fail
          go_ret2
          exact ⟨rfl, a', HA.out, HL2.out⟩
        · rw [if_pos co] at hE
          subst hE
          simp only [show ¬ ((11 : Int) = 0) by decide, if_false]
          have hb1 : (o == t) = false := beq_eq_false_iff_ne.2 co
          go_enter Tryz.func15, Tryz.ntmps15
          go_wp2_with fail
          refine (HT.out).mono ?_
          rintro e w1 ⟨rfl, rfl⟩
          go_wp2_with fail
          refine (HL.out).mono ?_
          rintro e w1 ⟨rfl, rfl⟩
          go_wp2_with fail
          refine (HWT.out).mono ?_
          rintro e w1 ⟨rfl, hk⟩
          have HK := Lib.hid hk
          have HB1 := Lib.hid (HB.out.kept hk (by simp))
          have hc1 : w1.cell? ⟨a.g, 0, none⟩ = some (.pointer (some ⟨a.gw, 0, none⟩)) := HB1.out.cell 0
          have hl1 := HB1.out.lt
          clear hk
          go_wp2_with fail
          refine (HO.out _ HK.out).mono ?_
          rintro e w2 ⟨rfl, rfl⟩
          go_wp2_with fail
          go_ret2
          exact ⟨rfl, a, rfl, HH.out.old HK.out⟩
      · rw [if_pos rfl] at hE
        subst hE
        simp only [show ¬ ((14 : Int) = 0) by decide, if_false]
        go_enter Tryz.func15, Tryz.ntmps15
        go_wp2_with fail
        refine (HT.out).mono ?_
        rintro e w1 ⟨rfl, rfl⟩
        go_wp2_with fail
        refine (HL.out).mono ?_
        rintro e w1 ⟨rfl, rfl⟩
        go_wp2_with fail
        refine (HWT.out).mono ?_
        rintro e w1 ⟨rfl, hk⟩
        have HK := Lib.hid hk
        clear hk
        go_wp2_with fail
        go_ret2
        exact ⟨rfl, a, rfl, HH.out.old HK.out⟩
    · rw [if_pos cl] at hE
      subst hE
      simp only [show ¬ ((5 : Int) = 0) by decide, if_false]
      have hd2 : decide (0 ≤ l ∧ l < (s.lines.length : Int)) = false := by simp; omega
      rw [hd2] at HL
      clear hd hd2 ct cl
      go_enter Tryz.func15, Tryz.ntmps15
      go_wp2_with fail
      refine (HT.out).mono ?_
      rintro e w1 ⟨rfl, rfl⟩
      go_wp2_with fail
      refine (HL.out).mono ?_
      rintro e w1 ⟨rfl, rfl⟩
      go_wp2_with fail
      go_ret2
      exact ⟨rfl, a, rfl, HH.out⟩
  · rw [if_pos ct] at hE
    subst hE
    simp only [show ¬ ((5 : Int) = 0) by decide, if_false]
    have hd : decide (0 ≤ t ∧ t < (s.eff.length : Int)) = false := by simp; omega
    rw [hd] at HT
    clear hd ct
    go_enter Tryz.func15, Tryz.ntmps15
    go_wp2_with fail
    refine (HT.out).mono ?_
    rintro e w1 ⟨rfl, rfl⟩
    go_wp2_with fail
    go_ret2
    exact ⟨rfl, a, rfl, HH.out⟩

end Go.Proofs.YtfoeijiejpenpaaGreatDoor
