/- Package lock: Try, Owner, Waits, Level and Cancel, walked. -/
import Derived.Test.YtfoeijiejpenpaaGreatDoorLkP
import Derived.Test.YtfoeijiejpenpaaGreatDoorPlainV
namespace Go.Proofs.YtfoeijiejpenpaaGreatDoor
open Go.RowKit

/-- What a try tells, and leaves. -/
def tryE (s : Lk) (t l : Int) : Int := if mayM s t l ≠ 0 then mayM s t l else if getO s.owner l ≠ -1 then 13 else 0
def tryS (s : Lk) (t l : Int) : Lk := if tryE s t l = 0 then { s with owner := s.owner.set l.toNat t } else s
theorem mayM_zero {s : Lk} {t l : Int} (h : mayM s t l = 0) : (0 ≤ t ∧ t < s.eff.length) ∧ (0 ≤ l ∧ l < s.lines.length) ∧ waitsB s t = false ∧ closesM s.owner s.waits t (getO s.owner l) = false := by
  unfold mayM at h
  split at h
  · omega
  split at h
  · omega
  split at h
  · omega
  split at h
  · omega
  rename_i h1 h2 h3 h4
  exact ⟨by omega, by omega, by simpa using h3, by simpa using h4⟩
set_option maxHeartbeats 3200000 in
theorem lkTry_any {w0 : Base} {w : World} {a : LkA} {s : Lk} {K : Nat} (h : LkIs w0 w a s) (hw : s.Whole K) (t l : Int) :
    Calls Tryz.prog 13 #[.pointer (some ⟨a.g, 0, none⟩), .int .i64 t, .int .i64 l] w fun e w' => e = .returned (.int .i64 (tryE s t l)) ∧ LkIs w0 w' a (tryS s t l) := by
  have HC := Lib.hid (lkmay_any h.at_ hw t l)
  have HO := Lib.hid (fun W (hk : Kept [] w W) => wbOwner_any ((h.at_.old hk).web hw) l)
  have HH := Lib.hid h
  have HB := Lib.hid h.at_.blk
  obtain ⟨E, hE⟩ : ∃ E, tryE s t l = E := ⟨_, rfl⟩
  unfold tryS
  rw [hE]
  unfold tryE at hE
  by_cases hm : mayM s t l ≠ 0
  · rw [if_pos hm] at hE
    subst hE
    rw [if_neg hm]
    generalize mayM s t l = e0 at *
    have hb : (e0 == 0) = false := beq_eq_false_iff_ne.2 hm
    clear h hw hm
    go_enter Tryz.func13, Tryz.ntmps13
    go_wp2_with fail
    refine (HC.out).mono ?_
    rintro e w1 ⟨rfl, hk⟩
    have HL := Lib.hid (HH.out.old hk)
    clear hk
    go_wp2_with fail
    go_ret
    exact ⟨rfl, HL.out⟩
  rw [if_neg hm] at hE
  have hm0 : mayM s t l = 0 := by omega
  have hz := mayM_zero hm0
  obtain ⟨k, rfl⟩ : ∃ k : Nat, t = k := ⟨t.toNat, by omega⟩
  obtain ⟨q, rfl⟩ : ∃ q : Nat, l = q := ⟨l.toNat, by omega⟩
  rw [hm0] at HC
  simp only [Int.toNat_natCast]
  have HOW := Lib.hid (fun W (hkk : Kept [] w W) => lkown_any (h.old hkk) hw q (by omega) k (.inr ⟨by omega, by omega⟩))
  by_cases ho : getO s.owner q ≠ -1
  · rw [if_pos ho] at hE
    subst hE
    rw [if_neg (by omega)]
    generalize getO s.owner q = o at *
    have hb : (o == -1) = false := beq_eq_false_iff_ne.2 ho
    clear h hw hm hm0 hz ho
    go_enter Tryz.func13, Tryz.ntmps13
    go_wp2_with fail
    refine (HC.out).mono ?_
    rintro e w1 ⟨rfl, hk1⟩
    have HK := Lib.hid hk1
    have HB1 := Lib.hid (HB.out.kept hk1 (by simp))
    have hc0 : w1.cell? ⟨a.g, 0, none⟩ = some (.pointer (some ⟨a.gw, 0, none⟩)) := HB1.out.cell 0
    have hl := HB1.out.lt
    have HL := Lib.hid (HH.out.old hk1)
    clear hk1
    go_wp2_with fail
    refine (HO.out _ HK.out).mono ?_
    rintro e w2 ⟨rfl, rfl⟩
    go_wp2_with fail
    go_ret
    exact ⟨rfl, HL.out⟩
  rw [if_neg ho] at hE
  subst hE
  rw [if_pos rfl]
  have ho2 : getO s.owner q = -1 := by omega
  rw [ho2] at HO
  clear h hw hm hm0 hz ho ho2
  go_enter Tryz.func13, Tryz.ntmps13
  go_wp2_with fail
  refine (HC.out).mono ?_
  rintro e w1 ⟨rfl, hk1⟩
  have HK := Lib.hid hk1
  have HB1 := Lib.hid (HB.out.kept hk1 (by simp))
  have hc0 : w1.cell? ⟨a.g, 0, none⟩ = some (.pointer (some ⟨a.gw, 0, none⟩)) := HB1.out.cell 0
  have hl := HB1.out.lt
  clear hk1
  go_wp2_with fail
  refine (HO.out _ HK.out).mono ?_
  rintro e w2 ⟨rfl, rfl⟩
  go_wp2_with fail
  refine (HOW.out _ HK.out).mono ?_
  rintro e w2 ⟨rfl, hl2⟩
  have HL := Lib.hid hl2
  clear hl2
  go_wp2_with fail
  go_ret
  exact ⟨rfl, HL.out⟩

set_option maxHeartbeats 1600000 in
theorem lkOwner_any {w : World} {a : LkA} {s : Lk} {K : Nat} (h : LkAt w a s) (hw : s.Whole K) (l : Int) :
    Calls Tryz.prog 38 #[.pointer (some ⟨a.g, 0, none⟩), .int .i64 l] w fun e w' => e = .returned (.int .i64 (getO s.owner l)) ∧ w = w' := by
  have HT := Lib.hid (lklock_any h l)
  have HO := Lib.hid (wbOwner_any (h.web hw) l)
  have hc0 : w.cell? ⟨a.g, 0, none⟩ = some (.pointer (some ⟨a.gw, 0, none⟩)) := h.blk.cell 0
  have hl := h.blk.lt
  have hol := hw.owner
  by_cases ct : 0 ≤ l ∧ l < s.lines.length
  · have hd : decide (0 ≤ l ∧ l < (s.lines.length : Int)) = true := by simp; omega
    rw [hd] at HT
    generalize getO s.owner l = o at *
    clear hd h hw ct hol
    go_enter Tryz.func38, Tryz.ntmps38
    go_wp2_with fail
    refine (HT.out).mono ?_
    rintro e w1 ⟨rfl, rfl⟩
    go_wp2_with fail
    refine (HO.out).mono ?_
    rintro e w1 ⟨rfl, rfl⟩
    go_wp2_with fail
    go_ret
    exact ⟨rfl, rfl⟩
  · have hd : decide (0 ≤ l ∧ l < (s.lines.length : Int)) = false := by simp; omega
    rw [hd] at HT
    rw [getO_out (by omega)]
    clear hd h hw ct hol HO
    go_enter Tryz.func38, Tryz.ntmps38
    go_wp2_with fail
    refine (HT.out).mono ?_
    rintro e w1 ⟨rfl, rfl⟩
    go_wp2_with fail
    go_ret
    exact ⟨rfl, rfl⟩

set_option maxHeartbeats 1600000 in
theorem lkWaits_any {w : World} {a : LkA} {s : Lk} {K : Nat} (h : LkAt w a s) (hw : s.Whole K) (t : Int) :
    Calls Tryz.prog 31 #[.pointer (some ⟨a.g, 0, none⟩), .int .i64 t] w fun e w' => e = .returned (.tuple #[.int .i64 (getW s.waits t).1, .int .i64 (getW s.waits t).2]) ∧ Kept [] w w' := by
  have HT := Lib.hid (lkthread_any h t)
  have HO := Lib.hid (wbWaits_any (h.web hw) t)
  have hc0 : w.cell? ⟨a.g, 0, none⟩ = some (.pointer (some ⟨a.gw, 0, none⟩)) := h.blk.cell 0
  have hl := h.blk.lt
  have hol := hw.waits
  by_cases ct : 0 ≤ t ∧ t < s.eff.length
  · have hd : decide (0 ≤ t ∧ t < (s.eff.length : Int)) = true := by simp; omega
    rw [hd] at HT
    generalize getW s.waits t = o at *
    clear hd h hw ct hol
    go_enter Tryz.func31, Tryz.ntmps31
    go_wp2_with fail
    refine (HT.out).mono ?_
    rintro e w1 ⟨rfl, rfl⟩
    go_wp2_with fail
    refine (HO.out).mono ?_
    rintro e w1 ⟨rfl, hk⟩
    have HK := Lib.hid hk
    clear hk
    go_wp2_with fail
    go_ret2
    exact ⟨rfl, HK.out⟩
  · have hd : decide (0 ≤ t ∧ t < (s.eff.length : Int)) = false := by simp; omega
    rw [hd] at HT
    rw [getW_out (by omega)]
    clear hd h hw ct hol HO
    go_enter Tryz.func31, Tryz.ntmps31
    go_wp2_with fail
    refine (HT.out).mono ?_
    rintro e w1 ⟨rfl, rfl⟩
    go_wp2_with fail
    go_ret2
    exact ⟨rfl, Kept.refl _ _⟩

/-- A thread's level. -/
def levM2 (s : Lk) (t : Int) : Int := if 0 ≤ t ∧ t < s.eff.length then s.level.getD t.toNat 0 else 8
set_option maxHeartbeats 1600000 in
theorem lkLevel_any {w : World} {a : LkA} {s : Lk} {K : Nat} (h : LkAt w a s) (hw : s.Whole K) (t : Int) :
    Calls Tryz.prog 32 #[.pointer (some ⟨a.g, 0, none⟩), .int .i64 t] w fun e w' => e = .returned (.int .i64 (levM2 s t)) ∧ w = w' := by
  have HT := Lib.hid (lkthread_any h t)
  unfold levM2
  by_cases ct : 0 ≤ t ∧ t < s.eff.length
  · rw [if_pos ct]
    have hd : decide (0 ≤ t ∧ t < (s.eff.length : Int)) = true := by simp; omega
    rw [hd] at HT
    obtain ⟨k, rfl⟩ : ∃ k : Nat, t = k := ⟨t.toNat, by omega⟩
    have hk : k < s.level.length := by rw [hw.level]; omega
    simp only [Int.toNat_natCast]
    have hr7 : w.ownsRow 0 3 1 (.slice a.AV s.eff.length a.cV) s.eff.length (s.level.map I64) := h.2.get (i := 4) rfl
    obtain ⟨bE, hbE⟩ := own_at0 hr7 (by omega)
    have hc5 : w.cell? ⟨a.g, 2, none⟩ = some (.slice a.AV s.eff.length a.cV) := h.blk.cell 2
    have hl := h.blk.lt
    rw [hbE] at hr7 hc5
    have hge : s.level.getD k 0 = s.level[k] := by rw [List.getD_eq_getElem?_getD, List.getElem?_eq_getElem hk]; rfl
    rw [hge]
    have hck : w.cell? ⟨bE, k, none⟩ = some (.int .i64 s.level[k]) := by rw [hr7.cellAt k (by omega), List.getElem?_map, List.getElem?_eq_getElem hk]; rfl
    have hi0 : (0 : Int) ≤ (k : Int) := by omega
    have hi1 : (k : Int) < (s.eff.length : Int) := by omega
    generalize s.level[k] = y at *
    clear hd hge hr7 ct h hw
    go_enter Tryz.func32, Tryz.ntmps32
    go_wp2_with fail
    refine (HT.out).mono ?_
    rintro e w1 ⟨rfl, rfl⟩
    go_wp2_with fail
    go_ret
    exact ⟨rfl, rfl⟩
  · rw [if_neg ct]
    have hd : decide (0 ≤ t ∧ t < (s.eff.length : Int)) = false := by simp; omega
    rw [hd] at HT
    clear hd ct h hw
    go_enter Tryz.func32, Tryz.ntmps32
    go_wp2_with fail
    refine (HT.out).mono ?_
    rintro e w1 ⟨rfl, rfl⟩
    go_wp2_with fail
    go_ret
    exact ⟨rfl, rfl⟩

set_option maxHeartbeats 6400000 in
theorem lkCancel_any {w0 : Base} {w : World} {a : LkA} {s : Lk} {K : Nat} (h : LkIs w0 w a s) (hI : LkAll s K) (t : Int) :
    Calls Tryz.prog 17 #[.pointer (some ⟨a.g, 0, none⟩), .int .i64 t] w fun e w' => e = .returned (.bool (decide ((0 ≤ t ∧ t < s.eff.length) ∧ (getW s.waits t).1 ≠ -1))) ∧ ∃ a', a'.key = a.key ∧ LkIs w0 w' a' (cancelS s t) := by
  have hw := hI.whole
  have HT := Lib.hid (lkthread_any h.at_ t)
  have HH := Lib.hid h
  unfold cancelS
  by_cases ct : 0 ≤ t ∧ t < s.eff.length
  · have hd : decide (0 ≤ t ∧ t < (s.eff.length : Int)) = true := by simp; omega
    rw [hd] at HT
    obtain ⟨k, rfl⟩ : ∃ k : Nat, t = k := ⟨t.toNat, by omega⟩
    have hk : k < s.eff.length := by omega
    have hr5 : w.ownsRow 0 3 1 (.slice a.AW s.eff.length a.cW) s.eff.length (s.waits.map fun x : Int × Int => I64 x.1) := h.at_.2.get (i := 5) rfl
    obtain ⟨bW, hbW⟩ := own_at0 hr5 (by omega)
    have hc3 : w.cell? ⟨a.g, 3, none⟩ = some (.slice a.AW s.eff.length a.cW) := h.at_.blk.cell 3
    have hl := h.at_.blk.lt
    rw [hbW] at hr5 hc3
    have hkw : k < s.waits.length := by rw [hw.waits]; exact hk
    have hck : w.cell? ⟨bW, k, none⟩ = some (.int .i64 (getW s.waits k).1) := by rw [hr5.cellAt k (by omega), List.getElem?_map, List.getElem?_eq_getElem hkw, getW_in hkw]; rfl
    have hi0 : (0 : Int) ≤ (k : Int) := by omega
    have hi1 : (k : Int) < (s.eff.length : Int) := by omega
    by_cases cw : (getW s.waits k).1 = -1
    · rw [if_neg (by omega)]
      have hd2 : decide ((0 ≤ (k : Int) ∧ (k : Int) < (s.eff.length : Int)) ∧ (getW s.waits k).1 ≠ -1) = false := by simp; omega
      rw [hd2]
      rw [cw] at hck
      clear hd hd2 ct h hw hI hr5 cw
      go_enter Tryz.func17, Tryz.ntmps17
      go_wp2_with fail
      refine (HT.out).mono ?_
      rintro e w1 ⟨rfl, rfl⟩
      go_wp2_with fail
      go_ret
      exact ⟨rfl, a, rfl, HH.out⟩
    · rw [if_pos ⟨ct, cw⟩]
      have hd2 : decide ((0 ≤ (k : Int) ∧ (k : Int) < (s.eff.length : Int)) ∧ (getW s.waits k).1 ≠ -1) = true := by simp; omega
      rw [hd2]
      have hwr := hI.wrng k
      obtain ⟨q, hq⟩ : ∃ q : Nat, (getW s.waits k).1 = q := ⟨(getW s.waits k).1.toNat, by omega⟩
      have hql : q < s.lines.length := by omega
      rw [hq] at hck ⊢
      simp only [Int.toNat_natCast]
      have hlq : s.lines[q]? = some (s.lines[q].1, s.lines[q].2) := by rw [List.getElem?_eq_getElem hql]
      have hge : s.lines.getD q ([], 0) = s.lines[q] := by rw [List.getD_eq_getElem?_getD, List.getElem?_eq_getElem hql]; rfl
      rw [hge]
      obtain ⟨x, hx, hxp⟩ := (hI.lines q _ _ hlq).all k hkw hq
      obtain ⟨y, hy⟩ : ∃ y, findW (k : Int) s.lines[q].1 = some y := by
        cases hf : findW (k : Int) s.lines[q].1 with
        | none => exact absurd hxp ((find_none_iff _ _).1 hf x hx)
        | some y => exact ⟨y, rfl⟩
      have hln := hw.lens s.lines[q] (List.getElem_mem hql)
      obtain ⟨gl, v, hg, hIL, _, _⟩ := h.line q hql
      have HREM := Lib.hid (remove_some gl v s.lines[q].1 s.lines[q].2 k y w hIL (by omega) hy)
      have HG := Lib.hid (fun w' (hgo : LineGoes w gl v w' (s.lines[q].1.eraseP (isP k)) s.lines[q].2) => h.goes q hql hg hgo)
      have hr8 : w.ownsRow 0 48 1 (.slice a.AL s.lines.length a.cL) s.lines.length (a.gls.map fun x : Nat × Value => .pointer (some ⟨x.1, 0, none⟩)) := h.at_.2.get (i := 8) rfl
      obtain ⟨bL, hbL⟩ := own_at0 hr8 (by omega)
      have hc1 : w.cell? ⟨a.g, 1, none⟩ = some (.slice a.AL s.lines.length a.cL) := h.at_.blk.cell 1
      rw [hbL] at hr8 hc1
      have hcL : w.cell? ⟨bL, q, none⟩ = some (.pointer (some ⟨gl, 0, none⟩)) := by rw [hr8.cellAt q (by omega), List.getElem?_map, hg]; rfl
      have hi2 : (0 : Int) ≤ (q : Int) := by omega
      have hi3 : (q : Int) < (s.lines.length : Int) := by omega
      have hbq : ((q : Int) == -1) = false := beq_eq_false_iff_ne.2 (by omega)
      have hsub : (s.lines[q].1.eraseP (isP k)).length ≤ s.lines[q].1.length := List.eraseP_sublist.length_le
      have hw1 : ({ s with lines := s.lines.set q (s.lines[q].1.eraseP (isP k), s.lines[q].2) } : Lk).Whole K := hw.setLn q _ (by simp only; omega) (show s.lines[q].2 ≤ K from hw.lasts _ (List.getElem_mem hql))
      have hw2 := hw1.setW k (-1, -1) ⟨by simp, by simp; omega⟩ ⟨by simp, by simp; omega⟩
      have HWT := Lib.hid (fun w' a' (hl' : LkIs w0 w' a' { s with lines := s.lines.set q (s.lines[q].1.eraseP (isP k), s.lines[q].2) }) => lkwait_none hl' hw1 k hk)
      have HO := Lib.hid (fun w' a' (hl' : LkIs w0 w' a' { s with waits := s.waits.set k (-1, -1), lines := s.lines.set q (s.lines[q].1.eraseP (isP k), s.lines[q].2) }) => wbOwner_any (hl'.at_.web hw2) q)
      have HWO := Lib.hid (fun w' a' (hl' : LkIs w0 w' a' { s with waits := s.waits.set k (-1, -1), lines := s.lines.set q (s.lines[q].1.eraseP (isP k), s.lines[q].2) }) => lkworse_any hl' hw2 (getO s.owner q))
      simp only at HO
      generalize getO s.owner q = o at *
      clear hd hd2 ct h hw hI hr5 cw hx hxp hy hln hIL hg hr8 hsub hw1 hw2 hlq hge hwr hq
      go_enter Tryz.func17, Tryz.ntmps17
      go_wp2_with fail
      refine (HT.out).mono ?_
      rintro e w1 ⟨rfl, rfl⟩
      go_wp2_with fail
      refine (HREM.out).mono ?_
      rintro e w1 ⟨rfl, hgo⟩
      obtain ⟨v', hl1⟩ := HG.out _ hgo
      have HL1 := Lib.hid hl1
      clear hl1 hgo
      go_wp2_with fail
      refine (HWT.out _ _ HL1.out).mono ?_
      rintro e w2 ⟨rfl, hl2⟩
      have HL2 := Lib.hid hl2
      have hc0 : w2.cell? ⟨a.g, 0, none⟩ = some (.pointer (some ⟨a.gw, 0, none⟩)) := hl2.at_.blk.cell 0
      have hll := hl2.at_.blk.lt
      clear hl2
      go_wp2_with fail
      refine (HO.out _ _ HL2.out).mono ?_
      rintro e w3 ⟨rfl, rfl⟩
      go_wp2_with fail
      refine (HWO.out _ _ HL2.out).mono ?_
      rintro e w4 ⟨rfl, a4, ha4, hl4⟩
      have HL4 := Lib.hid hl4
      have HA4 := Lib.hid ha4
      clear hl4 ha4
      go_wp2_with fail
      go_ret
      exact ⟨rfl, a4, HA4.out, HL4.out⟩
  · rw [if_neg (by omega)]
    have hd : decide (0 ≤ t ∧ t < (s.eff.length : Int)) = false := by simp; omega
    have hd2 : decide ((0 ≤ t ∧ t < (s.eff.length : Int)) ∧ (getW s.waits t).1 ≠ -1) = false := by simp; omega
    rw [hd2]
    rw [hd] at HT
    clear hd hd2 ct h hw hI
    go_enter Tryz.func17, Tryz.ntmps17
    go_wp2_with fail
    refine (HT.out).mono ?_
    rintro e w1 ⟨rfl, rfl⟩
    go_wp2_with fail
    go_ret
    exact ⟨rfl, a, rfl, HH.out⟩

end Go.Proofs.YtfoeijiejpenpaaGreatDoor
