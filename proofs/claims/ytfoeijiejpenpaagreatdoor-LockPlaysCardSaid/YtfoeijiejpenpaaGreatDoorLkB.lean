/- Package lock: better, walked. -/
import Derived.Test.YtfoeijiejpenpaaGreatDoorLkW
import Derived.Test.YtfoeijiejpenpaaGreatDoorShelf
import Derived.Deep.LoopGhost
import Derived.WalkMore
namespace Go.Proofs.YtfoeijiejpenpaaGreatDoor
open Go.RowKit

theorem clone_any (w : World) (A : Option Addr) (n c : Nat) (xs : List Int) (hr : w.ownsRow 0 3 1 (.slice A n c) n (xs.map I64)) (hn : 0 < n) (hn2 : n ≤ 1000) :
    Calls Tryz.prog 94 #[.slice A n c] w fun e w' => ∃ b c', e = .returned (.slice (some ⟨b, 0, none⟩) n c') ∧ w'.ownsRow 0 3 1 (.slice (some ⟨b, 0, none⟩) n c') n (xs.map I64) ∧ w.heap.size ≤ b ∧ Kept [] w w' := by
  obtain ⟨g, rfl⟩ := own_at0 hr hn
  have hl : xs.length = n := by have := (Reads.of_own hr).1; simpa using this
  refine (Tryz.slices_Clone_int g 0 n c xs w (by omega) (by omega) (fun j hj => ?_)).mono ?_
  · rw [Nat.zero_add, hr.cellAt j (by omega), List.getElem?_map, List.getElem?_eq_getElem hj, List.getD_eq_getElem?_getD, List.getElem?_eq_getElem hj]; rfl
  · rintro e w' ⟨v', rfl, ho, _, hb⟩
    rw [List.take_of_length_le (by omega)] at ho
    obtain ⟨A, c', rfl, _, _⟩ := own_form ho
    obtain ⟨b, rfl⟩ := own_at0 ho hn
    exact ⟨b, c', rfl, own_base ho, (ho.lt b rfl).1, Kept.ofBelow hb []⟩

/-- The walk that makes better. -/
def betF (owner : List Int) (waits : List (Int × Int)) (given : Int) : Nat → Int → List Int → List Int → List Int × List Int
  | 0, _, eff, met => (eff, met)
  | f + 1, t, eff, met => if t = -1 then (eff, met) else if eff.getD t.toNat 0 ≤ given then (eff, met) else
    if (getW waits t).1 = -1 then (eff.set t.toNat given, met ++ [t]) else betF owner waits given f (getO owner (getW waits t).1) (eff.set t.toNat given) (met ++ [t])
/-- How many levels are worse. -/
def worseN (given : Int) (eff : List Int) : Nat := eff.countP (fun x => decide (given < x))
/-- A better level is given to a thread, and on along its chain. -/
def betterR (s : Lk) (t given : Int) : List Int × List Int := betF s.owner s.waits given (worseN given s.eff + 1) t s.eff []
def betterS (s : Lk) (t given : Int) : Lk := { s with eff := (betterR s t given).1, lines := takeL s.waits (betterR s t given).1 (betterR s t given).2 s.lines }

/-- What better works on. -/
def bP (b c' n : Nat) (Am : Option Addr) (cm : Nat) (eff met : List Int) : List Piece := [.row 3 1 (.slice (some ⟨b, 0, none⟩) n c') n (eff.map I64), .row 3 1 (.slice Am met.length cm) met.length (met.map I64)]
theorem worseN_set {given : Int} {eff : List Int} {k : Nat} (hk : k < eff.length) (h : ¬ eff.getD k 0 ≤ given) : worseN given (eff.set k given) + 1 = worseN given eff := by
  have hg : eff.getD k 0 = eff[k] := by rw [List.getD_eq_getElem?_getD, List.getElem?_eq_getElem hk]; rfl
  rw [hg] at h
  unfold worseN
  have := List.countP_set (p := fun x => decide (given < x)) (l := eff) (i := k) (a := given) hk
  have hpos : 0 < eff.countP (fun x => decide (given < x)) := List.countP_pos_iff.2 ⟨eff[k], List.getElem_mem hk, by simp; omega⟩
  have hd : decide (given < eff[k]) = true := by simp; omega
  simp [hd] at this
  omega

set_option maxHeartbeats 6400000 in
set_option maxRecDepth 100000 in
theorem lkbetter_any {w0 : Base} {w : World} {a : LkA} {s : Lk} {K : Nat} (h : LkIs w0 w a s) (hw : s.Whole K) (t given : Int) (ht : -1 ≤ t ∧ t < s.eff.length) (hn : 0 < s.eff.length) :
    Calls Tryz.prog 69 #[.pointer (some ⟨a.g, 0, none⟩), .int .i64 t, .int .i64 given] w fun e w' => e = .returned (.tuple #[]) ∧ ∃ a', a'.key = a.key ∧ LkIs w0 w' a' (betterS s t given) := by
  have hB : Blk w a.g 47 _ := h.at_.blk
  have hc5 : w.cell? ⟨a.g, 5, none⟩ = some (.slice a.AE s.eff.length a.cE) := hB.cell 5
  have hl := hB.lt
  have hr7 : w.ownsRow 0 3 1 (.slice a.AE s.eff.length a.cE) s.eff.length (s.eff.map I64) := h.at_.2.get (i := 7) rfl
  have HC := Lib.hid (clone_any w a.AE s.eff.length a.cE s.eff hr7 hn (by have := hw.nt; omega))
  obtain ⟨R, hR⟩ : ∃ R, betterR s t given = R := ⟨_, rfl⟩
  unfold betterS
  rw [hR]
  have HR := Lib.hid hR
  have HH := Lib.hid h
  have HW := Lib.hid hw
  clear h hw hR hr7 hB
  go_enter Tryz.func69, Tryz.ntmps69
  go_wp2_with fail
  go_step3
  go_wp2_with fail
  refine (HC.out).mono ?_
  rintro e w1 ⟨b, c', rfl, hrow, hbg, hk1⟩
  have HTK := Lib.hid (fun wr Am cm eff met (hlen : eff.length = s.eff.length) hmr hml (hH : Holds wr (bP b c' s.eff.length Am cm eff met)) (hk : Kept [] w wr) => lktake_any HH.out HW.out b c' eff hlen hbg hk (hH.get (i := 0) rfl) Am cm met (hH.get (i := 1) rfl) hmr hml)
  have HP1 : Hid (Holds w1 (bP b c' s.eff.length none 0 s.eff [])) := by
    refine ⟨fun p hp => ?_, fun i j p q hij hp hq k hk1 hk2 => ?_⟩
    · simp only [bP, List.mem_cons, List.not_mem_nil, or_false] at hp
      rcases hp with rfl | rfl
      · exact hrow
      · exact World.ownsRow_nil _ _ _ _
    · have hj : j < 2 := (List.getElem?_eq_some_iff.1 hq).1
      obtain rfl : i = 0 := by omega
      obtain rfl : j = 1 := by omega
      simp [bP] at hq
      subst hq
      simp [Piece.fp, fp, Value.ownBlock] at hk2
  have HN1 : Hid (Newer w (bP b c' s.eff.length none 0 s.eff [])) := fun p hp k hk => by
    simp only [bP, List.mem_cons, List.not_mem_nil, or_false] at hp
    rcases hp with rfl | rfl
    · simp [Piece.fp, fp_some] at hk; omega
    · simp [Piece.fp, fp, Value.ownBlock] at hk
  have HK1 := Lib.hid hk1
  clear hrow hbg hk1 hc5
  go_wp2_with fail
  go_step3
  go_wp2_with fail
  go_loopg [1, 6] (worseN given s.eff + 1) (fun g tv mv wr => ∃ (u : Int) (eff met : List Int) (Am : Option Addr) (cm : Nat), tv = .int .i64 u ∧ mv = .slice Am met.length cm ∧ g = worseN given eff + 1 ∧ -1 ≤ u ∧ u < s.eff.length ∧ Hid (eff.length = s.eff.length) ∧ Hid (∀ x ∈ met, 0 ≤ x ∧ x < s.eff.length) ∧ Hid (met.length + worseN given eff ≤ s.eff.length) ∧ Hid (betF s.owner s.waits given g u eff met = R) ∧ Hid (Holds wr (bP b c' s.eff.length Am cm eff met)) ∧ Hid (Newer w (bP b c' s.eff.length Am cm eff met)) ∧ Hid (Kept [] w wr))
  case atStart => exact ⟨t, s.eff, [], none, 0, rfl, rfl, rfl, ht.1, ht.2, rfl, (by show ∀ x ∈ ([] : List Int), _; simp), (by show 0 + _ ≤ _; rw [Nat.zero_add]; exact List.countP_le_length), HR.out, HP1.out, HN1.out, HK1.out⟩
  case round =>
    clear HR HP1 HN1 HK1
    obtain ⟨u, eff, met, Am, cm, rfl, rfl, rfl, hu0, hu1, HLN, HMR, HML, HD, HPS, HNW, HKW⟩ := hrel
    have hd := HD.out
    rw [betF] at hd
    by_cases c1 : u = -1
    · subst c1
      rw [if_pos rfl] at hd
      subst hd
      go_wp2_with fail
      refine (HTK.out _ _ _ _ _ HLN.out HMR.out (by have := HML.out; have := HW.out.nt; omega) HPS.out HKW.out).mono ?_
      rintro e w5 ⟨rfl, gls', hl5⟩
      have HL5 := Lib.hid hl5
      clear hl5
      go_wp2_with fail
      (try simp only [Exit.noGoto_normal])
      go_end0
      exact ⟨rfl, { a with AE := some ⟨b, 0, none⟩, cE := c', gls := gls' }, rfl, HL5.out⟩
    · rw [if_neg c1] at hd
      obtain ⟨k, rfl⟩ : ∃ k : Nat, u = k := ⟨u.toNat, by omega⟩
      have hk : k < s.eff.length := by omega
      have hke : k < eff.length := by rw [HLN.out]; exact hk
      simp only [Int.toNat_natCast] at hd
      have hr0 : wr.ownsRow 0 3 1 (.slice (some ⟨b, 0, none⟩) s.eff.length c') s.eff.length (eff.map I64) := HPS.out.get (i := 0) rfl
      have hge : eff.getD k 0 = eff[k] := by rw [List.getD_eq_getElem?_getD, List.getElem?_eq_getElem hke]; rfl
      have hcb : wr.cell? ⟨b, k, none⟩ = some (.int .i64 (eff.getD k 0)) := by rw [hr0.cellAt k (by omega), List.getElem?_map, List.getElem?_eq_getElem hke, hge]; rfl
      have hfb : wr.frozen? ⟨b, k, none⟩ = false := hr0.frozenAt k
      have hbl := World.block_lt_of_cell? wr _ hcb
      simp only at hbl
      have hb1 : ((k : Int) == -1) = false := beq_eq_false_iff_ne.2 c1
      have hi0 : (0 : Int) ≤ (k : Int) := by omega
      have hi1 : (k : Int) < (s.eff.length : Int) := by omega
      have HWN := Lib.hid (fun hh => worseN_set (given := given) hke hh)
      clear c1 hge
      by_cases c2 : eff.getD k 0 ≤ given
      · rw [if_pos c2] at hd
        subst hd
        clear HWN
        obtain ⟨y, hy⟩ : ∃ y, eff.getD k 0 = y := ⟨_, rfl⟩
        rw [hy] at c2 hcb
        clear hy
        go_wp2_with fail
        refine (HTK.out _ _ _ _ _ HLN.out HMR.out (by have := HML.out; have := HW.out.nt; omega) HPS.out HKW.out).mono ?_
        rintro e w5 ⟨rfl, gls', hl5⟩
        have HL5 := Lib.hid hl5
        clear hl5
        go_wp2_with fail
        (try simp only [Exit.noGoto_normal])
        go_end0
        exact ⟨rfl, { a with AE := some ⟨b, 0, none⟩, cE := c', gls := gls' }, rfl, HL5.out⟩
      · rw [if_neg c2] at hd
        have HWW := Lib.hid (HWN.out c2)
        have hset : Kept [b] wr (wr.setCell ⟨b, k, none⟩ (.int .i64 given)) := (Kept.refl [b] wr).setCell (.inl (by simp)) _
        have he : (eff.map I64).set k (.int .i64 given) = (eff.set k given).map I64 := by rw [List.map_set]; rfl
        have h2 := HPS.out.turn (i := 0) rfl hset (p' := .row 3 1 (.slice (some ⟨b, 0, none⟩) s.eff.length c') s.eff.length ((eff.map I64).set k (.int .i64 given))) (hr0.stored k _).1 (fun q hq => .inl hq)
        have h2n := HNW.out.turn (i := 0) rfl HKW.out.size (p' := .row 3 1 (.slice (some ⟨b, 0, none⟩) s.eff.length c') s.eff.length ((eff.map I64).set k (.int .i64 given))) (fun q hq => .inl hq)
        rw [he] at h2 h2n
        have HP2 : Hid (Holds (wr.setCell ⟨b, k, none⟩ (.int .i64 given)) (bP b c' s.eff.length Am cm (eff.set k given) met)) := h2
        have HN2 : Hid (Newer w (bP b c' s.eff.length Am cm (eff.set k given) met)) := h2n
        have HK2 := Lib.hid (HNW.out.kept (i := 0) rfl HKW.out hset)
        have hml2 : met.length ≤ 1000 := by have := HML.out; have := HW.out.nt; omega
        obtain ⟨y, hy⟩ : ∃ y, eff.getD k 0 = y := ⟨_, rfl⟩
        rw [hy] at c2 hcb
        clear hy hset he h2 h2n hr0 HWN
        go_upto_region 5 with fail
        clear hcb hfb hbl
        generalize wr.setCell ⟨b, k, none⟩ (.int .i64 given) = w2 at *
        have HO : Hid (∀ W, Kept [] w2 W → W.ownsRow 0 3 1 (.slice Am met.length cm) met.length (met.map I64)) := fun W hk => (HP2.out.old hk).get (i := 1) rfl
        go_upto_region 6 with (at_builtin; refine wpList_append_any _ rfl _ _ 27 rfl 3 (.int .i64 0) 1 8 Tryz.underlying27 Tryz.infoInt rfl (by decide) (.slice Am met.length cm) met.length (met.map I64) rfl (HO.out _ (by (repeat (first | (with_reducible exact Kept.refl _ _) | (with_reducible assumption) | (with_reducible refine Kept.alloc ?_ _) | (with_reducible refine Kept.drew ?_) | (with_reducible refine Kept.drewN ?_ _) | (with_reducible refine Kept.setCell ?_ ?_ _) | (exact .inr (Nat.le_refl _)) | (exact .inr (by simp only; omega)) | (exact .inr (by omega)))))) _ 1 1 [.int .i64 k] rfl (reads_one _ _ _) (by simp; rfl) (by simp only [maxLen]; omega) (by omega) ?_; rintro A2 c2 w3 happ; have HA := Lib.hid happ; clear happ)
        have hka : Kept [] w2 (w2.alloc (.cells #[.int .i64 (k : Int)] 3)) := (Kept.refl [] w2).alloc _
        have h3 := (HP2.out.old hka).turn (i := 1) rfl HA.out.2.1 (p' := .row 3 1 (.slice A2 (met.length + 1) c2) (met.length + 1) (met.map I64 ++ [I64 (k : Int)])) HA.out.1 HA.out.2.2
        have h3n := HN2.out.turn (i := 1) rfl (HK2.out.trans hka).size (p' := .row 3 1 (.slice A2 (met.length + 1) c2) (met.length + 1) (met.map I64 ++ [I64 (k : Int)])) HA.out.2.2
        have hk3 := HN2.out.kept (i := 1) rfl (HK2.out.trans hka) HA.out.2.1
        have hlen : (met ++ [(k : Int)]).length = met.length + 1 := by simp
        have hmap : (met ++ [(k : Int)]).map I64 = met.map I64 ++ [I64 (k : Int)] := by simp
        have HPS3 : Hid (Holds w3 (bP b c' s.eff.length A2 c2 (eff.set k given) (met ++ [(k : Int)]))) := by
          show Holds _ _
          unfold bP; rw [hlen, hmap]; exact h3
        have HNW3 : Hid (Newer w (bP b c' s.eff.length A2 c2 (eff.set k given) (met ++ [(k : Int)]))) := by
          show Newer _ _
          unfold bP; rw [hlen, hmap]; exact h3n
        have HKW3 := Lib.hid hk3
        have HL3 := Lib.hid (HH.out.old hk3)
        have HLN3 : Hid ((eff.set k given).length = s.eff.length) := by show _ = _; rw [List.length_set]; exact HLN.out
        have HMR3 : Hid (∀ x ∈ met ++ [(k : Int)], 0 ≤ x ∧ x < s.eff.length) := fun x hx => by
          rcases List.mem_append.1 hx with hx | hx
          · exact HMR.out x hx
          · obtain rfl := List.mem_singleton.1 hx; omega
        have HML3 : Hid ((met ++ [(k : Int)]).length + worseN given (eff.set k given) ≤ s.eff.length) := by
          show _ ≤ _
          have := HWW.out; have := HML.out
          rw [hlen]; omega
        have hB3 : Blk w3 a.g 47 _ := HL3.out.at_.blk
        have hr5 : w3.ownsRow 0 3 1 (.slice a.AW s.eff.length a.cW) s.eff.length (s.waits.map fun x : Int × Int => I64 x.1) := HL3.out.at_.2.get (i := 5) rfl
        obtain ⟨bW, hbW⟩ := own_at0 hr5 (by omega)
        rw [hbW] at hr5 hB3
        have hkw : k < s.waits.length := by rw [HW.out.waits]; exact hk
        have hc3 : w3.cell? ⟨a.g, 3, none⟩ = some (.slice (some ⟨bW, 0, none⟩) s.eff.length a.cW) := by have := hB3.cell 3; simpa using this
        have hc4 : w3.cell? ⟨a.g, 4, none⟩ = some (.slice a.AO s.lines.length a.cO) := by have := hB3.cell 4; simpa using this
        have hgl3 := hB3.lt
        have hcW : w3.cell? ⟨bW, k, none⟩ = some (.int .i64 s.waits[k].1) := by rw [hr5.cellAt k (by omega), List.getElem?_map, List.getElem?_eq_getElem hkw]; rfl
        rw [getW_in hkw] at hd
        have hwr := HW.out.wls s.waits[k] (List.getElem_mem hkw)
        rw [← hlen]
        obtain ⟨mt, hmt⟩ : ∃ mt, met ++ [(k : Int)] = mt := ⟨_, rfl⟩
        rw [hmt] at HPS3 HNW3 HMR3 HML3 hd ⊢
        clear hlen hmap h3 h3n hmt
        generalize s.waits[k] = x at *
        obtain ⟨x1, x2⟩ := x
        simp only at hd hcW hwr
        clear hk3 hka hB3 hr5 HPS HNW HKW HLN HMR HP2 HN2 HK2 HO HA hl
        by_cases c3 : x1 = -1
        · subst c3
          rw [if_pos rfl] at hd
          subst hd
          go_wp2_with fail
          refine (HTK.out _ _ _ _ _ HLN3.out HMR3.out (by have := HML3.out; have := HW.out.nt; omega) HPS3.out HKW3.out).mono ?_
          rintro e w5 ⟨rfl, gls', hl5⟩
          have HL5 := Lib.hid hl5
          clear hl5
          go_wp2_with fail
          (try simp only [Exit.noGoto_normal])
          go_end0
          exact ⟨rfl, { a with AE := some ⟨b, 0, none⟩, cE := c', gls := gls' }, rfl, HL5.out⟩
        · rw [if_neg c3] at hd
          have HDF := Lib.hid hd
          have hb3 : (x1 == -1) = false := beq_eq_false_iff_ne.2 c3
          obtain ⟨q, rfl⟩ : ∃ q : Nat, x1 = q := ⟨x1.toNat, by omega⟩
          have hq : q < s.owner.length := by rw [HW.out.owner]; omega
          rw [getO_in hq] at HDF
          have hr6 : w3.ownsRow 0 3 1 (.slice a.AO s.lines.length a.cO) s.lines.length (s.owner.map I64) := HL3.out.at_.2.get (i := 6) rfl
          obtain ⟨bO, hbO⟩ := own_at0 hr6 (by have := HW.out.owner; omega)
          rw [hbO] at hr6 hc4
          have hcO : w3.cell? ⟨bO, q, none⟩ = some (.int .i64 s.owner[q]) := by rw [hr6.cellAt q (by have := HW.out.owner; omega), List.getElem?_map, List.getElem?_eq_getElem hq]; rfl
          have hov := HW.out.owners s.owner[q] (List.getElem_mem hq)
          have hq0 : (0 : Int) ≤ (q : Int) := by omega
          have hq1 : (q : Int) < (s.lines.length : Int) := by have := HW.out.owner; omega
          generalize s.owner[q] = ov at *
          clear hd c3 hr6
          go_wp2_with fail
          go_big_region
          all_goals
            go_wp2_with fail
            go_roundg (worseN given (eff.set k given) + 1)
            case measure => have := HWW.out; omega
            case rel => exact ⟨ov, eff.set k given, mt, A2, _, rfl, rfl, rfl, hov.1, hov.2, HLN3.out, HMR3.out, HML3.out, (by rw [HWW.out]; exact HDF.out), (by first | exact HPS3.out | exact HPS3.out.drew), HNW3.out, (by first | exact HKW3.out | exact HKW3.out.drew)⟩

end Go.Proofs.YtfoeijiejpenpaaGreatDoor
