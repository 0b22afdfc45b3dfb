/- Law 31: EventPicks: the walk. -/
import Derived.Test.YtohkgdgdblnbfaaDoorEventB2
import Derived.Deep.RegionHeld3
import Derived.Deep.DrawnRows
namespace Go.Proofs.YtohkgdgdblnbfaaDoor
open Go.RowKit

set_option maxHeartbeats 1600000 in
theorem awake31 (w : World) (hP : HasPow w) : Calls Tryd.prog 12 #[] w fun e w' => e = .returned (.bool true) ∧ Kept [] w w' := by
  have HL : Hid (∀ w, HasPow w → Calls Tryd.prog 18 #[.agg (eC 17 2 4 3 1 0 0 259)] w fun e w' => e = .returned (.string ⟨#[49, 55, 32, 50, 32, 100, 105, 115, 112, 97, 116, 99, 104, 32, 51, 32, 49, 32, 45, 32, 48, 32, 50, 53, 57]⟩) ∧ Kept [] w w') := by
    intro w hP
    have := eline_any 17 2 4 3 1 0 0 259 w (by decide) (by decide) (by decide) hP
    rw [show lineE ⟨17, 2, 4, 3, 1, 0, 0, 259⟩ = [49, 55, 32, 50, 32, 100, 105, 115, 112, 97, 116, 99, 104, 32, 51, 32, 49, 32, 45, 32, 48, 32, 50, 53, 57] by kernel_rfl] at this
    exact this
  have HP := Lib.hid hP
  clear hP
  go_enter Tryd.func12, Tryd.ntmps12
  go_wp2_with fail
  refine (HL.out _ HP.out).mono ?_
  rintro e w1 ⟨rfl, hk1⟩
  go_wp2_with fail
  go_ret
  exact ⟨rfl, hk1⟩

/-- An event's eight cells stored into block g. -/
abbrev put8 (W : World) (g : Nat) (a0 a1 a2 a3 a4 a5 a6 a7 : Value) : World :=
  (((((((W.setCell ⟨g, 0, none⟩ a0).setCell ⟨g, 1, none⟩ a1).setCell ⟨g, 2, none⟩ a2).setCell ⟨g, 3, none⟩ a3).setCell ⟨g, 4, none⟩ a4).setCell ⟨g, 5, none⟩ a5).setCell ⟨g, 6, none⟩ a6).setCell ⟨g, 7, none⟩ a7
section
variable {W : World} {g : Nat} {a0 a1 a2 a3 a4 a5 a6 a7 : Value}
theorem blk_put8 {t : TypeId} {s c k o d e : Int} {x y : Nat} (hB : Blk W g t (eC s c k o x d e y)) : Blk (put8 W g a0 a1 a2 a3 a4 a5 a6 a7) g t #[a0, a1, a2, a3, a4, a5, a6, a7] := by
  have h := (((((((hB.set 0 a0).set 1 a1).set 2 a2).set 3 a3).set 4 a4).set 5 a5).set 6 a6).set 7 a7
  simp only [List.setIfInBounds_toArray, List.set_cons_zero, List.set_cons_succ] at h
  exact h
theorem kept_put8 {G : List Nat} {w : World} (hK : Kept G w W) (hg : g ∈ G ∨ w.heap.size ≤ g) : Kept G w (put8 W g a0 a1 a2 a3 a4 a5 a6 a7) :=
  (((((((hK.setCell (p := ⟨g, 0, none⟩) hg a0).setCell (p := ⟨g, 1, none⟩) hg a1).setCell (p := ⟨g, 2, none⟩) hg a2).setCell (p := ⟨g, 3, none⟩) hg a3).setCell (p := ⟨g, 4, none⟩) hg a4).setCell (p := ⟨g, 5, none⟩) hg a5).setCell (p := ⟨g, 6, none⟩) hg a6).setCell (p := ⟨g, 7, none⟩) hg a7
end

theorem ReadsE.few {w : World} {A : Option Addr} {n : Nat} {l : List Ev} (h : ReadsE w A n l) : ReadsE w A (l.take 60).length (l.take 60) := by
  have hl := h.len
  rcases Nat.lt_or_ge n 60 with h1 | h1
  · rw [List.take_of_length_le (by omega), ← hl]; exact h
  · rw [List.length_take, show min 60 l.length = 60 by omega]; exact h.take 60 h1

set_option maxHeartbeats 6400000 in
set_option maxRecDepth 100000 in
theorem picks_any (A : Option Addr) (n c : Nat) (l : List Ev) (t : Int) (g : Nat) (kind cpu : Int) (w : World) (hr : ReadsE w A n l) (hc : n ≤ c) (hc2 : c ≤ 9223372036854775807) (hP : HasPow w) :
    Calls Tryd.prog 3 #[.slice A n c, .agg #[.int .i64 t, .int .u32 g], .int .i64 kind, .int .i64 cpu] w fun e w' => e = .returned (.bool true) ∧ Kept [] w w' := by
  have HFEW := Lib.hid (fun w h => few_any A n c l w h hc hc2)
  have HR0 := Lib.hid hr
  have HR := Lib.hid hr.few
  have hl6 : (l.take 60).length ≤ 60 := by simp; omega
  generalize l.take 60 = l6 at *
  have HLA := Lib.hid (fun w h => last_any A l6.length c l6 cpu w h (by omega))
  have HAN := Lib.hid (fun w h => answers_any t g A l6.length c l6 w h (by omega))
  have HRA := Lib.hid (fun w h => refAnswers t g A l6.length c l6 w h (by omega))
  have hla : (ansE t g l6).length ≤ 60 := by
    rw [ansE, List.length_map]
    exact Nat.le_trans (List.length_filter_le _ _) (Nat.le_trans (List.length_filter_le _ _) hl6)
  have HOF := Lib.hid (fun w h => of_any t g A l6.length c l6 w h (by omega))
  have HRO := Lib.hid (fun w h => refOf t g A l6.length c l6 w h (by omega))
  have hlo : (l6.filter fun e => e.slot == t && e.gen == g).length ≤ 60 := Nat.le_trans (List.length_filter_le _ _) hl6
  have HCO := Lib.hid (fun w h => count_any kind A l6.length c l6 w h (by omega))
  have HRC := Lib.hid (fun w h => refCount kind A l6.length c l6 w h (by omega))
  generalize (ansE t g l6) = an at *
  generalize (l6.filter fun e => e.slot == t && e.gen == g) = lo at *
  generalize (l6.filter fun e => e.kind == kind).length = lk at *
  have HSA := Lib.hid (fun A n c A2 m d w ha hb => refSameE A n c A2 m d lo w ha hb (by omega))
  have HP := Lib.hid hP
  clear hr hc hc2 hP
  go_enter Tryd.func3, Tryd.ntmps3
  go_wp2_with fail
  refine (HFEW.out _ (HR0.out.old ((Kept.refl _ _).alloc _))).mono ?_
  rintro e w1 ⟨rfl, rfl⟩
  go_wp2_with fail
  go_loopw [10, 11] (fun isv iv wr => ∃ (k : Nat) (e : Ev) (b : Bool), k ≤ l6.length ∧ iv = .int .i64 k ∧ isv = .bool b ∧ Hid ((e, b) = lastE cpu (l6.take k)) ∧ Hid (Blk wr (w.heap.size + 1) 30 (eC e.step e.cpu e.kind e.slot e.gen e.op e.code e.n)) ∧ Hid (Blk wr w.heap.size 25 #[.int .i64 t, .int .u32 g]) ∧ Hid (Kept [] w wr)) (fun _ i _ => l6.length - (intOf i).toNat)
  case atStart => exact ⟨0, ⟨0, 0, 0, 0, 0, 0, 0, 0⟩, false, by omega, rfl, rfl, rfl, Blk.newAt (by simp) _ _, (Blk.new w _ _).alloc _, ((Kept.refl _ _).alloc _).alloc _⟩
  case round =>
    obtain ⟨k, le, b, hk, rfl, rfl, HL, HB, HI, HK⟩ := hrel
    by_cases hlt : k < l6.length
    · obtain ⟨e, he⟩ : ∃ e, l6[k] = e := ⟨_, rfl⟩
      obtain ⟨bl, o, rfl, hb, hcell⟩ := ReadsE.cells (HR.out.old HK.out) (by omega)
      have hcs := hcell k e (by rw [List.getElem?_eq_getElem hlt, he])
      have c0 : wr.cell? ⟨bl, o + k * 8, none⟩ = some (.int .i64 e.step) := hcs 0 (by omega)
      have c1 : wr.cell? ⟨bl, o + k * 8 + 1, none⟩ = some (.int .i64 e.cpu) := hcs 1 (by omega)
      have c2 : wr.cell? ⟨bl, o + k * 8 + 2, none⟩ = some (.int .i64 e.kind) := hcs 2 (by omega)
      have c3 : wr.cell? ⟨bl, o + k * 8 + 3, none⟩ = some (.int .i64 e.slot) := hcs 3 (by omega)
      have c4 : wr.cell? ⟨bl, o + k * 8 + 4, none⟩ = some (.int .u32 e.gen) := hcs 4 (by omega)
      have c5 : wr.cell? ⟨bl, o + k * 8 + 5, none⟩ = some (.int .i64 e.op) := hcs 5 (by omega)
      have c6 : wr.cell? ⟨bl, o + k * 8 + 6, none⟩ = some (.int .i64 e.code) := hcs 6 (by omega)
      have c7 : wr.cell? ⟨bl, o + k * 8 + 7, none⟩ = some (.int .u64 e.n) := hcs 7 (by omega)
      have HST : Hid (lastE cpu (l6.take (k + 1)) = if e.cpu == cpu then (e, true) else lastE cpu (l6.take k)) := by
        rw [Hid, List.take_succ_eq_append_getElem hlt, he, lastE_snoc]
      have hcB := HB.out.cell
      have hfB := HB.out.frozen
      have hlB := HB.out.lt
      clear hcell hcs he
      cases hpe : (e.cpu == cpu)
      · rw [hpe] at HST
        simp only [Bool.false_eq_true, if_false] at HST
        go_wp2_with fail
        go_roundw
        case rel => exact ⟨k + 1, le, b, by omega, by go_num, rfl, by rw [Hid, HST.out]; exact HL.out, HB, HI, HK⟩
        case measure => simp [intOf]; omega
      · rw [hpe] at HST
        simp only [if_true] at HST
        go_wp2_with fail
        go_roundw
        case rel => exact ⟨k + 1, e, true, by omega, by go_num, rfl, by rw [Hid, HST.out], blk_put8 HB.out, HI.out.kept (kept_put8 (G := [w.heap.size + 1]) (Kept.refl _ _) (.inl (by simp))) (by simp), kept_put8 HK.out (.inr (by simp))⟩
        case measure => simp [intOf]; omega
    · obtain rfl : k = l6.length := by omega
      have hL := HL.out
      rw [List.take_of_length_le (Nat.le_refl _)] at hL
      have hla2 := HLA.out
      rw [← hL] at hla2
      simp only at hla2
      have HLA2 := Lib.hid hla2
      clear hL hla2 HLA HL
      go_wp2_with fail
      refine (HLA2.out _ (HR.out.old HK.out)).mono ?_
      rintro e w2 ⟨rfl, hk2⟩
      have HB2 := Lib.hid (HB.out.kept hk2 (by simp))
      have HI2 := Lib.hid (HI.out.kept hk2 (by simp))
      have HK2 := Lib.hid (HK.out.trans hk2)
      clear hk2
      have hci2 := HI2.out.cell
      have hli2 := HI2.out.lt
      go_wp2_with fail
      refine (HAN.out _ (HR.out.old (HK2.out.alloc _))).mono ?_
      rintro e w3 ⟨Aa, na, ca, rfl, hna, hFa⟩
      have HX3 := Lib.hid ((Blk.new w2 30 _).kept hFa.2.1 (by simp))
      have HB3 := Lib.hid ((HB2.out.alloc _).kept hFa.2.1 (by simp))
      have HI3 := Lib.hid ((HI2.out.alloc _).kept hFa.2.1 (by simp))
      have HK3 := Lib.hid ((HK2.out.alloc _).trans hFa.2.1)
      have HRa := Lib.hid (Reads.of_own hFa.1)
      subst hna
      clear hFa hci2
      have hci3 := HI3.out.cell
      go_wp2_with fail
      refine (HRA.out _ (HR.out.old HK3.out)).mono ?_
      rintro e w4 ⟨Ab, nb, cb, rfl, hnb, hFb⟩
      have HX4 := Lib.hid (HX3.out.kept hFb.2.1 (by simp))
      have HB4 := Lib.hid (HB3.out.kept hFb.2.1 (by simp))
      have HI4 := Lib.hid (HI3.out.kept hFb.2.1 (by simp))
      have HK4 := Lib.hid (HK3.out.trans hFb.2.1)
      have HRa4 := Lib.hid (HRa.out.old hFb.2.1)
      have HRb := Lib.hid (Reads.of_own hFb.1)
      subst hnb
      clear hFb hci3
      have hcx4 := HX4.out.cell
      have hcb4 := HB4.out.cell
      have hq : ∀ W, (Op.equalIn 10000 30 (.agg (eC le.step le.cpu le.kind le.slot le.gen le.op le.code le.n)) (.agg (eC le.step le.cpu le.kind le.slot le.gen le.op le.code le.n))).run Tryd.prog W = .ok true W := fun W => by rw [eqEv]; simp
      go_wp2_with fail
      refine (awake31 _ (HP.out.old HK4.out)).mono ?_
      rintro e w5 ⟨rfl, hk5⟩
      have HI5 := Lib.hid (HI4.out.kept hk5 (by simp))
      have HK5 := Lib.hid (HK4.out.trans hk5)
      have HRa5 := Lib.hid (HRa4.out.old hk5)
      have HRb5 := Lib.hid (HRb.out.old hk5)
      clear hk5 hcx4 hcb4 hq
      go_wp2_with fail
      go_loopw [16] (fun iv wr => ∃ k : Nat, k ≤ an.length ∧ iv = .int .i64 k ∧ Hid (Kept [] w5 wr)) (fun i _ => an.length - (intOf i).toNat)
      case atStart => exact ⟨0, by omega, rfl, Kept.refl _ _⟩
      case round =>
        obtain ⟨k, hk, rfl, HKr⟩ := hrel
        by_cases hlt : k < an.length
        · obtain ⟨e, he⟩ : ∃ e, an[k] = e := ⟨_, rfl⟩
          obtain ⟨b1, o1, rfl, hb1, hcell1⟩ := (HRa5.out.old HKr.out).addr (by omega) (by omega)
          obtain ⟨b2, o2, rfl, hb2, hcell2⟩ := (HRb5.out.old HKr.out).addr (by omega) (by omega)
          have c1 := hcell1 k (.int .i64 e) (by rw [cL, List.getElem?_map, List.getElem?_eq_getElem hlt, he]; rfl)
          have c2 := hcell2 k (.int .i64 e) (by rw [cL, List.getElem?_map, List.getElem?_eq_getElem hlt, he]; rfl)
          have hi0 : (0 : Int) ≤ (k : Int) := by omega
          have hi1 : (k : Int) < (an.length : Int) := by omega
          clear hcell1 hcell2 he
          go_wp2_with fail
          go_quiet (fail)
          go_wp2_with fail
          go_roundw
          case rel => exact ⟨k + 1, by omega, by go_num, HKr.out.drewN _⟩
          case measure => simp [intOf]; omega
        · obtain rfl : k = an.length := by omega
          have hI := Lib.hid (HI5.out.kept HKr.out (by simp))
          have hK := Lib.hid (HK5.out.trans HKr.out)
          have hci := hI.out.cell
          have hli := hI.out.lt
          clear HI5 HKr
          go_wp2_with fail
          go_region_held3 (fun w' => w'.cell? ⟨w.heap.size, 0, none⟩ = some (.int .i64 t) ∧ w'.cell? ⟨w.heap.size, 1, none⟩ = some (.int .u32 g)) (go_keep) (first
            | (go_at_call 14; refine (HOF.out _ (by first | exact HR.out.old hK.out | exact HR.out.old hK.out.drew)).mono ?_; rintro e w6 ⟨A6, n6, c6, rfl, rfl, hF6⟩; have hI := Lib.hid (Blk.kept (hk := hF6.2.1) (h := by exact hI.out) (hg := by simp)); have hci := hI.out.cell; have hli := hI.out.lt; have hK := Lib.hid (Kept.trans (h := by first | exact hK.out | exact hK.out.drew) (h' := hF6.2.1)); have HRX := Lib.hid (show ReadsE _ _ _ _ from Reads.of_own hF6.1); clear hF6)
            | (go_at_call 15; refine (HRO.out _ (by first | exact HR.out.old hK.out | exact HR.out.old hK.out.drew)).mono ?_; rintro e w7 ⟨A7, n7, c7, rfl, rfl, hF7⟩; have hI := Lib.hid (Blk.kept (hk := hF7.2.1) (h := by exact hI.out) (hg := by simp)); have hci := hI.out.cell; have hli := hI.out.lt; have hK := Lib.hid (Kept.trans (h := by first | exact hK.out | exact hK.out.drew) (h' := hF7.2.1)); have HRX := Lib.hid (show ReadsE _ _ _ _ from Reads.old (hk := hF7.2.1) (h := by exact HRX.out)); have HRY := Lib.hid (show ReadsE _ _ _ _ from Reads.of_own hF7.1); clear hF7)
            | (go_at_call 13; refine (HSA.out _ _ _ _ _ _ _ (by first | exact HRX.out) (by first | exact HRY.out)).mono ?_; rintro e w8 ⟨rfl, hk8⟩; have hI := Lib.hid (Blk.kept (hk := hk8) (h := by exact hI.out) (hg := by simp)); have hci := hI.out.cell; have hK := Lib.hid (Kept.trans (h := by first | exact hK.out | exact hK.out.drew) (h' := hk8)); clear hk8)
            | (go_at_call 16; refine (HCO.out _ (by first | exact HR.out.old hK.out | exact HR.out.old hK.out.drew)).mono ?_; rintro e w9 ⟨rfl, hk9⟩; have hI := Lib.hid (Blk.kept (hk := hk9) (h := by exact hI.out) (hg := by simp)); have hci := hI.out.cell; have hK := Lib.hid (Kept.trans (h := by first | exact hK.out | exact hK.out.drew) (h' := hk9)); clear hk9)
            | (go_at_call 17; refine (HRC.out _ (by first | exact HR.out.old hK.out | exact HR.out.old hK.out.drew)).mono ?_; rintro e w10 ⟨rfl, rfl⟩))
          all_goals
            skip
            go_wp2_with fail
            go_ret
            exact ⟨by first | rfl | simp, by first | exact hK.out | exact hK.out.drew⟩

end Go.Proofs.YtohkgdgdblnbfaaDoor
