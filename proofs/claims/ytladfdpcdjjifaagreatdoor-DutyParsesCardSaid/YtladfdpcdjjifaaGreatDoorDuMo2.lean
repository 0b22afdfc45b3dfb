/- more: programs and deeds, walked. -/
import Derived.Test.YtladfdpcdjjifaaGreatDoorDuMo
namespace Go.Proofs.YtladfdpcdjjifaaGreatDoor
open Go.RowKit

set_option maxHeartbeats 3200000 in
theorem more_late {w0 wr : World} {g : Nat} {d : Du} (l : List UInt8) (a : List UInt8) (t : List (List UInt8)) (hp : PartU w0 wr g d) (hk : Kept [] w0 wr) (hM : HasMax w0) (hsm : SmallU 5000 d) (hl : l.length ≤ 90000) (hw : words l = a :: t) (h1 : a ≠ dutyW) (h2 : a ≠ startW) (h3 : d.starts ≠ []) :
    Calls Tryz.prog 12 #[.pointer (some ⟨g, 0, none⟩), strV l] wr (Mored w0 g (moreT d l)) := by
  have HW := Lib.hid (words_any l wr (by omega) (hM.old hk))
  have hm : moreT d l = (d, 15) := by simp [moreT, hw, h1, h2, h3]
  rw [hw] at HW
  rw [hm]
  clear hm hw
  simp only [List.length_cons] at HW
  have HP := Lib.hid hp
  have HK := Lib.hid hk
  obtain ⟨hg0, AP, nP, cP, B, m, e0, hB, hQ, hS⟩ := hp
  have hml := hS.len
  have hnl := hQ.pp.len
  have ha1 : (a == [100, 117, 116, 121]) = false := beq_eq_false_iff_ne.2 h1
  have ha2 : (a == [115, 116, 97, 114, 116]) = false := beq_eq_false_iff_ne.2 h2
  have hm0 : (0 : Int) < (m : Int) := by have := List.length_pos_iff.2 h3; omega
  clear h1 h2 h3
  clear hml hnl
  go_enter Tryz.func12, Tryz.ntmps12
  go_wp2_with fail
  refine HW.out.mono ?_
  rintro e w1 ⟨A, c, rfl, hF⟩
  obtain ⟨b, o, rfl, hbl, hcell⟩ := (Reads.of_own hF.1).addr (by omega) (by omega)
  have hc0 := hcell 0 (strV a) (by simp)
  rw [Nat.add_zero] at hc0
  skip
  have HF := Lib.hid hF.2.1
  have hb0 : ((t.length : Int) + 1 == 0) = false := beq_eq_false_iff_ne.2 (by omega)
  have hi0 : (0 : Int) < (t.length : Int) + 1 := by omega
  clear hF hcell
  have HB1 := Lib.hid (hB.kept HF.out (by simp))
  have HQK := Lib.hid hQ
  have HSK := Lib.hid hS
  have hg7 : w1.cell? ⟨g, 7, none⟩ = some (.slice AP nP cP) := HB1.out.cell 7
  have hg8 : w1.cell? ⟨g, 8, none⟩ = some (.slice B m e0) := HB1.out.cell 8
  have hgf := HB1.out.frozen
  have hgl := HB1.out.lt
  clear hB hQ hS hk
  go_wp2_with fail
  go_ret
  exact ⟨rfl, HP.out.kept HF.out, HK.out.trans HF.out⟩

set_option maxHeartbeats 3200000 in
theorem more_progbad {w0 wr : World} {g : Nat} {d : Du} (l : List UInt8) (t : List (List UInt8)) (hp : PartU w0 wr g d) (hk : Kept [] w0 wr) (hM : HasMax w0) (hsm : SmallU 5000 d) (hl : l.length ≤ 90000) (hw : words l = progW :: t) (h3 : d.starts = []) (h5 : t ≠ []) :
    Calls Tryz.prog 12 #[.pointer (some ⟨g, 0, none⟩), strV l] wr (Mored w0 g (moreT d l)) := by
  have HW := Lib.hid (words_any l wr (by omega) (hM.old hk))
  have hm : moreT d l = (d, 3) := by simp [moreT, hw, h3, h5, show progW ≠ dutyW by decide, show progW ≠ startW by decide]
  rw [hw] at HW
  rw [hm]
  clear hm hw
  simp only [List.length_cons] at HW
  have HP := Lib.hid hp
  have HK := Lib.hid hk
  obtain ⟨hg0, AP, nP, cP, B, m, e0, hB, hQ, hS⟩ := hp
  have hml := hS.len
  have hnl := hQ.pp.len
  have hm0 : ¬ (0 : Int) < (m : Int) := by rw [h3] at hml; simp at hml; omega
  have ht0 : (1 : Int) < (t.length : Int) + 1 := by have := List.length_pos_iff.2 h5; omega
  clear h3 h5
  clear hml hnl
  go_enter Tryz.func12, Tryz.ntmps12
  go_wp2_with fail
  refine HW.out.mono ?_
  rintro e w1 ⟨A, c, rfl, hF⟩
  obtain ⟨b, o, rfl, hbl, hcell⟩ := (Reads.of_own hF.1).addr (by omega) (by omega)
  have hc0 := hcell 0 (strV progW) (by simp)
  rw [Nat.add_zero] at hc0
  unfold progW at hc0
  have HF := Lib.hid hF.2.1
  have hb0 : ((t.length : Int) + 1 == 0) = false := beq_eq_false_iff_ne.2 (by omega)
  have hi0 : (0 : Int) < (t.length : Int) + 1 := by omega
  clear hF hcell
  have HB1 := Lib.hid (hB.kept HF.out (by simp))
  have HQK := Lib.hid hQ
  have HSK := Lib.hid hS
  have hg7 : w1.cell? ⟨g, 7, none⟩ = some (.slice AP nP cP) := HB1.out.cell 7
  have hg8 : w1.cell? ⟨g, 8, none⟩ = some (.slice B m e0) := HB1.out.cell 8
  have hgf := HB1.out.frozen
  have hgl := HB1.out.lt
  clear hB hQ hS hk
  go_wp2_with fail
  go_ret
  exact ⟨rfl, HP.out.kept HF.out, HK.out.trans HF.out⟩

set_option maxHeartbeats 3200000 in
theorem more_prog {w0 wr : World} {g : Nat} {d : Du} (l : List UInt8) (t : List (List UInt8)) (hp : PartU w0 wr g d) (hk : Kept [] w0 wr) (hM : HasMax w0) (hsm : SmallU 5000 d) (hl : l.length ≤ 90000) (hw : words l = progW :: t) (h3 : d.starts = []) (h5 : t = []) :
    Calls Tryz.prog 12 #[.pointer (some ⟨g, 0, none⟩), strV l] wr (Mored w0 g (moreT d l)) := by
  have HW := Lib.hid (words_any l wr (by omega) (hM.old hk))
  have hm : moreT d l = ({ d with progs := d.progs ++ [[]] }, 0) := by simp [moreT, hw, h3, h5, show progW ≠ dutyW by decide, show progW ≠ startW by decide]
  rw [hw] at HW
  rw [hm]
  clear hm hw
  simp only [List.length_cons] at HW
  have HP := Lib.hid hp
  have HK := Lib.hid hk
  obtain ⟨hg0, AP, nP, cP, B, m, e0, hB, hQ, hS⟩ := hp
  have hml := hS.len
  have hnl := hQ.pp.len
  have hm0 : ¬ (0 : Int) < (m : Int) := by rw [h3] at hml; simp at hml; omega
  have ht0 : ¬ (1 : Int) < (t.length : Int) + 1 := by rw [h5]; simp
  have hnn : nP ≤ 5000 := by have := hsm.1; omega
  clear h3 h5
  clear hml hnl
  go_enter Tryz.func12, Tryz.ntmps12
  go_wp2_with fail
  refine HW.out.mono ?_
  rintro e w1 ⟨A, c, rfl, hF⟩
  obtain ⟨b, o, rfl, hbl, hcell⟩ := (Reads.of_own hF.1).addr (by omega) (by omega)
  have hc0 := hcell 0 (strV progW) (by simp)
  rw [Nat.add_zero] at hc0
  unfold progW at hc0
  have HF := Lib.hid hF.2.1
  have hb0 : ((t.length : Int) + 1 == 0) = false := beq_eq_false_iff_ne.2 (by omega)
  have hi0 : (0 : Int) < (t.length : Int) + 1 := by omega
  clear hF hcell
  have HB1 := Lib.hid (hB.kept HF.out (by simp))
  have HQK := Lib.hid hQ
  have HSK := Lib.hid hS
  have hg7 : w1.cell? ⟨g, 7, none⟩ = some (.slice AP nP cP) := HB1.out.cell 7
  have hg8 : w1.cell? ⟨g, 8, none⟩ = some (.slice B m e0) := HB1.out.cell 8
  have hgf := HB1.out.frozen
  have hgl := HB1.out.lt
  clear hB hQ hS hk
  obtain ⟨xs, q1, q2, q3, q4, q5⟩ := HQK.out.kept HF.out (by simp)
  have HO : Hid (∀ W, Kept [] w1 W → W.ownsRow 0 47 1 (.slice AP nP cP) nP xs) := fun W hk => own_kept q1 hk (by simp)
  have H4 := Lib.hid q4
  have H5 := Lib.hid q5
  have H2 := Lib.hid q2
  have H3 := Lib.hid q3
  clear q1 q2 q3 q4 q5
  go_wp2_with (at_builtin; refine wpList_append_any _ rfl _ _ 24 rfl 47 (.slice none 0 0) 1 24 Tryz.underlying24 Tryz.info47 rfl (by decide) (.slice AP nP cP) nP xs rfl (HO.out _ (by (repeat (first | (with_reducible exact Kept.refl _ _) | (with_reducible assumption) | (with_reducible refine Kept.alloc ?_ _) | (with_reducible refine Kept.drew ?_) | (with_reducible refine Kept.drewN ?_ _) | (with_reducible refine Kept.setCell ?_ ?_ _) | (exact .inr (Nat.le_refl _)) | (exact .inr (by simp only; omega)) | (exact .inr (by omega)))))) _ 1 1 [.slice none 0 0] rfl (reads_one _ _ _) (by simp; rfl) (by simp only [maxLen]; omega) (by omega) ?_; rintro A2 c2 w3 happ; have HA := Lib.hid happ; have HB3 := Lib.hid (blk_apart (HB1.out.kept (show Kept [] w1 _ by (repeat (first | (with_reducible exact Kept.refl _ _) | (with_reducible assumption) | (with_reducible refine Kept.alloc ?_ _) | (with_reducible refine Kept.drew ?_) | (with_reducible refine Kept.drewN ?_ _) | (with_reducible refine Kept.setCell ?_ ?_ _) | (exact .inr (Nat.le_refl _)) | (exact .inr (by simp only; omega)) | (exact .inr (by omega))))) (by simp)) (HO.out _ (show Kept [] w1 _ by (repeat (first | (with_reducible exact Kept.refl _ _) | (with_reducible assumption) | (with_reducible refine Kept.alloc ?_ _) | (with_reducible refine Kept.drew ?_) | (with_reducible refine Kept.drewN ?_ _) | (with_reducible refine Kept.setCell ?_ ?_ _) | (exact .inr (Nat.le_refl _)) | (exact .inr (by simp only; omega)) | (exact .inr (by omega)))))) happ.2.1 (by decide)); have hg83 : World.cell? _ ⟨g, 7, none⟩ = some (.slice AP nP cP) := HB3.out.cell 7; have hgf3 := HB3.out.frozen; have hgl3 := HB3.out.lt; clear happ)
  have hq3 : RowPQ w0 w3 (d.progs ++ [[]]) A2 (nP + 1) c2 := RowPQ.push (HO.out _ (show Kept [] w1 _ by (repeat (first | (with_reducible exact Kept.refl _ _) | (with_reducible assumption) | (with_reducible refine Kept.alloc ?_ _) | (with_reducible refine Kept.drew ?_) | (with_reducible refine Kept.drewN ?_ _) | (with_reducible refine Kept.setCell ?_ ?_ _) | (exact .inr (Nat.le_refl _)) | (exact .inr (by simp only; omega)) | (exact .inr (by omega)))))) H2.out H3.out (fun i p hp => by
    obtain ⟨A, n, c, e, hr⟩ := H4.out i p hp
    exact ⟨A, n, c, e, hr.kept (show Kept [] w1 _ by (repeat (first | (with_reducible exact Kept.refl _ _) | (with_reducible assumption) | (with_reducible refine Kept.alloc ?_ _) | (with_reducible refine Kept.drew ?_) | (with_reducible refine Kept.drewN ?_ _) | (with_reducible refine Kept.setCell ?_ ?_ _) | (exact .inr (Nat.le_refl _)) | (exact .inr (by simp only; omega)) | (exact .inr (by omega))))) (by simp)⟩) H5.out (HK.out.trans (HF.out.trans (show Kept [] w1 _ by (repeat (first | (with_reducible exact Kept.refl _ _) | (with_reducible assumption) | (with_reducible refine Kept.alloc ?_ _) | (with_reducible refine Kept.drew ?_) | (with_reducible refine Kept.drewN ?_ _) | (with_reducible refine Kept.setCell ?_ ?_ _) | (exact .inr (Nat.le_refl _)) | (exact .inr (by simp only; omega)) | (exact .inr (by omega))))))).size HA.out
  have hs3 : RowS w0 w3 d.starts B m e0 := (HSK.out.kept (HF.out.trans (show Kept [] w1 _ by (repeat (first | (with_reducible exact Kept.refl _ _) | (with_reducible assumption) | (with_reducible refine Kept.alloc ?_ _) | (with_reducible refine Kept.drew ?_) | (with_reducible refine Kept.drewN ?_ _) | (with_reducible refine Kept.setCell ?_ ?_ _) | (exact .inr (Nat.le_refl _)) | (exact .inr (by simp only; omega)) | (exact .inr (by omega)))))) (by simp)).apart (HO.out _ (show Kept [] w1 _ by (repeat (first | (with_reducible exact Kept.refl _ _) | (with_reducible assumption) | (with_reducible refine Kept.alloc ?_ _) | (with_reducible refine Kept.drew ?_) | (with_reducible refine Kept.drewN ?_ _) | (with_reducible refine Kept.setCell ?_ ?_ _) | (exact .inr (Nat.le_refl _)) | (exact .inr (by simp only; omega)) | (exact .inr (by omega)))))) HA.out.2.1 (by decide)
  have hk3 : Kept [] w0 w3 := (HK.out.trans (HF.out.trans (show Kept [] w1 _ by (repeat (first | (with_reducible exact Kept.refl _ _) | (with_reducible assumption) | (with_reducible refine Kept.alloc ?_ _) | (with_reducible refine Kept.drew ?_) | (with_reducible refine Kept.drewN ?_ _) | (with_reducible refine Kept.setCell ?_ ?_ _) | (exact .inr (Nat.le_refl _)) | (exact .inr (by simp only; omega)) | (exact .inr (by omega))))))).trans' HA.out.2.1 (fun q hq => .inr (H2.out q hq))
  have hset : Kept [g] w3 (w3.setCell ⟨g, 7, none⟩ (.slice A2 (nP + 1) c2)) := (Kept.refl [g] w3).setCell (.inl (by simp)) _
  have hb4 := HB3.out.set 7 (.slice A2 (nP + 1) c2)
  have hpu : PartU w0 (w3.setCell ⟨g, 7, none⟩ (.slice A2 (nP + 1) c2)) g ⟨d.cpus, d.threads, d.locks, d.cap, d.boost, d.keep, d.ratio, d.progs ++ [[]], d.starts⟩ := ⟨hg0, A2, nP + 1, c2, B, m, e0, by simpa [uC] using hb4, hq3.block HB3.out hset (by decide) (by decide), hs3.block HB3.out hset (by decide)⟩
  have HPU := Lib.hid hpu
  have HK4 := Lib.hid (hk3.setCell (p := ⟨g, 7, none⟩) (.inr hg0) (.slice A2 (nP + 1) c2))
  clear hq3 hs3 hk3 hset hb4 hpu
  go_wp2_with fail
  go_ret
  exact ⟨rfl, HPU.out, HK4.out⟩

set_option maxHeartbeats 3200000 in
theorem more_none {w0 wr : World} {g : Nat} {d : Du} (l : List UInt8) (a : List UInt8) (t : List (List UInt8)) (hp : PartU w0 wr g d) (hk : Kept [] w0 wr) (hM : HasMax w0) (hsm : SmallU 5000 d) (hl : l.length ≤ 90000) (hw : words l = a :: t) (h1 : a ≠ dutyW) (h2 : a ≠ startW) (h3 : d.starts = []) (h4 : a ≠ progW) (h6 : d.progs = []) :
    Calls Tryz.prog 12 #[.pointer (some ⟨g, 0, none⟩), strV l] wr (Mored w0 g (moreT d l)) := by
  have HW := Lib.hid (words_any l wr (by omega) (hM.old hk))
  have hm : moreT d l = (d, 15) := by simp [moreT, hw, h1, h2, h3, h4, h6]
  rw [hw] at HW
  rw [hm]
  clear hm hw
  simp only [List.length_cons] at HW
  have HP := Lib.hid hp
  have HK := Lib.hid hk
  obtain ⟨hg0, AP, nP, cP, B, m, e0, hB, hQ, hS⟩ := hp
  have hml := hS.len
  have hnl := hQ.pp.len
  have ha1 : (a == [100, 117, 116, 121]) = false := beq_eq_false_iff_ne.2 h1
  have ha2 : (a == [115, 116, 97, 114, 116]) = false := beq_eq_false_iff_ne.2 h2
  have ha3 : (a == [112, 114, 111, 103]) = false := beq_eq_false_iff_ne.2 h4
  have hm0 : ¬ (0 : Int) < (m : Int) := by rw [h3] at hml; simp at hml; omega
  have HD := Lib.hid (fun w h => parse_any l w (by omega) h)
  have HM := Lib.hid hM
  have hw1 : IntKind.i64.wrap ((nP : Int) - 1) = -1 := by rw [h6] at hnl; simp at hnl; rw [hnl]; rfl
  generalize parseD 1048576 l = pr at *
  obtain ⟨⟨do_, da, db, dr, dn, dm, dl⟩, ec⟩ := pr
  simp only [dCd] at HD
  clear h1 h2 h3 h4 h6
  clear hml hnl
  go_enter Tryz.func12, Tryz.ntmps12
  go_wp2_with fail
  refine HW.out.mono ?_
  rintro e w1 ⟨A, c, rfl, hF⟩
  obtain ⟨b, o, rfl, hbl, hcell⟩ := (Reads.of_own hF.1).addr (by omega) (by omega)
  have hc0 := hcell 0 (strV a) (by simp)
  rw [Nat.add_zero] at hc0
  skip
  have HF := Lib.hid hF.2.1
  have hb0 : ((t.length : Int) + 1 == 0) = false := beq_eq_false_iff_ne.2 (by omega)
  have hi0 : (0 : Int) < (t.length : Int) + 1 := by omega
  clear hF hcell
  have HB1 := Lib.hid (hB.kept HF.out (by simp))
  have HQK := Lib.hid hQ
  have HSK := Lib.hid hS
  have hg7 : w1.cell? ⟨g, 7, none⟩ = some (.slice AP nP cP) := HB1.out.cell 7
  have hg8 : w1.cell? ⟨g, 8, none⟩ = some (.slice B m e0) := HB1.out.cell 8
  have hgf := HB1.out.frozen
  have hgl := HB1.out.lt
  clear hB hQ hS hk
  go_wp2_with fail
  refine (HD.out _ (HM.out.old (HK.out.trans HF.out))).mono ?_
  rintro e w2 ⟨rfl, hk2⟩
  have HB2 := Lib.hid (HB1.out.kept hk2 (by simp))
  have HK2 := Lib.hid (HF.out.trans hk2)
  have hg72 : w2.cell? ⟨g, 7, none⟩ = some (.slice AP nP cP) := HB2.out.cell 7
  have hgf2 := HB2.out.frozen
  have hgl2 := HB2.out.lt
  have hgl3 : g < w2.heap.size + 1 := by omega
  have hgne : g ≠ w2.heap.size := by omega
  have hgne2 : w2.heap.size ≠ g := by omega
  clear hk2
  go_wp2_with fail
  go_ret
  have hk3 : Kept [] wr _ := HK2.out.alloc (.cells (dC do_ da db dr dn dm dl) 60)
  exact ⟨rfl, HP.out.kept hk3, HK.out.trans hk3⟩

set_option maxHeartbeats 3200000 in
theorem more_deedbad {w0 wr : World} {g : Nat} {d : Du} (l : List UInt8) (a : List UInt8) (t : List (List UInt8)) (hp : PartU w0 wr g d) (hk : Kept [] w0 wr) (hM : HasMax w0) (hsm : SmallU 5000 d) (hl : l.length ≤ 90000) (hw : words l = a :: t) (h1 : a ≠ dutyW) (h2 : a ≠ startW) (h3 : d.starts = []) (h4 : a ≠ progW) (h6 : d.progs ≠ []) (h7 : (parseD 1048576 l).2 ≠ 0) :
    Calls Tryz.prog 12 #[.pointer (some ⟨g, 0, none⟩), strV l] wr (Mored w0 g (moreT d l)) := by
  have HW := Lib.hid (words_any l wr (by omega) (hM.old hk))
  have hm : moreT d l = (d, (parseD 1048576 l).2) := by simp [moreT, hw, h1, h2, h3, h4, h6, h7]
  rw [hw] at HW
  rw [hm]
  clear hm hw
  simp only [List.length_cons] at HW
  have HP := Lib.hid hp
  have HK := Lib.hid hk
  obtain ⟨hg0, AP, nP, cP, B, m, e0, hB, hQ, hS⟩ := hp
  have hml := hS.len
  have hnl := hQ.pp.len
  have ha1 : (a == [100, 117, 116, 121]) = false := beq_eq_false_iff_ne.2 h1
  have ha2 : (a == [115, 116, 97, 114, 116]) = false := beq_eq_false_iff_ne.2 h2
  have ha3 : (a == [112, 114, 111, 103]) = false := beq_eq_false_iff_ne.2 h4
  have hm0 : ¬ (0 : Int) < (m : Int) := by rw [h3] at hml; simp at hml; omega
  have HD := Lib.hid (fun w h => parse_any l w (by omega) h)
  have HM := Lib.hid hM
  have hn0 : 0 < nP := by have := List.length_pos_iff.2 h6; omega
  have hn1 : nP ≤ 5000 := by have := hsm.1; omega
  generalize parseD 1048576 l = pr at *
  obtain ⟨⟨do_, da, db, dr, dn, dm, dl⟩, ec⟩ := pr
  simp only [dCd] at HD h7 ⊢
  have hec : (ec == 0) = false := beq_eq_false_iff_ne.2 h7
  have hw1 : IntKind.i64.wrap ((nP : Int) - 1) = (nP : Int) - 1 := IntWalk.i64_in _ (by omega)
  have hw2 : ¬ ((nP : Int) - 1 < 0) := by omega
  clear h1 h2 h3 h4 h6 h7
  clear hml hnl
  go_enter Tryz.func12, Tryz.ntmps12
  go_wp2_with fail
  refine HW.out.mono ?_
  rintro e w1 ⟨A, c, rfl, hF⟩
  obtain ⟨b, o, rfl, hbl, hcell⟩ := (Reads.of_own hF.1).addr (by omega) (by omega)
  have hc0 := hcell 0 (strV a) (by simp)
  rw [Nat.add_zero] at hc0
  skip
  have HF := Lib.hid hF.2.1
  have hb0 : ((t.length : Int) + 1 == 0) = false := beq_eq_false_iff_ne.2 (by omega)
  have hi0 : (0 : Int) < (t.length : Int) + 1 := by omega
  clear hF hcell
  have HB1 := Lib.hid (hB.kept HF.out (by simp))
  have HQK := Lib.hid hQ
  have HSK := Lib.hid hS
  have hg7 : w1.cell? ⟨g, 7, none⟩ = some (.slice AP nP cP) := HB1.out.cell 7
  have hg8 : w1.cell? ⟨g, 8, none⟩ = some (.slice B m e0) := HB1.out.cell 8
  have hgf := HB1.out.frozen
  have hgl := HB1.out.lt
  clear hB hQ hS hk
  go_wp2_with fail
  refine (HD.out _ (HM.out.old (HK.out.trans HF.out))).mono ?_
  rintro e w2 ⟨rfl, hk2⟩
  have HB2 := Lib.hid (HB1.out.kept hk2 (by simp))
  have HK2 := Lib.hid (HF.out.trans hk2)
  have hg72 : w2.cell? ⟨g, 7, none⟩ = some (.slice AP nP cP) := HB2.out.cell 7
  have hgf2 := HB2.out.frozen
  have hgl2 := HB2.out.lt
  have hgl3 : g < w2.heap.size + 1 := by omega
  have hgne : g ≠ w2.heap.size := by omega
  have hgne2 : w2.heap.size ≠ g := by omega
  clear hk2
  go_wp2_with fail
  go_ret
  have hk3 : Kept [] wr _ := HK2.out.alloc (.cells (dC do_ da db dr dn dm dl) 60)
  exact ⟨rfl, HP.out.kept hk3, HK.out.trans hk3⟩

set_option maxHeartbeats 3200000 in
theorem more_deed {w0 wr : World} {g : Nat} {d : Du} (l : List UInt8) (a : List UInt8) (t : List (List UInt8)) (hp : PartU w0 wr g d) (hk : Kept [] w0 wr) (hM : HasMax w0) (hsm : SmallU 5000 d) (hl : l.length ≤ 90000) (hw : words l = a :: t) (h1 : a ≠ dutyW) (h2 : a ≠ startW) (h3 : d.starts = []) (h4 : a ≠ progW) (ps : List (List Dd)) (p : List Dd) (h6 : d.progs = ps ++ [p]) (h7 : (parseD 1048576 l).2 = 0) :
    Calls Tryz.prog 12 #[.pointer (some ⟨g, 0, none⟩), strV l] wr (Mored w0 g (moreT d l)) := by
  have HW := Lib.hid (words_any l wr (by omega) (hM.old hk))
  have hm : moreT d l = ({ d with progs := ps ++ [p ++ [(parseD 1048576 l).1]] }, 0) := by simp [moreT, hw, h1, h2, h3, h4, h6, h7]
  rw [hw] at HW
  rw [hm]
  clear hm hw
  simp only [List.length_cons] at HW
  have HP := Lib.hid hp
  have HK := Lib.hid hk
  obtain ⟨hg0, AP, nP, cP, B, m, e0, hB, hQ, hS⟩ := hp
  have hml := hS.len
  have hnl := hQ.pp.len
  have ha1 : (a == [100, 117, 116, 121]) = false := beq_eq_false_iff_ne.2 h1
  have ha2 : (a == [115, 116, 97, 114, 116]) = false := beq_eq_false_iff_ne.2 h2
  have ha3 : (a == [112, 114, 111, 103]) = false := beq_eq_false_iff_ne.2 h4
  have hm0 : ¬ (0 : Int) < (m : Int) := by rw [h3] at hml; simp at hml; omega
  have HD := Lib.hid (fun w h => parse_any l w (by omega) h)
  have HM := Lib.hid hM
  have hn0 : nP = ps.length + 1 := by rw [h6] at hnl; simpa using hnl
  have hn1 : nP ≤ 5000 := by have := hsm.1; omega
  have hpl := hsm.2.2.1 p (by rw [h6]; simp)
  rw [h6] at hQ
  generalize parseD 1048576 l = pr at *
  obtain ⟨⟨do_, da, db, dr, dn, dm, dl⟩, ec⟩ := pr
  simp only at h7
  subst h7
  simp only [dCd] at HD ⊢
  clear hnl
  subst hn0
  have hnl := hQ.pp.len
  have hw1 : IntKind.i64.wrap (((ps.length + 1 : Nat) : Int) - 1) = (ps.length : Int) := by rw [IntWalk.i64_in _ (by omega)]; omega
  have hw3 : IntKind.i64.wrap ((ps.length : Int) + 1 - 1) = (ps.length : Int) := by rw [IntWalk.i64_in _ (by omega)]; omega
  have hw2 : ¬ ((ps.length : Int) < 0) := by omega
  have hi2 : (ps.length : Int) < ((ps.length + 1 : Nat) : Int) := by omega
  have hi3 : (0 : Int) ≤ (ps.length : Int) := by omega
  have hi4 : (ps.length : Int) < (ps.length : Int) + 1 := by omega
  clear h1 h2 h3 h4
  clear hml hnl
  go_enter Tryz.func12, Tryz.ntmps12
  go_wp2_with fail
  refine HW.out.mono ?_
  rintro e w1 ⟨A, c, rfl, hF⟩
  obtain ⟨b, o, rfl, hbl, hcell⟩ := (Reads.of_own hF.1).addr (by omega) (by omega)
  have hc0 := hcell 0 (strV a) (by simp)
  rw [Nat.add_zero] at hc0
  skip
  have HF := Lib.hid hF.2.1
  have hb0 : ((t.length : Int) + 1 == 0) = false := beq_eq_false_iff_ne.2 (by omega)
  have hi0 : (0 : Int) < (t.length : Int) + 1 := by omega
  clear hF hcell
  have HB1 := Lib.hid (hB.kept HF.out (by simp))
  have HQK := Lib.hid hQ
  have HSK := Lib.hid hS
  have hg7 : w1.cell? ⟨g, 7, none⟩ = some (.slice AP (ps.length + 1) cP) := HB1.out.cell 7
  have hg8 : w1.cell? ⟨g, 8, none⟩ = some (.slice B m e0) := HB1.out.cell 8
  have hgf := HB1.out.frozen
  have hgl := HB1.out.lt
  clear hB hQ hS hk
  go_wp2_with fail
  refine (HD.out _ (HM.out.old (HK.out.trans HF.out))).mono ?_
  rintro e w2 ⟨rfl, hk2⟩
  have HB2 := Lib.hid (HB1.out.kept hk2 (by simp))
  have HK2 := Lib.hid (HF.out.trans hk2)
  have hg72 : w2.cell? ⟨g, 7, none⟩ = some (.slice AP (ps.length + 1) cP) := HB2.out.cell 7
  have hgf2 := HB2.out.frozen
  have hgl2 := HB2.out.lt
  have hgl3 : g < w2.heap.size + 1 := by omega
  have hgne : g ≠ w2.heap.size := by omega
  have hgne2 : w2.heap.size ≠ g := by omega
  obtain ⟨gp, Ap, np, cp, rfl, _, hcell5, hfro5, hrd5, hgp, hgq, hrow2, hre⟩ := (HQK.out.kept (HF.out.trans hk2) (by simp)).lastK (HK.out.trans (HF.out.trans hk2)).size
  have hgg2 : g ∉ [gp] := by
    obtain ⟨xs, n2, c2, ho⟩ := hrow2
    intro h
    obtain rfl := List.mem_singleton.1 h
    exact own_blk_ne ho HB2.out (by decide) rfl
  have hgs2 : ∀ k, k ∈ fp (.slice B m e0) → k ∉ [gp] := fun k hk' h => by
    obtain ⟨xs, n2, c2, ho⟩ := hrow2
    obtain rfl := List.mem_singleton.1 h
    exact own_own_ne (HSK.out.kept (HF.out.trans hk2) (by simp)).1 ho (by decide) k hk' (by simp [fp_some])
  have HRE := Lib.hid hre
  have HGG : Hid (g ∉ [gp]) := hgg2
  have HGS : Hid (∀ k, k ∈ fp (.slice B m e0) → k ∉ [gp]) := hgs2
  have HK2w := Lib.hid hk2
  have HO : Hid (∀ W, Kept [] w2 W → W.ownsRow 0 60 7 (.slice Ap np cp) np (p.flatMap dL)) := fun W hk => (hrd5.kept hk (by simp)).1
  have H2 := Lib.hid hrd5.2
  have HGQ := Lib.hid hgq
  have HC5 := Lib.hid hcell5
  have hgpl := World.block_lt_of_cell? w2 _ hcell5
  simp only at hgpl
  have hnp : np = p.length := Reads.lenK dL 7 dL_len hrd5.reads (by omega)
  have hgpl3 : gp < w2.heap.size + 1 := by omega
  have hgpne : gp ≠ w2.heap.size := by omega
  have hgpne2 : w2.heap.size ≠ gp := by omega
  have hnp2 : np ≤ 5000 := by omega
  clear hre hrd5 hgq hnp
  clear hk2
  go_wp2_with fail
  go_region_law (refine step_append_any _ rfl (.tmp 93) (.tmp 95) 47 rfl 60 (.agg (dC 0 0 0 0 0 0 false)) 7 56 Tryz.underlying47 Tryz.info60 rfl (by decide) (.slice Ap np cp) np (p.flatMap dL) (by simp [Act.eval, Act.put]) (HO.out _ (by (repeat (first | (with_reducible exact Kept.refl _ _) | (with_reducible assumption) | (with_reducible refine Kept.alloc ?_ _) | (with_reducible refine Kept.drew ?_) | (with_reducible refine Kept.drewN ?_ _) | (with_reducible refine Kept.setCell ?_ ?_ _) | (exact .inr (Nat.le_refl _)) | (exact .inr (by simp only; omega)) | (exact .inr (by omega)))))) _ 1 1 (dL ⟨do_, da, db, dr, dn, dm, dl⟩) (by simp [Act.eval, Act.put]) (reads_dd _ _ ⟨do_, da, db, dr, dn, dm, dl⟩) (dL_one _) (by simp only [maxLen]; omega) (by omega) ?_; rintro A2 c2 w3 happ; have HA := Lib.hid happ; have HB3 := Lib.hid (blk_apart (HB2.out.kept (show Kept [] w2 _ by (repeat (first | (with_reducible exact Kept.refl _ _) | (with_reducible assumption) | (with_reducible refine Kept.alloc ?_ _) | (with_reducible refine Kept.drew ?_) | (with_reducible refine Kept.drewN ?_ _) | (with_reducible refine Kept.setCell ?_ ?_ _) | (exact .inr (Nat.le_refl _)) | (exact .inr (by simp only; omega)) | (exact .inr (by omega))))) (by simp)) (HO.out _ (show Kept [] w2 _ by (repeat (first | (with_reducible exact Kept.refl _ _) | (with_reducible assumption) | (with_reducible refine Kept.alloc ?_ _) | (with_reducible refine Kept.drew ?_) | (with_reducible refine Kept.drewN ?_ _) | (with_reducible refine Kept.setCell ?_ ?_ _) | (exact .inr (Nat.le_refl _)) | (exact .inr (by simp only; omega)) | (exact .inr (by omega)))))) happ.2.1 (by decide)); have hg83 : World.cell? _ ⟨g, 7, none⟩ = some (.slice (some ⟨gp, 0, none⟩) (ps.length + 1) cP) := HB3.out.cell 7; have hgf3 := HB3.out.frozen; have hgl3b := HB3.out.lt; have hk5 : Kept (fp (.slice Ap np cp)) w2 w3 := Kept.trans' (Kept.mono (show Kept [] w2 _ by (repeat (first | (with_reducible exact Kept.refl _ _) | (with_reducible assumption) | (with_reducible refine Kept.alloc ?_ _) | (with_reducible refine Kept.drew ?_) | (with_reducible refine Kept.drewN ?_ _) | (with_reducible refine Kept.setCell ?_ ?_ _) | (exact .inr (Nat.le_refl _)) | (exact .inr (by simp only; omega)) | (exact .inr (by omega))))) (by simp)) happ.2.1 (fun q hq => .inl hq); have hc6 : w3.cell? ⟨gp, ps.length, none⟩ = some (.slice Ap np cp) := hk5.cell_some HC5.out HGQ.out; have hf6 : w3.frozen? ⟨gp, ps.length, none⟩ = false := (hk5.frozen hgpl HGQ.out).trans hfro5; have hl6 : gp < w3.heap.size := World.block_lt_of_cell? w3 _ hc6; clear happ)
  all_goals
    have hq3 := HRE.out _ _ _ _ ⟨do_, da, db, dr, dn, dm, dl⟩ (show Kept [] w2 _ by (repeat (first | (with_reducible exact Kept.refl _ _) | (with_reducible assumption) | (with_reducible refine Kept.alloc ?_ _) | (with_reducible refine Kept.drew ?_) | (with_reducible refine Kept.drewN ?_ _) | (with_reducible refine Kept.setCell ?_ ?_ _) | (exact .inr (Nat.le_refl _)) | (exact .inr (by simp only; omega)) | (exact .inr (by omega))))) HA.out
    have hs3 : RowS w0 w3 d.starts B m e0 := (HSK.out.kept ((HF.out.trans HK2w.out).trans (show Kept [] w2 _ by (repeat (first | (with_reducible exact Kept.refl _ _) | (with_reducible assumption) | (with_reducible refine Kept.alloc ?_ _) | (with_reducible refine Kept.drew ?_) | (with_reducible refine Kept.drewN ?_ _) | (with_reducible refine Kept.setCell ?_ ?_ _) | (exact .inr (Nat.le_refl _)) | (exact .inr (by simp only; omega)) | (exact .inr (by omega)))))) (by simp)).apart (HO.out _ (show Kept [] w2 _ by (repeat (first | (with_reducible exact Kept.refl _ _) | (with_reducible assumption) | (with_reducible refine Kept.alloc ?_ _) | (with_reducible refine Kept.drew ?_) | (with_reducible refine Kept.drewN ?_ _) | (with_reducible refine Kept.setCell ?_ ?_ _) | (exact .inr (Nat.le_refl _)) | (exact .inr (by simp only; omega)) | (exact .inr (by omega)))))) HA.out.2.1 (by decide)
    have hk3 : Kept [] w0 w3 := ((HK.out.trans (HF.out.trans HK2w.out)).trans (show Kept [] w2 _ by (repeat (first | (with_reducible exact Kept.refl _ _) | (with_reducible assumption) | (with_reducible refine Kept.alloc ?_ _) | (with_reducible refine Kept.drew ?_) | (with_reducible refine Kept.drewN ?_ _) | (with_reducible refine Kept.setCell ?_ ?_ _) | (exact .inr (Nat.le_refl _)) | (exact .inr (by simp only; omega)) | (exact .inr (by omega)))))).trans' HA.out.2.1 (fun q hq => .inr (H2.out q hq))
    have hset : Kept [gp] w3 (w3.setCell ⟨gp, ps.length, none⟩ (.slice A2 (np + 1) c2)) := (Kept.refl [gp] w3).setCell (.inl (by simp)) _
    have hb4 := HB3.out.kept hset HGG.out
    have hs4 := hs3.kept2 hset HGS.out
    have hpu : PartU w0 (w3.setCell ⟨gp, ps.length, none⟩ (.slice A2 (np + 1) c2)) g ⟨d.cpus, d.threads, d.locks, d.cap, d.boost, d.keep, d.ratio, ps ++ [p ++ [⟨do_, da, db, dr, dn, dm, dl⟩]], d.starts⟩ := ⟨hg0, _, _, _, _, _, _, hb4, hq3, hs4⟩
    have HPU := Lib.hid hpu
    have HK4 := Lib.hid (hk3.setCell (p := ⟨gp, ps.length, none⟩) (.inr hgp) (.slice A2 (np + 1) c2))
    clear hq3 hs3 hs4 hk3 hset hb4 hpu
    go_wp2_with fail
    go_ret
    exact ⟨rfl, HPU.out, HK4.out⟩

end Go.Proofs.YtladfdpcdjjifaaGreatDoor
