/- Parse: a text's duty, walked. -/
import Derived.Test.YtladfdpcdjjifaaGreatDoorDuMo2
import Derived.Test.YtladfdpcdjjifaaGreatDoorDutyB
import Derived.Test.YtladfdpcdjjifaaGreatDoorDuK
namespace Go.Proofs.YtladfdpcdjjifaaGreatDoor
open Go.RowKit

theorem linesF_ne : ∀ (l cur : List UInt8), cur ++ l ≠ [] → linesF cur l ≠ []
  | [], cur, h => by simp at h; simp [linesF, h]
  | c :: t, cur, h => by
    unfold linesF
    split
    · simp
    · exact linesF_ne t _ (by simp)
/-- Another line is read into a duty. -/
theorem umore_any {w0 wr : World} {g : Nat} {d : Du} (l : List UInt8) (hp : PartU w0 wr g d) (hk : Kept [] w0 wr) (hM : HasMax w0) (hsm : SmallU 5000 d) (hl : l.length ≤ 90000) :
    Calls Tryz.prog 12 #[.pointer (some ⟨g, 0, none⟩), strV l] wr (Mored w0 g (moreT d l)) := by
  have hwl := words_len0 l []
  have hwl2 : (words l).length ≤ 90001 := by have := hwl.2; unfold words; omega
  have hwx : ∀ x ∈ words l, x.length ≤ 90000 := fun x hx => by have := hwl.1 x hx; simp at this; omega
  rcases hw : words l with _ | ⟨a, t⟩
  · exact more_nil l hp hk hM (by omega) hw
  · rw [hw] at hwl2 hwx
    simp only [List.length_cons] at hwl2
    by_cases h1 : a = dutyW
    · subst h1; exact more_duty l t hp hk hM (by omega) hw
    by_cases h2 : a = startW
    · subst h2; exact more_start l t hp hk hM hsm hl hw (by omega) (fun x hx => by have := hwx x (by simp [hx]); omega)
    by_cases h3 : d.starts = []
    · by_cases h4 : a = progW
      · subst h4
        by_cases h5 : t = []
        · exact more_prog l t hp hk hM hsm hl hw h3 h5
        · exact more_progbad l t hp hk hM hsm hl hw h3 h5
      by_cases h6 : d.progs = []
      · exact more_none l a t hp hk hM hsm hl hw h1 h2 h3 h4 h6
      by_cases h7 : (parseD 1048576 l).2 = 0
      · exact more_deed l a t hp hk hM hsm hl hw h1 h2 h3 h4 d.progs.dropLast (d.progs.getLast h6) (List.dropLast_concat_getLast h6).symm h7
      · exact more_deedbad l a t hp hk hM hsm hl hw h1 h2 h3 h4 h6 h7
    · exact more_late l a t hp hk hM hsm hl hw h1 h2 h3
/-- What a text's Parse leaves. -/
def ParsedU (w : World) (r : Du × Int × Int) (e : Ending) (w' : World) : Prop := ∃ A n c B m e0, e = .returned (.tuple #[.agg (uC r.1 A n c B m e0), .int .i64 r.2.1, .int .i64 r.2.2]) ∧ IsU w' r.1 A n B m ∧ Kept [] w w'
theorem IsU.zero (w : World) : IsU w Du.zero none 0 none 0 := ⟨ReadsPP.none_ w, ReadsS.none_ w⟩

attribute [local go_sem] run_store_float
set_option maxHeartbeats 3200000 in
set_option maxRecDepth 100000 in
theorem uParse_none (w : World) : Calls Tryz.prog 4 #[strV []] w (ParsedU w (parseT [])) := by
  have hp : parseT [] = (Du.zero, 0, 2) := rfl
  rw [hp]
  unfold ParsedU
  simp only [Du.zero, uC]
  go_enter Tryz.func4, Tryz.ntmps4
  go_wp2_with fail
  have hF := (Blk.new w 27 #[.int .i64 0, .int .i64 0, .int .i64 0, .int .i64 0, .int .u64 0, .float .f64 0, .float .f64 0, .slice none 0 0, .slice none 0 0]).cell
  refine bodyPost_ret (v := .tuple #[.agg #[.int .i64 0, .int .i64 0, .int .i64 0, .int .i64 0, .int .u64 0, .float .f64 0, .float .f64 0, .slice none 0 0, .slice none 0 0], .int .i64 0, .int .i64 2]) (by simp [results, Tryz.results4, go_sem, hF]) rfl ?_
  exact ⟨none, 0, 0, none, 0, 0, rfl, IsU.zero _, by (repeat (first | (with_reducible exact Kept.refl _ _) | (with_reducible assumption) | (with_reducible refine Kept.alloc ?_ _) | (with_reducible refine Kept.drew ?_) | (with_reducible refine Kept.drewN ?_ _) | (with_reducible refine Kept.setCell ?_ ?_ _) | (exact .inr (Nat.le_refl _)) | (exact .inr (by simp only; omega)) | (exact .inr (by omega))))⟩

set_option maxHeartbeats 3200000 in
set_option maxRecDepth 100000 in
theorem uParse_bad (l a : List UInt8) (t : List (List UInt8)) (w : World) (hl : l.length ≤ 3000) (hn : l ≠ []) (hM : HasMax w) (hls : linesF [] l = a :: t) (hb : (headT (words a)).2 ≠ 0) :
    Calls Tryz.prog 4 #[strV l] w (ParsedU w (parseT (linesF [] l))) := by
  have hp : parseT (linesF [] l) = (Du.zero, 0, (headT (words a)).2) := by rw [hls, parseT, if_neg hb]
  rw [hp]
  have hll := linesF_len l []
  rw [hls] at hll
  have hal : a.length ≤ 90000 := by have := hll.2 a (by simp); simp at this; omega
  have hxl : ∀ x ∈ t, x.length ≤ 90000 := fun x hx => by have := hll.2 x (by simp [hx]); simp at this; omega
  have htl : t.length ≤ 4000 := by have := hll.1; simp at this; omega
  have HT := Lib.hid (fun w => trimN_any l w (by omega))
  have htr : (Lib.trimSuffix l [10]).length ≤ 90000 := by unfold Lib.trimSuffix; split <;> (try simp) <;> omega
  have HS := Lib.hid (fun w h => splitN_any (Lib.trimSuffix l [10]) w (by omega) h)
  rw [lines_split _ hn, hls] at HS
  have HW := Lib.hid (fun w h => words_any a w (by omega) h)
  have hwl := words_len0 a []
  have HH := Lib.hid (fun A n c w hr hc => uhead_any A n c (words a) w hr hc (by have := hwl.2; unfold words; omega) (fun x hx => by have := hwl.1 x hx; simp at this; omega))
  have HM := Lib.hid hM
  have hlb : ¬ ((1048576 : Int) < (l.length : Int)) := by omega
  have hlb2 : decide ((1048576 : Int) < (l.length : Int)) = false := by simp; omega
  have hn1 : (l == []) = false := beq_eq_false_iff_ne.2 hn
  simp only [List.length_cons] at HS
  generalize Lib.trimSuffix l [10] = l2 at *
  generalize words a = wa at *
  generalize headT wa = hd at *
  obtain ⟨⟨d0, d1, d2, d3, d4, d5, d6, d7, d8⟩, he⟩ := hd
  simp only at hb HH ⊢
  have hb1 : (he == 0) = false := beq_eq_false_iff_ne.2 hb
  unfold ParsedU
  simp only [Du.zero, uC] at HH ⊢
  clear hM hls hll hwl hp hn hb
  go_enter Tryz.func4, Tryz.ntmps4
  go_wp2_with fail
  refine (HT.out _).mono ?_
  rintro e w1 ⟨rfl, rfl⟩
  go_wp2_with fail
  refine (HS.out _ (HM.out.old (show Kept [] w _ by (repeat (first | (with_reducible exact Kept.refl _ _) | (with_reducible assumption) | (with_reducible refine Kept.alloc ?_ _) | (with_reducible refine Kept.drew ?_) | (with_reducible refine Kept.drewN ?_ _) | (with_reducible refine Kept.setCell ?_ ?_ _) | (exact .inr (Nat.le_refl _)) | (exact .inr (by simp only; omega)) | (exact .inr (by omega))))))).mono ?_
  rintro e w1 ⟨rfl, rfl⟩
  have HB := Lib.hid ((Blk.new w 27 #[.int .i64 0, .int .i64 0, .int .i64 0, .int .i64 0, .int .u64 0, .float .f64 0, .float .f64 0, .slice none 0 0, .slice none 0 0]).alloc (.cells ((a :: t).map strV).toArray 9))
  have HL : Hid (Blk ((w.alloc (.cells #[.int .i64 0, .int .i64 0, .int .i64 0, .int .i64 0, .int .u64 0, .float .f64 0, .float .f64 0, .slice none 0 0, .slice none 0 0] 27)).alloc (.cells ((a :: t).map strV).toArray 9)) (w.heap.size + 1) 9 ((a :: t).map strV).toArray) := Blk.newAt (by simp) _ _
  have HK : Hid (Kept [] w ((w.alloc (.cells #[.int .i64 0, .int .i64 0, .int .i64 0, .int .i64 0, .int .u64 0, .float .f64 0, .float .f64 0, .slice none 0 0, .slice none 0 0] 27)).alloc (.cells ((a :: t).map strV).toArray 9))) := by
    show Kept _ _ _
    (repeat (first | (with_reducible exact Kept.refl _ _) | (with_reducible assumption) | (with_reducible refine Kept.alloc ?_ _) | (with_reducible refine Kept.drew ?_) | (with_reducible refine Kept.drewN ?_ _) | (with_reducible refine Kept.setCell ?_ ?_ _) | (exact .inr (Nat.le_refl _)) | (exact .inr (by simp only; omega)) | (exact .inr (by omega))))
  generalize (w.alloc (.cells #[.int .i64 0, .int .i64 0, .int .i64 0, .int .i64 0, .int .u64 0, .float .f64 0, .float .f64 0, .slice none 0 0, .slice none 0 0] 27)).alloc (.cells ((a :: t).map strV).toArray 9) = w1 at *
  have hlc : w1.cell? ⟨w.heap.size + 1, 0, none⟩ = some (strV a) := HL.out.cell 0
  have hll1 := HL.out.lt
  have hi0 : (0 : Int) < (t.length : Int) + 1 := by omega
  go_wp2_with fail
  refine (HW.out _ (HM.out.old HK.out)).mono ?_
  rintro e w2 ⟨Aw, cw, rfl, hF⟩
  obtain ⟨A', c', ⟨⟩, hcl1, hcl2⟩ := own_form hF.1
  have HRD := Lib.hid (Reads.of_own hF.1)
  have HK2 := Lib.hid (HK.out.trans hF.2.1)
  have HB2 := Lib.hid (HB.out.kept hF.2.1 (by simp))
  have HL2 := Lib.hid (HL.out.kept hF.2.1 (by simp))
  clear hF
  go_wp2_with fail
  refine (HH.out _ _ _ _ HRD.out hcl1).mono ?_
  rintro e w3 ⟨rfl, hk3⟩
  have HK3 := Lib.hid (HK2.out.trans hk3)
  have HB3 := Lib.hid (HB2.out.kept hk3 (by simp))
  have HL3 := Lib.hid (HL2.out.kept hk3 (by simp))
  have hbc := HB3.out.cell
  have hbf := HB3.out.frozen
  have hbl := HB3.out.lt
  have hbl2 : w.heap.size < w3.heap.size + 1 := by omega
  have hbne : w.heap.size ≠ w3.heap.size := by omega
  have hbne2 : w3.heap.size ≠ w.heap.size := by omega
  have hll3 := HL3.out.lt
  clear hk3
  go_wp2_with fail
  have hF := ((put9_blk HB3.out (.int .i64 0) (.int .i64 0) (.int .i64 0) (.int .i64 0) (.int .u64 0) (.float .f64 0) (.float .f64 0) (.slice none 0 0) (.slice none 0 0)).alloc (.cells #[.int .i64 d0, .int .i64 d1, .int .i64 d2, .int .i64 d3, .int .u64 (d4 : Int), .float .f64 d5, .float .f64 d6, .slice none 0 0, .slice none 0 0] 27)).cell
  refine bodyPost_ret (v := .tuple #[.agg #[.int .i64 0, .int .i64 0, .int .i64 0, .int .i64 0, .int .u64 0, .float .f64 0, .float .f64 0, .slice none 0 0, .slice none 0 0], .int .i64 0, .int .i64 he]) (by simp [results, Tryz.results4, go_sem, hF]) rfl ?_
  exact ⟨none, 0, 0, none, 0, 0, rfl, IsU.zero _, (put9_kept HK3.out (Nat.le_refl _) (.int .i64 0) (.int .i64 0) (.int .i64 0) (.int .i64 0) (.int .u64 0) (.float .f64 0) (.float .f64 0) (.slice none 0 0) (.slice none 0 0)).alloc _⟩

set_option maxHeartbeats 3200000 in
set_option maxRecDepth 100000 in
theorem uParse_run (l a : List UInt8) (t : List (List UInt8)) (w : World) (hl : l.length ≤ 3000) (hn : l ≠ []) (hM : HasMax w) (hls : linesF [] l = a :: t) (hb : (headT (words a)).2 = 0) :
    Calls Tryz.prog 4 #[strV l] w (ParsedU w (parseT (linesF [] l))) := by
  have hp : parseT (linesF [] l) = readT (headT (words a)).1 1 t := by rw [hls, parseT, if_pos hb]
  rw [hp]
  have hll := linesF_len l []
  rw [hls] at hll
  have hal : a.length ≤ 90000 := by have := hll.2 a (by simp); simp at this; omega
  have hxl : ∀ x ∈ t, x.length ≤ 90000 := fun x hx => by have := hll.2 x (by simp [hx]); simp at this; omega
  have htl : t.length ≤ 4000 := by have := hll.1; simp at this; omega
  have HT := Lib.hid (fun w => trimN_any l w (by omega))
  have htr : (Lib.trimSuffix l [10]).length ≤ 90000 := by unfold Lib.trimSuffix; split <;> (try simp) <;> omega
  have HS := Lib.hid (fun w h => splitN_any (Lib.trimSuffix l [10]) w (by omega) h)
  rw [lines_split _ hn, hls] at HS
  have HW := Lib.hid (fun w h => words_any a w (by omega) h)
  have hwl := words_len0 a []
  have HH := Lib.hid (fun A n c w hr hc => uhead_any A n c (words a) w hr hc (by have := hwl.2; unfold words; omega) (fun x hx => by have := hwl.1 x hx; simp at this; omega))
  have HM := Lib.hid hM
  have hlb : ¬ ((1048576 : Int) < (l.length : Int)) := by omega
  have hlb2 : decide ((1048576 : Int) < (l.length : Int)) = false := by simp; omega
  have hn1 : (l == []) = false := beq_eq_false_iff_ne.2 hn
  simp only [List.length_cons] at HS
  generalize Lib.trimSuffix l [10] = l2 at *
  have hh9 := headT_small (words a)
  have hh7 : (headT (words a)).1.progs = [] := List.eq_nil_of_length_eq_zero (by have := hh9.1; omega)
  have hh8 : (headT (words a)).1.starts = [] := List.eq_nil_of_length_eq_zero (by have := hh9.2.1; omega)
  generalize words a = wa at *
  generalize headT wa = hd at *
  obtain ⟨⟨d0, d1, d2, d3, d4, d5, d6, d7, d8⟩, he⟩ := hd
  simp only at hb HH hh7 hh8 ⊢
  subst hb hh7 hh8
  have hR : ∃ R, readT ⟨d0, d1, d2, d3, d4, d5, d6, [], []⟩ 1 t = R := ⟨_, rfl⟩
  obtain ⟨R, hR⟩ := hR
  rw [hR]
  have HR := Lib.hid hR
  unfold ParsedU
  simp only [uC] at HH
  have HXL := Lib.hid hxl
  clear hM hls hll hwl hp hn hh9 hR hxl
  go_enter Tryz.func4, Tryz.ntmps4
  go_wp2_with fail
  refine (HT.out _).mono ?_
  rintro e w1 ⟨rfl, rfl⟩
  go_wp2_with fail
  refine (HS.out _ (HM.out.old (show Kept [] w _ by (repeat (first | (with_reducible exact Kept.refl _ _) | (with_reducible assumption) | (with_reducible refine Kept.alloc ?_ _) | (with_reducible refine Kept.drew ?_) | (with_reducible refine Kept.drewN ?_ _) | (with_reducible refine Kept.setCell ?_ ?_ _) | (exact .inr (Nat.le_refl _)) | (exact .inr (by simp only; omega)) | (exact .inr (by omega))))))).mono ?_
  rintro e w1 ⟨rfl, rfl⟩
  have HB := Lib.hid ((Blk.new w 27 #[.int .i64 0, .int .i64 0, .int .i64 0, .int .i64 0, .int .u64 0, .float .f64 0, .float .f64 0, .slice none 0 0, .slice none 0 0]).alloc (.cells ((a :: t).map strV).toArray 9))
  have HL : Hid (Blk ((w.alloc (.cells #[.int .i64 0, .int .i64 0, .int .i64 0, .int .i64 0, .int .u64 0, .float .f64 0, .float .f64 0, .slice none 0 0, .slice none 0 0] 27)).alloc (.cells ((a :: t).map strV).toArray 9)) (w.heap.size + 1) 9 ((a :: t).map strV).toArray) := Blk.newAt (by simp) _ _
  have HK : Hid (Kept [] w ((w.alloc (.cells #[.int .i64 0, .int .i64 0, .int .i64 0, .int .i64 0, .int .u64 0, .float .f64 0, .float .f64 0, .slice none 0 0, .slice none 0 0] 27)).alloc (.cells ((a :: t).map strV).toArray 9))) := by
    show Kept _ _ _
    (repeat (first | (with_reducible exact Kept.refl _ _) | (with_reducible assumption) | (with_reducible refine Kept.alloc ?_ _) | (with_reducible refine Kept.drew ?_) | (with_reducible refine Kept.drewN ?_ _) | (with_reducible refine Kept.setCell ?_ ?_ _) | (exact .inr (Nat.le_refl _)) | (exact .inr (by simp only; omega)) | (exact .inr (by omega))))
  generalize (w.alloc (.cells #[.int .i64 0, .int .i64 0, .int .i64 0, .int .i64 0, .int .u64 0, .float .f64 0, .float .f64 0, .slice none 0 0, .slice none 0 0] 27)).alloc (.cells ((a :: t).map strV).toArray 9) = w1 at *
  have hlc : w1.cell? ⟨w.heap.size + 1, 0, none⟩ = some (strV a) := HL.out.cell 0
  have hll1 := HL.out.lt
  have hi0 : (0 : Int) < (t.length : Int) + 1 := by omega
  go_wp2_with fail
  refine (HW.out _ (HM.out.old HK.out)).mono ?_
  rintro e w2 ⟨Aw, cw, rfl, hF⟩
  obtain ⟨A', c', ⟨⟩, hcl1, hcl2⟩ := own_form hF.1
  have HRD := Lib.hid (Reads.of_own hF.1)
  have HK2 := Lib.hid (HK.out.trans hF.2.1)
  have HB2 := Lib.hid (HB.out.kept hF.2.1 (by simp))
  have HL2 := Lib.hid (HL.out.kept hF.2.1 (by simp))
  clear hF
  go_wp2_with fail
  refine (HH.out _ _ _ _ HRD.out hcl1).mono ?_
  rintro e w3 ⟨rfl, hk3⟩
  have HK3 := Lib.hid (HK2.out.trans hk3)
  have HB3 := Lib.hid (HB2.out.kept hk3 (by simp))
  have HL3 := Lib.hid (HL2.out.kept hk3 (by simp))
  have hbc := HB3.out.cell
  have hbf := HB3.out.frozen
  have hbl := HB3.out.lt
  have hbl2 : w.heap.size < w3.heap.size + 1 := by omega
  have hbne : w.heap.size ≠ w3.heap.size := by omega
  have hbne2 : w3.heap.size ≠ w.heap.size := by omega
  have hll3 := HL3.out.lt
  clear hk3
  have hsl := run_cut_lo (P := Tryz.prog) 34 9 (.string ByteArray.empty) 16 Tryz.underlying34 Tryz.info9 (some ⟨w.heap.size + 1, 0, none⟩) (t.length + 1) (t.length + 1) .i64 1 1 rfl (by omega)
  simp only [Nat.add_sub_cancel] at hsl
  have hreads : Reads w3 1 (some ⟨w.heap.size + 1, 0, none⟩) (t.length + 1) ((a :: t).map strV) := ⟨by simp, fun _ => ⟨_, rfl, fun j u hu => by rw [add_mk, Nat.zero_add, HL3.out.cell]; simpa using hu⟩⟩
  have hrc := hreads.cutA (k := 1) (cap := t.length + 1) (by omega) (Nat.le_refl _)
  have HCR : Hid (Reads w3 1 (cutA (some ⟨w.heap.size + 1, 0, none⟩) 1 (t.length + 1)) t.length (t.map strV)) := by simpa [Hid] using hrc
  clear hreads hrc
  generalize cutA (some ⟨w.heap.size + 1, 0, none⟩) 1 (t.length + 1) = A1 at *
  have HM3 := Lib.hid (HM.out.old HK3.out)
  go_wp2_with fail
  clear hbc hbf hbl hbl2 hll3
  go_loopw [39] (fun iv wr => ∃ (k : Nat) (d : Du), k ≤ t.length ∧ iv = .int .i64 k ∧ Hid (readT d (k + 1) (t.drop k) = R) ∧ Hid (SmallU k d) ∧ Hid (PartU w3 wr w3.heap.size d) ∧ Hid (Kept [] w3 wr)) (fun i _ => t.length - (intOf i).toNat)
  case atStart =>
    exact ⟨0, ⟨d0, d1, d2, d3, d4, d5, d6, [], []⟩, by omega, rfl, HR.out, ⟨Nat.le_refl _, Nat.le_refl _, by simp, by simp⟩, ⟨Nat.le_refl _, none, 0, 0, none, 0, 0, Blk.new _ _ _, RowPQ.nil _ _, RowS.nil _ _⟩, (Kept.refl _ _).alloc _⟩
  case round =>
    clear HR
    obtain ⟨k, d, hk, rfl, HD, HSM, HPU, HKW⟩ := hrel
    have HBR := Lib.hid (HB3.out.kept HKW.out (by simp))
    have hbc := HBR.out.cell
    have hbf := HBR.out.frozen
    have hbl := HBR.out.lt
    have hws := HKW.out.size
    by_cases hlt : k < t.length
    · obtain ⟨x, hx⟩ : ∃ x, t[k] = x := ⟨_, rfl⟩
      have hd := HD.out
      rw [List.drop_eq_getElem_cons hlt, hx, readT] at hd
      have hxl := HXL.out x (hx ▸ List.getElem_mem hlt)
      obtain ⟨b, o, rfl, hbb, hcell⟩ := HCR.out.addr (by omega) (by omega)
      have hc0 : wr.cell? ⟨b, o + k, none⟩ = some (strV x) := HKW.out.cell_some (hcell k (strV x) (by rw [List.getElem?_map, List.getElem?_eq_getElem hlt, hx]; rfl)) (by simp)
      have HMO := Lib.hid (umore_any x HPU.out HKW.out HM3.out ⟨by have := HSM.out.1; omega, by have := HSM.out.2.1; omega, fun p hp => by have := HSM.out.2.2.1 p hp; omega, HSM.out.2.2.2⟩ hxl)
      have HS2 := Lib.hid (HSM.out.more x)
      have hi0 : (0 : Int) ≤ (k : Int) := by omega
      have hi1 : (k : Int) < (t.length : Int) := by omega
      clear hcell hx HD
      generalize moreT d x = r at *
      obtain ⟨d2, e2⟩ := r
      simp only at hd HS2
      go_wp2_with fail
      refine (HMO.out).mono ?_
      rintro e w5 ⟨rfl, hp5, hk5⟩
      have HP5 := Lib.hid hp5
      have HK5 := Lib.hid hk5
      have HB5 := Lib.hid (HB3.out.kept hk5 (by simp))
      clear hp5 hk5 hbc hbf hbl
      by_cases he2 : e2 = 0
      · subst he2
        rw [if_pos rfl] at hd
        have HDD := Lib.hid hd
        clear hd
        go_wp2_with fail
        go_roundw
        case rel => exact ⟨k + 1, d2, by omega, by go_num, HDD.out, HS2.out, HP5.out, HK5.out⟩
        case measure => simp [intOf]; omega
      · have hb2 : (e2 == 0) = false := beq_eq_false_iff_ne.2 he2
        rw [if_neg he2] at hd
        subst hd
        have hbc := HB5.out.cell
        have hbf := HB5.out.frozen
        have hbl := HB5.out.lt
        clear he2
        simp only [Du.zero, uC]
        go_wp2_with fail
        have hF := (put9_blk HB5.out (.int .i64 0) (.int .i64 0) (.int .i64 0) (.int .i64 0) (.int .u64 0) (.float .f64 0) (.float .f64 0) (.slice none 0 0) (.slice none 0 0)).cell
        refine bodyPost_ret (v := .tuple #[.agg #[.int .i64 0, .int .i64 0, .int .i64 0, .int .i64 0, .int .u64 0, .float .f64 0, .float .f64 0, .slice none 0 0, .slice none 0 0], .int .i64 ((k + 1 : Nat) : Int), .int .i64 e2]) (by simp [results, Tryz.results4, go_sem, hF]) rfl ?_
        exact ⟨none, 0, 0, none, 0, ⟨0, rfl⟩, IsU.zero _, put9_kept (HK3.out.trans HK5.out) (Nat.le_refl _) (.int .i64 0) (.int .i64 0) (.int .i64 0) (.int .i64 0) (.int .u64 0) (.float .f64 0) (.float .f64 0) (.slice none 0 0) (.slice none 0 0)⟩
    · obtain rfl : k = t.length := by omega
      have hd := HD.out
      rw [List.drop_of_length_le (Nat.le_refl _), readT] at hd
      obtain ⟨_, Ap, np, cp, Bs, ms, es, hBk, hQ, hS⟩ := HPU.out
      have HUC := Lib.hid (ucheck_any d Ap np cp Bs ms es wr ⟨hQ.pp.reads, hS.reads⟩ (by have := HSM.out.1; omega) (by have := HSM.out.2.1; omega) (fun p hp => by have := HSM.out.2.2.1 p hp; omega) HSM.out.2.2.2)
      have HBK := Lib.hid hBk
      have HQ := Lib.hid hQ
      have HS := Lib.hid hS
      clear hQ hS hBk HPU HSM HD
      generalize hck : checkU d = ck at *
      obtain ⟨q0, q1, q2, q3, q4, q5, q6, q7, q8⟩ := d
      simp only [uC] at HUC HBK
      have hdc := HBK.out.cell
      have hdf := HBK.out.frozen
      have hdl := HBK.out.lt
      clear hck
      go_wp2_with fail
      refine (HUC.out).mono ?_
      rintro e w5 ⟨rfl, hk5⟩
      have HK5 := Lib.hid (HKW.out.trans hk5)
      have HB5 := Lib.hid (HBR.out.kept hk5 (by simp))
      have HD5 := Lib.hid (HBK.out.kept hk5 (by simp))
      have HQ5 := Lib.hid (HQ.out.kept hk5 (by simp))
      have HS5 := Lib.hid (HS.out.kept hk5 (by simp))
      clear hk5 hdc hdf hdl hbc hbf hbl
      have hdc := HD5.out.cell
      have hdf := HD5.out.frozen
      have hdl := HD5.out.lt
      have hbc := HB5.out.cell
      have hbf := HB5.out.frozen
      have hbl := HB5.out.lt
      by_cases hck : ck = 0
      · subst hck
        rw [if_pos rfl] at hd
        subst hd
        simp only [uC]
        go_wp2_with fail
        have hF := (put9_blk HB5.out (.int .i64 q0) (.int .i64 q1) (.int .i64 q2) (.int .i64 q3) (.int .u64 (q4 : Int)) (.float .f64 q5) (.float .f64 q6) (.slice Ap np cp) (.slice Bs ms es)).cell
        refine bodyPost_ret (v := .tuple #[.agg #[.int .i64 q0, .int .i64 q1, .int .i64 q2, .int .i64 q3, .int .u64 (q4 : Int), .float .f64 q5, .float .f64 q6, .slice Ap np cp, .slice Bs ms es], .int .i64 ((t.length + 1 : Nat) : Int), .int .i64 0]) (by simp [results, Tryz.results4, go_sem, hF]) rfl ?_
        have hk9 := put9_keeps (w := w5) (g := w.heap.size) (.int .i64 q0) (.int .i64 q1) (.int .i64 q2) (.int .i64 q3) (.int .u64 (q4 : Int)) (.float .f64 q5) (.float .f64 q6) (.slice Ap np cp) (.slice Bs ms es)
        exact ⟨Ap, np, cp, Bs, ms, ⟨es, rfl⟩, ⟨(HQ5.out.block HB5.out hk9 (by decide) (by decide)).pp.reads, (HS5.out.block HB5.out hk9 (by decide)).reads⟩, put9_kept (HK3.out.trans HK5.out) (Nat.le_refl _) (.int .i64 q0) (.int .i64 q1) (.int .i64 q2) (.int .i64 q3) (.int .u64 (q4 : Int)) (.float .f64 q5) (.float .f64 q6) (.slice Ap np cp) (.slice Bs ms es)⟩
      · have hb2 : (ck == 0) = false := beq_eq_false_iff_ne.2 hck
        rw [if_neg hck] at hd
        subst hd
        simp only [Du.zero, uC]
        clear hck
        go_wp2_with fail
        have hF := (put9_blk HB5.out (.int .i64 0) (.int .i64 0) (.int .i64 0) (.int .i64 0) (.int .u64 0) (.float .f64 0) (.float .f64 0) (.slice none 0 0) (.slice none 0 0)).cell
        refine bodyPost_ret (v := .tuple #[.agg #[.int .i64 0, .int .i64 0, .int .i64 0, .int .i64 0, .int .u64 0, .float .f64 0, .float .f64 0, .slice none 0 0, .slice none 0 0], .int .i64 ((t.length + 1 : Nat) : Int), .int .i64 ck]) (by simp [results, Tryz.results4, go_sem, hF]) rfl ?_
        exact ⟨none, 0, 0, none, 0, ⟨0, rfl⟩, IsU.zero _, put9_kept (HK3.out.trans HK5.out) (Nat.le_refl _) (.int .i64 0) (.int .i64 0) (.int .i64 0) (.int .i64 0) (.int .u64 0) (.float .f64 0) (.float .f64 0) (.slice none 0 0) (.slice none 0 0)⟩

theorem uParse_any (l : List UInt8) (w : World) (hl : l.length ≤ 3000) (hM : HasMax w) : Calls Tryz.prog 4 #[strV l] w (ParsedU w (parseT (linesF [] l))) := by
  by_cases hn : l = []
  · subst hn
    exact uParse_none w
  · rcases hls : linesF [] l with _ | ⟨a, t⟩
    · exact absurd hls (linesF_ne l [] (by simpa using hn))
    · rw [← hls]
      by_cases hb : (headT (words a)).2 = 0
      · exact uParse_run l a t w hl hn hM hls hb
      · exact uParse_bad l a t w hl hn hM hls hb

end Go.Proofs.YtladfdpcdjjifaaGreatDoor
