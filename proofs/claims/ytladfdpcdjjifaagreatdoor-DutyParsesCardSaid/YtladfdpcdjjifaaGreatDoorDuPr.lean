/- The document's Parse: a text's duty, walked. -/
import Derived.Test.YtladfdpcdjjifaaGreatDoorDuLj
import Derived.Test.YtladfdpcdjjifaaGreatDoorDuLk
import Derived.Test.YtladfdpcdjjifaaGreatDoorDuLm
import Derived.Test.YtladfdpcdjjifaaGreatDoorDuPa
import Derived.Test.YtladfdpcdjjifaaGreatDoorPgLr
import Derived.Test.YtladfdpcdjjifaaGreatDoorDuR
namespace Go.Proofs.YtladfdpcdjjifaaGreatDoor
open Go.RowKit

/-- The document's first line. -/
theorem refLine_first (w0 wr : World) (A : Option Addr) (n c : Nat) (B : Option Addr) (m e0 : Nat) (l : List UInt8) (hq : RowPQ w0 wr [] A n c) (hs : RowS w0 wr [] B m e0) (hk : Kept [] w0 wr) (hl : l.length ≤ 80000) :
    Calls Tryz.prog 15 #[.agg (uC Du.zero A n c B m e0), strV l, .bool true] wr (Lined w0 wr (headT (words l))) := by
  have hsm : SmallU 5000 Du.zero := zero_small 5000
  have hwl := words_len0 l []
  have hwl2 : (words l).length ≤ 80001 := by have := hwl.2; unfold words; omega
  have hwx : ∀ x ∈ words l, x.length ≤ 80000 := fun x hx => by have := hwl.1 x hx; simp at this; omega
  rcases hw : words l with _ | ⟨a, t⟩
  · exact rline_nil w0 wr Du.zero A n c B m e0 l true hw hq hs hk hsm hl
  · rw [hw] at hwl2 hwx
    simp only [List.length_cons] at hwl2
    by_cases h1 : a = dutyW
    · rcases hnb : numbU t 7 5 with _ | x
      · rw [show headT (a :: t) = (Du.zero, 3) by simp [headT, h1, hnb]]
        exact rline_form w0 wr Du.zero A n c B m e0 l a t h1 hw (by omega) (fun x hx => by have := hwx x (by simp [hx]); omega) hnb hq hs hk hsm hl
      · have h3 := numbU_len hnb
        obtain ⟨x0, x1, x2, x3, x4, x5, x6, rfl⟩ : ∃ x0 x1 x2 x3 x4 x5 x6, x = [x0, x1, x2, x3, x4, x5, x6] := by
          match x, h3 with
          | [x0, x1, x2, x3, x4, x5, x6], _ => exact ⟨x0, x1, x2, x3, x4, x5, x6, rfl⟩
        rw [show headT (a :: t) = (ofN [x0, x1, x2, x3, x4, x5, x6], 0) by simp [headT, h1, hnb]]
        exact rline_first w0 wr Du.zero A n c B m e0 l a t hw h1 (by omega) (fun x hx => by have := hwx x (by simp [hx]); omega) x0 x1 x2 x3 x4 x5 x6 hnb hq hs hk hsm hl
    · rw [show headT (a :: t) = (Du.zero, 15) by simp [headT, h1]]
      exact rline_notduty w0 wr Du.zero A n c B m e0 l a t h1 hw hq hs hk hsm hl
/-- The document's next line. -/
theorem refLine_more (w0 wr : World) (d : Du) (A : Option Addr) (n c : Nat) (B : Option Addr) (m e0 : Nat) (l : List UInt8) (hq : RowPQ w0 wr d.progs A n c) (hs : RowS w0 wr d.starts B m e0) (hk : Kept [] w0 wr) (hsm : SmallU 5000 d) (hl : l.length ≤ 80000) :
    Calls Tryz.prog 15 #[.agg (uC d A n c B m e0), strV l, .bool false] wr (Lined w0 wr (moreT d l)) := by
  have hwl := words_len0 l []
  have hwl2 : (words l).length ≤ 80001 := by have := hwl.2; unfold words; omega
  have hwx : ∀ x ∈ words l, x.length ≤ 80000 := fun x hx => by have := hwl.1 x hx; simp at this; omega
  rcases hw : words l with _ | ⟨a, t⟩
  · rw [show moreT d l = (d, 15) by simp [moreT, hw]]
    exact rline_nil w0 wr d A n c B m e0 l false hw hq hs hk hsm hl
  · rw [hw] at hwl2 hwx
    simp only [List.length_cons] at hwl2
    have htx : ∀ x ∈ t, x.length ≤ 90000 := fun x hx => by have := hwx x (by simp [hx]); omega
    by_cases h1 : a = dutyW
    · rw [show moreT d l = (d, 15) by simp [moreT, hw, h1]]
      exact rline_duty w0 wr d A n c B m e0 l a t h1 hw hq hs hk hsm hl
    by_cases h2 : a = startW
    · rcases hnb : numbU t 3 2 with _ | x
      · rw [show moreT d l = (d, 3) by simp [moreT, hw, h2, startT, hnb, show startW ≠ dutyW by decide]]
        exact rline_startbad w0 wr d A n c B m e0 l a t h2 hw (by omega) htx hnb hq hs hk hsm hl
      · have h3 := numbU_len hnb
        obtain ⟨x0, x1, x2, rfl⟩ : ∃ x0 x1 x2, x = [x0, x1, x2] := by
          match x, h3 with
          | [x0, x1, x2], _ => exact ⟨x0, x1, x2, rfl⟩
        rw [show moreT d l = ({ d with starts := d.starts ++ [⟨smallN x0, smallN x1, x2⟩] }, 0) by simp [moreT, hw, h2, startT, hnb, show startW ≠ dutyW by decide]]
        exact rline_start w0 wr d A n c B m e0 l a t hw h2 (by omega) htx x0 x1 x2 hnb hq hs hk hsm hl
    by_cases h3 : d.starts = []
    · by_cases h4 : a = progW
      · by_cases h5 : t = []
        · rw [show moreT d l = ({ d with progs := d.progs ++ [[]] }, 0) by simp [moreT, hw, h3, h4, h5, show progW ≠ dutyW by decide, show progW ≠ startW by decide]]
          exact rline_prog w0 wr d A n c B m e0 l a t hw h3 h4 h5 hq hs hk hsm hl
        · rw [show moreT d l = (d, 3) by simp [moreT, hw, h3, h4, h5, show progW ≠ dutyW by decide, show progW ≠ startW by decide]]
          exact rline_progbad w0 wr d A n c B m e0 l a t hw h3 h4 h5 hq hs hk hsm hl
      by_cases ho : opOf a = 0
      · rw [moreT_name hw h1 h2 h3 h4 ho]
        exact rline_noname w0 wr d A n c B m e0 l a t hw h1 h2 h3 h4 ho hq hs hk hsm hl
      by_cases h6 : d.progs = []
      · rw [show moreT d l = (d, 15) by simp [moreT, hw, h1, h2, h3, h4, h6]]
        exact rline_none w0 wr d A n c B m e0 l a t hw h1 h2 h3 h4 ho h6 hq hs hk hsm hl
      by_cases h7 : (parseD 1048576 l).2 = 0
      · rw [show moreT d l = ({ d with progs := d.progs.dropLast ++ [d.progs.getLast h6 ++ [(parseD 1048576 l).1]] }, 0) by simp [moreT, hw, h1, h2, h3, h4, h6, h7]; rw [List.getLast?_eq_some_getLast h6]; rfl]
        exact rline_deed w0 wr d A n c B m e0 l a t hw h1 h2 h3 h4 ho d.progs.dropLast (d.progs.getLast h6) (List.dropLast_concat_getLast h6).symm h7 hq hs hk hsm hl
      · rw [show moreT d l = (d, (parseD 1048576 l).2) by simp [moreT, hw, h1, h2, h3, h4, h6, h7]]
        exact rline_deedbad w0 wr d A n c B m e0 l a t hw h1 h2 h3 h4 ho h6 h7 hq hs hk hsm hl
    · rw [show moreT d l = (d, 15) by simp [moreT, hw, h1, h2, h3]]
      exact rline_late w0 wr d A n c B m e0 l a t hw h1 h2 h3 hq hs hk hsm hl
/-- Line k of a duty. -/
def lineT (k : Nat) (d : Du) (l : List UInt8) : Du × Int := if k = 0 then headT (words l) else moreT d l
theorem refLine_any (w0 wr : World) (k : Nat) (d : Du) (hd : k = 0 → d = Du.zero) (A : Option Addr) (n c : Nat) (B : Option Addr) (m e0 : Nat) (l : List UInt8) (hq : RowPQ w0 wr d.progs A n c) (hs : RowS w0 wr d.starts B m e0) (hk : Kept [] w0 wr) (hsm : SmallU 5000 d) (hl : l.length ≤ 80000) :
    Calls Tryz.prog 15 #[.agg (uC d A n c B m e0), strV l, .bool ((k : Int) == 0)] wr (Lined w0 wr (lineT k d l)) := by
  unfold lineT
  by_cases h : k = 0
  · subst h
    obtain rfl := hd rfl
    exact refLine_first w0 wr A n c B m e0 l hq hs hk hl
  · rw [if_neg h, show ((k : Int) == 0) = false from beq_eq_false_iff_ne.2 (by omega)]
    exact refLine_more w0 wr d A n c B m e0 l hq hs hk hsm hl

attribute [local go_sem] run_store_float
set_option maxHeartbeats 3200000 in
set_option maxRecDepth 100000 in
theorem refParse9_none (l : List UInt8) (w : World) (hl : l.length ≤ 5000) (hz : linesF [] l = []) :
    Calls Tryz.prog 5 #[strV l] w (ParsedU w (parseT (linesF [] l))) := by
  have HL := Lib.hid (fun w => refLines8 l w (by omega))
  have hlb : decide ((1048576 : Int) < (l.length : Int)) = false := by simp; omega
  rw [hz] at HL ⊢
  have hp : parseT [] = (Du.zero, 0, 2) := rfl
  rw [hp]
  unfold ParsedU
  simp only [Du.zero, uC]
  go_enter Tryz.func5, Tryz.ntmps5
  go_wp2_with fail
  refine (HL.out _).mono ?_
  rintro e w1 ⟨A, c, rfl, hF⟩
  have HB := Lib.hid ((Blk.new w 27 #[.int .i64 0, .int .i64 0, .int .i64 0, .int .i64 0, .int .u64 0, .float .f64 0, .float .f64 0, .slice none 0 0, .slice none 0 0]).kept hF.2.1 (by simp))
  have HK := Lib.hid (((Kept.refl [] w).alloc (.cells #[.int .i64 0, .int .i64 0, .int .i64 0, .int .i64 0, .int .u64 0, .float .f64 0, .float .f64 0, .slice none 0 0, .slice none 0 0] 27)).trans hF.2.1)
  have hbc := HB.out.cell
  have hbf := HB.out.frozen
  have hbl := HB.out.lt
  clear hF
  go_wp2_with fail
  have hF := (put9_blk HB.out (.int .i64 0) (.int .i64 0) (.int .i64 0) (.int .i64 0) (.int .u64 0) (.float .f64 0) (.float .f64 0) (.slice none 0 0) (.slice none 0 0)).cell
  refine bodyPost_ret (v := .tuple #[.agg #[.int .i64 0, .int .i64 0, .int .i64 0, .int .i64 0, .int .u64 0, .float .f64 0, .float .f64 0, .slice none 0 0, .slice none 0 0], .int .i64 0, .int .i64 2]) (by simp [results, Tryz.results5, go_sem, hF]) rfl ?_
  exact ⟨none, 0, 0, none, 0, 0, rfl, IsU.zero _, put9_kept HK.out (Nat.le_refl _) (.int .i64 0) (.int .i64 0) (.int .i64 0) (.int .i64 0) (.int .u64 0) (.float .f64 0) (.float .f64 0) (.slice none 0 0) (.slice none 0 0)⟩

set_option maxHeartbeats 6400000 in
set_option maxRecDepth 100000 in
theorem refParse9_some (l : List UInt8) (w : World) (hl : l.length ≤ 3000) (hz : linesF [] l ≠ []) :
    Calls Tryz.prog 5 #[strV l] w (ParsedU w (parseT (linesF [] l))) := by
  have HL := Lib.hid (fun w => refLines8 l w (by omega))
  have HX : Hid (∀ x ∈ linesF [] l, x.length ≤ 5000) := fun x hx => by have := (linesF_len l []).2 x hx; simp at this; omega
  have hll := (linesF_len l []).1
  have hlb : decide ((1048576 : Int) < (l.length : Int)) = false := by simp; omega
  generalize linesF [] l = ls at *
  have hlen : 0 < ls.length := List.length_pos_iff.2 hz
  have hR : ∃ R, parseT ls = R := ⟨_, rfl⟩
  obtain ⟨R, hR⟩ := hR
  rw [hR]
  have HR : Hid (∀ a t, ls = a :: t → (if (headT (words a)).2 = 0 then readT (headT (words a)).1 1 t else (Du.zero, 0, (headT (words a)).2)) = R) := fun a t h => by rw [← hR, h, parseT]
  clear hR hz
  unfold ParsedU
  go_enter Tryz.func5, Tryz.ntmps5
  go_wp2_with fail
  refine (HL.out _).mono ?_
  rintro e w1 ⟨A, c, rfl, hF⟩
  have HB := Lib.hid ((Blk.new w 27 #[.int .i64 0, .int .i64 0, .int .i64 0, .int .i64 0, .int .u64 0, .float .f64 0, .float .f64 0, .slice none 0 0, .slice none 0 0]).kept hF.2.1 (by simp))
  have HK := Lib.hid (((Kept.refl [] w).alloc (.cells #[.int .i64 0, .int .i64 0, .int .i64 0, .int .i64 0, .int .u64 0, .float .f64 0, .float .f64 0, .slice none 0 0, .slice none 0 0] 27)).trans hF.2.1)
  have hbl := HB.out.lt
  have HRD := Lib.hid (Reads.of_own hF.1)
  have hln0 : ((ls.length : Int) == 0) = false := beq_eq_false_iff_ne.2 (by omega)
  clear hF
  go_wp2_with fail
  go_loopw [7] (fun iv wr => ∃ (k : Nat) (d : Du), k ≤ ls.length ∧ iv = .int .i64 k ∧ Hid ((k = 0 → d = Du.zero) ∧ (0 < k → readT d k (ls.drop k) = R)) ∧ Hid (SmallU k d) ∧ Hid (PartU w1 wr w1.heap.size d) ∧ Hid (Kept [] w1 wr)) (fun i _ => ls.length - (intOf i).toNat)
  case atStart =>
    exact ⟨0, Du.zero, by omega, rfl, ⟨fun _ => rfl, fun h => absurd h (by omega)⟩, zero_small 0, ⟨Nat.le_refl _, none, 0, 0, none, 0, 0, Blk.new _ _ _, RowPQ.nil _ _, RowS.nil _ _⟩, (Kept.refl _ _).alloc _⟩
  case round =>
    obtain ⟨k, d, hk, rfl, HD, HSM, HPU, HKW⟩ := hrel
    have HBR := Lib.hid (HB.out.kept HKW.out (by simp))
    have hws := HKW.out.size
    by_cases hlt : k < ls.length
    · obtain ⟨x, hx⟩ : ∃ x, ls[k] = x := ⟨_, rfl⟩
      have hd0 := HD.out
      have HD0 : Hid (∀ r, lineT k d x = r → if r.2 = 0 then readT r.1 (k + 1) (ls.drop (k + 1)) = R else R = (Du.zero, (k : Int), r.2)) := by
        intro r hr
        unfold lineT at hr
        by_cases h0 : k = 0
        · subst h0
          rw [if_pos rfl] at hr
          have h1 := HR.out x (ls.drop 1) (by have := List.drop_eq_getElem_cons hlt; rw [hx] at this; simpa using this)
          rw [hr] at h1
          split
          · rename_i h2; rw [if_pos h2] at h1; exact h1
          · rename_i h2; rw [if_neg h2] at h1; exact h1.symm
        · rw [if_neg h0] at hr
          have h1 := hd0.2 (by omega)
          rw [List.drop_eq_getElem_cons hlt, hx, readT, hr] at h1
          split
          · rename_i h2; rw [if_pos h2] at h1; exact h1
          · rename_i h2; rw [if_neg h2] at h1; exact h1.symm
      have hxl := HX.out x (hx ▸ List.getElem_mem hlt)
      obtain ⟨b, o, rfl, hbb, hcell⟩ := HRD.out.addr (by omega) (by omega)
      have hc0 : wr.cell? ⟨b, o + k, none⟩ = some (strV x) := HKW.out.cell_some (hcell k (strV x) (by rw [List.getElem?_map, List.getElem?_eq_getElem hlt, hx]; rfl)) (by simp)
      have hcx1 : w1.cell? ⟨b, o + k, none⟩ = some (strV x) := hcell k (strV x) (by rw [List.getElem?_map, List.getElem?_eq_getElem hlt, hx]; rfl)
      have hblr := World.block_lt_of_cell? wr _ hc0
      simp only at hblr
      obtain ⟨_, Ap, np, cp, Bs, ms, es, hBk, hQ, hS⟩ := HPU.out
      have HLN := Lib.hid (fun W (hkw : Kept [] wr W) => refLine_any w1 W k d HD.out.1 Ap np cp Bs ms es x (hQ.kept hkw (by simp)) (hS.kept hkw (by simp)) (HKW.out.trans hkw) ⟨by have := HSM.out.1; omega, by have := HSM.out.2.1; omega, fun p hp => by have := HSM.out.2.2.1 p hp; omega, HSM.out.2.2.2⟩ (by omega))
      have HS2 : Hid (SmallU (k + 1) (lineT k d x).1) := by
        show SmallU _ _
        unfold lineT
        split
        · have := headT_small (words x)
          exact ⟨by have := this.1; omega, by have := this.2.1; omega, fun p hp => by have := this.2.2.1 p hp; omega, this.2.2.2⟩
        · exact HSM.out.more x
      have hi0 : (0 : Int) ≤ (k : Int) := by omega
      have hi1 : (k : Int) < (ls.length : Int) := by omega
      have HBK := Lib.hid hBk
      have HD1 := Lib.hid (HD0.out _ rfl)
      clear hcell hx HD hd0 HD0 hBk hQ hS HPU
      generalize lineT k d x = r at *
      obtain ⟨⟨r0, r1, r2, r3, r4, r5, r6, r7, r8⟩, e2⟩ := r
      unfold Lined at HLN
      obtain ⟨q0, q1, q2, q3, q4, q5, q6, q7, q8⟩ := d
      simp only [uC] at HLN HBK
      simp only at HS2 HD1
      have hdc := HBK.out.cell
      have hdf := HBK.out.frozen
      have hdl := HBK.out.lt
      have hne1 : w1.heap.size ≠ wr.heap.size := by omega
      have hne2 : wr.heap.size ≠ w1.heap.size := by omega
      have hnb1 : b ≠ wr.heap.size := by omega
      have hnb2 : wr.heap.size ≠ b := by omega
      have HCX : Hid (w1.cell? ⟨b, o + k, none⟩ = some (strV x)) := hcx1
      go_wp2_with fail
      go_region_held3 (fun w' => w'.cell? ⟨w1.heap.size, 0, none⟩ = some (.int .i64 q0) ∧ w'.cell? ⟨w1.heap.size, 1, none⟩ = some (.int .i64 q1) ∧ w'.cell? ⟨w1.heap.size, 2, none⟩ = some (.int .i64 q2) ∧ w'.cell? ⟨w1.heap.size, 3, none⟩ = some (.int .i64 q3) ∧ w'.cell? ⟨w1.heap.size, 4, none⟩ = some (.int .u64 (q4 : Int)) ∧ w'.cell? ⟨w1.heap.size, 5, none⟩ = some (.float .f64 q5) ∧ w'.cell? ⟨w1.heap.size, 6, none⟩ = some (.float .f64 q6) ∧ w'.cell? ⟨w1.heap.size, 7, none⟩ = some (.slice Ap np cp) ∧ w'.cell? ⟨w1.heap.size, 8, none⟩ = some (.slice Bs ms es) ∧ w'.cell? ⟨b, o + k, none⟩ = some (strV x)) (go_keep) (first | (go_at_call 15; refine (HLN.out _ (by (repeat (first | (with_reducible exact Kept.refl _ _) | (with_reducible assumption) | (with_reducible refine Kept.alloc ?_ _) | (with_reducible refine Kept.drew ?_) | (with_reducible refine Kept.drewN ?_ _) | (with_reducible refine Kept.setCell ?_ ?_ _) | (exact .inr (Nat.le_refl _)) | (exact .inr (by simp only; omega)) | (exact .inr (by omega)))))).mono ?_; rintro e w5 ⟨Ar, nr, cr, Br, mr, er, rfl, hq5, hs5, hk5, hbk5⟩; have HQ5 := Lib.hid hq5; have HS5 := Lib.hid hs5; have HK5 := Lib.hid hk5; have HD5 := Lib.hid (hbk5 _ _ (HBK.out.kept (show Kept [] wr _ by (repeat (first | (with_reducible exact Kept.refl _ _) | (with_reducible assumption) | (with_reducible refine Kept.alloc ?_ _) | (with_reducible refine Kept.drew ?_) | (with_reducible refine Kept.drewN ?_ _) | (with_reducible refine Kept.setCell ?_ ?_ _) | (exact .inr (Nat.le_refl _)) | (exact .inr (by simp only; omega)) | (exact .inr (by omega))))) (by simp))); have hx0 : w5.cell? ⟨w1.heap.size, 0, none⟩ = some (.int .i64 q0) := HD5.out.cell 0; have hx1 : w5.cell? ⟨w1.heap.size, 1, none⟩ = some (.int .i64 q1) := HD5.out.cell 1; have hx2 : w5.cell? ⟨w1.heap.size, 2, none⟩ = some (.int .i64 q2) := HD5.out.cell 2; have hx3 : w5.cell? ⟨w1.heap.size, 3, none⟩ = some (.int .i64 q3) := HD5.out.cell 3; have hx4 : w5.cell? ⟨w1.heap.size, 4, none⟩ = some (.int .u64 (q4 : Int)) := HD5.out.cell 4; have hx5 : w5.cell? ⟨w1.heap.size, 5, none⟩ = some (.float .f64 q5) := HD5.out.cell 5; have hx6 : w5.cell? ⟨w1.heap.size, 6, none⟩ = some (.float .f64 q6) := HD5.out.cell 6; have hx7 : w5.cell? ⟨w1.heap.size, 7, none⟩ = some (.slice Ap np cp) := HD5.out.cell 7; have hx8 : w5.cell? ⟨w1.heap.size, 8, none⟩ = some (.slice Bs ms es) := HD5.out.cell 8; have hcx : w5.cell? ⟨b, o + k, none⟩ = some (strV x) := hk5.cell_some HCX.out (by simp); have hn51 : w1.heap.size < w5.heap.size := HD5.out.lt; have hn52 : b < w5.heap.size := World.block_lt_of_cell? w5 _ hcx; have hn53 : w1.heap.size ≠ w5.heap.size := (by omega); have hn54 : w5.heap.size ≠ w1.heap.size := (by omega); have hn55 : b ≠ w5.heap.size := (by omega); have hn56 : w5.heap.size ≠ b := (by omega); (first | (have HT5 := Lib.hid (hbk5 wr.heap.size _ (show Blk _ _ _ #[.int .i64 0, .int .i64 0, .int .i64 0, .int .i64 0, .int .u64 0, .float .f64 0, .float .f64 0, .slice none 0 0, .slice none 0 0] from by first | exact Blk.new _ _ _ | exact (Blk.new _ _ _).drew)); have htc := HT5.out.cell; have htf := HT5.out.frozen; have htl := HT5.out.lt) | skip); clear hq5 hs5 hk5 hbk5))
      · have hal : Kept [] w5 (w5.alloc (.cells #[.int .i64 r0, .int .i64 r1, .int .i64 r2, .int .i64 r3, .int .u64 (r4 : Int), .float .f64 r5, .float .f64 r6, .slice Ar nr cr, .slice Br mr er] 27)) := (Kept.refl _ _).alloc _
        have HTX : Hid (Blk (w5.alloc (.cells #[.int .i64 r0, .int .i64 r1, .int .i64 r2, .int .i64 r3, .int .u64 (r4 : Int), .float .f64 r5, .float .f64 r6, .slice Ar nr cr, .slice Br mr er] 27)) w5.heap.size 27 #[.int .i64 r0, .int .i64 r1, .int .i64 r2, .int .i64 r3, .int .u64 (r4 : Int), .float .f64 r5, .float .f64 r6, .slice Ar nr cr, .slice Br mr er]) := Blk.new _ _ _
        have HDX := Lib.hid (HD5.out.kept hal (by simp))
        have HQX := Lib.hid (HQ5.out.kept hal (by simp))
        have HSX := Lib.hid (HS5.out.kept hal (by simp))
        have HKX := Lib.hid (HK5.out.trans hal)
        clear hal hx0 hx1 hx2 hx3 hx4 hx5 hx6 hx7 hx8 hcx
        have HBX := Lib.hid (HB.out.kept HKX.out (by simp))
        clear hdc hdf hdl hne1 hne2 hnb1 hnb2 hc0
        generalize w5.alloc (.cells #[.int .i64 r0, .int .i64 r1, .int .i64 r2, .int .i64 r3, .int .u64 (r4 : Int), .float .f64 r5, .float .f64 r6, .slice Ar nr cr, .slice Br mr er] 27) = wx at *
        have htc := HTX.out.cell
        have htf := HTX.out.frozen
        have htl := HTX.out.lt
        have hdc := HDX.out.cell
        have hdf := HDX.out.frozen
        have hdl := HDX.out.lt
        have hbc := HBX.out.cell
        have hbf := HBX.out.frozen
        have hbl3 := HBX.out.lt
        by_cases he2 : e2 = 0
        · subst he2
          have hdd := HD1.out
          rw [if_pos rfl] at hdd
          have HDD := Lib.hid hdd
          clear hdd HD1 htl
          go_wp2_with fail
          have hk9 := put9_keeps (w := wx) (g := w1.heap.size) (.int .i64 r0) (.int .i64 r1) (.int .i64 r2) (.int .i64 r3) (.int .u64 (r4 : Int)) (.float .f64 r5) (.float .f64 r6) (.slice Ar nr cr) (.slice Br mr er)
          go_roundw
          case rel => exact ⟨k + 1, ⟨r0, r1, r2, r3, r4, r5, r6, r7, r8⟩, by omega, by go_num, ⟨fun h => absurd h (by omega), fun _ => HDD.out⟩, HS2.out, ⟨Nat.le_refl _, Ar, nr, cr, Br, mr, er, put9_blk HDX.out (.int .i64 r0) (.int .i64 r1) (.int .i64 r2) (.int .i64 r3) (.int .u64 (r4 : Int)) (.float .f64 r5) (.float .f64 r6) (.slice Ar nr cr) (.slice Br mr er), HQX.out.block HDX.out hk9 (by decide) (by decide), HSX.out.block HDX.out hk9 (by decide)⟩, put9_kept HKX.out (Nat.le_refl _) (.int .i64 r0) (.int .i64 r1) (.int .i64 r2) (.int .i64 r3) (.int .u64 (r4 : Int)) (.float .f64 r5) (.float .f64 r6) (.slice Ar nr cr) (.slice Br mr er)⟩
          case measure => simp [intOf]; omega
        · have hb2 : (e2 == 0) = false := beq_eq_false_iff_ne.2 he2
          have hdd := HD1.out
          rw [if_neg he2] at hdd
          subst hdd
          try simp only [Du.zero, uC]
          clear he2 HD1
          go_wp2_with fail
          have hF := (put9_blk HBX.out (.int .i64 0) (.int .i64 0) (.int .i64 0) (.int .i64 0) (.int .u64 0) (.float .f64 0) (.float .f64 0) (.slice none 0 0) (.slice none 0 0)).cell
          refine bodyPost_ret (v := .tuple #[.agg #[.int .i64 0, .int .i64 0, .int .i64 0, .int .i64 0, .int .u64 0, .float .f64 0, .float .f64 0, .slice none 0 0, .slice none 0 0], .int .i64 (k : Int), .int .i64 e2]) (by simp [results, Tryz.results5, go_sem, hF]) rfl ?_
          exact ⟨none, 0, 0, none, 0, ⟨0, rfl⟩, IsU.zero _, put9_kept (HK.out.trans HKX.out) (Nat.le_refl _) (.int .i64 0) (.int .i64 0) (.int .i64 0) (.int .i64 0) (.int .u64 0) (.float .f64 0) (.float .f64 0) (.slice none 0 0) (.slice none 0 0)⟩
      · have hk9 := put9_keeps (w := w5) (g := wr.heap.size) (.int .i64 r0) (.int .i64 r1) (.int .i64 r2) (.int .i64 r3) (.int .u64 (r4 : Int)) (.float .f64 r5) (.float .f64 r6) (.slice Ar nr cr) (.slice Br mr er)
        have HTX := Lib.hid (put9_blk HT5.out (.int .i64 r0) (.int .i64 r1) (.int .i64 r2) (.int .i64 r3) (.int .u64 (r4 : Int)) (.float .f64 r5) (.float .f64 r6) (.slice Ar nr cr) (.slice Br mr er))
        have HDX := Lib.hid (HD5.out.kept hk9 (by simp; omega))
        have HQX := Lib.hid (HQ5.out.block HT5.out hk9 (by decide) (by decide))
        have HSX := Lib.hid (HS5.out.block HT5.out hk9 (by decide))
        have HKX := Lib.hid (put9_kept HK5.out (by omega : w1.heap.size ≤ wr.heap.size) (.int .i64 r0) (.int .i64 r1) (.int .i64 r2) (.int .i64 r3) (.int .u64 (r4 : Int)) (.float .f64 r5) (.float .f64 r6) (.slice Ar nr cr) (.slice Br mr er))
        clear hk9 hx0 hx1 hx2 hx3 hx4 hx5 hx6 hx7 hx8 hcx htc htf htl
        have HBX := Lib.hid (HB.out.kept HKX.out (by simp))
        clear hdc hdf hdl hne1 hne2 hnb1 hnb2 hc0
        generalize ((((((((w5.setCell ⟨wr.heap.size, 0, none⟩ (.int .i64 r0)).setCell ⟨wr.heap.size, 1, none⟩ (.int .i64 r1)).setCell ⟨wr.heap.size, 2, none⟩ (.int .i64 r2)).setCell ⟨wr.heap.size, 3, none⟩ (.int .i64 r3)).setCell ⟨wr.heap.size, 4, none⟩ (.int .u64 (r4 : Int))).setCell ⟨wr.heap.size, 5, none⟩ (.float .f64 r5)).setCell ⟨wr.heap.size, 6, none⟩ (.float .f64 r6)).setCell ⟨wr.heap.size, 7, none⟩ (.slice Ar nr cr)).setCell ⟨wr.heap.size, 8, none⟩ (.slice Br mr er) = wx at *
        have htc := HTX.out.cell
        have htf := HTX.out.frozen
        have htl := HTX.out.lt
        have hdc := HDX.out.cell
        have hdf := HDX.out.frozen
        have hdl := HDX.out.lt
        have hbc := HBX.out.cell
        have hbf := HBX.out.frozen
        have hbl3 := HBX.out.lt
        by_cases he2 : e2 = 0
        · subst he2
          have hdd := HD1.out
          rw [if_pos rfl] at hdd
          have HDD := Lib.hid hdd
          clear hdd HD1 htl
          go_wp2_with fail
          have hk9 := put9_keeps (w := wx) (g := w1.heap.size) (.int .i64 r0) (.int .i64 r1) (.int .i64 r2) (.int .i64 r3) (.int .u64 (r4 : Int)) (.float .f64 r5) (.float .f64 r6) (.slice Ar nr cr) (.slice Br mr er)
          go_roundw
          case rel => exact ⟨k + 1, ⟨r0, r1, r2, r3, r4, r5, r6, r7, r8⟩, by omega, by go_num, ⟨fun h => absurd h (by omega), fun _ => HDD.out⟩, HS2.out, ⟨Nat.le_refl _, Ar, nr, cr, Br, mr, er, put9_blk HDX.out (.int .i64 r0) (.int .i64 r1) (.int .i64 r2) (.int .i64 r3) (.int .u64 (r4 : Int)) (.float .f64 r5) (.float .f64 r6) (.slice Ar nr cr) (.slice Br mr er), HQX.out.block HDX.out hk9 (by decide) (by decide), HSX.out.block HDX.out hk9 (by decide)⟩, put9_kept HKX.out (Nat.le_refl _) (.int .i64 r0) (.int .i64 r1) (.int .i64 r2) (.int .i64 r3) (.int .u64 (r4 : Int)) (.float .f64 r5) (.float .f64 r6) (.slice Ar nr cr) (.slice Br mr er)⟩
          case measure => simp [intOf]; omega
        · have hb2 : (e2 == 0) = false := beq_eq_false_iff_ne.2 he2
          have hdd := HD1.out
          rw [if_neg he2] at hdd
          subst hdd
          try simp only [Du.zero, uC]
          clear he2 HD1
          go_wp2_with fail
          have hF := (put9_blk HBX.out (.int .i64 0) (.int .i64 0) (.int .i64 0) (.int .i64 0) (.int .u64 0) (.float .f64 0) (.float .f64 0) (.slice none 0 0) (.slice none 0 0)).cell
          refine bodyPost_ret (v := .tuple #[.agg #[.int .i64 0, .int .i64 0, .int .i64 0, .int .i64 0, .int .u64 0, .float .f64 0, .float .f64 0, .slice none 0 0, .slice none 0 0], .int .i64 (k : Int), .int .i64 e2]) (by simp [results, Tryz.results5, go_sem, hF]) rfl ?_
          exact ⟨none, 0, 0, none, 0, ⟨0, rfl⟩, IsU.zero _, put9_kept (HK.out.trans HKX.out) (Nat.le_refl _) (.int .i64 0) (.int .i64 0) (.int .i64 0) (.int .i64 0) (.int .u64 0) (.float .f64 0) (.float .f64 0) (.slice none 0 0) (.slice none 0 0)⟩
    · obtain rfl : k = ls.length := by omega
      have hd := HD.out.2 (by omega)
      rw [List.drop_of_length_le (Nat.le_refl _), readT] at hd
      obtain ⟨_, Ap, np, cp, Bs, ms, es, hBk, hQ, hS⟩ := HPU.out
      have HUC := Lib.hid (refCheck9 d Ap np cp Bs ms es wr ⟨hQ.pp.reads, hS.reads⟩ (by have := HSM.out.1; omega) (by have := HSM.out.2.1; omega) (fun p hp => by have := HSM.out.2.2.1 p hp; omega) HSM.out.2.2.2)
      have HBK := Lib.hid hBk
      have HQ := Lib.hid hQ
      have HS := Lib.hid hS
      clear hQ hS hBk HPU HSM HD
      generalize hck : checkU d = ck at *
      obtain ⟨q0, q1, q2, q3, q4, q5, q6, q7, q8⟩ := d
      simp only [uC] at HUC HBK
      have hdc := HBK.out.cell
      have hdf := HBK.out.frozen
      have hdl := HBK.out.lt
      clear hck
      go_wp2_with fail
      refine (HUC.out).mono ?_
      rintro e w5 ⟨rfl, hk5⟩
      have HK5 := Lib.hid (HKW.out.trans hk5)
      have HB5 := Lib.hid (HBR.out.kept hk5 (by simp))
      have HD5 := Lib.hid (HBK.out.kept hk5 (by simp))
      have HQ5 := Lib.hid (HQ.out.kept hk5 (by simp))
      have HS5 := Lib.hid (HS.out.kept hk5 (by simp))
      clear hk5 hdc hdf hdl
      have hdc := HD5.out.cell
      have hdf := HD5.out.frozen
      have hdl := HD5.out.lt
      have hbc := HB5.out.cell
      have hbf := HB5.out.frozen
      have hbl := HB5.out.lt
      by_cases hck : ck = 0
      · subst hck
        rw [if_pos rfl] at hd
        subst hd
        simp only [uC]
        go_wp2_with fail
        have hF := (put9_blk HB5.out (.int .i64 q0) (.int .i64 q1) (.int .i64 q2) (.int .i64 q3) (.int .u64 (q4 : Int)) (.float .f64 q5) (.float .f64 q6) (.slice Ap np cp) (.slice Bs ms es)).cell
        refine bodyPost_ret (v := .tuple #[.agg #[.int .i64 q0, .int .i64 q1, .int .i64 q2, .int .i64 q3, .int .u64 (q4 : Int), .float .f64 q5, .float .f64 q6, .slice Ap np cp, .slice Bs ms es], .int .i64 (ls.length : Int), .int .i64 0]) (by simp [results, Tryz.results5, go_sem, hF]) rfl ?_
        have hk9 := put9_keeps (w := w5) (g := w.heap.size) (.int .i64 q0) (.int .i64 q1) (.int .i64 q2) (.int .i64 q3) (.int .u64 (q4 : Int)) (.float .f64 q5) (.float .f64 q6) (.slice Ap np cp) (.slice Bs ms es)
        exact ⟨Ap, np, cp, Bs, ms, ⟨es, rfl⟩, ⟨(HQ5.out.block HB5.out hk9 (by decide) (by decide)).pp.reads, (HS5.out.block HB5.out hk9 (by decide)).reads⟩, put9_kept (HK.out.trans HK5.out) (Nat.le_refl _) (.int .i64 q0) (.int .i64 q1) (.int .i64 q2) (.int .i64 q3) (.int .u64 (q4 : Int)) (.float .f64 q5) (.float .f64 q6) (.slice Ap np cp) (.slice Bs ms es)⟩
      · have hb2 : (ck == 0) = false := beq_eq_false_iff_ne.2 hck
        rw [if_neg hck] at hd
        subst hd
        simp only [Du.zero, uC]
        clear hck
        go_wp2_with fail
        have hF := (put9_blk HB5.out (.int .i64 0) (.int .i64 0) (.int .i64 0) (.int .i64 0) (.int .u64 0) (.float .f64 0) (.float .f64 0) (.slice none 0 0) (.slice none 0 0)).cell
        refine bodyPost_ret (v := .tuple #[.agg #[.int .i64 0, .int .i64 0, .int .i64 0, .int .i64 0, .int .u64 0, .float .f64 0, .float .f64 0, .slice none 0 0, .slice none 0 0], .int .i64 (ls.length : Int), .int .i64 ck]) (by simp [results, Tryz.results5, go_sem, hF]) rfl ?_
        exact ⟨none, 0, 0, none, 0, ⟨0, rfl⟩, IsU.zero _, put9_kept (HK.out.trans HK5.out) (Nat.le_refl _) (.int .i64 0) (.int .i64 0) (.int .i64 0) (.int .i64 0) (.int .u64 0) (.float .f64 0) (.float .f64 0) (.slice none 0 0) (.slice none 0 0)⟩

theorem refParse9 (l : List UInt8) (w : World) (hl : l.length ≤ 3000) : Calls Tryz.prog 5 #[strV l] w (ParsedU w (parseT (linesF [] l))) := by
  by_cases hz : linesF [] l = []
  · exact refParse9_none l w (by omega) hz
  · exact refParse9_some l w hl hz

end Go.Proofs.YtladfdpcdjjifaaGreatDoor
