/- more: another line is read into a duty, walked. -/
import Derived.Test.YtladfdpcdjjifaaGreatDoorDutyA
namespace Go.Proofs.YtladfdpcdjjifaaGreatDoor
open Go.RowKit

/-- A duty's block that is being filled: its cells, its programs' rows and its starts' row, all made after w0. -/
def PartU (w0 wr : World) (g : Nat) (d : Du) : Prop := w0.heap.size ≤ g ∧ ∃ A n c B m e, Blk wr g 27 (uC d A n c B m e) ∧ RowPQ w0 wr d.progs A n c ∧ RowS w0 wr d.starts B m e
theorem PartU.kept {w0 wr w2 : World} {g : Nat} {d : Du} (h : PartU w0 wr g d) (hk : Kept [] wr w2) : PartU w0 w2 g d := by
  obtain ⟨h0, A, n, c, B, m, e, h1, h2, h3⟩ := h
  exact ⟨h0, A, n, c, B, m, e, h1.kept hk (by simp), h2.kept hk (by simp), h3.kept hk (by simp)⟩
/-- What another line leaves. -/
def Mored (w0 : World) (g : Nat) (r : Du × Int) (e : Ending) (w' : World) : Prop := e = .returned (.int .i64 r.2) ∧ PartU w0 w' g r.1 ∧ Kept [] w0 w'

set_option maxHeartbeats 1600000 in
theorem more_nil {w0 wr : World} {g : Nat} {d : Du} (l : List UInt8) (hp : PartU w0 wr g d) (hk : Kept [] w0 wr) (hM : HasMax w0) (hl : l.length ≤ 100000) (hw : words l = []) :
    Calls Tryz.prog 12 #[.pointer (some ⟨g, 0, none⟩), strV l] wr (Mored w0 g (moreT d l)) := by
  have HW := Lib.hid (words_any l wr hl (hM.old hk))
  have hm : moreT d l = (d, 15) := by simp [moreT, hw]
  rw [hw] at HW
  rw [hm]
  have HP := Lib.hid hp
  have HK := Lib.hid hk
  clear hp hk hm hw hM
  go_enter Tryz.func12, Tryz.ntmps12
  go_wp2_with fail
  refine HW.out.mono ?_
  rintro e w1 ⟨A, c, rfl, hF⟩
  have HF := Lib.hid hF.2.1
  clear hF
  go_wp2_with fail
  go_ret
  exact ⟨rfl, HP.out.kept HF.out, HK.out.trans HF.out⟩

set_option maxHeartbeats 1600000 in
theorem more_duty {w0 wr : World} {g : Nat} {d : Du} (l : List UInt8) (t : List (List UInt8)) (hp : PartU w0 wr g d) (hk : Kept [] w0 wr) (hM : HasMax w0) (hl : l.length ≤ 100000) (hw : words l = dutyW :: t) :
    Calls Tryz.prog 12 #[.pointer (some ⟨g, 0, none⟩), strV l] wr (Mored w0 g (moreT d l)) := by
  have HW := Lib.hid (words_any l wr hl (hM.old hk))
  have hm : moreT d l = (d, 15) := by simp [moreT, hw]
  rw [hw] at HW
  rw [hm]
  have HP := Lib.hid hp
  have HK := Lib.hid hk
  clear hp hk hm hw hM
  simp only [List.length_cons] at HW
  go_enter Tryz.func12, Tryz.ntmps12
  go_wp2_with fail
  refine HW.out.mono ?_
  rintro e w1 ⟨A, c, rfl, hF⟩
  obtain ⟨b, o, rfl, hbl, hcell⟩ := (Reads.of_own hF.1).addr (by omega) (by omega)
  have hc0 := hcell 0 (strV dutyW) (by simp)
  rw [Nat.add_zero] at hc0
  unfold dutyW at hc0
  have HF := Lib.hid hF.2.1
  have hb0 : ((t.length : Int) + 1 == 0) = false := beq_eq_false_iff_ne.2 (by omega)
  have hi0 : (0 : Int) < (t.length : Int) + 1 := by omega
  clear hF hcell
  go_wp2_with fail
  go_ret
  exact ⟨rfl, HP.out.kept HF.out, HK.out.trans HF.out⟩

set_option maxHeartbeats 3200000 in
theorem more_start {w0 wr : World} {g : Nat} {d : Du} (l : List UInt8) (t : List (List UInt8)) (hp : PartU w0 wr g d) (hk : Kept [] w0 wr) (hM : HasMax w0) (hsm : SmallU 5000 d) (hl : l.length ≤ 90000) (hw : words l = startW :: t) (htl : t.length ≤ 100000) (htx : ∀ x ∈ t, x.length ≤ 100000) :
    Calls Tryz.prog 12 #[.pointer (some ⟨g, 0, none⟩), strV l] wr (Mored w0 g (moreT d l)) := by
  have HW := Lib.hid (words_any l wr (by omega) (hM.old hk))
  have hm : moreT d l = if (startT t).2 = 0 then ({ d with starts := d.starts ++ [(startT t).1] }, 0) else (d, 3) := by simp [moreT, hw, show startW ≠ dutyW by decide]
  rw [hw] at HW
  rw [hm]
  clear hm hw
  simp only [List.length_cons] at HW
  have HST := Lib.hid (fun A n c w hr => ustart_any A n c t w hr htl htx)
  have HP := Lib.hid hp
  have HK := Lib.hid hk
  have HSM := Lib.hid hsm
  unfold startN at HST
  unfold startT
  rcases hs : numbU t 3 2 with _ | x
  · rw [hs] at HST
    clear hs hsm hp hk
    simp only at HST ⊢
    rw [if_neg (by decide)]
    go_enter Tryz.func12, Tryz.ntmps12
    go_wp2_with fail
    refine HW.out.mono ?_
    rintro e w1 ⟨A, c, rfl, hF⟩
    have hle := (own_form hF.1)
    obtain ⟨A', c', ⟨⟩, hc1, hc2⟩ := hle
    obtain ⟨b, o, rfl, hbl, hcell⟩ := (Reads.of_own hF.1).addr (by omega) (by omega)
    have hc0 := hcell 0 (strV startW) (by simp)
    rw [Nat.add_zero] at hc0
    unfold startW at hc0
    have HF := Lib.hid hF
    have hb0 : ((t.length : Int) + 1 == 0) = false := beq_eq_false_iff_ne.2 (by omega)
    have hi0 : (0 : Int) < (t.length : Int) + 1 := by omega
    have hsl := run_cut_lo (P := Tryz.prog) 34 9 (.string ByteArray.empty) 16 Tryz.underlying34 Tryz.info9 (some ⟨b, o, none⟩) (t.length + 1) c .i64 1 1 rfl (by omega)
    simp only [Nat.add_sub_cancel] at hsl
    have hr2 : Reads w1 1 (cutA (some ⟨b, o, none⟩) 1 c) t.length (t.map strV) := by
      have h1 := (Reads.of_own hF.1).cutA (k := 1) (cap := c) (by omega) hc1
      simpa using h1
    have HR2 := Lib.hid hr2
    clear hF hcell hr2
    go_wp2_with fail
    refine (HST.out _ _ _ _ HR2.out).mono ?_
    rintro e w2 ⟨rfl, hk2⟩
    have HK2 := Lib.hid (HF.out.2.1.trans hk2)
    clear hk2
    go_wp2_with fail
    go_ret
    have hk3 : Kept [] wr _ := HK2.out.alloc (.cells #[.int .i64 0, .int .i64 0, .int .u64 0] 49)
    exact ⟨rfl, HP.out.kept hk3, HK.out.trans hk3⟩
  · have h0 := numbU_lt hs 0
    have h1 := numbU_lt hs 1
    have h2 := numbU_lt hs 2
    rw [hs] at HST
    clear hs hsm hp hk
    simp only at HST ⊢
    rw [if_pos trivial]
    obtain ⟨s, hse⟩ : ∃ s : St, s = ⟨smallN (x.getD 0 0), smallN (x.getD 1 0), x.getD 2 0⟩ := ⟨_, rfl⟩
    have hs1 : ((min (x.getD 0 0) 2147483647 : Nat) : Int) = s.prog := by rw [hse]; rfl
    have hs2 : ((min (x.getD 1 0) 2147483647 : Nat) : Int) = s.grade := by rw [hse]; rfl
    have hs3 : ((x.getD 2 0 : Nat) : Int) = (s.mask : Int) := by rw [hse]
    rw [hs1, hs2, hs3] at HST
    rw [← hse]
    clear hs1 hs2 hs3 hse h0 h1 h2
    obtain ⟨hg0, AP, nP, cP, B, m, e0, hB, hQ, hS⟩ := HP.out
    obtain rfl := hS.len
    have HBF : Hid (g ∉ fp (.slice B d.starts.length e0)) := fun h => own_blk_ne hS.1 hB (by decide) (mem_fp.1 h)
    have hsl2 := HSM.out.2.1
    go_enter Tryz.func12, Tryz.ntmps12
    go_wp2_with fail
    refine HW.out.mono ?_
    rintro e w1 ⟨A, c, rfl, hF⟩
    have hle := (own_form hF.1)
    obtain ⟨A', c', ⟨⟩, hc1, hc2⟩ := hle
    obtain ⟨b, o, rfl, hbl, hcell⟩ := (Reads.of_own hF.1).addr (by omega) (by omega)
    have hc0 := hcell 0 (strV startW) (by simp)
    rw [Nat.add_zero] at hc0
    unfold startW at hc0
    have HF := Lib.hid hF.2.1
    have hb0 : ((t.length : Int) + 1 == 0) = false := beq_eq_false_iff_ne.2 (by omega)
    have hi0 : (0 : Int) < (t.length : Int) + 1 := by omega
    have hsl := run_cut_lo (P := Tryz.prog) 34 9 (.string ByteArray.empty) 16 Tryz.underlying34 Tryz.info9 (some ⟨b, o, none⟩) (t.length + 1) c .i64 1 1 rfl (by omega)
    simp only [Nat.add_sub_cancel] at hsl
    have hr2 : Reads w1 1 (cutA (some ⟨b, o, none⟩) 1 c) t.length (t.map strV) := by
      have h1 := (Reads.of_own hF.1).cutA (k := 1) (cap := c) (by omega) hc1
      simpa using h1
    have HR2 := Lib.hid hr2
    clear hF hcell hr2
    have HBK := Lib.hid hB
    have HQK := Lib.hid hQ
    have HSK := Lib.hid hS
    clear hB hQ hS
    go_wp2_with fail
    refine (HST.out _ _ _ _ HR2.out).mono ?_
    rintro e w2 ⟨rfl, hk2⟩
    have HK2 := Lib.hid (HF.out.trans hk2)
    have HB2 := Lib.hid (HBK.out.kept HK2.out (by simp))
    have hg7 : w2.cell? ⟨g, 7, none⟩ = some (.slice AP nP cP) := HB2.out.cell 7
    have hg8 : w2.cell? ⟨g, 8, none⟩ = some (.slice B d.starts.length e0) := HB2.out.cell 8
    have hgf := HB2.out.frozen
    have hgl := HB2.out.lt
    have hgl2 : g < w2.heap.size + 1 := by omega
    have hgne : g ≠ w2.heap.size := by omega
    have hgne2 : w2.heap.size ≠ g := by omega
    have HS2 : Hid (∀ W, Kept [] w2 W → W.ownsRow 0 49 3 (.slice B d.starts.length e0) d.starts.length (d.starts.flatMap stL)) := fun W hk => (HSK.out.kept (HK2.out.trans hk) (by simp)).1
    clear hk2
    go_wp2_with fail
    go_region_law (refine step_append_any _ rfl (.tmp 38) (.tmp 40) 25 rfl 49 (.agg #[.int .i64 0, .int .i64 0, .int .u64 0]) 3 24 Tryz.underlying25 Tryz.info49 rfl (by decide) (.slice B d.starts.length e0) d.starts.length (d.starts.flatMap stL) (by simp [Act.eval, Act.put]) (HS2.out _ (by (repeat (first | (with_reducible exact Kept.refl _ _) | (with_reducible assumption) | (with_reducible refine Kept.alloc ?_ _) | (with_reducible refine Kept.drew ?_) | (with_reducible refine Kept.drewN ?_ _) | (with_reducible refine Kept.setCell ?_ ?_ _) | (exact .inr (Nat.le_refl _)) | (exact .inr (by simp only; omega)) | (exact .inr (by omega)))))) _ 1 1 (stL s) (by simp [Act.eval, Act.put]) (reads_st _ _ s) (stL_one _) (by simp only [maxLen]; omega) (by omega) ?_; rintro A2 c2 w3 happ; have HA := Lib.hid happ; have HB3 := Lib.hid ((HB2.out.kept (show Kept [] w2 _ by (repeat (first | (with_reducible exact Kept.refl _ _) | (with_reducible assumption) | (with_reducible refine Kept.alloc ?_ _) | (with_reducible refine Kept.drew ?_) | (with_reducible refine Kept.drewN ?_ _) | (with_reducible refine Kept.setCell ?_ ?_ _) | (exact .inr (Nat.le_refl _)) | (exact .inr (by simp only; omega)) | (exact .inr (by omega))))) (by simp)).kept happ.2.1 HBF.out); have hg83 : World.cell? _ ⟨g, 8, none⟩ = some (.slice B d.starts.length e0) := HB3.out.cell 8; have hgf3 := HB3.out.frozen; have hgl3 := HB3.out.lt; clear happ)
    all_goals
      have hq3 : RowPQ w0 w3 d.progs AP nP cP := (HQK.out.kept (HK2.out.trans (show Kept [] w2 _ by (repeat (first | (with_reducible exact Kept.refl _ _) | (with_reducible assumption) | (with_reducible refine Kept.alloc ?_ _) | (with_reducible refine Kept.drew ?_) | (with_reducible refine Kept.drewN ?_ _) | (with_reducible refine Kept.setCell ?_ ?_ _) | (exact .inr (Nat.le_refl _)) | (exact .inr (by simp only; omega)) | (exact .inr (by omega)))))) (by simp)).apart (HS2.out _ (show Kept [] w2 _ by (repeat (first | (with_reducible exact Kept.refl _ _) | (with_reducible assumption) | (with_reducible refine Kept.alloc ?_ _) | (with_reducible refine Kept.drew ?_) | (with_reducible refine Kept.drewN ?_ _) | (with_reducible refine Kept.setCell ?_ ?_ _) | (exact .inr (Nat.le_refl _)) | (exact .inr (by simp only; omega)) | (exact .inr (by omega)))))) HA.out.2.1 (by decide) (by decide)
      have hs3 : RowS w0 w3 (d.starts ++ [s]) A2 (d.starts.length + 1) c2 := RowS.append ⟨HS2.out _ (show Kept [] w2 _ by (repeat (first | (with_reducible exact Kept.refl _ _) | (with_reducible assumption) | (with_reducible refine Kept.alloc ?_ _) | (with_reducible refine Kept.drew ?_) | (with_reducible refine Kept.drewN ?_ _) | (with_reducible refine Kept.setCell ?_ ?_ _) | (exact .inr (Nat.le_refl _)) | (exact .inr (by simp only; omega)) | (exact .inr (by omega))))), HSK.out.2⟩ (HK.out.trans (HK2.out.trans (show Kept [] w2 _ by (repeat (first | (with_reducible exact Kept.refl _ _) | (with_reducible assumption) | (with_reducible refine Kept.alloc ?_ _) | (with_reducible refine Kept.drew ?_) | (with_reducible refine Kept.drewN ?_ _) | (with_reducible refine Kept.setCell ?_ ?_ _) | (exact .inr (Nat.le_refl _)) | (exact .inr (by simp only; omega)) | (exact .inr (by omega))))))).size HA.out
      have hk3 : Kept [] w0 w3 := (HK.out.trans (HK2.out.trans (show Kept [] w2 _ by (repeat (first | (with_reducible exact Kept.refl _ _) | (with_reducible assumption) | (with_reducible refine Kept.alloc ?_ _) | (with_reducible refine Kept.drew ?_) | (with_reducible refine Kept.drewN ?_ _) | (with_reducible refine Kept.setCell ?_ ?_ _) | (exact .inr (Nat.le_refl _)) | (exact .inr (by simp only; omega)) | (exact .inr (by omega))))))).trans' HA.out.2.1 (fun q hq => .inr (HSK.out.2 q hq))
      have hset : Kept [g] w3 (w3.setCell ⟨g, 8, none⟩ (.slice A2 (d.starts.length + 1) c2)) := (Kept.refl [g] w3).setCell (.inl (by simp)) _
      have hb4 := HB3.out.set 8 (.slice A2 (d.starts.length + 1) c2)
      have hpu : PartU w0 (w3.setCell ⟨g, 8, none⟩ (.slice A2 (d.starts.length + 1) c2)) g ⟨d.cpus, d.threads, d.locks, d.cap, d.boost, d.keep, d.ratio, d.progs, d.starts ++ [s]⟩ := ⟨hg0, AP, nP, cP, A2, d.starts.length + 1, c2, by simpa [uC] using hb4, hq3.block HB3.out hset (by decide) (by decide), hs3.block HB3.out hset (by decide)⟩
      have HPU := Lib.hid hpu
      have HK4 := Lib.hid (hk3.setCell (p := ⟨g, 8, none⟩) (.inr hg0) (.slice A2 (d.starts.length + 1) c2))
      clear hq3 hs3 hk3 hset hb4 hpu
      go_wp2_with fail
      go_ret
      exact ⟨rfl, HPU.out, HK4.out⟩

end Go.Proofs.YtladfdpcdjjifaaGreatDoor
