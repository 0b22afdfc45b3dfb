/- Package wait: New, find, Put, Move, Remove. -/
import Derived.Test.YtfoeijiejpenpaaGreatDoorWait3
namespace Go.Proofs.YtfoeijiejpenpaaGreatDoor
open Go.RowKit

theorem new_any (w : World) : Calls Tryz.prog 11 #[] w fun e w' => e = .returned (.pointer (some ⟨w.heap.size, 0, none⟩)) ∧ IsLine w' w.heap.size (.slice none 0 0) [] 0 ∧ Kept [] w w' := by
  go_enter Tryz.func11, Tryz.ntmps11
  go_wp2
  go_ret
  exact ⟨rfl, ⟨Blk.new _ _ _, Row.nil _⟩, (Kept.refl _ _).alloc _⟩

/-- The waiter of a place. -/
def findW (pl : Int) (l : List WO) : Option WO := l.find? (isP pl)

set_option maxHeartbeats 3200000 in
set_option maxRecDepth 100000 in
theorem find_some (g : Nat) (v : Value) (l : List WO) (last : Nat) (pl : Int) (x : WO) (w : World) (h : IsLine w g v l last) (hl : l.length ≤ 1000) (hf : findW pl l = some x) :
    Calls Tryz.prog 92 #[.pointer (some ⟨g, 0, none⟩), .int .i64 pl] w fun e w' => e = .returned (.tuple #[.agg (oC x.p x.l x.n), .bool true]) ∧ Kept [] w w' := by
  obtain ⟨A, c, rfl, hnc⟩ := h.form
  have hg0 := h.blk.cell
  have hg2 := h.blk.lt
  have H := Lib.hid h
  have HIX := Lib.hid (fun w1 bp hk hb => idx_wais1 (.pointer (some ⟨bp, 0, none⟩)) (isP pl) A l.length c l w1 (Reads.of_own (h.row.old hk)) (by omega) (fun y _ w' hk' => is1_any y pl bp w' (Blk.kept hb hk' (by simp))))
  have HF := Lib.hid hf
  clear h hf
  go_enter Tryz.func92, Tryz.ntmps92
  go_wp2_with fail
  have hb0 := (Blk.new w 108 (oC 0 0 0))
  go_region_held3 (fun w' => w'.cell? ⟨g, 1, none⟩ = some (.slice A l.length c)) (go_keep) (first | (go_at_call 79; refine (is_any _ _).mono ?_; rintro e w1 ⟨rfl, rfl⟩) | (go_at_call 100; refine (HIX.out _ _ (by exact (((Kept.refl _ _).alloc _).alloc _).drew) (by exact (Blk.newAt (by simp) _ _).drew)).mono ?_; rintro e w1 ⟨⟨iv, rfl, hix⟩, hk1⟩; have HK1 := Lib.hid hk1; have HIV := Lib.hid hix; have hc1 := (H.out.old ((((Kept.refl _ _).alloc _).alloc _).drew.trans hk1)).blk.cell; clear hk1 hix))
  obtain ⟨k, rfl, hkx, hkl⟩ : ∃ k : Nat, iv = k ∧ Hid (l[k]? = some x) ∧ k < l.length := by
    rcases HIV.out with ⟨k, y, rfl, h1, h2, h3⟩ | ⟨rfl, h1⟩
    · obtain ⟨h4, h5⟩ := find_of_idx (isP pl) l k y h1 h2 h3
      have h6 := HF.out
      unfold findW at h6
      rw [h4] at h6
      injection h6 with h6
      subst h6
      exact ⟨k, rfl, h1, (List.getElem?_eq_some_iff.1 h1).1⟩
    · have := List.find?_eq_some_iff_append.1 HF.out
      have h2 := h1 x (List.mem_of_find?_eq_some HF.out)
      rw [this.1] at h2; cases h2
  have HK2 : Hid (Kept [] w w1) := (((Kept.refl _ _).alloc _).alloc _).drew.trans HK1.out
  have HL1 := Lib.hid (H.out.old HK2.out)
  obtain ⟨b, o, rfl, hbl, hcc⟩ := (Reads.of_own HL1.out.row).cellsK oL 3 oL_len (by omega) (by omega)
  have hc2 : w1.cell? ⟨b, o + k * 3, none⟩ = some (.int .i64 x.p) := hcc k x hkx.out 0 (by omega)
  have hc3 : w1.cell? ⟨b, o + k * 3 + 1, none⟩ = some (.int .i64 x.l) := hcc k x hkx.out 1 (by omega)
  have hc4 : w1.cell? ⟨b, o + k * 3 + 2, none⟩ = some (.int .u64 x.n) := hcc k x hkx.out 2 (by omega)
  have HR0 := Lib.hid ((hb0.alloc (.cells #[.int .i64 pl] 3)).drew.kept HK1.out (by simp))
  have hc5 := HR0.out.cell
  have hf5 := HR0.out.frozen
  have hl5 := HR0.out.lt
  clear hcc hb0 HIV HIX
  obtain ⟨xp, xl, xn⟩ := x
  go_wp2_with fail
  have hb8 := (((HR0.out.set 0 (.int .i64 xp)).set 1 (.int .i64 xl)).set 2 (.int .u64 xn)).cell
  refine bodyPost_ret (v := .tuple #[.agg (oC xp xl xn), .bool true]) (by simp [results, Tryz.results92, go_sem, hb8]) rfl ⟨rfl, ?_⟩
  exact ((HK2.out.setCell (.inr (Nat.le_refl _)) _).setCell (.inr (Nat.le_refl _)) _).setCell (.inr (Nat.le_refl _)) _

set_option maxHeartbeats 3200000 in
set_option maxRecDepth 100000 in
theorem find_none (g : Nat) (v : Value) (l : List WO) (last : Nat) (pl : Int) (w : World) (h : IsLine w g v l last) (hl : l.length ≤ 1000) (hf : findW pl l = none) :
    Calls Tryz.prog 92 #[.pointer (some ⟨g, 0, none⟩), .int .i64 pl] w fun e w' => e = .returned (.tuple #[.agg (oC 0 0 0), .bool false]) ∧ Kept [] w w' := by
  obtain ⟨A, c, rfl, hnc⟩ := h.form
  have hg0 := h.blk.cell
  have hg2 := h.blk.lt
  have H := Lib.hid h
  have HIX := Lib.hid (fun w1 bp hk hb => idx_wais1 (.pointer (some ⟨bp, 0, none⟩)) (isP pl) A l.length c l w1 (Reads.of_own (h.row.old hk)) (by omega) (fun y _ w' hk' => is1_any y pl bp w' (Blk.kept hb hk' (by simp))))
  have HF := Lib.hid hf
  clear h hf
  go_enter Tryz.func92, Tryz.ntmps92
  go_wp2_with fail
  have hb0 := (Blk.new w 108 (oC 0 0 0))
  go_region_held3 (fun w' => w'.cell? ⟨g, 1, none⟩ = some (.slice A l.length c)) (go_keep) (first | (go_at_call 79; refine (is_any _ _).mono ?_; rintro e w1 ⟨rfl, rfl⟩) | (go_at_call 100; refine (HIX.out _ _ (by exact (((Kept.refl _ _).alloc _).alloc _).drew) (by exact (Blk.newAt (by simp) _ _).drew)).mono ?_; rintro e w1 ⟨⟨iv, rfl, hix⟩, hk1⟩; have HK1 := Lib.hid hk1; have HIV := Lib.hid hix; have hc1 := (H.out.old ((((Kept.refl _ _).alloc _).alloc _).drew.trans hk1)).blk.cell; clear hk1 hix))
  obtain rfl : iv = -1 := by
    rcases HIV.out with ⟨k, y, rfl, h1, h2, h3⟩ | ⟨rfl, h1⟩
    · have := List.find?_eq_none.1 HF.out y (List.mem_of_getElem? h1)
      exact absurd h2 this
    · rfl
  have HK2 : Hid (Kept [] w w1) := (((Kept.refl _ _).alloc _).alloc _).drew.trans HK1.out
  have HR0 := Lib.hid ((hb0.alloc (.cells #[.int .i64 pl] 3)).drew.kept HK1.out (by simp))
  have hc5 := HR0.out.cell
  have hf5 := HR0.out.frozen
  have hl5 := HR0.out.lt
  clear hb0 HIV HIX
  go_wp2_with fail
  have hb8 := (((HR0.out.set 0 (.int .i64 0)).set 1 (.int .i64 0)).set 2 (.int .u64 0)).cell
  refine bodyPost_ret (v := .tuple #[.agg (oC 0 0 0), .bool false]) (by simp [results, Tryz.results92, go_sem, hb8]) rfl ⟨rfl, ?_⟩
  exact ((HK2.out.setCell (.inr (Nat.le_refl _)) _).setCell (.inr (Nat.le_refl _)) _).setCell (.inr (Nat.le_refl _)) _

theorem find_nil (pl : Int) (w : World) : Calls Tryz.prog 92 #[.pointer none, .int .i64 pl] w fun e w' => e = .returned (.tuple #[.agg (oC 0 0 0), .bool false]) ∧ Kept [] w w' := by
  go_enter Tryz.func92, Tryz.ntmps92
  go_wp2
  refine bodyPost_ret (v := .tuple #[.agg (oC 0 0 0), .bool false]) (by simp [results, Tryz.results92, go_sem]) rfl ⟨rfl, ?_⟩
  exact (Kept.refl _ _).alloc _

set_option maxHeartbeats 3200000 in
set_option maxRecDepth 100000 in
theorem put_new (g : Nat) (v : Value) (l : List WO) (last : Nat) (pl lev : Int) (w : World) (h : IsLine w g v l last) (hl : l.length ≤ 1000) (hla : last ≤ 1000000) (h0 : 0 ≤ pl) (h1 : pl < 64) (hf : findW pl l = none) :
    Calls Tryz.prog 68 #[.pointer (some ⟨g, 0, none⟩), .int .i64 pl, .int .i64 lev] w fun e w' => e = .returned (.int .i64 0) ∧ LineGoes w g v w' (insW ⟨pl, holdL lev, last + 1⟩ l) (last + 1) := by
  have HFD := Lib.hid (find_none g v l last pl w h hl hf)
  have H := Lib.hid h
  have HH := Lib.hid (fun w => hold_any lev w)
  have HP := Lib.hid (fun w1 h => rput_any g v l (last + 1) ⟨pl, holdL lev, last + 1⟩ w1 h hl)
  obtain ⟨A, c, rfl, hnc⟩ := h.form
  have hg2 := h.blk.lt
  generalize holdL lev = hv at *
  have d1 : decide (64 ≤ pl) = false := by simp; omega
  clear h hf
  go_enter Tryz.func68, Tryz.ntmps68
  go_wp2_with fail
  refine (HFD.out).mono ?_
  rintro e w1 ⟨rfl, hk1⟩
  have HK1 := Lib.hid hk1
  have HL1 := Lib.hid (H.out.old hk1)
  have hc1 := HL1.out.blk.cell
  have hf1 := HL1.out.blk.frozen
  have hl1 := HL1.out.blk.lt
  clear hk1
  go_wp2_with fail
  rw [show (last : Int) + 1 = ((last + 1 : Nat) : Int) by omega]
  generalize hn1 : last + 1 = n1 at *
  have HN1 := Lib.hid hn1
  clear hn1
  have HLW : Hid (IsLine ((w1.setCell ⟨g, 2, none⟩ (.int .u64 n1)).alloc (.cells (oC 0 0 0) 108)) g (.slice A l.length c) l n1) :=
    ⟨(HL1.out.blk.set 2 _).alloc _, (HL1.out.row.kept ((Kept.refl [g] w1).setCell (.inl (by simp)) _) (fun k hk e => by simp at e; subst e; exact HL1.out.far hk)).old ((Kept.refl _ _).alloc _)⟩
  have HKW : Hid (Kept [g] w ((w1.setCell ⟨g, 2, none⟩ (.int .u64 n1)).alloc (.cells (oC 0 0 0) 108))) := ((HK1.out.mono (by simp)).setCell (.inl (by simp)) _).alloc _
  have hcw := HLW.out.blk.cell
  have hlw := HLW.out.blk.lt
  generalize ((w1.setCell ⟨g, 2, none⟩ (.int .u64 n1)).alloc (.cells (oC 0 0 0) 108)) = W2 at *
  clear hc1 hf1 hl1
  go_region_held3 (fun w' => w'.cell? ⟨g, 2, none⟩ = some (.int .u64 n1)) (go_keep) (first | (go_at_call 66; refine (HH.out _).mono ?_; rintro e w' ⟨rfl, rfl⟩) | (go_at_call 93; refine (HP.out _ (by exact HLW.out.old (Kept.refl _ _).drew)).mono ?_; rintro e w2 ⟨rfl, hg⟩; have HG := Lib.hid hg; obtain ⟨v3, hi3, _⟩ := hg; have hc3 := hi3.blk.cell; clear hi3))
  all_goals
    go_wp2_with fail
    go_ret
    refine ⟨rfl, ?_⟩
    rw [HN1.out]
    obtain ⟨v3, hi3, hk3, hv3⟩ := HG.out
    exact ⟨v3, hi3, (HKW.out.mono (by simp)).trans' ((Kept.refl _ _).drew.trans hk3) (fun k hk => .inl (by simpa using hk)), fun k hk => (hv3 k hk).imp id (fun h => Nat.le_trans HKW.out.size h)⟩

set_option maxHeartbeats 1600000 in
theorem put_far (p : Option Addr) (pl lev : Int) (w : World) (hp : p ≠ none) (h : pl < 0 ∨ 64 ≤ pl) :
    Calls Tryz.prog 68 #[.pointer p, .int .i64 pl, .int .i64 lev] w fun e w' => e = .returned (.int .i64 5) ∧ Kept [] w w' := by
  obtain ⟨a, rfl⟩ : ∃ a, p = some a := by cases p with | none => exact absurd rfl hp | some a => exact ⟨a, rfl⟩
  by_cases h1 : pl < 0
  · have d : decide (pl < 0) = true := by simpa using h1
    clear hp h
    go_enter Tryz.func68, Tryz.ntmps68
    go_wp2
    go_ret
    exact ⟨rfl, Kept.refl _ _⟩
  · have d : decide (pl < 0) = false := by simpa using h1
    have d1 : decide (64 ≤ pl) = true := by simp; omega
    clear hp h
    go_enter Tryz.func68, Tryz.ntmps68
    go_wp2
    go_ret
    exact ⟨rfl, Kept.refl _ _⟩

set_option maxHeartbeats 1600000 in
theorem put_there (g : Nat) (v : Value) (l : List WO) (last : Nat) (pl lev : Int) (x : WO) (w : World) (h : IsLine w g v l last) (hl : l.length ≤ 1000) (h0 : 0 ≤ pl) (h1 : pl < 64) (hf : findW pl l = some x) :
    Calls Tryz.prog 68 #[.pointer (some ⟨g, 0, none⟩), .int .i64 pl, .int .i64 lev] w fun e w' => e = .returned (.int .i64 6) ∧ Kept [] w w' := by
  have HFD := Lib.hid (find_some g v l last pl x w h hl hf)
  have d1 : decide (64 ≤ pl) = false := by simp; omega
  obtain ⟨xp, xl, xn⟩ := x
  clear h hf
  go_enter Tryz.func68, Tryz.ntmps68
  go_wp2_with fail
  refine (HFD.out).mono ?_
  rintro e w1 ⟨rfl, hk1⟩
  have HK1 := Lib.hid hk1
  clear hk1
  go_wp2_with fail
  go_ret
  exact ⟨rfl, HK1.out.alloc _⟩

theorem put_nil (pl lev : Int) (w : World) : Calls Tryz.prog 68 #[.pointer none, .int .i64 pl, .int .i64 lev] w fun e w' => e = .returned (.int .i64 14) ∧ Kept [] w w' := by
  go_enter Tryz.func68, Tryz.ntmps68
  go_wp2
  go_ret
  exact ⟨rfl, Kept.refl _ _⟩

end Go.Proofs.YtfoeijiejpenpaaGreatDoor
