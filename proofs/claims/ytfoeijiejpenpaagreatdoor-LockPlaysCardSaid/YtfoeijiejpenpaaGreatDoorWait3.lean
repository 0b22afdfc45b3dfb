/- Package wait: take of a line's row. -/
import Derived.Test.YtfoeijiejpenpaaGreatDoorWait2
namespace Go.Proofs.YtfoeijiejpenpaaGreatDoor
open Go.RowKit

theorem find_of_idx (p : WO → Bool) : ∀ (l : List WO) (k : Nat) (x : WO), l[k]? = some x → p x = true → (∀ j y, j < k → l[j]? = some y → p y = false) → l.find? p = some x ∧ l.eraseP p = l.take k ++ l.drop (k + 1)
  | [], k, x, h, _, _ => by simp at h
  | z :: t, 0, x, h, hp, _ => by simp at h; subst h; simp [hp]
  | z :: t, k + 1, x, h, hp, hn => by
    have h0 := hn 0 z (by omega) (by simp)
    obtain ⟨h1, h2⟩ := find_of_idx p t k x (by simpa using h) hp (fun j u hj hu => hn (j + 1) u (by omega) (by simpa using hu))
    refine ⟨by rw [List.find?_cons_of_neg (by simp [h0])]; exact h1, ?_⟩
    rw [List.eraseP_cons_of_neg (by simp [h0]), h2]; simp

/-- Who has a place. -/
def isP (pl : Int) (x : WO) : Bool := x.p == pl

theorem LineGoes.mk3 {w w1 w2 : World} {g B : Nat} {A : Option Addr} {n c : Nat} {l l' : List WO} {last : Nat} {A' : Option Addr} {n' c' : Nat} (h : IsLine w1 g (.slice A n c) l last) (hk : Kept [] w w1) (hr : RowGoes w1 (.slice A n c) w2 (.slice A' n' c') l') (hB : B < w1.heap.size) (hBw : w.heap.size ≤ B) (hg : g < w.heap.size) (hv : ∀ k, k ∈ fp (.slice A n c) → k < w.heap.size) (x y z : Value) :
    LineGoes w g (.slice A n c) ((((w2.setCell ⟨g, 1, none⟩ (.slice A' n' c')).setCell ⟨B, 0, none⟩ x).setCell ⟨B, 1, none⟩ y).setCell ⟨B, 2, none⟩ z) l' last := by
  obtain ⟨v', h1, h2, h3⟩ := LineGoes.mk_ h hk hr
  have hBv : B ∉ fp (.slice A' n' c') := fun hm => by
    rcases hr.2.2 B hm with h4 | h4
    · have := hv B h4; omega
    · omega
  have hv' : v' = .slice A' n' c' := by
    have h5 := h1.blk
    have h6 := ((h.blk.kept hr.2.1 h.far).set 1 (.slice A' n' c'))
    unfold Blk at h5 h6
    rw [h6] at h5
    simpa using h5.symm
  subst hv'
  have hK : Kept [B] (w2.setCell ⟨g, 1, none⟩ (.slice A' n' c')) ((((w2.setCell ⟨g, 1, none⟩ (.slice A' n' c')).setCell ⟨B, 0, none⟩ x).setCell ⟨B, 1, none⟩ y).setCell ⟨B, 2, none⟩ z) :=
    (((Kept.refl _ _).setCell (.inl (by simp)) _).setCell (.inl (by simp)) _).setCell (.inl (by simp)) _
  refine ⟨_, h1.kept hK (by simp; omega) (fun k hk e => by simp at e; subst e; exact hBv hk), h2.trans' hK (fun k hk => .inr (by simp at hk; omega)), h3⟩

set_option maxHeartbeats 3200000 in
set_option maxRecDepth 100000 in
theorem rtake_some (g : Nat) (v : Value) (l : List WO) (last : Nat) (pl : Int) (bp : Nat) (x : WO) (w : World) (h : IsLine w g v l last) (hl : l.length ≤ 1000) (hb : Blk w bp 3 #[.int .i64 pl]) (hf : l.find? (isP pl) = some x) :
    Calls Tryz.prog 78 #[.pointer (some ⟨g, 0, none⟩), .func (.func 102) #[] #[.pointer (some ⟨bp, 0, none⟩)]] w fun e w' => e = .returned (.tuple #[.agg (oC x.p x.l x.n), .bool true]) ∧ LineGoes w g v w' (l.eraseP (isP pl)) last := by
  obtain ⟨A, c, rfl, hnc⟩ := h.form
  have hg0 := h.blk.cell
  have hg1 := h.blk.frozen
  have hg2 := h.blk.lt
  have H := Lib.hid h
  have HIX := Lib.hid (fun w1 hk => idx_wais1 (.pointer (some ⟨bp, 0, none⟩)) (isP pl) A l.length c l w1 (Reads.of_own (h.row.old hk)) (by omega) (fun y _ w' hk' => is1_any y pl bp w' (hb.kept (hk.trans hk') (by simp))))
  have HF := Lib.hid hf
  clear h hf hb
  go_enter Tryz.func78, Tryz.ntmps78
  go_wp2_with fail
  refine (HIX.out _ (((Kept.refl _ _).alloc _).alloc _)).mono ?_
  rintro e w1 ⟨⟨iv, rfl, hix⟩, hk1⟩
  obtain ⟨k, rfl, hkx, hkl, her⟩ : ∃ k : Nat, iv = k ∧ Hid (l[k]? = some x) ∧ k < l.length ∧ Hid (l.eraseP (isP pl) = l.take k ++ l.drop (k + 1)) := by
    rcases hix with ⟨k, y, rfl, h1, h2, h3⟩ | ⟨rfl, h1⟩
    · obtain ⟨h4, h5⟩ := find_of_idx (isP pl) l k y h1 h2 h3
      have h6 := HF.out
      rw [h4] at h6
      injection h6 with h6
      subst h6
      exact ⟨k, rfl, h1, (List.getElem?_eq_some_iff.1 h1).1, h5⟩
    · have := List.find?_eq_some_iff_append.1 HF.out
      have h2 := h1 x (List.mem_of_find?_eq_some HF.out)
      rw [this.1] at h2; cases h2
  have HK1 := Lib.hid ((((Kept.refl [] w).alloc _).alloc _).trans hk1)
  have HL1 := Lib.hid (H.out.old HK1.out)
  have HR0 := Lib.hid (((Blk.new w 108 (oC 0 0 0)).alloc (.cells (oC 0 0 0) 108)).kept hk1 (by simp))
  clear hk1 hix HIX HF
  obtain ⟨b, o, rfl, hbl, hcc⟩ := (Reads.of_own HL1.out.row).cellsK oL 3 oL_len (by omega) (by omega)
  have hc0 : w1.cell? ⟨b, o + k * 3, none⟩ = some (.int .i64 x.p) := hcc k x hkx.out 0 (by omega)
  have hc1 : w1.cell? ⟨b, o + k * 3 + 1, none⟩ = some (.int .i64 x.l) := hcc k x hkx.out 1 (by omega)
  have hc2 : w1.cell? ⟨b, o + k * 3 + 2, none⟩ = some (.int .u64 x.n) := hcc k x hkx.out 2 (by omega)
  have hc3 := HL1.out.blk.cell
  have hf3 := HL1.out.blk.frozen
  have hl3 := HL1.out.blk.lt
  have hc4 := HR0.out.cell
  have hf4 := HR0.out.frozen
  have hl4 := HR0.out.lt
  clear hcc
  obtain ⟨xp, xl, xn⟩ := x
  have HLW := Lib.hid (HL1.out.old ((Kept.refl _ _).alloc (.cells (oC xp xl xn) 108)))
  have HDL := Lib.hid (delete_any _ l k (w1.alloc (.cells (oC xp xl xn) 108)) HLW.out.row hkl (by omega))
  have HX0 := Lib.hid (Blk.new w1 108 (oC xp xl xn))
  go_wp2_with fail
  refine (HDL.out).mono ?_
  rintro e w2 ⟨v2, rfl, hrg⟩
  obtain ⟨A2, n2, c2, rfl⟩ := row_form hrg.1
  have HRG := Lib.hid hrg
  have hlt0 : ∀ k, k ∈ fp (.slice (some ⟨b, o, none⟩) l.length c) → k < w.heap.size := own_lt H.out.row
  have HLT := Lib.hid hlt0
  have hsz1 := HK1.out.size
  have hb5 := HLW.out.blk.kept hrg.2.1 HLW.out.far
  have hc5 := hb5.cell
  have hf5 := hb5.frozen
  have hl5 := hb5.lt
  have hb6 := HX0.out.kept hrg.2.1 (fun hm => by have := hlt0 _ hm; omega)
  have hc6 := hb6.cell
  have hl6 := hb6.lt
  have hb7 := (HR0.out.alloc (.cells (oC xp xl xn) 108)).kept hrg.2.1 (fun hm => by have := hlt0 _ hm; omega)
  have hc7 := hb7.cell
  have hf7 := hb7.frozen
  have hl7 := hb7.lt
  have hsz2 : (w1.alloc (.cells (oC xp xl xn) 108)).heap.size = w1.heap.size + 1 := by simp
  have HSZ := Lib.hid hsz2
  have HB7 := Lib.hid hb7
  clear hrg hlt0 hb5 hb6 hb7 hsz2
  have hgw := HL1.out.blk.lt
  go_wp2_with fail
  have hb8 := ((((HB7.out.far (p := ⟨g, 1, none⟩) (by simp only; omega) (.slice A2 n2 c2)).set 0 (.int .i64 xp)).set 1 (.int .i64 xl)).set 2 (.int .u64 xn)).cell
  refine bodyPost_ret (v := .tuple #[.agg (oC xp xl xn), .bool true]) (by simp [results, Tryz.results78, go_sem, hb8]) rfl ⟨rfl, ?_⟩
  rw [her.out]
  exact LineGoes.mk3 HLW.out (HK1.out.alloc _) HRG.out (by rw [HSZ.out]; omega) (Nat.le_refl _) hg2 HLT.out _ _ _

set_option maxHeartbeats 3200000 in
set_option maxRecDepth 100000 in
theorem rtake_none (g : Nat) (v : Value) (l : List WO) (last : Nat) (pl : Int) (bp : Nat) (w : World) (h : IsLine w g v l last) (hl : l.length ≤ 1000) (hb : Blk w bp 3 #[.int .i64 pl]) (hf : l.find? (isP pl) = none) :
    Calls Tryz.prog 78 #[.pointer (some ⟨g, 0, none⟩), .func (.func 102) #[] #[.pointer (some ⟨bp, 0, none⟩)]] w fun e w' => e = .returned (.tuple #[.agg (oC 0 0 0), .bool false]) ∧ Kept [] w w' := by
  obtain ⟨A, c, rfl, hnc⟩ := h.form
  have hg0 := h.blk.cell
  have hg2 := h.blk.lt
  have HIX := Lib.hid (fun w1 hk => idx_wais1 (.pointer (some ⟨bp, 0, none⟩)) (isP pl) A l.length c l w1 (Reads.of_own (h.row.old hk)) (by omega) (fun y _ w' hk' => is1_any y pl bp w' (hb.kept (hk.trans hk') (by simp))))
  have HF := Lib.hid hf
  clear h hf hb
  go_enter Tryz.func78, Tryz.ntmps78
  go_wp2_with fail
  refine (HIX.out _ (((Kept.refl _ _).alloc _).alloc _)).mono ?_
  rintro e w1 ⟨⟨iv, rfl, hix⟩, hk1⟩
  obtain rfl : iv = -1 := by
    rcases hix with ⟨k, y, rfl, h1, h2, h3⟩ | ⟨rfl, h1⟩
    · have := List.find?_eq_none.1 HF.out y (List.mem_of_getElem? h1)
      exact absurd h2 this
    · rfl
  have HK1 := Lib.hid ((((Kept.refl [] w).alloc _).alloc _).trans hk1)
  have HR0 := Lib.hid (((Blk.new w 108 (oC 0 0 0)).alloc (.cells (oC 0 0 0) 108)).kept hk1 (by simp))
  have HR1 := Lib.hid ((Blk.newAt (w := w.alloc (.cells (oC 0 0 0) 108)) (g := w.heap.size + 1) (by simp) 108 (oC 0 0 0)).kept hk1 (by simp))
  have hc4 := HR0.out.cell
  have hf4 := HR0.out.frozen
  have hl4 := HR0.out.lt
  have hc5 := HR1.out.cell
  have hl5 := HR1.out.lt
  clear hk1 hix HIX HF
  go_wp2_with fail
  have hb8 := (((HR0.out.set 0 (.int .i64 0)).set 1 (.int .i64 0)).set 2 (.int .u64 0)).cell
  refine bodyPost_ret (v := .tuple #[.agg (oC 0 0 0), .bool false]) (by simp [results, Tryz.results78, go_sem, hb8]) rfl ⟨rfl, ?_⟩
  exact ((HK1.out.setCell (.inr (Nat.le_refl _)) _).setCell (.inr (Nat.le_refl _)) _).setCell (.inr (Nat.le_refl _)) _

end Go.Proofs.YtfoeijiejpenpaaGreatDoor
