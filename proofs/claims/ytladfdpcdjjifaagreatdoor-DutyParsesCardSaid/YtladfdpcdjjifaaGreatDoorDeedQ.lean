/- Package deed: Parse. -/
import Derived.Test.YtladfdpcdjjifaaGreatDoorDeedF
namespace Go.Proofs.YtladfdpcdjjifaaGreatDoor
open Go.RowKit

/-- How many parts a deed's line has at least. -/
def partsN (op : Int) : Nat := if op = 5 then 0 else if op = 2 then 4 else if op = 7 then 2 else if op = 8 then 2 else if op = 10 then 2 else 1

set_option maxHeartbeats 800000 in
theorem parts_any (op : Int) (w : World) : Calls Tryz.prog 59 #[.int .i64 op] w fun e w' => e = .returned (.int .i64 (partsN op)) ∧ w = w' := by
  rcases (by omega : op = 5 ∨ op = 2 ∨ op = 7 ∨ op = 8 ∨ op = 10 ∨ (op ≠ 5 ∧ op ≠ 2 ∧ op ≠ 7 ∧ op ≠ 8 ∧ op ≠ 10)) with rfl | rfl | rfl | rfl | rfl | ⟨h1, h2, h3, h4, h5⟩
  all_goals
    go_enter Tryz.func59, Tryz.ntmps59
    go_wp2
    go_ret
    first
      | exact ⟨rfl, rfl⟩
      | exact ⟨ret_int (by simp [partsN, h1, h2, h3, h4, h5]), rfl⟩

set_option maxHeartbeats 1600000 in
theorem parse_none (l : List UInt8) (w : World) (hl : l.length ≤ 100000) (hM : HasMax w) (hw : words l = []) :
    Calls Tryz.prog 26 #[strV l] w fun e w' => e = .returned (.tuple #[.agg (dC 0 0 0 0 0 0 false), .int .i64 15]) ∧ Kept [] w w' := by
  have HW := Lib.hid (fun w h => words_any l w hl h)
  rw [hw] at HW
  have HM := Lib.hid hM
  clear hM hw
  simp only [List.length_nil] at HW
  go_enter Tryz.func26, Tryz.ntmps26
  go_wp2_with fail
  refine (HW.out _ (HM.out.old ((Kept.refl _ _).alloc _))).mono ?_
  rintro e w1 ⟨A, c, rfl, hF⟩
  have hk := hF.2.1
  have hB := (Blk.new w 60 (dC 0 0 0 0 0 0 false)).kept hk (by simp)
  have hc := hB.cell
  have hf := hB.frozen
  have hlt := hB.lt
  have HK := Lib.hid (((Kept.refl [] w).alloc _).trans hk)
  clear hF hk hB
  go_wp2_with fail
  refine bodyPost_ret (v := .tuple #[.agg (dC 0 0 0 0 0 0 false), .int .i64 15]) (by simp [results, Tryz.results26, go_sem, hc]) rfl ⟨rfl, ?_⟩
  have hk2 := HK.out
  (repeat (first | (with_reducible exact Kept.refl _ _) | (with_reducible assumption) | (with_reducible refine Kept.alloc ?_ _) | (with_reducible refine Kept.drew ?_) | (with_reducible refine Kept.drewN ?_ _) | (with_reducible refine Kept.setCell ?_ ?_ _) | (exact .inr (Nat.le_refl _)) | (exact .inr (by simp only; omega)) | (exact .inr (by omega))))

set_option maxHeartbeats 1600000 in
theorem parse_word (l w0 : List UInt8) (ws : List (List UInt8)) (w : World) (hl : l.length ≤ 100000) (hM : HasMax w) (hw : words l = w0 :: ws) (hop : opOf w0 = 0) :
    Calls Tryz.prog 26 #[strV l] w fun e w' => e = .returned (.tuple #[.agg (dC 0 0 0 0 0 0 false), .int .i64 15]) ∧ Kept [] w w' := by
  have HW := Lib.hid (fun w h => words_any l w hl h)
  rw [hw] at HW
  have HM := Lib.hid hM
  have HOP := Lib.hid (fun w => op_any w0 w)
  rw [hop] at HOP
  clear hM hw hop
  simp only [List.length_cons] at HW
  go_enter Tryz.func26, Tryz.ntmps26
  go_wp2_with fail
  refine (HW.out _ (HM.out.old ((Kept.refl _ _).alloc _))).mono ?_
  rintro e w1 ⟨A, c, rfl, hF⟩
  have hk := hF.2.1
  have hB := (Blk.new w 60 (dC 0 0 0 0 0 0 false)).kept hk (by simp)
  have hc := hB.cell
  have hf := hB.frozen
  have hlt := hB.lt
  obtain ⟨b, o, rfl, hbl, hcell⟩ := (Reads.of_own hF.1).addr (by omega) (by omega)
  have hc0 := hcell 0 (strV w0) (by simp)
  rw [Nat.add_zero] at hc0
  have HK := Lib.hid (((Kept.refl [] w).alloc _).trans hk)
  have HF := Lib.hid hF
  have HB := Lib.hid hB
  have hi0 : (0 : Int) < (ws.length : Int) + 1 := by omega
  clear hF hk hB hcell
  go_wp2_with fail
  refine (HOP.out _).mono ?_
  rintro e w1' ⟨rfl, rfl⟩
  go_wp2_with fail
  refine bodyPost_ret (v := .tuple #[.agg (dC 0 0 0 0 0 0 false), .int .i64 15]) (by simp [results, Tryz.results26, go_sem, hc]) rfl ⟨rfl, ?_⟩
  have hk2 := HK.out
  (repeat (first | (with_reducible exact Kept.refl _ _) | (with_reducible assumption) | (with_reducible refine Kept.alloc ?_ _) | (with_reducible refine Kept.drew ?_) | (with_reducible refine Kept.drewN ?_ _) | (with_reducible refine Kept.setCell ?_ ?_ _) | (exact .inr (Nat.le_refl _)) | (exact .inr (by simp only; omega)) | (exact .inr (by omega))))

set_option maxHeartbeats 1600000 in
theorem parse_form (l w0 : List UInt8) (ws : List (List UInt8)) (k : Int) (w : World) (hl : l.length ≤ 100000) (hM : HasMax w) (hw : words l = w0 :: ws) (hop : opOf w0 = k) (hk0 : 1 ≤ k) (hws : ws.length ≤ 100002)
    (hmore : ws.length ≠ partsN k ∧ ¬ (ws.length = partsN k + 1 ∧ k = 2)) (hpn : partsN k ≤ 4) :
    Calls Tryz.prog 26 #[strV l] w fun e w' => e = .returned (.tuple #[.agg (dC 0 0 0 0 0 0 false), .int .i64 3]) ∧ Kept [] w w' := by
  have hkb : (k == 0) = false := beq_eq_false_iff_ne.2 (by omega)
  have HPN := Lib.hid (fun w => parts_any k w)
  generalize partsN k = pn at *
  have HW := Lib.hid (fun w h => words_any l w hl h)
  rw [hw] at HW
  have HM := Lib.hid hM
  have HOP := Lib.hid (fun w => op_any w0 w)
  rw [hop] at HOP
  clear hM hw hop
  simp only [List.length_cons] at HW
  go_enter Tryz.func26, Tryz.ntmps26
  go_wp2_with fail
  refine (HW.out _ (HM.out.old ((Kept.refl _ _).alloc _))).mono ?_
  rintro e w1 ⟨A, c, rfl, hF⟩
  have hk := hF.2.1
  have hB := (Blk.new w 60 (dC 0 0 0 0 0 0 false)).kept hk (by simp)
  have hc := hB.cell
  have hf := hB.frozen
  have hlt := hB.lt
  obtain ⟨b, o, rfl, hbl, hcell⟩ := (Reads.of_own hF.1).addr (by omega) (by omega)
  have hc0 := hcell 0 (strV w0) (by simp)
  rw [Nat.add_zero] at hc0
  have HK := Lib.hid (((Kept.refl [] w).alloc _).trans hk)
  have HF := Lib.hid hF
  have HB := Lib.hid hB
  have hi0 : (0 : Int) < (ws.length : Int) + 1 := by omega
  clear hF hk hB hcell
  have HM0 := Lib.hid hmore
  have hm1 : ((ws.length : Int) - (pn : Int) != 0) = true := by rw [bne_iff_ne]; omega
  clear hmore
  go_wp2_with fail
  refine (HOP.out _).mono ?_
  rintro e w1' ⟨rfl, rfl⟩
  go_wp2_with fail
  refine (HOP.out _).mono ?_
  rintro e w1' ⟨rfl, rfl⟩
  have hlt2 : b < w1.heap.size + 1 := by omega
  have hlt3 : w.heap.size < w1.heap.size + 1 := by omega
  go_wp2_with fail
  refine (HPN.out _).mono ?_
  rintro e w1' ⟨rfl, rfl⟩
  by_cases h1 : ((ws.length : Int) - (pn : Int) == 1) = true
  · have h2 : (k == 2) = false := by
      rw [beq_eq_false_iff_ne]; rintro rfl
      have := HM0.out; simp at h1; omega
    go_wp2_with fail
    refine bodyPost_ret (v := .tuple #[.agg (dC 0 0 0 0 0 0 false), .int .i64 3]) (by simp [results, Tryz.results26, go_sem, hc, hlt]) rfl ⟨rfl, ?_⟩
    have hk2 := HK.out
    (repeat (first | (with_reducible exact Kept.refl _ _) | (with_reducible assumption) | (with_reducible refine Kept.alloc ?_ _) | (with_reducible refine Kept.drew ?_) | (with_reducible refine Kept.drewN ?_ _) | (with_reducible refine Kept.setCell ?_ ?_ _) | (exact .inr (Nat.le_refl _)) | (exact .inr (by simp only; omega)) | (exact .inr (by omega))))
  · have h1' : ((ws.length : Int) - (pn : Int) == 1) = false := by simpa using h1
    clear h1
    go_wp2_with fail
    refine bodyPost_ret (v := .tuple #[.agg (dC 0 0 0 0 0 0 false), .int .i64 3]) (by simp [results, Tryz.results26, go_sem, hc, hlt]) rfl ⟨rfl, ?_⟩
    have hk2 := HK.out
    (repeat (first | (with_reducible exact Kept.refl _ _) | (with_reducible assumption) | (with_reducible refine Kept.alloc ?_ _) | (with_reducible refine Kept.drew ?_) | (with_reducible refine Kept.drewN ?_ _) | (with_reducible refine Kept.setCell ?_ ?_ _) | (exact .inr (Nat.le_refl _)) | (exact .inr (by simp only; omega)) | (exact .inr (by omega))))

/-- What Parse answers when a line's parts have been taken. -/
def parsed (d : Dd) (bad : Bool) : Dd × Int := if bad then (Dd.zero, 3) else if goodD d then (d, 0) else (Dd.zero, 5)

set_option maxHeartbeats 3200000 in
theorem parse_run (l w0 : List UInt8) (ws : List (List UInt8)) (k : Int) (da db dr : Int) (dn dm : Nat) (dl bad : Bool) (w : World) (hl : l.length ≤ 100000) (hM : HasMax w) (hw : words l = w0 :: ws) (hop : opOf w0 = k) (hk0 : 1 ≤ k) (hws : ws.length ≤ 100002)
    (hmore : ws.length = partsN k ∨ (ws.length = partsN k + 1 ∧ k = 2)) (hpn : partsN k ≤ 4)
    (hfill : ∀ gl gd A n c w, IsL w gl A n c ws false → Blk w gd 60 (dC k 0 0 0 0 0 false) → (∀ ad, A = some ad → ad.block ≠ gd) → Calls Tryz.prog 60 #[.pointer (some ⟨gl, 0, none⟩), .pointer (some ⟨gd, 0, none⟩)] w (Filled w gl gd ⟨k, da, db, dr, dn, dm, dl⟩ bad)) :
    Calls Tryz.prog 26 #[strV l] w fun e w' => e = .returned (.tuple #[.agg (dC (parsed ⟨k, da, db, dr, dn, dm, dl⟩ bad).1.op (parsed ⟨k, da, db, dr, dn, dm, dl⟩ bad).1.a (parsed ⟨k, da, db, dr, dn, dm, dl⟩ bad).1.b (parsed ⟨k, da, db, dr, dn, dm, dl⟩ bad).1.r (parsed ⟨k, da, db, dr, dn, dm, dl⟩ bad).1.n (parsed ⟨k, da, db, dr, dn, dm, dl⟩ bad).1.mask (parsed ⟨k, da, db, dr, dn, dm, dl⟩ bad).1.loose), .int .i64 (parsed ⟨k, da, db, dr, dn, dm, dl⟩ bad).2]) ∧ Kept [] w w' := by
  have hkb : (k == 0) = false := beq_eq_false_iff_ne.2 (by omega)
  have HPN := Lib.hid (fun w => parts_any k w)
  have HFILL := Lib.hid hfill
  have HG := Lib.hid (fun w => good_any k da db dr dn dm dl w)
  clear hfill
  unfold parsed
  generalize goodD ⟨k, da, db, dr, dn, dm, dl⟩ = gd at *
  generalize partsN k = pn at *
  have HW := Lib.hid (fun w h => words_any l w hl h)
  rw [hw] at HW
  have HM := Lib.hid hM
  have HOP := Lib.hid (fun w => op_any w0 w)
  rw [hop] at HOP
  clear hM hw hop
  simp only [List.length_cons] at HW
  go_enter Tryz.func26, Tryz.ntmps26
  go_wp2_with fail
  refine (HW.out _ (HM.out.old ((Kept.refl _ _).alloc _))).mono ?_
  rintro e w1 ⟨A, c, rfl, hF⟩
  have hk := hF.2.1
  have hB := (Blk.new w 60 (dC 0 0 0 0 0 0 false)).kept hk (by simp)
  have hc := hB.cell
  have hf := hB.frozen
  have hlt := hB.lt
  obtain ⟨b, o, rfl, hbl, hcell⟩ := (Reads.of_own hF.1).addr (by omega) (by omega)
  have hc0 := hcell 0 (strV w0) (by simp)
  rw [Nat.add_zero] at hc0
  have HK := Lib.hid (((Kept.refl [] w).alloc _).trans hk)
  have HF := Lib.hid hF
  have HB := Lib.hid hB
  have hi0 : (0 : Int) < (ws.length : Int) + 1 := by omega
  clear hF hk hB hcell
  have hm1 : (((ws.length : Int) - (pn : Int) != 0) = false) ∨ (((ws.length : Int) - (pn : Int) != 0) = true ∧ ((ws.length : Int) - (pn : Int) == 1) = true ∧ (k == 2) = true) := by
    rcases hmore with h | ⟨h, rfl⟩
    · exact .inl (by rw [← Bool.not_eq_true, bne_iff_ne]; omega)
    · exact .inr ⟨by rw [bne_iff_ne]; omega, by rw [beq_iff_eq]; omega, rfl⟩
  clear hmore
  have hsl := run_cut_lo (P := Tryz.prog) 34 9 (.string ByteArray.empty) 16 Tryz.underlying34 Tryz.info9 (some ⟨b, o, none⟩) (ws.length + 1) c .i64 1 1 rfl (by omega)
  have hne1 : (((ws.length : Int) + 1) == 0) = false := beq_eq_false_iff_ne.2 (by omega)
  go_wp2_with fail
  refine (HOP.out _).mono ?_
  rintro e w1' ⟨rfl, rfl⟩
  go_wp2_with fail
  refine (HOP.out _).mono ?_
  rintro e w1' ⟨rfl, rfl⟩
  have hlt2 : b < w1.heap.size + 1 := by omega
  have hlt3 : w.heap.size < w1.heap.size + 1 := by omega
  go_wp2_with fail
  refine (HPN.out _).mono ?_
  rintro e w1' ⟨rfl, rfl⟩
  rcases hm1 with hm1 | ⟨hm1, hm2, hm3⟩
  all_goals
    go_wp2_with fail
    refine (HFILL.out (w1.heap.size + 1) w1.heap.size (cutA (some ⟨b, o, none⟩) 1 c) ws.length (c - 1) _ ?_ ?_ ?_).mono ?_
    · have hle : ws.length + 1 ≤ c ∧ c ≤ 9223372036854775807 := by
        obtain ⟨A', c', e, h1, h2⟩ := own_form HF.out.1
        injection e with e1 e2 e3
        subst e3
        unfold maxLen at h2
        exact ⟨h1, h2⟩
      refine ⟨Blk.newAt (by simp) _ _, ?_, by omega, by omega, fun ad e => ?_⟩
      · have h1 := ((Reads.of_own HF.out.1).cutA (k := 1) (cap := c) (by omega) hle.1)
        have h2 : Reads w1 1 (cutA (some ⟨b, o, none⟩) 1 c) ws.length (ws.map strV) := by simpa using h1
        exact (h2.alloc _).alloc _
      · obtain ⟨a0, e0, b0⟩ := cutA_block e
        injection e0 with e0
        subst e0
        rw [b0]; simp only; omega
    · exact (Blk.new _ _ _).alloc _
    · intro ad e
      obtain ⟨a0, e0, b0⟩ := cutA_block e
      injection e0 with e0
      subst e0
      rw [b0]; simp only; omega
    · rintro e w2 ⟨rfl, hD2, ⟨sl, hL2⟩, hk2⟩
      have hB2 := ((HB.out.alloc _).alloc _).kept hk2 (by simp; omega)
      have hcr := hB2.cell
      have hfr := hB2.frozen
      have hlr := hB2.lt
      have hcd := hD2.cell
      have hcl := hL2.cell
      have HB2 := Lib.hid hB2
      have HD2 := Lib.hid hD2
      have HK2 := Lib.hid (((HK.out.alloc _).alloc _).trans' hk2 (fun j hj => .inr (by have := HK.out.size; simp at hj; omega)))
      have hz : w.heap.size + 1 ≤ w1.heap.size := by omega
      clear hB2 hD2 hL2 hk2 hc hf hlt hc0
      cases bad
      · go_wp2_with fail
        refine (HG.out _).mono ?_
        rintro e w3 ⟨rfl, hk3⟩
        have hB3 := HB2.out.kept hk3 (by simp)
        have hD3 := HD2.out.kept hk3 (by simp)
        have hcr3 := hB3.cell
        have hfr3 := hB3.frozen
        have hlr3 := hB3.lt
        have hcd3 := hD3.cell
        have HK3 := Lib.hid (HK2.out.trans hk3)
        clear hB3 hD3 hk3 hcr hfr hlr hcd hcl
        cases gd
        · go_wp2_with fail
          refine bodyPost_ret (v := .tuple #[.agg (dC 0 0 0 0 0 0 false), .int .i64 5]) (by simp [results, Tryz.results26, go_sem, hcr3]) rfl ⟨rfl, ?_⟩
          have hk2 := HK3.out
          (repeat (first | (with_reducible exact Kept.refl _ _) | (with_reducible assumption) | (with_reducible refine Kept.alloc ?_ _) | (with_reducible refine Kept.drew ?_) | (with_reducible refine Kept.drewN ?_ _) | (with_reducible refine Kept.setCell ?_ ?_ _) | (exact .inr (Nat.le_refl _)) | (exact .inr (by simp only; omega)) | (exact .inr (by omega))))
        · go_wp2_with fail
          refine bodyPost_ret (v := .tuple #[.agg (dC k da db dr dn dm dl), .int .i64 0]) (by simp [results, Tryz.results26, go_sem, hcr3]) rfl ⟨rfl, ?_⟩
          have hk2 := HK3.out
          (repeat (first | (with_reducible exact Kept.refl _ _) | (with_reducible assumption) | (with_reducible refine Kept.alloc ?_ _) | (with_reducible refine Kept.drew ?_) | (with_reducible refine Kept.drewN ?_ _) | (with_reducible refine Kept.setCell ?_ ?_ _) | (exact .inr (Nat.le_refl _)) | (exact .inr (by simp only; omega)) | (exact .inr (by omega))))
      · go_wp2_with fail
        refine bodyPost_ret (v := .tuple #[.agg (dC 0 0 0 0 0 0 false), .int .i64 3]) (by simp [results, Tryz.results26, go_sem, hcr]) rfl ⟨rfl, ?_⟩
        have hk2 := HK2.out
        (repeat (first | (with_reducible exact Kept.refl _ _) | (with_reducible assumption) | (with_reducible refine Kept.alloc ?_ _) | (with_reducible refine Kept.drew ?_) | (with_reducible refine Kept.drewN ?_ _) | (with_reducible refine Kept.setCell ?_ ?_ _) | (exact .inr (Nat.le_refl _)) | (exact .inr (by simp only; omega)) | (exact .inr (by omega))))

end Go.Proofs.YtladfdpcdjjifaaGreatDoor
