/- The document's line: another line, walked. -/
import Derived.Test.YtladfdpcdjjifaaGreatDoorDutyC
import Derived.Test.YtladfdpcdjjifaaGreatDoorDeedV
namespace Go.Proofs.YtladfdpcdjjifaaGreatDoor
open Go.RowKit

attribute [local go_sem] run_store_float

set_option maxHeartbeats 3200000 in
set_option maxRecDepth 100000 in
theorem rline_start (w0 wr : World) (d : Du) (A : Option Addr) (n c : Nat) (B : Option Addr) (m e0 : Nat) (l : List UInt8) (a : List UInt8) (t : List (List UInt8)) (hw : words l = a :: t) (h2 : a = startW) (htl : t.length ≤ 90000) (htx : ∀ x ∈ t, x.length ≤ 90000) (x0 x1 x2 : Nat) (hnb : numbU t 3 2 = some [x0, x1, x2]) (hq : RowPQ w0 wr d.progs A n c) (hs : RowS w0 wr d.starts B m e0) (hk : Kept [] w0 wr) (hsm : SmallU 5000 d) (hl : l.length ≤ 80000) :
    Calls Tryz.prog 15 #[.agg (uC d A n c B m e0), strV l, .bool false] wr (Lined w0 wr (({ d with starts := d.starts ++ [⟨smallN x0, smallN x1, x2⟩] } : Du), 0)) := by
  have HW := Lib.hid (fun w => refWords l w (by omega))
  rw [hw] at HW
  try simp only [List.length_cons] at HW
  have HQ := Lib.hid hq
  have HS := Lib.hid hs
  have HK := Lib.hid hk
  have HML := Lib.hid hs.len
  have HNL := Lib.hid hq.pp.len
  clear hq hs hk
  obtain ⟨cpus, threads, locks, cap, boost, keep, ratio, progs, starts⟩ := d
  simp only at *
  have hb2 : (a == [115, 116, 97, 114, 116]) = true := by rw [h2]; rfl
  have hb1 : (a == [100, 117, 116, 121]) = false := by rw [h2]; rfl
  clear h2
  have hx9 := numbU_len hnb
  have hxl := numbU_lt hnb
  have HRE := Lib.hid (fun A n c w h => refRead_for A n c t 1 3 2 w h (by omega) htx (.inr ⟨rfl, rfl, rfl⟩))
  rw [hnb] at HRE
  clear hnb htx hx9
  have hmm : m ≤ 5000 := by have := HML.out; have := hsm.2.1; simp only at this; omega
  have H0 := Lib.hid (fun w => refSmall9 x0 w (hxl 0))
  have H1 := Lib.hid (fun w => refSmall9 x1 w (hxl 1))
  clear hxl
  generalize smallN x0 = y0 at *
  generalize smallN x1 = y1 at *
  unfold Lined
  simp only [uC]
  go_enter Tryz.func15, Tryz.ntmps15
  go_wp2_with fail
  refine (HW.out _).mono ?_
  rintro e w1 ⟨Aw, cw, rfl, hF⟩
  have HF := Lib.hid hF
  have hk1 := hF.2.1
  have HD : Hid (Blk w1 wr.heap.size 27 #[.int .i64 cpus, .int .i64 threads, .int .i64 locks, .int .i64 cap, .int .u64 (boost : Int), .float .f64 keep, .float .f64 ratio, .slice A n c, .slice B m e0]) := ((Blk.new wr 27 _).alloc _).kept hk1 (by simp)
  have HR : Hid (Blk w1 (wr.heap.size + 1) 27 #[.int .i64 0, .int .i64 0, .int .i64 0, .int .i64 0, .int .u64 0, .float .f64 0, .float .f64 0, .slice none 0 0, .slice none 0 0]) := (Blk.newAt (by simp) 27 _).kept hk1 (by simp)
  have HK1 := Lib.hid ((((Kept.refl [] wr).alloc (.cells #[.int .i64 cpus, .int .i64 threads, .int .i64 locks, .int .i64 cap, .int .u64 (boost : Int), .float .f64 keep, .float .f64 ratio, .slice A n c, .slice B m e0] 27)).alloc (.cells #[.int .i64 0, .int .i64 0, .int .i64 0, .int .i64 0, .int .u64 0, .float .f64 0, .float .f64 0, .slice none 0 0, .slice none 0 0] 27)).trans hk1)
  have hdc := HD.out.cell
  have hdf := HD.out.frozen
  have hdl := HD.out.lt
  have hrc := HR.out.cell
  have hrf := HR.out.frozen
  have hrl := HR.out.lt
  clear hF hk1
  obtain ⟨bw, ow, rfl, hbw, hcw⟩ := (Reads.of_own HF.out.1).addr (by omega) (by omega)
  have hc0 := hcw 0 (strV a) (by simp)
  rw [Nat.add_zero] at hc0
  have hb0 : ((t.length : Int) + 1 == 0) = false := beq_eq_false_iff_ne.2 (by omega)
  have hi0 : (0 : Int) < (t.length : Int) + 1 := by omega
  have hcl := own_form HF.out.1
  obtain ⟨A', c', ⟨⟩, hcl1, hcl2⟩ := hcl
  have hsl := run_cut_lo (P := Tryz.prog) 34 9 (.string ByteArray.empty) 16 Tryz.underlying34 Tryz.info9 (some ⟨bw, ow, none⟩) (t.length + 1) cw .i64 1 1 rfl (by omega)
  simp only [Nat.add_sub_cancel] at hsl
  have hr2 : Reads w1 1 (cutA (some ⟨bw, ow, none⟩) 1 cw) t.length (t.map strV) := by
    have h1 := (Reads.of_own HF.out.1).cutA (k := 1) (cap := cw) (by omega) hcl1
    simpa using h1
  have HR2 := Lib.hid hr2
  clear hr2
  go_wp2_with fail
  refine (HRE.out _ _ _ _ HR2.out).mono ?_
  rintro e w2 ⟨A2, n2, c2, f2, rfl, _, hrow0, hk2⟩
  obtain ⟨rfl, hrow⟩ := hrow0 _ rfl
  clear hrow0
  obtain rfl : n2 = 3 := hrow.len
  obtain ⟨bn, on, rfl, hbn, hcn⟩ := hrow.reads.addr (by omega) (by omega)
  have hcx0 : w2.cell? ⟨bn, on, none⟩ = some (.int .u64 x0) := hcn 0 _ rfl
  have hcx1 : w2.cell? ⟨bn, on + 1, none⟩ = some (.int .u64 x1) := hcn 1 _ rfl
  have hcx2 : w2.cell? ⟨bn, on + 2, none⟩ = some (.int .u64 x2) := hcn 2 _ rfl
  have HK2 := Lib.hid (HK1.out.trans hk2)
  have HR3 := Lib.hid (HR.out.kept hk2 (by simp))
  have HD3 := Lib.hid (HD.out.kept hk2 (by simp))
  have hdc2 := HD3.out.cell
  have hdf2 := HD3.out.frozen
  have hdl2 := HD3.out.lt
  have hrc2 := HR3.out.cell
  have hrf2 := HR3.out.frozen
  have hrl2 := HR3.out.lt
  have HS2 := Lib.hid (HS.out.kept HK2.out (by simp))
  have HQ2 := Lib.hid (HQ.out.kept HK2.out (by simp))
  have hbn1 : bn ≠ wr.heap.size := by
    intro h
    have h4 := hrow.2 bn (by simp [fp, Value.ownBlock])
    have := HK1.out.size
    have := HD.out.lt
    omega
  have hbn2 : bn ≠ wr.heap.size + 1 := by
    intro h
    have h4 := hrow.2 bn (by simp [fp, Value.ownBlock])
    have := HR.out.lt
    omega
  have HBN : Hid (bn ∉ fp (.slice B m e0)) := own_own_ne hrow.1 HS2.out.1 (by decide) bn (by simp [fp_some])
  have hbn3 : wr.heap.size ≠ bn := fun h => hbn1 h.symm
  have hbn4 : wr.heap.size + 1 ≠ bn := fun h => hbn2 h.symm
  clear hk2 hrow hcn hdc hdf hdl hrc hrf hrl
  have HO : Hid (∀ W, Kept [] w2 W → W.ownsRow 0 49 3 (.slice B m e0) m (starts.flatMap stL)) := fun W hk => (HS2.out.kept hk (by simp)).1
  go_wp2_with fail
  refine wp_region_held_drew (S := fun w' => w'.cell? ⟨bn, on, none⟩ = some (.int .u64 x0) ∧ w'.cell? ⟨bn, on + 1, none⟩ = some (.int .u64 x1) ∧ w'.cell? ⟨bn, on + 2, none⟩ = some (.int .u64 x2)) (by kernel_rfl) ⟨hcx0, hcx1, hcx2⟩ (fun hHeld => ?_)
  (refine rtake_0 (v := ?_) (by kernel_rfl) (by kernel_rfl) (by kernel_rfl) (fun _ _ _ h => h) (Or.inl ⟨by rfl, ?_⟩) (by assumption) ?_; rotate_left; focus ((intro w hSw; (try dsimp only at hSw); go_simp); try (with_reducible rfl)); (try simp only [Act.put, List.setIfInBounds_toArray, List.set_cons_zero, List.set_cons_succ]))
  skip
  (refine rtake_2 (v := ?_) (by kernel_rfl) (by kernel_rfl) (by kernel_rfl) (fun _ _ _ h => h) (Or.inl ⟨by rfl, ?_⟩) (by assumption) ?_; rotate_left; focus ((intro w hSw; (try dsimp only at hSw); go_simp); try (with_reducible rfl)); (try simp only [Act.put, List.setIfInBounds_toArray, List.set_cons_zero, List.set_cons_succ]))
  (try simp only [Act.put, List.setIfInBounds_toArray, List.set_cons_zero, List.set_cons_succ])
  (refine rtake_3 (v := ?_) (by kernel_rfl) (by kernel_rfl) (by kernel_rfl) (fun _ _ _ h => h) (Or.inl ⟨by rfl, ?_⟩) (by assumption) ?_; rotate_left; focus ((intro w hSw; (try dsimp only at hSw); go_simp); try (with_reducible rfl)); (try simp only [Act.put, List.setIfInBounds_toArray, List.set_cons_zero, List.set_cons_succ]))
  (try simp only [Act.put, List.setIfInBounds_toArray, List.set_cons_zero, List.set_cons_succ])
  (refine rtake_4 (v := ?_) (by kernel_rfl) (by kernel_rfl) (by kernel_rfl) (fun _ _ _ h => h) (Or.inl ⟨by rfl, ?_⟩) (by assumption) ?_; rotate_left; focus ((intro w hSw; (try dsimp only at hSw); go_simp); try (with_reducible rfl)); (try simp only [Act.put, List.setIfInBounds_toArray, List.set_cons_zero, List.set_cons_succ]))
  (try simp only [Act.put, List.setIfInBounds_toArray, List.set_cons_zero, List.set_cons_succ])
  (refine rtake_6 (v := ?_) (by kernel_rfl) (by kernel_rfl) (by kernel_rfl) (fun _ _ _ h => h) (Or.inl ⟨by rfl, ?_⟩) (by assumption) ?_; rotate_left; focus ((intro w hSw; (try dsimp only at hSw); go_simp); try (with_reducible rfl)); (try simp only [Act.put, List.setIfInBounds_toArray, List.set_cons_zero, List.set_cons_succ]))
  (try simp only [Act.put, List.setIfInBounds_toArray, List.set_cons_zero, List.set_cons_succ])
  (refine rtake_7 (v := ?_) (by kernel_rfl) (by kernel_rfl) (by kernel_rfl) (fun _ _ _ h => h) (Or.inl ⟨by rfl, ?_⟩) (by assumption) ?_; rotate_left; focus ((intro w hSw; (try dsimp only at hSw); go_simp); try (with_reducible rfl)); (try simp only [Act.put, List.setIfInBounds_toArray, List.set_cons_zero, List.set_cons_succ]))
  (try simp only [Act.put, List.setIfInBounds_toArray, List.set_cons_zero, List.set_cons_succ])
  (refine rtake_8 (v := ?_) (by kernel_rfl) (by kernel_rfl) (by kernel_rfl) (fun _ _ _ h => h) (Or.inl ⟨by rfl, ?_⟩) (by assumption) ?_; rotate_left; focus ((intro w hSw; (try dsimp only at hSw); go_simp); try (with_reducible rfl)); (try simp only [Act.put, List.setIfInBounds_toArray, List.set_cons_zero, List.set_cons_succ]))
  (try simp only [Act.put, List.setIfInBounds_toArray, List.set_cons_zero, List.set_cons_succ])
  (refine rtake_10 (v := ?_) (by kernel_rfl) (by kernel_rfl) (by kernel_rfl) (fun _ _ _ h => h) (Or.inl ⟨by rfl, ?_⟩) (by assumption) ?_; rotate_left; focus ((intro w hSw; (try dsimp only at hSw); go_simp); try (with_reducible rfl)); (try simp only [Act.put, List.setIfInBounds_toArray, List.set_cons_zero, List.set_cons_succ]))
  (try simp only [Act.put, List.setIfInBounds_toArray, List.set_cons_zero, List.set_cons_succ])
  (refine rtake_11 (v := ?_) (by kernel_rfl) (by kernel_rfl) (by kernel_rfl) (fun _ _ _ h => h) (Or.inl ⟨by rfl, ?_⟩) (by assumption) ?_; rotate_left; focus ((intro w hSw; (try dsimp only at hSw); go_simp); try (with_reducible rfl)); (try simp only [Act.put, List.setIfInBounds_toArray, List.set_cons_zero, List.set_cons_succ]))
  (try simp only [Act.put, List.setIfInBounds_toArray, List.set_cons_zero, List.set_cons_succ])
  (refine rtake_12 (v := ?_) (by kernel_rfl) (by kernel_rfl) (by kernel_rfl) (fun _ _ _ h => h) (Or.inl ⟨by rfl, ?_⟩) (by assumption) ?_; rotate_left; focus ((intro w hSw; (try dsimp only at hSw); go_simp); try (with_reducible rfl)); (try simp only [Act.put, List.setIfInBounds_toArray, List.set_cons_zero, List.set_cons_succ]))
  (try simp only [Act.put, List.setIfInBounds_toArray, List.set_cons_zero, List.set_cons_succ])
  (refine wpAnyH_ready (rs := [1, 5]) (by kernel_rfl) (by simp) ?_; refine rcons_1 (fun K hK => ?_) (rcons_5 (fun K hK => ?_) (AllReadyH.nil)))
  · go_simp
    refine hK.out _ _ ⟨by first | exact hHeld.1 | exact (show Kept [] w2 _ by (repeat (first | (with_reducible exact Kept.refl _ _) | (with_reducible assumption) | (with_reducible refine Kept.alloc ?_ _) | (with_reducible refine Kept.drew ?_) | (with_reducible refine Kept.drewN ?_ _) | (with_reducible refine Kept.setCell ?_ ?_ _) | (exact .inr (Nat.le_refl _)) | (exact .inr (by simp only; omega)) | (exact .inr (by omega))))).cell_some hcx0 (by simp), by first | exact hHeld.2.1 | exact (show Kept [] w2 _ by (repeat (first | (with_reducible exact Kept.refl _ _) | (with_reducible assumption) | (with_reducible refine Kept.alloc ?_ _) | (with_reducible refine Kept.drew ?_) | (with_reducible refine Kept.drewN ?_ _) | (with_reducible refine Kept.setCell ?_ ?_ _) | (exact .inr (Nat.le_refl _)) | (exact .inr (by simp only; omega)) | (exact .inr (by omega))))).cell_some hcx1 (by simp), by first | exact hHeld.2.2 | exact (show Kept [] w2 _ by (repeat (first | (with_reducible exact Kept.refl _ _) | (with_reducible assumption) | (with_reducible refine Kept.alloc ?_ _) | (with_reducible refine Kept.drew ?_) | (with_reducible refine Kept.drewN ?_ _) | (with_reducible refine Kept.setCell ?_ ?_ _) | (exact .inr (Nat.le_refl _)) | (exact .inr (by simp only; omega)) | (exact .inr (by omega))))).cell_some hcx2 (by simp)⟩ (fun hHeld => ?_)
    clear hK K
    (try simp only [Act.put, List.setIfInBounds_toArray, List.set_cons_zero, List.set_cons_succ])
    (refine wpAnyH_ready (rs := [5]) (by kernel_rfl) (by simp) ?_; refine rcons_5 (fun K hK => ?_) (AllReadyH.nil))
    go_simp
    (with_reducible refine (H0.out _).mono ?_)
    rintro e w4 ⟨rfl, rfl⟩
    (try go_simp)
    refine hK.out _ _ ⟨by first | exact hHeld.1 | exact (show Kept [] w2 _ by (repeat (first | (with_reducible exact Kept.refl _ _) | (with_reducible assumption) | (with_reducible refine Kept.alloc ?_ _) | (with_reducible refine Kept.drew ?_) | (with_reducible refine Kept.drewN ?_ _) | (with_reducible refine Kept.setCell ?_ ?_ _) | (exact .inr (Nat.le_refl _)) | (exact .inr (by simp only; omega)) | (exact .inr (by omega))))).cell_some hcx0 (by simp), by first | exact hHeld.2.1 | exact (show Kept [] w2 _ by (repeat (first | (with_reducible exact Kept.refl _ _) | (with_reducible assumption) | (with_reducible refine Kept.alloc ?_ _) | (with_reducible refine Kept.drew ?_) | (with_reducible refine Kept.drewN ?_ _) | (with_reducible refine Kept.setCell ?_ ?_ _) | (exact .inr (Nat.le_refl _)) | (exact .inr (by simp only; omega)) | (exact .inr (by omega))))).cell_some hcx1 (by simp), by first | exact hHeld.2.2 | exact (show Kept [] w2 _ by (repeat (first | (with_reducible exact Kept.refl _ _) | (with_reducible assumption) | (with_reducible refine Kept.alloc ?_ _) | (with_reducible refine Kept.drew ?_) | (with_reducible refine Kept.drewN ?_ _) | (with_reducible refine Kept.setCell ?_ ?_ _) | (exact .inr (Nat.le_refl _)) | (exact .inr (by simp only; omega)) | (exact .inr (by omega))))).cell_some hcx2 (by simp)⟩ (fun hHeld => ?_)
    clear hK K
    (try simp only [Act.put, List.setIfInBounds_toArray, List.set_cons_zero, List.set_cons_succ])
    (refine wpAnyH_ready (rs := [9]) (by kernel_rfl) (by simp) ?_; refine rcons_9 (fun K hK => ?_) (AllReadyH.nil))
    go_simp
    (with_reducible refine (H1.out _).mono ?_)
    rintro e w4 ⟨rfl, rfl⟩
    (try go_simp)
    refine hK.out _ _ ⟨by first | exact hHeld.1 | exact (show Kept [] w2 _ by (repeat (first | (with_reducible exact Kept.refl _ _) | (with_reducible assumption) | (with_reducible refine Kept.alloc ?_ _) | (with_reducible refine Kept.drew ?_) | (with_reducible refine Kept.drewN ?_ _) | (with_reducible refine Kept.setCell ?_ ?_ _) | (exact .inr (Nat.le_refl _)) | (exact .inr (by simp only; omega)) | (exact .inr (by omega))))).cell_some hcx0 (by simp), by first | exact hHeld.2.1 | exact (show Kept [] w2 _ by (repeat (first | (with_reducible exact Kept.refl _ _) | (with_reducible assumption) | (with_reducible refine Kept.alloc ?_ _) | (with_reducible refine Kept.drew ?_) | (with_reducible refine Kept.drewN ?_ _) | (with_reducible refine Kept.setCell ?_ ?_ _) | (exact .inr (Nat.le_refl _)) | (exact .inr (by simp only; omega)) | (exact .inr (by omega))))).cell_some hcx1 (by simp), by first | exact hHeld.2.2 | exact (show Kept [] w2 _ by (repeat (first | (with_reducible exact Kept.refl _ _) | (with_reducible assumption) | (with_reducible refine Kept.alloc ?_ _) | (with_reducible refine Kept.drew ?_) | (with_reducible refine Kept.drewN ?_ _) | (with_reducible refine Kept.setCell ?_ ?_ _) | (exact .inr (Nat.le_refl _)) | (exact .inr (by simp only; omega)) | (exact .inr (by omega))))).cell_some hcx2 (by simp)⟩ (fun hHeld => ?_)
    clear hK K
    (try simp only [Act.put, List.setIfInBounds_toArray, List.set_cons_zero, List.set_cons_succ])
    (refine rtake_13 (v := ?_) (by kernel_rfl) (by kernel_rfl) (by kernel_rfl) (fun _ _ _ h => h) (Or.inl ⟨by rfl, ?_⟩) (by assumption) ?_; rotate_left; focus ((intro w hSw; (try dsimp only at hSw); go_simp); try (with_reducible rfl)); (try simp only [Act.put, List.setIfInBounds_toArray, List.set_cons_zero, List.set_cons_succ]))
    (try simp only [Act.put, List.setIfInBounds_toArray, List.set_cons_zero, List.set_cons_succ])
    (refine wpAnyH_ready (rs := [14]) (by kernel_rfl) (by simp) ?_; refine rcons_14 (fun K hK => ?_) (AllReadyH.nil))
    go_simp
    refine hK.out _ _ ⟨by first | exact hHeld.1 | exact (show Kept [] w2 _ by (repeat (first | (with_reducible exact Kept.refl _ _) | (with_reducible assumption) | (with_reducible refine Kept.alloc ?_ _) | (with_reducible refine Kept.drew ?_) | (with_reducible refine Kept.drewN ?_ _) | (with_reducible refine Kept.setCell ?_ ?_ _) | (exact .inr (Nat.le_refl _)) | (exact .inr (by simp only; omega)) | (exact .inr (by omega))))).cell_some hcx0 (by simp), by first | exact hHeld.2.1 | exact (show Kept [] w2 _ by (repeat (first | (with_reducible exact Kept.refl _ _) | (with_reducible assumption) | (with_reducible refine Kept.alloc ?_ _) | (with_reducible refine Kept.drew ?_) | (with_reducible refine Kept.drewN ?_ _) | (with_reducible refine Kept.setCell ?_ ?_ _) | (exact .inr (Nat.le_refl _)) | (exact .inr (by simp only; omega)) | (exact .inr (by omega))))).cell_some hcx1 (by simp), by first | exact hHeld.2.2 | exact (show Kept [] w2 _ by (repeat (first | (with_reducible exact Kept.refl _ _) | (with_reducible assumption) | (with_reducible refine Kept.alloc ?_ _) | (with_reducible refine Kept.drew ?_) | (with_reducible refine Kept.drewN ?_ _) | (with_reducible refine Kept.setCell ?_ ?_ _) | (exact .inr (Nat.le_refl _)) | (exact .inr (by simp only; omega)) | (exact .inr (by omega))))).cell_some hcx2 (by simp)⟩ (fun hHeld => ?_)
    clear hK K
    (try simp only [Act.put, List.setIfInBounds_toArray, List.set_cons_zero, List.set_cons_succ])
    (refine wpAnyH_ready (rs := [15]) (by kernel_rfl) (by simp) ?_; refine rcons_15 (fun K hK => ?_) (AllReadyH.nil))
    refine step_append_any _ rfl (.tmp 92) (.tmp 105) 25 rfl 49 (.agg #[.int .i64 0, .int .i64 0, .int .u64 0]) 3 24 Tryz.underlying25 Tryz.info49 rfl (by decide) (.slice B m e0) m (starts.flatMap stL) (by simp [Act.eval, Act.put]) (HO.out _ (by (repeat (first | (with_reducible exact Kept.refl _ _) | (with_reducible assumption) | (with_reducible refine Kept.alloc ?_ _) | (with_reducible refine Kept.drew ?_) | (with_reducible refine Kept.drewN ?_ _) | (with_reducible refine Kept.setCell ?_ ?_ _) | (exact .inr (Nat.le_refl _)) | (exact .inr (by simp only; omega)) | (exact .inr (by omega)))))) _ 1 1 (stL ⟨y0, y1, x2⟩) (by simp [Act.eval, Act.put]) (reads_st _ _ ⟨y0, y1, x2⟩) (stL_one _) (by simp only [maxLen]; omega) (by omega) ?_
    rintro A3 c3 w5 happ
    have HA := Lib.hid happ
    have HD5 := Lib.hid (blk_apart (HD3.out.kept (show Kept [] w2 _ by (repeat (first | (with_reducible exact Kept.refl _ _) | (with_reducible assumption) | (with_reducible refine Kept.alloc ?_ _) | (with_reducible refine Kept.drew ?_) | (with_reducible refine Kept.drewN ?_ _) | (with_reducible refine Kept.setCell ?_ ?_ _) | (exact .inr (Nat.le_refl _)) | (exact .inr (by simp only; omega)) | (exact .inr (by omega))))) (by simp)) (HO.out _ (show Kept [] w2 _ by (repeat (first | (with_reducible exact Kept.refl _ _) | (with_reducible assumption) | (with_reducible refine Kept.alloc ?_ _) | (with_reducible refine Kept.drew ?_) | (with_reducible refine Kept.drewN ?_ _) | (with_reducible refine Kept.setCell ?_ ?_ _) | (exact .inr (Nat.le_refl _)) | (exact .inr (by simp only; omega)) | (exact .inr (by omega)))))) happ.2.1 (by decide))
    have HR5 := Lib.hid (blk_apart (HR3.out.kept (show Kept [] w2 _ by (repeat (first | (with_reducible exact Kept.refl _ _) | (with_reducible assumption) | (with_reducible refine Kept.alloc ?_ _) | (with_reducible refine Kept.drew ?_) | (with_reducible refine Kept.drewN ?_ _) | (with_reducible refine Kept.setCell ?_ ?_ _) | (exact .inr (Nat.le_refl _)) | (exact .inr (by simp only; omega)) | (exact .inr (by omega))))) (by simp)) (HO.out _ (show Kept [] w2 _ by (repeat (first | (with_reducible exact Kept.refl _ _) | (with_reducible assumption) | (with_reducible refine Kept.alloc ?_ _) | (with_reducible refine Kept.drew ?_) | (with_reducible refine Kept.drewN ?_ _) | (with_reducible refine Kept.setCell ?_ ?_ _) | (exact .inr (Nat.le_refl _)) | (exact .inr (by simp only; omega)) | (exact .inr (by omega)))))) happ.2.1 (by decide))
    have hk5 : Kept (fp (.slice B m e0)) w2 w5 := Kept.trans' (Kept.mono (show Kept [] w2 _ by (repeat (first | (with_reducible exact Kept.refl _ _) | (with_reducible assumption) | (with_reducible refine Kept.alloc ?_ _) | (with_reducible refine Kept.drew ?_) | (with_reducible refine Kept.drewN ?_ _) | (with_reducible refine Kept.setCell ?_ ?_ _) | (exact .inr (Nat.le_refl _)) | (exact .inr (by simp only; omega)) | (exact .inr (by omega))))) (by simp)) happ.2.1 (fun q hq => .inl hq)
    have hd85 : w5.cell? ⟨wr.heap.size, 8, none⟩ = some (.slice B m e0) := HD5.out.cell 8
    have hdf5 := HD5.out.frozen
    have hdl5 := HD5.out.lt
    clear happ
    refine hK.out _ _ ⟨hk5.cell_some hcx0 HBN.out, hk5.cell_some hcx1 HBN.out, hk5.cell_some hcx2 HBN.out⟩ (fun hHeld => ?_)
    clear hK K
    (try simp only [Act.put, List.setIfInBounds_toArray, List.set_cons_zero, List.set_cons_succ])
    (refine rtake_16 (v := ?_) (by kernel_rfl) (by kernel_rfl) (by kernel_rfl) (fun _ _ _ h => h) (Or.inl ⟨by rfl, ?_⟩) (by assumption) ?_; rotate_left; focus ((intro w hSw; (try dsimp only at hSw); go_simp); try (with_reducible rfl)); (try simp only [Act.put, List.setIfInBounds_toArray, List.set_cons_zero, List.set_cons_succ]))
    (refine wpAnyH_ready (rs := [17]) (by kernel_rfl) (by simp) ?_; refine rcons_17 (fun K hK => ?_) (AllReadyH.nil))
    go_simp
    refine hK.out _ _ ⟨((hk5.mono (G' := wr.heap.size :: fp (.slice B m e0)) (fun k hk => by simp [hk])).setCell (p := ⟨wr.heap.size, 8, none⟩) (.inl (by simp)) _).cell_some hcx0 (by simp [hbn1, HBN.out]), ((hk5.mono (G' := wr.heap.size :: fp (.slice B m e0)) (fun k hk => by simp [hk])).setCell (p := ⟨wr.heap.size, 8, none⟩) (.inl (by simp)) _).cell_some hcx1 (by simp [hbn1, HBN.out]), ((hk5.mono (G' := wr.heap.size :: fp (.slice B m e0)) (fun k hk => by simp [hk])).setCell (p := ⟨wr.heap.size, 8, none⟩) (.inl (by simp)) _).cell_some hcx2 (by simp [hbn1, HBN.out])⟩ (fun hHeld => ?_)
    clear hK K
    refine wpAnyH_done (by kernel_rfl) ?_ _
    have hs5 : RowS w0 w5 (starts ++ [⟨y0, y1, x2⟩]) A3 (m + 1) c3 := RowS.append ⟨HO.out _ (show Kept [] w2 _ by (repeat (first | (with_reducible exact Kept.refl _ _) | (with_reducible assumption) | (with_reducible refine Kept.alloc ?_ _) | (with_reducible refine Kept.drew ?_) | (with_reducible refine Kept.drewN ?_ _) | (with_reducible refine Kept.setCell ?_ ?_ _) | (exact .inr (Nat.le_refl _)) | (exact .inr (by simp only; omega)) | (exact .inr (by omega))))), HS.out.2⟩ (HK.out.trans (HK2.out.trans (show Kept [] w2 _ by (repeat (first | (with_reducible exact Kept.refl _ _) | (with_reducible assumption) | (with_reducible refine Kept.alloc ?_ _) | (with_reducible refine Kept.drew ?_) | (with_reducible refine Kept.drewN ?_ _) | (with_reducible refine Kept.setCell ?_ ?_ _) | (exact .inr (Nat.le_refl _)) | (exact .inr (by simp only; omega)) | (exact .inr (by omega))))))).size HA.out
    have hq5 : RowPQ w0 w5 progs A n c := (HQ2.out.kept (show Kept [] w2 _ by (repeat (first | (with_reducible exact Kept.refl _ _) | (with_reducible assumption) | (with_reducible refine Kept.alloc ?_ _) | (with_reducible refine Kept.drew ?_) | (with_reducible refine Kept.drewN ?_ _) | (with_reducible refine Kept.setCell ?_ ?_ _) | (exact .inr (Nat.le_refl _)) | (exact .inr (by simp only; omega)) | (exact .inr (by omega))))) (by simp)).apart (HO.out _ (show Kept [] w2 _ by (repeat (first | (with_reducible exact Kept.refl _ _) | (with_reducible assumption) | (with_reducible refine Kept.alloc ?_ _) | (with_reducible refine Kept.drew ?_) | (with_reducible refine Kept.drewN ?_ _) | (with_reducible refine Kept.setCell ?_ ?_ _) | (exact .inr (Nat.le_refl _)) | (exact .inr (by simp only; omega)) | (exact .inr (by omega)))))) HA.out.2.1 (by decide) (by decide)
    have hk6 : Kept [] w0 w5 := (HK.out.trans (HK2.out.trans (show Kept [] w2 _ by (repeat (first | (with_reducible exact Kept.refl _ _) | (with_reducible assumption) | (with_reducible refine Kept.alloc ?_ _) | (with_reducible refine Kept.drew ?_) | (with_reducible refine Kept.drewN ?_ _) | (with_reducible refine Kept.setCell ?_ ?_ _) | (exact .inr (Nat.le_refl _)) | (exact .inr (by simp only; omega)) | (exact .inr (by omega))))))).trans' HA.out.2.1 (fun q hq => .inr (HS.out.2 q hq))
    have hset : Kept [wr.heap.size] w5 (w5.setCell ⟨wr.heap.size, 8, none⟩ (.slice A3 (m + 1) c3)) := (Kept.refl [wr.heap.size] w5).setCell (.inl (by simp)) _
    have HQ6 := Lib.hid (hq5.block HD5.out hset (by decide) (by decide))
    have HS6 := Lib.hid (hs5.block HD5.out hset (by decide))
    have HK6 := Lib.hid (hk6.setCell (p := ⟨wr.heap.size, 8, none⟩) (.inr HK.out.size) (.slice A3 (m + 1) c3))
    have HD6 : Hid (Blk (w5.setCell ⟨wr.heap.size, 8, none⟩ (.slice A3 (m + 1) c3)) wr.heap.size 27 #[.int .i64 cpus, .int .i64 threads, .int .i64 locks, .int .i64 cap, .int .u64 (boost : Int), .float .f64 keep, .float .f64 ratio, .slice A n c, .slice A3 (m + 1) c3]) := by
      have h := HD5.out.set 8 (.slice A3 (m + 1) c3)
      simpa only [Hid, List.setIfInBounds_toArray, List.set_cons_zero, List.set_cons_succ] using h
    have HR6 := Lib.hid (HR5.out.far (p := ⟨wr.heap.size, 8, none⟩) (by simp) (.slice A3 (m + 1) c3))
    have HBK6 : Hid (∀ g cs, Blk wr g 27 cs → Blk (w5.setCell ⟨wr.heap.size, 8, none⟩ (.slice A3 (m + 1) c3)) g 27 cs) := fun g cs h => (blk_apart (h.kept (HK2.out.trans (show Kept [] w2 _ by (repeat (first | (with_reducible exact Kept.refl _ _) | (with_reducible assumption) | (with_reducible refine Kept.alloc ?_ _) | (with_reducible refine Kept.drew ?_) | (with_reducible refine Kept.drewN ?_ _) | (with_reducible refine Kept.setCell ?_ ?_ _) | (exact .inr (Nat.le_refl _)) | (exact .inr (by simp only; omega)) | (exact .inr (by omega)))))) (by simp)) (HO.out _ (show Kept [] w2 _ by (repeat (first | (with_reducible exact Kept.refl _ _) | (with_reducible assumption) | (with_reducible refine Kept.alloc ?_ _) | (with_reducible refine Kept.drew ?_) | (with_reducible refine Kept.drewN ?_ _) | (with_reducible refine Kept.setCell ?_ ?_ _) | (exact .inr (Nat.le_refl _)) | (exact .inr (by simp only; omega)) | (exact .inr (by omega)))))) HA.out.2.1 (by decide)).far (by have := h.lt; simp only; omega) _
    have hdc6 := HD6.out.cell
    have hdf6 := HD6.out.frozen
    have hdl6 := HD6.out.lt
    have hrc6 := HR6.out.cell
    have hrf6 := HR6.out.frozen
    have hrl6 := HR6.out.lt
    clear hq5 hs5 hk6 hset hHeld hd85 hdf5 hdl5 hdc2 hdf2 hdl2 hrc2 hrf2 hrl2 hk5
    generalize w5.setCell ⟨wr.heap.size, 8, none⟩ (.slice A3 (m + 1) c3) = w6 at *
    go_wp2_with fail
    have hF := (put9_blk HR6.out (.int .i64 cpus) (.int .i64 threads) (.int .i64 locks) (.int .i64 cap) (.int .u64 (boost : Int)) (.float .f64 keep) (.float .f64 ratio) (.slice A n c) (.slice A3 (m + 1) c3)).cell
    refine bodyPost_ret (v := .tuple #[.agg #[.int .i64 cpus, .int .i64 threads, .int .i64 locks, .int .i64 cap, .int .u64 (boost : Int), .float .f64 keep, .float .f64 ratio, .slice A n c, .slice A3 (m + 1) c3], .int .i64 0]) (by simp [results, Tryz.results15, go_sem, hF]) rfl ?_
    have hk9 := put9_keeps (w := w6) (g := wr.heap.size + 1) (.int .i64 cpus) (.int .i64 threads) (.int .i64 locks) (.int .i64 cap) (.int .u64 (boost : Int)) (.float .f64 keep) (.float .f64 ratio) (.slice A n c) (.slice A3 (m + 1) c3)
    have hkk := put9_kept (g := wr.heap.size + 1) HK6.out (by have := HK.out.size; omega) (.int .i64 cpus) (.int .i64 threads) (.int .i64 locks) (.int .i64 cap) (.int .u64 (boost : Int)) (.float .f64 keep) (.float .f64 ratio) (.slice A n c) (.slice A3 (m + 1) c3)
    exact ⟨A, n, c, A3, m + 1, c3, rfl, HQ6.out.block HR6.out hk9 (by decide) (by decide), HS6.out.block HR6.out hk9 (by decide), hkk, fun g cs h => (HBK6.out g cs h).kept hk9 (by have := h.lt; simp; omega)⟩
  · go_simp
    (with_reducible refine (H0.out _).mono ?_)
    rintro e w4 ⟨rfl, rfl⟩
    (try go_simp)
    refine hK.out _ _ ⟨by first | exact hHeld.1 | exact (show Kept [] w2 _ by (repeat (first | (with_reducible exact Kept.refl _ _) | (with_reducible assumption) | (with_reducible refine Kept.alloc ?_ _) | (with_reducible refine Kept.drew ?_) | (with_reducible refine Kept.drewN ?_ _) | (with_reducible refine Kept.setCell ?_ ?_ _) | (exact .inr (Nat.le_refl _)) | (exact .inr (by simp only; omega)) | (exact .inr (by omega))))).cell_some hcx0 (by simp), by first | exact hHeld.2.1 | exact (show Kept [] w2 _ by (repeat (first | (with_reducible exact Kept.refl _ _) | (with_reducible assumption) | (with_reducible refine Kept.alloc ?_ _) | (with_reducible refine Kept.drew ?_) | (with_reducible refine Kept.drewN ?_ _) | (with_reducible refine Kept.setCell ?_ ?_ _) | (exact .inr (Nat.le_refl _)) | (exact .inr (by simp only; omega)) | (exact .inr (by omega))))).cell_some hcx1 (by simp), by first | exact hHeld.2.2 | exact (show Kept [] w2 _ by (repeat (first | (with_reducible exact Kept.refl _ _) | (with_reducible assumption) | (with_reducible refine Kept.alloc ?_ _) | (with_reducible refine Kept.drew ?_) | (with_reducible refine Kept.drewN ?_ _) | (with_reducible refine Kept.setCell ?_ ?_ _) | (exact .inr (Nat.le_refl _)) | (exact .inr (by simp only; omega)) | (exact .inr (by omega))))).cell_some hcx2 (by simp)⟩ (fun hHeld => ?_)
    clear hK K
    (try simp only [Act.put, List.setIfInBounds_toArray, List.set_cons_zero, List.set_cons_succ])
    (refine wpAnyH_ready (rs := [1, 9]) (by kernel_rfl) (by simp) ?_; refine rcons_1 (fun K hK => ?_) (rcons_9 (fun K hK => ?_) (AllReadyH.nil)))
    · go_simp
      refine hK.out _ _ ⟨by first | exact hHeld.1 | exact (show Kept [] w2 _ by (repeat (first | (with_reducible exact Kept.refl _ _) | (with_reducible assumption) | (with_reducible refine Kept.alloc ?_ _) | (with_reducible refine Kept.drew ?_) | (with_reducible refine Kept.drewN ?_ _) | (with_reducible refine Kept.setCell ?_ ?_ _) | (exact .inr (Nat.le_refl _)) | (exact .inr (by simp only; omega)) | (exact .inr (by omega))))).cell_some hcx0 (by simp), by first | exact hHeld.2.1 | exact (show Kept [] w2 _ by (repeat (first | (with_reducible exact Kept.refl _ _) | (with_reducible assumption) | (with_reducible refine Kept.alloc ?_ _) | (with_reducible refine Kept.drew ?_) | (with_reducible refine Kept.drewN ?_ _) | (with_reducible refine Kept.setCell ?_ ?_ _) | (exact .inr (Nat.le_refl _)) | (exact .inr (by simp only; omega)) | (exact .inr (by omega))))).cell_some hcx1 (by simp), by first | exact hHeld.2.2 | exact (show Kept [] w2 _ by (repeat (first | (with_reducible exact Kept.refl _ _) | (with_reducible assumption) | (with_reducible refine Kept.alloc ?_ _) | (with_reducible refine Kept.drew ?_) | (with_reducible refine Kept.drewN ?_ _) | (with_reducible refine Kept.setCell ?_ ?_ _) | (exact .inr (Nat.le_refl _)) | (exact .inr (by simp only; omega)) | (exact .inr (by omega))))).cell_some hcx2 (by simp)⟩ (fun hHeld => ?_)
      clear hK K
      (try simp only [Act.put, List.setIfInBounds_toArray, List.set_cons_zero, List.set_cons_succ])
      (refine wpAnyH_ready (rs := [9]) (by kernel_rfl) (by simp) ?_; refine rcons_9 (fun K hK => ?_) (AllReadyH.nil))
      go_simp
      (with_reducible refine (H1.out _).mono ?_)
      rintro e w4 ⟨rfl, rfl⟩
      (try go_simp)
      refine hK.out _ _ ⟨by first | exact hHeld.1 | exact (show Kept [] w2 _ by (repeat (first | (with_reducible exact Kept.refl _ _) | (with_reducible assumption) | (with_reducible refine Kept.alloc ?_ _) | (with_reducible refine Kept.drew ?_) | (with_reducible refine Kept.drewN ?_ _) | (with_reducible refine Kept.setCell ?_ ?_ _) | (exact .inr (Nat.le_refl _)) | (exact .inr (by simp only; omega)) | (exact .inr (by omega))))).cell_some hcx0 (by simp), by first | exact hHeld.2.1 | exact (show Kept [] w2 _ by (repeat (first | (with_reducible exact Kept.refl _ _) | (with_reducible assumption) | (with_reducible refine Kept.alloc ?_ _) | (with_reducible refine Kept.drew ?_) | (with_reducible refine Kept.drewN ?_ _) | (with_reducible refine Kept.setCell ?_ ?_ _) | (exact .inr (Nat.le_refl _)) | (exact .inr (by simp only; omega)) | (exact .inr (by omega))))).cell_some hcx1 (by simp), by first | exact hHeld.2.2 | exact (show Kept [] w2 _ by (repeat (first | (with_reducible exact Kept.refl _ _) | (with_reducible assumption) | (with_reducible refine Kept.alloc ?_ _) | (with_reducible refine Kept.drew ?_) | (with_reducible refine Kept.drewN ?_ _) | (with_reducible refine Kept.setCell ?_ ?_ _) | (exact .inr (Nat.le_refl _)) | (exact .inr (by simp only; omega)) | (exact .inr (by omega))))).cell_some hcx2 (by simp)⟩ (fun hHeld => ?_)
      clear hK K
      (try simp only [Act.put, List.setIfInBounds_toArray, List.set_cons_zero, List.set_cons_succ])
      (refine rtake_13 (v := ?_) (by kernel_rfl) (by kernel_rfl) (by kernel_rfl) (fun _ _ _ h => h) (Or.inl ⟨by rfl, ?_⟩) (by assumption) ?_; rotate_left; focus ((intro w hSw; (try dsimp only at hSw); go_simp); try (with_reducible rfl)); (try simp only [Act.put, List.setIfInBounds_toArray, List.set_cons_zero, List.set_cons_succ]))
      (try simp only [Act.put, List.setIfInBounds_toArray, List.set_cons_zero, List.set_cons_succ])
      (refine wpAnyH_ready (rs := [14]) (by kernel_rfl) (by simp) ?_; refine rcons_14 (fun K hK => ?_) (AllReadyH.nil))
      go_simp
      refine hK.out _ _ ⟨by first | exact hHeld.1 | exact (show Kept [] w2 _ by (repeat (first | (with_reducible exact Kept.refl _ _) | (with_reducible assumption) | (with_reducible refine Kept.alloc ?_ _) | (with_reducible refine Kept.drew ?_) | (with_reducible refine Kept.drewN ?_ _) | (with_reducible refine Kept.setCell ?_ ?_ _) | (exact .inr (Nat.le_refl _)) | (exact .inr (by simp only; omega)) | (exact .inr (by omega))))).cell_some hcx0 (by simp), by first | exact hHeld.2.1 | exact (show Kept [] w2 _ by (repeat (first | (with_reducible exact Kept.refl _ _) | (with_reducible assumption) | (with_reducible refine Kept.alloc ?_ _) | (with_reducible refine Kept.drew ?_) | (with_reducible refine Kept.drewN ?_ _) | (with_reducible refine Kept.setCell ?_ ?_ _) | (exact .inr (Nat.le_refl _)) | (exact .inr (by simp only; omega)) | (exact .inr (by omega))))).cell_some hcx1 (by simp), by first | exact hHeld.2.2 | exact (show Kept [] w2 _ by (repeat (first | (with_reducible exact Kept.refl _ _) | (with_reducible assumption) | (with_reducible refine Kept.alloc ?_ _) | (with_reducible refine Kept.drew ?_) | (with_reducible refine Kept.drewN ?_ _) | (with_reducible refine Kept.setCell ?_ ?_ _) | (exact .inr (Nat.le_refl _)) | (exact .inr (by simp only; omega)) | (exact .inr (by omega))))).cell_some hcx2 (by simp)⟩ (fun hHeld => ?_)
      clear hK K
      (try simp only [Act.put, List.setIfInBounds_toArray, List.set_cons_zero, List.set_cons_succ])
      (refine wpAnyH_ready (rs := [15]) (by kernel_rfl) (by simp) ?_; refine rcons_15 (fun K hK => ?_) (AllReadyH.nil))
      refine step_append_any _ rfl (.tmp 92) (.tmp 105) 25 rfl 49 (.agg #[.int .i64 0, .int .i64 0, .int .u64 0]) 3 24 Tryz.underlying25 Tryz.info49 rfl (by decide) (.slice B m e0) m (starts.flatMap stL) (by simp [Act.eval, Act.put]) (HO.out _ (by (repeat (first | (with_reducible exact Kept.refl _ _) | (with_reducible assumption) | (with_reducible refine Kept.alloc ?_ _) | (with_reducible refine Kept.drew ?_) | (with_reducible refine Kept.drewN ?_ _) | (with_reducible refine Kept.setCell ?_ ?_ _) | (exact .inr (Nat.le_refl _)) | (exact .inr (by simp only; omega)) | (exact .inr (by omega)))))) _ 1 1 (stL ⟨y0, y1, x2⟩) (by simp [Act.eval, Act.put]) (reads_st _ _ ⟨y0, y1, x2⟩) (stL_one _) (by simp only [maxLen]; omega) (by omega) ?_
      rintro A3 c3 w5 happ
      have HA := Lib.hid happ
      have HD5 := Lib.hid (blk_apart (HD3.out.kept (show Kept [] w2 _ by (repeat (first | (with_reducible exact Kept.refl _ _) | (with_reducible assumption) | (with_reducible refine Kept.alloc ?_ _) | (with_reducible refine Kept.drew ?_) | (with_reducible refine Kept.drewN ?_ _) | (with_reducible refine Kept.setCell ?_ ?_ _) | (exact .inr (Nat.le_refl _)) | (exact .inr (by simp only; omega)) | (exact .inr (by omega))))) (by simp)) (HO.out _ (show Kept [] w2 _ by (repeat (first | (with_reducible exact Kept.refl _ _) | (with_reducible assumption) | (with_reducible refine Kept.alloc ?_ _) | (with_reducible refine Kept.drew ?_) | (with_reducible refine Kept.drewN ?_ _) | (with_reducible refine Kept.setCell ?_ ?_ _) | (exact .inr (Nat.le_refl _)) | (exact .inr (by simp only; omega)) | (exact .inr (by omega)))))) happ.2.1 (by decide))
      have HR5 := Lib.hid (blk_apart (HR3.out.kept (show Kept [] w2 _ by (repeat (first | (with_reducible exact Kept.refl _ _) | (with_reducible assumption) | (with_reducible refine Kept.alloc ?_ _) | (with_reducible refine Kept.drew ?_) | (with_reducible refine Kept.drewN ?_ _) | (with_reducible refine Kept.setCell ?_ ?_ _) | (exact .inr (Nat.le_refl _)) | (exact .inr (by simp only; omega)) | (exact .inr (by omega))))) (by simp)) (HO.out _ (show Kept [] w2 _ by (repeat (first | (with_reducible exact Kept.refl _ _) | (with_reducible assumption) | (with_reducible refine Kept.alloc ?_ _) | (with_reducible refine Kept.drew ?_) | (with_reducible refine Kept.drewN ?_ _) | (with_reducible refine Kept.setCell ?_ ?_ _) | (exact .inr (Nat.le_refl _)) | (exact .inr (by simp only; omega)) | (exact .inr (by omega)))))) happ.2.1 (by decide))
      have hk5 : Kept (fp (.slice B m e0)) w2 w5 := Kept.trans' (Kept.mono (show Kept [] w2 _ by (repeat (first | (with_reducible exact Kept.refl _ _) | (with_reducible assumption) | (with_reducible refine Kept.alloc ?_ _) | (with_reducible refine Kept.drew ?_) | (with_reducible refine Kept.drewN ?_ _) | (with_reducible refine Kept.setCell ?_ ?_ _) | (exact .inr (Nat.le_refl _)) | (exact .inr (by simp only; omega)) | (exact .inr (by omega))))) (by simp)) happ.2.1 (fun q hq => .inl hq)
      have hd85 : w5.cell? ⟨wr.heap.size, 8, none⟩ = some (.slice B m e0) := HD5.out.cell 8
      have hdf5 := HD5.out.frozen
      have hdl5 := HD5.out.lt
      clear happ
      refine hK.out _ _ ⟨hk5.cell_some hcx0 HBN.out, hk5.cell_some hcx1 HBN.out, hk5.cell_some hcx2 HBN.out⟩ (fun hHeld => ?_)
      clear hK K
      (try simp only [Act.put, List.setIfInBounds_toArray, List.set_cons_zero, List.set_cons_succ])
      (refine rtake_16 (v := ?_) (by kernel_rfl) (by kernel_rfl) (by kernel_rfl) (fun _ _ _ h => h) (Or.inl ⟨by rfl, ?_⟩) (by assumption) ?_; rotate_left; focus ((intro w hSw; (try dsimp only at hSw); go_simp); try (with_reducible rfl)); (try simp only [Act.put, List.setIfInBounds_toArray, List.set_cons_zero, List.set_cons_succ]))
      (refine wpAnyH_ready (rs := [17]) (by kernel_rfl) (by simp) ?_; refine rcons_17 (fun K hK => ?_) (AllReadyH.nil))
      go_simp
      refine hK.out _ _ ⟨((hk5.mono (G' := wr.heap.size :: fp (.slice B m e0)) (fun k hk => by simp [hk])).setCell (p := ⟨wr.heap.size, 8, none⟩) (.inl (by simp)) _).cell_some hcx0 (by simp [hbn1, HBN.out]), ((hk5.mono (G' := wr.heap.size :: fp (.slice B m e0)) (fun k hk => by simp [hk])).setCell (p := ⟨wr.heap.size, 8, none⟩) (.inl (by simp)) _).cell_some hcx1 (by simp [hbn1, HBN.out]), ((hk5.mono (G' := wr.heap.size :: fp (.slice B m e0)) (fun k hk => by simp [hk])).setCell (p := ⟨wr.heap.size, 8, none⟩) (.inl (by simp)) _).cell_some hcx2 (by simp [hbn1, HBN.out])⟩ (fun hHeld => ?_)
      clear hK K
      refine wpAnyH_done (by kernel_rfl) ?_ _
      have hs5 : RowS w0 w5 (starts ++ [⟨y0, y1, x2⟩]) A3 (m + 1) c3 := RowS.append ⟨HO.out _ (show Kept [] w2 _ by (repeat (first | (with_reducible exact Kept.refl _ _) | (with_reducible assumption) | (with_reducible refine Kept.alloc ?_ _) | (with_reducible refine Kept.drew ?_) | (with_reducible refine Kept.drewN ?_ _) | (with_reducible refine Kept.setCell ?_ ?_ _) | (exact .inr (Nat.le_refl _)) | (exact .inr (by simp only; omega)) | (exact .inr (by omega))))), HS.out.2⟩ (HK.out.trans (HK2.out.trans (show Kept [] w2 _ by (repeat (first | (with_reducible exact Kept.refl _ _) | (with_reducible assumption) | (with_reducible refine Kept.alloc ?_ _) | (with_reducible refine Kept.drew ?_) | (with_reducible refine Kept.drewN ?_ _) | (with_reducible refine Kept.setCell ?_ ?_ _) | (exact .inr (Nat.le_refl _)) | (exact .inr (by simp only; omega)) | (exact .inr (by omega))))))).size HA.out
      have hq5 : RowPQ w0 w5 progs A n c := (HQ2.out.kept (show Kept [] w2 _ by (repeat (first | (with_reducible exact Kept.refl _ _) | (with_reducible assumption) | (with_reducible refine Kept.alloc ?_ _) | (with_reducible refine Kept.drew ?_) | (with_reducible refine Kept.drewN ?_ _) | (with_reducible refine Kept.setCell ?_ ?_ _) | (exact .inr (Nat.le_refl _)) | (exact .inr (by simp only; omega)) | (exact .inr (by omega))))) (by simp)).apart (HO.out _ (show Kept [] w2 _ by (repeat (first | (with_reducible exact Kept.refl _ _) | (with_reducible assumption) | (with_reducible refine Kept.alloc ?_ _) | (with_reducible refine Kept.drew ?_) | (with_reducible refine Kept.drewN ?_ _) | (with_reducible refine Kept.setCell ?_ ?_ _) | (exact .inr (Nat.le_refl _)) | (exact .inr (by simp only; omega)) | (exact .inr (by omega)))))) HA.out.2.1 (by decide) (by decide)
      have hk6 : Kept [] w0 w5 := (HK.out.trans (HK2.out.trans (show Kept [] w2 _ by (repeat (first | (with_reducible exact Kept.refl _ _) | (with_reducible assumption) | (with_reducible refine Kept.alloc ?_ _) | (with_reducible refine Kept.drew ?_) | (with_reducible refine Kept.drewN ?_ _) | (with_reducible refine Kept.setCell ?_ ?_ _) | (exact .inr (Nat.le_refl _)) | (exact .inr (by simp only; omega)) | (exact .inr (by omega))))))).trans' HA.out.2.1 (fun q hq => .inr (HS.out.2 q hq))
      have hset : Kept [wr.heap.size] w5 (w5.setCell ⟨wr.heap.size, 8, none⟩ (.slice A3 (m + 1) c3)) := (Kept.refl [wr.heap.size] w5).setCell (.inl (by simp)) _
      have HQ6 := Lib.hid (hq5.block HD5.out hset (by decide) (by decide))
      have HS6 := Lib.hid (hs5.block HD5.out hset (by decide))
      have HK6 := Lib.hid (hk6.setCell (p := ⟨wr.heap.size, 8, none⟩) (.inr HK.out.size) (.slice A3 (m + 1) c3))
      have HD6 : Hid (Blk (w5.setCell ⟨wr.heap.size, 8, none⟩ (.slice A3 (m + 1) c3)) wr.heap.size 27 #[.int .i64 cpus, .int .i64 threads, .int .i64 locks, .int .i64 cap, .int .u64 (boost : Int), .float .f64 keep, .float .f64 ratio, .slice A n c, .slice A3 (m + 1) c3]) := by
        have h := HD5.out.set 8 (.slice A3 (m + 1) c3)
        simpa only [Hid, List.setIfInBounds_toArray, List.set_cons_zero, List.set_cons_succ] using h
      have HR6 := Lib.hid (HR5.out.far (p := ⟨wr.heap.size, 8, none⟩) (by simp) (.slice A3 (m + 1) c3))
      have HBK6 : Hid (∀ g cs, Blk wr g 27 cs → Blk (w5.setCell ⟨wr.heap.size, 8, none⟩ (.slice A3 (m + 1) c3)) g 27 cs) := fun g cs h => (blk_apart (h.kept (HK2.out.trans (show Kept [] w2 _ by (repeat (first | (with_reducible exact Kept.refl _ _) | (with_reducible assumption) | (with_reducible refine Kept.alloc ?_ _) | (with_reducible refine Kept.drew ?_) | (with_reducible refine Kept.drewN ?_ _) | (with_reducible refine Kept.setCell ?_ ?_ _) | (exact .inr (Nat.le_refl _)) | (exact .inr (by simp only; omega)) | (exact .inr (by omega)))))) (by simp)) (HO.out _ (show Kept [] w2 _ by (repeat (first | (with_reducible exact Kept.refl _ _) | (with_reducible assumption) | (with_reducible refine Kept.alloc ?_ _) | (with_reducible refine Kept.drew ?_) | (with_reducible refine Kept.drewN ?_ _) | (with_reducible refine Kept.setCell ?_ ?_ _) | (exact .inr (Nat.le_refl _)) | (exact .inr (by simp only; omega)) | (exact .inr (by omega)))))) HA.out.2.1 (by decide)).far (by have := h.lt; simp only; omega) _
      have hdc6 := HD6.out.cell
      have hdf6 := HD6.out.frozen
      have hdl6 := HD6.out.lt
      have hrc6 := HR6.out.cell
      have hrf6 := HR6.out.frozen
      have hrl6 := HR6.out.lt
      clear hq5 hs5 hk6 hset hHeld hd85 hdf5 hdl5 hdc2 hdf2 hdl2 hrc2 hrf2 hrl2 hk5
      generalize w5.setCell ⟨wr.heap.size, 8, none⟩ (.slice A3 (m + 1) c3) = w6 at *
      go_wp2_with fail
      have hF := (put9_blk HR6.out (.int .i64 cpus) (.int .i64 threads) (.int .i64 locks) (.int .i64 cap) (.int .u64 (boost : Int)) (.float .f64 keep) (.float .f64 ratio) (.slice A n c) (.slice A3 (m + 1) c3)).cell
      refine bodyPost_ret (v := .tuple #[.agg #[.int .i64 cpus, .int .i64 threads, .int .i64 locks, .int .i64 cap, .int .u64 (boost : Int), .float .f64 keep, .float .f64 ratio, .slice A n c, .slice A3 (m + 1) c3], .int .i64 0]) (by simp [results, Tryz.results15, go_sem, hF]) rfl ?_
      have hk9 := put9_keeps (w := w6) (g := wr.heap.size + 1) (.int .i64 cpus) (.int .i64 threads) (.int .i64 locks) (.int .i64 cap) (.int .u64 (boost : Int)) (.float .f64 keep) (.float .f64 ratio) (.slice A n c) (.slice A3 (m + 1) c3)
      have hkk := put9_kept (g := wr.heap.size + 1) HK6.out (by have := HK.out.size; omega) (.int .i64 cpus) (.int .i64 threads) (.int .i64 locks) (.int .i64 cap) (.int .u64 (boost : Int)) (.float .f64 keep) (.float .f64 ratio) (.slice A n c) (.slice A3 (m + 1) c3)
      exact ⟨A, n, c, A3, m + 1, c3, rfl, HQ6.out.block HR6.out hk9 (by decide) (by decide), HS6.out.block HR6.out hk9 (by decide), hkk, fun g cs h => (HBK6.out g cs h).kept hk9 (by have := h.lt; simp; omega)⟩
    · go_simp
      (with_reducible refine (H1.out _).mono ?_)
      rintro e w4 ⟨rfl, rfl⟩
      (try go_simp)
      refine hK.out _ _ ⟨by first | exact hHeld.1 | exact (show Kept [] w2 _ by (repeat (first | (with_reducible exact Kept.refl _ _) | (with_reducible assumption) | (with_reducible refine Kept.alloc ?_ _) | (with_reducible refine Kept.drew ?_) | (with_reducible refine Kept.drewN ?_ _) | (with_reducible refine Kept.setCell ?_ ?_ _) | (exact .inr (Nat.le_refl _)) | (exact .inr (by simp only; omega)) | (exact .inr (by omega))))).cell_some hcx0 (by simp), by first | exact hHeld.2.1 | exact (show Kept [] w2 _ by (repeat (first | (with_reducible exact Kept.refl _ _) | (with_reducible assumption) | (with_reducible refine Kept.alloc ?_ _) | (with_reducible refine Kept.drew ?_) | (with_reducible refine Kept.drewN ?_ _) | (with_reducible refine Kept.setCell ?_ ?_ _) | (exact .inr (Nat.le_refl _)) | (exact .inr (by simp only; omega)) | (exact .inr (by omega))))).cell_some hcx1 (by simp), by first | exact hHeld.2.2 | exact (show Kept [] w2 _ by (repeat (first | (with_reducible exact Kept.refl _ _) | (with_reducible assumption) | (with_reducible refine Kept.alloc ?_ _) | (with_reducible refine Kept.drew ?_) | (with_reducible refine Kept.drewN ?_ _) | (with_reducible refine Kept.setCell ?_ ?_ _) | (exact .inr (Nat.le_refl _)) | (exact .inr (by simp only; omega)) | (exact .inr (by omega))))).cell_some hcx2 (by simp)⟩ (fun hHeld => ?_)
      clear hK K
      (try simp only [Act.put, List.setIfInBounds_toArray, List.set_cons_zero, List.set_cons_succ])
      (refine rtake_13 (v := ?_) (by kernel_rfl) (by kernel_rfl) (by kernel_rfl) (fun _ _ _ h => h) (Or.inl ⟨by rfl, ?_⟩) (by assumption) ?_; rotate_left; focus ((intro w hSw; (try dsimp only at hSw); go_simp); try (with_reducible rfl)); (try simp only [Act.put, List.setIfInBounds_toArray, List.set_cons_zero, List.set_cons_succ]))
      (try simp only [Act.put, List.setIfInBounds_toArray, List.set_cons_zero, List.set_cons_succ])
      (refine wpAnyH_ready (rs := [1, 14]) (by kernel_rfl) (by simp) ?_; refine rcons_1 (fun K hK => ?_) (rcons_14 (fun K hK => ?_) (AllReadyH.nil)))
      · go_simp
        refine hK.out _ _ ⟨by first | exact hHeld.1 | exact (show Kept [] w2 _ by (repeat (first | (with_reducible exact Kept.refl _ _) | (with_reducible assumption) | (with_reducible refine Kept.alloc ?_ _) | (with_reducible refine Kept.drew ?_) | (with_reducible refine Kept.drewN ?_ _) | (with_reducible refine Kept.setCell ?_ ?_ _) | (exact .inr (Nat.le_refl _)) | (exact .inr (by simp only; omega)) | (exact .inr (by omega))))).cell_some hcx0 (by simp), by first | exact hHeld.2.1 | exact (show Kept [] w2 _ by (repeat (first | (with_reducible exact Kept.refl _ _) | (with_reducible assumption) | (with_reducible refine Kept.alloc ?_ _) | (with_reducible refine Kept.drew ?_) | (with_reducible refine Kept.drewN ?_ _) | (with_reducible refine Kept.setCell ?_ ?_ _) | (exact .inr (Nat.le_refl _)) | (exact .inr (by simp only; omega)) | (exact .inr (by omega))))).cell_some hcx1 (by simp), by first | exact hHeld.2.2 | exact (show Kept [] w2 _ by (repeat (first | (with_reducible exact Kept.refl _ _) | (with_reducible assumption) | (with_reducible refine Kept.alloc ?_ _) | (with_reducible refine Kept.drew ?_) | (with_reducible refine Kept.drewN ?_ _) | (with_reducible refine Kept.setCell ?_ ?_ _) | (exact .inr (Nat.le_refl _)) | (exact .inr (by simp only; omega)) | (exact .inr (by omega))))).cell_some hcx2 (by simp)⟩ (fun hHeld => ?_)
        clear hK K
        (try simp only [Act.put, List.setIfInBounds_toArray, List.set_cons_zero, List.set_cons_succ])
        (refine wpAnyH_ready (rs := [14]) (by kernel_rfl) (by simp) ?_; refine rcons_14 (fun K hK => ?_) (AllReadyH.nil))
        go_simp
        refine hK.out _ _ ⟨by first | exact hHeld.1 | exact (show Kept [] w2 _ by (repeat (first | (with_reducible exact Kept.refl _ _) | (with_reducible assumption) | (with_reducible refine Kept.alloc ?_ _) | (with_reducible refine Kept.drew ?_) | (with_reducible refine Kept.drewN ?_ _) | (with_reducible refine Kept.setCell ?_ ?_ _) | (exact .inr (Nat.le_refl _)) | (exact .inr (by simp only; omega)) | (exact .inr (by omega))))).cell_some hcx0 (by simp), by first | exact hHeld.2.1 | exact (show Kept [] w2 _ by (repeat (first | (with_reducible exact Kept.refl _ _) | (with_reducible assumption) | (with_reducible refine Kept.alloc ?_ _) | (with_reducible refine Kept.drew ?_) | (with_reducible refine Kept.drewN ?_ _) | (with_reducible refine Kept.setCell ?_ ?_ _) | (exact .inr (Nat.le_refl _)) | (exact .inr (by simp only; omega)) | (exact .inr (by omega))))).cell_some hcx1 (by simp), by first | exact hHeld.2.2 | exact (show Kept [] w2 _ by (repeat (first | (with_reducible exact Kept.refl _ _) | (with_reducible assumption) | (with_reducible refine Kept.alloc ?_ _) | (with_reducible refine Kept.drew ?_) | (with_reducible refine Kept.drewN ?_ _) | (with_reducible refine Kept.setCell ?_ ?_ _) | (exact .inr (Nat.le_refl _)) | (exact .inr (by simp only; omega)) | (exact .inr (by omega))))).cell_some hcx2 (by simp)⟩ (fun hHeld => ?_)
        clear hK K
        (try simp only [Act.put, List.setIfInBounds_toArray, List.set_cons_zero, List.set_cons_succ])
        (refine wpAnyH_ready (rs := [15]) (by kernel_rfl) (by simp) ?_; refine rcons_15 (fun K hK => ?_) (AllReadyH.nil))
        refine step_append_any _ rfl (.tmp 92) (.tmp 105) 25 rfl 49 (.agg #[.int .i64 0, .int .i64 0, .int .u64 0]) 3 24 Tryz.underlying25 Tryz.info49 rfl (by decide) (.slice B m e0) m (starts.flatMap stL) (by simp [Act.eval, Act.put]) (HO.out _ (by (repeat (first | (with_reducible exact Kept.refl _ _) | (with_reducible assumption) | (with_reducible refine Kept.alloc ?_ _) | (with_reducible refine Kept.drew ?_) | (with_reducible refine Kept.drewN ?_ _) | (with_reducible refine Kept.setCell ?_ ?_ _) | (exact .inr (Nat.le_refl _)) | (exact .inr (by simp only; omega)) | (exact .inr (by omega)))))) _ 1 1 (stL ⟨y0, y1, x2⟩) (by simp [Act.eval, Act.put]) (reads_st _ _ ⟨y0, y1, x2⟩) (stL_one _) (by simp only [maxLen]; omega) (by omega) ?_
        rintro A3 c3 w5 happ
        have HA := Lib.hid happ
        have HD5 := Lib.hid (blk_apart (HD3.out.kept (show Kept [] w2 _ by (repeat (first | (with_reducible exact Kept.refl _ _) | (with_reducible assumption) | (with_reducible refine Kept.alloc ?_ _) | (with_reducible refine Kept.drew ?_) | (with_reducible refine Kept.drewN ?_ _) | (with_reducible refine Kept.setCell ?_ ?_ _) | (exact .inr (Nat.le_refl _)) | (exact .inr (by simp only; omega)) | (exact .inr (by omega))))) (by simp)) (HO.out _ (show Kept [] w2 _ by (repeat (first | (with_reducible exact Kept.refl _ _) | (with_reducible assumption) | (with_reducible refine Kept.alloc ?_ _) | (with_reducible refine Kept.drew ?_) | (with_reducible refine Kept.drewN ?_ _) | (with_reducible refine Kept.setCell ?_ ?_ _) | (exact .inr (Nat.le_refl _)) | (exact .inr (by simp only; omega)) | (exact .inr (by omega)))))) happ.2.1 (by decide))
        have HR5 := Lib.hid (blk_apart (HR3.out.kept (show Kept [] w2 _ by (repeat (first | (with_reducible exact Kept.refl _ _) | (with_reducible assumption) | (with_reducible refine Kept.alloc ?_ _) | (with_reducible refine Kept.drew ?_) | (with_reducible refine Kept.drewN ?_ _) | (with_reducible refine Kept.setCell ?_ ?_ _) | (exact .inr (Nat.le_refl _)) | (exact .inr (by simp only; omega)) | (exact .inr (by omega))))) (by simp)) (HO.out _ (show Kept [] w2 _ by (repeat (first | (with_reducible exact Kept.refl _ _) | (with_reducible assumption) | (with_reducible refine Kept.alloc ?_ _) | (with_reducible refine Kept.drew ?_) | (with_reducible refine Kept.drewN ?_ _) | (with_reducible refine Kept.setCell ?_ ?_ _) | (exact .inr (Nat.le_refl _)) | (exact .inr (by simp only; omega)) | (exact .inr (by omega)))))) happ.2.1 (by decide))
        have hk5 : Kept (fp (.slice B m e0)) w2 w5 := Kept.trans' (Kept.mono (show Kept [] w2 _ by (repeat (first | (with_reducible exact Kept.refl _ _) | (with_reducible assumption) | (with_reducible refine Kept.alloc ?_ _) | (with_reducible refine Kept.drew ?_) | (with_reducible refine Kept.drewN ?_ _) | (with_reducible refine Kept.setCell ?_ ?_ _) | (exact .inr (Nat.le_refl _)) | (exact .inr (by simp only; omega)) | (exact .inr (by omega))))) (by simp)) happ.2.1 (fun q hq => .inl hq)
        have hd85 : w5.cell? ⟨wr.heap.size, 8, none⟩ = some (.slice B m e0) := HD5.out.cell 8
        have hdf5 := HD5.out.frozen
        have hdl5 := HD5.out.lt
        clear happ
        refine hK.out _ _ ⟨hk5.cell_some hcx0 HBN.out, hk5.cell_some hcx1 HBN.out, hk5.cell_some hcx2 HBN.out⟩ (fun hHeld => ?_)
        clear hK K
        (try simp only [Act.put, List.setIfInBounds_toArray, List.set_cons_zero, List.set_cons_succ])
        (refine rtake_16 (v := ?_) (by kernel_rfl) (by kernel_rfl) (by kernel_rfl) (fun _ _ _ h => h) (Or.inl ⟨by rfl, ?_⟩) (by assumption) ?_; rotate_left; focus ((intro w hSw; (try dsimp only at hSw); go_simp); try (with_reducible rfl)); (try simp only [Act.put, List.setIfInBounds_toArray, List.set_cons_zero, List.set_cons_succ]))
        (refine wpAnyH_ready (rs := [17]) (by kernel_rfl) (by simp) ?_; refine rcons_17 (fun K hK => ?_) (AllReadyH.nil))
        go_simp
        refine hK.out _ _ ⟨((hk5.mono (G' := wr.heap.size :: fp (.slice B m e0)) (fun k hk => by simp [hk])).setCell (p := ⟨wr.heap.size, 8, none⟩) (.inl (by simp)) _).cell_some hcx0 (by simp [hbn1, HBN.out]), ((hk5.mono (G' := wr.heap.size :: fp (.slice B m e0)) (fun k hk => by simp [hk])).setCell (p := ⟨wr.heap.size, 8, none⟩) (.inl (by simp)) _).cell_some hcx1 (by simp [hbn1, HBN.out]), ((hk5.mono (G' := wr.heap.size :: fp (.slice B m e0)) (fun k hk => by simp [hk])).setCell (p := ⟨wr.heap.size, 8, none⟩) (.inl (by simp)) _).cell_some hcx2 (by simp [hbn1, HBN.out])⟩ (fun hHeld => ?_)
        clear hK K
        refine wpAnyH_done (by kernel_rfl) ?_ _
        have hs5 : RowS w0 w5 (starts ++ [⟨y0, y1, x2⟩]) A3 (m + 1) c3 := RowS.append ⟨HO.out _ (show Kept [] w2 _ by (repeat (first | (with_reducible exact Kept.refl _ _) | (with_reducible assumption) | (with_reducible refine Kept.alloc ?_ _) | (with_reducible refine Kept.drew ?_) | (with_reducible refine Kept.drewN ?_ _) | (with_reducible refine Kept.setCell ?_ ?_ _) | (exact .inr (Nat.le_refl _)) | (exact .inr (by simp only; omega)) | (exact .inr (by omega))))), HS.out.2⟩ (HK.out.trans (HK2.out.trans (show Kept [] w2 _ by (repeat (first | (with_reducible exact Kept.refl _ _) | (with_reducible assumption) | (with_reducible refine Kept.alloc ?_ _) | (with_reducible refine Kept.drew ?_) | (with_reducible refine Kept.drewN ?_ _) | (with_reducible refine Kept.setCell ?_ ?_ _) | (exact .inr (Nat.le_refl _)) | (exact .inr (by simp only; omega)) | (exact .inr (by omega))))))).size HA.out
        have hq5 : RowPQ w0 w5 progs A n c := (HQ2.out.kept (show Kept [] w2 _ by (repeat (first | (with_reducible exact Kept.refl _ _) | (with_reducible assumption) | (with_reducible refine Kept.alloc ?_ _) | (with_reducible refine Kept.drew ?_) | (with_reducible refine Kept.drewN ?_ _) | (with_reducible refine Kept.setCell ?_ ?_ _) | (exact .inr (Nat.le_refl _)) | (exact .inr (by simp only; omega)) | (exact .inr (by omega))))) (by simp)).apart (HO.out _ (show Kept [] w2 _ by (repeat (first | (with_reducible exact Kept.refl _ _) | (with_reducible assumption) | (with_reducible refine Kept.alloc ?_ _) | (with_reducible refine Kept.drew ?_) | (with_reducible refine Kept.drewN ?_ _) | (with_reducible refine Kept.setCell ?_ ?_ _) | (exact .inr (Nat.le_refl _)) | (exact .inr (by simp only; omega)) | (exact .inr (by omega)))))) HA.out.2.1 (by decide) (by decide)
        have hk6 : Kept [] w0 w5 := (HK.out.trans (HK2.out.trans (show Kept [] w2 _ by (repeat (first | (with_reducible exact Kept.refl _ _) | (with_reducible assumption) | (with_reducible refine Kept.alloc ?_ _) | (with_reducible refine Kept.drew ?_) | (with_reducible refine Kept.drewN ?_ _) | (with_reducible refine Kept.setCell ?_ ?_ _) | (exact .inr (Nat.le_refl _)) | (exact .inr (by simp only; omega)) | (exact .inr (by omega))))))).trans' HA.out.2.1 (fun q hq => .inr (HS.out.2 q hq))
        have hset : Kept [wr.heap.size] w5 (w5.setCell ⟨wr.heap.size, 8, none⟩ (.slice A3 (m + 1) c3)) := (Kept.refl [wr.heap.size] w5).setCell (.inl (by simp)) _
        have HQ6 := Lib.hid (hq5.block HD5.out hset (by decide) (by decide))
        have HS6 := Lib.hid (hs5.block HD5.out hset (by decide))
        have HK6 := Lib.hid (hk6.setCell (p := ⟨wr.heap.size, 8, none⟩) (.inr HK.out.size) (.slice A3 (m + 1) c3))
        have HD6 : Hid (Blk (w5.setCell ⟨wr.heap.size, 8, none⟩ (.slice A3 (m + 1) c3)) wr.heap.size 27 #[.int .i64 cpus, .int .i64 threads, .int .i64 locks, .int .i64 cap, .int .u64 (boost : Int), .float .f64 keep, .float .f64 ratio, .slice A n c, .slice A3 (m + 1) c3]) := by
          have h := HD5.out.set 8 (.slice A3 (m + 1) c3)
          simpa only [Hid, List.setIfInBounds_toArray, List.set_cons_zero, List.set_cons_succ] using h
        have HR6 := Lib.hid (HR5.out.far (p := ⟨wr.heap.size, 8, none⟩) (by simp) (.slice A3 (m + 1) c3))
        have HBK6 : Hid (∀ g cs, Blk wr g 27 cs → Blk (w5.setCell ⟨wr.heap.size, 8, none⟩ (.slice A3 (m + 1) c3)) g 27 cs) := fun g cs h => (blk_apart (h.kept (HK2.out.trans (show Kept [] w2 _ by (repeat (first | (with_reducible exact Kept.refl _ _) | (with_reducible assumption) | (with_reducible refine Kept.alloc ?_ _) | (with_reducible refine Kept.drew ?_) | (with_reducible refine Kept.drewN ?_ _) | (with_reducible refine Kept.setCell ?_ ?_ _) | (exact .inr (Nat.le_refl _)) | (exact .inr (by simp only; omega)) | (exact .inr (by omega)))))) (by simp)) (HO.out _ (show Kept [] w2 _ by (repeat (first | (with_reducible exact Kept.refl _ _) | (with_reducible assumption) | (with_reducible refine Kept.alloc ?_ _) | (with_reducible refine Kept.drew ?_) | (with_reducible refine Kept.drewN ?_ _) | (with_reducible refine Kept.setCell ?_ ?_ _) | (exact .inr (Nat.le_refl _)) | (exact .inr (by simp only; omega)) | (exact .inr (by omega)))))) HA.out.2.1 (by decide)).far (by have := h.lt; simp only; omega) _
        have hdc6 := HD6.out.cell
        have hdf6 := HD6.out.frozen
        have hdl6 := HD6.out.lt
        have hrc6 := HR6.out.cell
        have hrf6 := HR6.out.frozen
        have hrl6 := HR6.out.lt
        clear hq5 hs5 hk6 hset hHeld hd85 hdf5 hdl5 hdc2 hdf2 hdl2 hrc2 hrf2 hrl2 hk5
        generalize w5.setCell ⟨wr.heap.size, 8, none⟩ (.slice A3 (m + 1) c3) = w6 at *
        go_wp2_with fail
        have hF := (put9_blk HR6.out (.int .i64 cpus) (.int .i64 threads) (.int .i64 locks) (.int .i64 cap) (.int .u64 (boost : Int)) (.float .f64 keep) (.float .f64 ratio) (.slice A n c) (.slice A3 (m + 1) c3)).cell
        refine bodyPost_ret (v := .tuple #[.agg #[.int .i64 cpus, .int .i64 threads, .int .i64 locks, .int .i64 cap, .int .u64 (boost : Int), .float .f64 keep, .float .f64 ratio, .slice A n c, .slice A3 (m + 1) c3], .int .i64 0]) (by simp [results, Tryz.results15, go_sem, hF]) rfl ?_
        have hk9 := put9_keeps (w := w6) (g := wr.heap.size + 1) (.int .i64 cpus) (.int .i64 threads) (.int .i64 locks) (.int .i64 cap) (.int .u64 (boost : Int)) (.float .f64 keep) (.float .f64 ratio) (.slice A n c) (.slice A3 (m + 1) c3)
        have hkk := put9_kept (g := wr.heap.size + 1) HK6.out (by have := HK.out.size; omega) (.int .i64 cpus) (.int .i64 threads) (.int .i64 locks) (.int .i64 cap) (.int .u64 (boost : Int)) (.float .f64 keep) (.float .f64 ratio) (.slice A n c) (.slice A3 (m + 1) c3)
        exact ⟨A, n, c, A3, m + 1, c3, rfl, HQ6.out.block HR6.out hk9 (by decide) (by decide), HS6.out.block HR6.out hk9 (by decide), hkk, fun g cs h => (HBK6.out g cs h).kept hk9 (by have := h.lt; simp; omega)⟩
      · go_simp
        refine hK.out _ _ ⟨by first | exact hHeld.1 | exact (show Kept [] w2 _ by (repeat (first | (with_reducible exact Kept.refl _ _) | (with_reducible assumption) | (with_reducible refine Kept.alloc ?_ _) | (with_reducible refine Kept.drew ?_) | (with_reducible refine Kept.drewN ?_ _) | (with_reducible refine Kept.setCell ?_ ?_ _) | (exact .inr (Nat.le_refl _)) | (exact .inr (by simp only; omega)) | (exact .inr (by omega))))).cell_some hcx0 (by simp), by first | exact hHeld.2.1 | exact (show Kept [] w2 _ by (repeat (first | (with_reducible exact Kept.refl _ _) | (with_reducible assumption) | (with_reducible refine Kept.alloc ?_ _) | (with_reducible refine Kept.drew ?_) | (with_reducible refine Kept.drewN ?_ _) | (with_reducible refine Kept.setCell ?_ ?_ _) | (exact .inr (Nat.le_refl _)) | (exact .inr (by simp only; omega)) | (exact .inr (by omega))))).cell_some hcx1 (by simp), by first | exact hHeld.2.2 | exact (show Kept [] w2 _ by (repeat (first | (with_reducible exact Kept.refl _ _) | (with_reducible assumption) | (with_reducible refine Kept.alloc ?_ _) | (with_reducible refine Kept.drew ?_) | (with_reducible refine Kept.drewN ?_ _) | (with_reducible refine Kept.setCell ?_ ?_ _) | (exact .inr (Nat.le_refl _)) | (exact .inr (by simp only; omega)) | (exact .inr (by omega))))).cell_some hcx2 (by simp)⟩ (fun hHeld => ?_)
        clear hK K
        (try simp only [Act.put, List.setIfInBounds_toArray, List.set_cons_zero, List.set_cons_succ])
        (refine wpAnyH_ready (rs := [1]) (by kernel_rfl) (by simp) ?_; refine rcons_1 (fun K hK => ?_) (AllReadyH.nil))
        go_simp
        refine hK.out _ _ ⟨by first | exact hHeld.1 | exact (show Kept [] w2 _ by (repeat (first | (with_reducible exact Kept.refl _ _) | (with_reducible assumption) | (with_reducible refine Kept.alloc ?_ _) | (with_reducible refine Kept.drew ?_) | (with_reducible refine Kept.drewN ?_ _) | (with_reducible refine Kept.setCell ?_ ?_ _) | (exact .inr (Nat.le_refl _)) | (exact .inr (by simp only; omega)) | (exact .inr (by omega))))).cell_some hcx0 (by simp), by first | exact hHeld.2.1 | exact (show Kept [] w2 _ by (repeat (first | (with_reducible exact Kept.refl _ _) | (with_reducible assumption) | (with_reducible refine Kept.alloc ?_ _) | (with_reducible refine Kept.drew ?_) | (with_reducible refine Kept.drewN ?_ _) | (with_reducible refine Kept.setCell ?_ ?_ _) | (exact .inr (Nat.le_refl _)) | (exact .inr (by simp only; omega)) | (exact .inr (by omega))))).cell_some hcx1 (by simp), by first | exact hHeld.2.2 | exact (show Kept [] w2 _ by (repeat (first | (with_reducible exact Kept.refl _ _) | (with_reducible assumption) | (with_reducible refine Kept.alloc ?_ _) | (with_reducible refine Kept.drew ?_) | (with_reducible refine Kept.drewN ?_ _) | (with_reducible refine Kept.setCell ?_ ?_ _) | (exact .inr (Nat.le_refl _)) | (exact .inr (by simp only; omega)) | (exact .inr (by omega))))).cell_some hcx2 (by simp)⟩ (fun hHeld => ?_)
        clear hK K
        (try simp only [Act.put, List.setIfInBounds_toArray, List.set_cons_zero, List.set_cons_succ])
        (refine wpAnyH_ready (rs := [15]) (by kernel_rfl) (by simp) ?_; refine rcons_15 (fun K hK => ?_) (AllReadyH.nil))
        refine step_append_any _ rfl (.tmp 92) (.tmp 105) 25 rfl 49 (.agg #[.int .i64 0, .int .i64 0, .int .u64 0]) 3 24 Tryz.underlying25 Tryz.info49 rfl (by decide) (.slice B m e0) m (starts.flatMap stL) (by simp [Act.eval, Act.put]) (HO.out _ (by (repeat (first | (with_reducible exact Kept.refl _ _) | (with_reducible assumption) | (with_reducible refine Kept.alloc ?_ _) | (with_reducible refine Kept.drew ?_) | (with_reducible refine Kept.drewN ?_ _) | (with_reducible refine Kept.setCell ?_ ?_ _) | (exact .inr (Nat.le_refl _)) | (exact .inr (by simp only; omega)) | (exact .inr (by omega)))))) _ 1 1 (stL ⟨y0, y1, x2⟩) (by simp [Act.eval, Act.put]) (reads_st _ _ ⟨y0, y1, x2⟩) (stL_one _) (by simp only [maxLen]; omega) (by omega) ?_
        rintro A3 c3 w5 happ
        have HA := Lib.hid happ
        have HD5 := Lib.hid (blk_apart (HD3.out.kept (show Kept [] w2 _ by (repeat (first | (with_reducible exact Kept.refl _ _) | (with_reducible assumption) | (with_reducible refine Kept.alloc ?_ _) | (with_reducible refine Kept.drew ?_) | (with_reducible refine Kept.drewN ?_ _) | (with_reducible refine Kept.setCell ?_ ?_ _) | (exact .inr (Nat.le_refl _)) | (exact .inr (by simp only; omega)) | (exact .inr (by omega))))) (by simp)) (HO.out _ (show Kept [] w2 _ by (repeat (first | (with_reducible exact Kept.refl _ _) | (with_reducible assumption) | (with_reducible refine Kept.alloc ?_ _) | (with_reducible refine Kept.drew ?_) | (with_reducible refine Kept.drewN ?_ _) | (with_reducible refine Kept.setCell ?_ ?_ _) | (exact .inr (Nat.le_refl _)) | (exact .inr (by simp only; omega)) | (exact .inr (by omega)))))) happ.2.1 (by decide))
        have HR5 := Lib.hid (blk_apart (HR3.out.kept (show Kept [] w2 _ by (repeat (first | (with_reducible exact Kept.refl _ _) | (with_reducible assumption) | (with_reducible refine Kept.alloc ?_ _) | (with_reducible refine Kept.drew ?_) | (with_reducible refine Kept.drewN ?_ _) | (with_reducible refine Kept.setCell ?_ ?_ _) | (exact .inr (Nat.le_refl _)) | (exact .inr (by simp only; omega)) | (exact .inr (by omega))))) (by simp)) (HO.out _ (show Kept [] w2 _ by (repeat (first | (with_reducible exact Kept.refl _ _) | (with_reducible assumption) | (with_reducible refine Kept.alloc ?_ _) | (with_reducible refine Kept.drew ?_) | (with_reducible refine Kept.drewN ?_ _) | (with_reducible refine Kept.setCell ?_ ?_ _) | (exact .inr (Nat.le_refl _)) | (exact .inr (by simp only; omega)) | (exact .inr (by omega)))))) happ.2.1 (by decide))
        have hk5 : Kept (fp (.slice B m e0)) w2 w5 := Kept.trans' (Kept.mono (show Kept [] w2 _ by (repeat (first | (with_reducible exact Kept.refl _ _) | (with_reducible assumption) | (with_reducible refine Kept.alloc ?_ _) | (with_reducible refine Kept.drew ?_) | (with_reducible refine Kept.drewN ?_ _) | (with_reducible refine Kept.setCell ?_ ?_ _) | (exact .inr (Nat.le_refl _)) | (exact .inr (by simp only; omega)) | (exact .inr (by omega))))) (by simp)) happ.2.1 (fun q hq => .inl hq)
        have hd85 : w5.cell? ⟨wr.heap.size, 8, none⟩ = some (.slice B m e0) := HD5.out.cell 8
        have hdf5 := HD5.out.frozen
        have hdl5 := HD5.out.lt
        clear happ
        refine hK.out _ _ ⟨hk5.cell_some hcx0 HBN.out, hk5.cell_some hcx1 HBN.out, hk5.cell_some hcx2 HBN.out⟩ (fun hHeld => ?_)
        clear hK K
        (try simp only [Act.put, List.setIfInBounds_toArray, List.set_cons_zero, List.set_cons_succ])
        (refine rtake_16 (v := ?_) (by kernel_rfl) (by kernel_rfl) (by kernel_rfl) (fun _ _ _ h => h) (Or.inl ⟨by rfl, ?_⟩) (by assumption) ?_; rotate_left; focus ((intro w hSw; (try dsimp only at hSw); go_simp); try (with_reducible rfl)); (try simp only [Act.put, List.setIfInBounds_toArray, List.set_cons_zero, List.set_cons_succ]))
        (refine wpAnyH_ready (rs := [17]) (by kernel_rfl) (by simp) ?_; refine rcons_17 (fun K hK => ?_) (AllReadyH.nil))
        go_simp
        refine hK.out _ _ ⟨((hk5.mono (G' := wr.heap.size :: fp (.slice B m e0)) (fun k hk => by simp [hk])).setCell (p := ⟨wr.heap.size, 8, none⟩) (.inl (by simp)) _).cell_some hcx0 (by simp [hbn1, HBN.out]), ((hk5.mono (G' := wr.heap.size :: fp (.slice B m e0)) (fun k hk => by simp [hk])).setCell (p := ⟨wr.heap.size, 8, none⟩) (.inl (by simp)) _).cell_some hcx1 (by simp [hbn1, HBN.out]), ((hk5.mono (G' := wr.heap.size :: fp (.slice B m e0)) (fun k hk => by simp [hk])).setCell (p := ⟨wr.heap.size, 8, none⟩) (.inl (by simp)) _).cell_some hcx2 (by simp [hbn1, HBN.out])⟩ (fun hHeld => ?_)
        clear hK K
        refine wpAnyH_done (by kernel_rfl) ?_ _
        have hs5 : RowS w0 w5 (starts ++ [⟨y0, y1, x2⟩]) A3 (m + 1) c3 := RowS.append ⟨HO.out _ (show Kept [] w2 _ by (repeat (first | (with_reducible exact Kept.refl _ _) | (with_reducible assumption) | (with_reducible refine Kept.alloc ?_ _) | (with_reducible refine Kept.drew ?_) | (with_reducible refine Kept.drewN ?_ _) | (with_reducible refine Kept.setCell ?_ ?_ _) | (exact .inr (Nat.le_refl _)) | (exact .inr (by simp only; omega)) | (exact .inr (by omega))))), HS.out.2⟩ (HK.out.trans (HK2.out.trans (show Kept [] w2 _ by (repeat (first | (with_reducible exact Kept.refl _ _) | (with_reducible assumption) | (with_reducible refine Kept.alloc ?_ _) | (with_reducible refine Kept.drew ?_) | (with_reducible refine Kept.drewN ?_ _) | (with_reducible refine Kept.setCell ?_ ?_ _) | (exact .inr (Nat.le_refl _)) | (exact .inr (by simp only; omega)) | (exact .inr (by omega))))))).size HA.out
        have hq5 : RowPQ w0 w5 progs A n c := (HQ2.out.kept (show Kept [] w2 _ by (repeat (first | (with_reducible exact Kept.refl _ _) | (with_reducible assumption) | (with_reducible refine Kept.alloc ?_ _) | (with_reducible refine Kept.drew ?_) | (with_reducible refine Kept.drewN ?_ _) | (with_reducible refine Kept.setCell ?_ ?_ _) | (exact .inr (Nat.le_refl _)) | (exact .inr (by simp only; omega)) | (exact .inr (by omega))))) (by simp)).apart (HO.out _ (show Kept [] w2 _ by (repeat (first | (with_reducible exact Kept.refl _ _) | (with_reducible assumption) | (with_reducible refine Kept.alloc ?_ _) | (with_reducible refine Kept.drew ?_) | (with_reducible refine Kept.drewN ?_ _) | (with_reducible refine Kept.setCell ?_ ?_ _) | (exact .inr (Nat.le_refl _)) | (exact .inr (by simp only; omega)) | (exact .inr (by omega)))))) HA.out.2.1 (by decide) (by decide)
        have hk6 : Kept [] w0 w5 := (HK.out.trans (HK2.out.trans (show Kept [] w2 _ by (repeat (first | (with_reducible exact Kept.refl _ _) | (with_reducible assumption) | (with_reducible refine Kept.alloc ?_ _) | (with_reducible refine Kept.drew ?_) | (with_reducible refine Kept.drewN ?_ _) | (with_reducible refine Kept.setCell ?_ ?_ _) | (exact .inr (Nat.le_refl _)) | (exact .inr (by simp only; omega)) | (exact .inr (by omega))))))).trans' HA.out.2.1 (fun q hq => .inr (HS.out.2 q hq))
        have hset : Kept [wr.heap.size] w5 (w5.setCell ⟨wr.heap.size, 8, none⟩ (.slice A3 (m + 1) c3)) := (Kept.refl [wr.heap.size] w5).setCell (.inl (by simp)) _
        have HQ6 := Lib.hid (hq5.block HD5.out hset (by decide) (by decide))
        have HS6 := Lib.hid (hs5.block HD5.out hset (by decide))
        have HK6 := Lib.hid (hk6.setCell (p := ⟨wr.heap.size, 8, none⟩) (.inr HK.out.size) (.slice A3 (m + 1) c3))
        have HD6 : Hid (Blk (w5.setCell ⟨wr.heap.size, 8, none⟩ (.slice A3 (m + 1) c3)) wr.heap.size 27 #[.int .i64 cpus, .int .i64 threads, .int .i64 locks, .int .i64 cap, .int .u64 (boost : Int), .float .f64 keep, .float .f64 ratio, .slice A n c, .slice A3 (m + 1) c3]) := by
          have h := HD5.out.set 8 (.slice A3 (m + 1) c3)
          simpa only [Hid, List.setIfInBounds_toArray, List.set_cons_zero, List.set_cons_succ] using h
        have HR6 := Lib.hid (HR5.out.far (p := ⟨wr.heap.size, 8, none⟩) (by simp) (.slice A3 (m + 1) c3))
        have HBK6 : Hid (∀ g cs, Blk wr g 27 cs → Blk (w5.setCell ⟨wr.heap.size, 8, none⟩ (.slice A3 (m + 1) c3)) g 27 cs) := fun g cs h => (blk_apart (h.kept (HK2.out.trans (show Kept [] w2 _ by (repeat (first | (with_reducible exact Kept.refl _ _) | (with_reducible assumption) | (with_reducible refine Kept.alloc ?_ _) | (with_reducible refine Kept.drew ?_) | (with_reducible refine Kept.drewN ?_ _) | (with_reducible refine Kept.setCell ?_ ?_ _) | (exact .inr (Nat.le_refl _)) | (exact .inr (by simp only; omega)) | (exact .inr (by omega)))))) (by simp)) (HO.out _ (show Kept [] w2 _ by (repeat (first | (with_reducible exact Kept.refl _ _) | (with_reducible assumption) | (with_reducible refine Kept.alloc ?_ _) | (with_reducible refine Kept.drew ?_) | (with_reducible refine Kept.drewN ?_ _) | (with_reducible refine Kept.setCell ?_ ?_ _) | (exact .inr (Nat.le_refl _)) | (exact .inr (by simp only; omega)) | (exact .inr (by omega)))))) HA.out.2.1 (by decide)).far (by have := h.lt; simp only; omega) _
        have hdc6 := HD6.out.cell
        have hdf6 := HD6.out.frozen
        have hdl6 := HD6.out.lt
        have hrc6 := HR6.out.cell
        have hrf6 := HR6.out.frozen
        have hrl6 := HR6.out.lt
        clear hq5 hs5 hk6 hset hHeld hd85 hdf5 hdl5 hdc2 hdf2 hdl2 hrc2 hrf2 hrl2 hk5
        generalize w5.setCell ⟨wr.heap.size, 8, none⟩ (.slice A3 (m + 1) c3) = w6 at *
        go_wp2_with fail
        have hF := (put9_blk HR6.out (.int .i64 cpus) (.int .i64 threads) (.int .i64 locks) (.int .i64 cap) (.int .u64 (boost : Int)) (.float .f64 keep) (.float .f64 ratio) (.slice A n c) (.slice A3 (m + 1) c3)).cell
        refine bodyPost_ret (v := .tuple #[.agg #[.int .i64 cpus, .int .i64 threads, .int .i64 locks, .int .i64 cap, .int .u64 (boost : Int), .float .f64 keep, .float .f64 ratio, .slice A n c, .slice A3 (m + 1) c3], .int .i64 0]) (by simp [results, Tryz.results15, go_sem, hF]) rfl ?_
        have hk9 := put9_keeps (w := w6) (g := wr.heap.size + 1) (.int .i64 cpus) (.int .i64 threads) (.int .i64 locks) (.int .i64 cap) (.int .u64 (boost : Int)) (.float .f64 keep) (.float .f64 ratio) (.slice A n c) (.slice A3 (m + 1) c3)
        have hkk := put9_kept (g := wr.heap.size + 1) HK6.out (by have := HK.out.size; omega) (.int .i64 cpus) (.int .i64 threads) (.int .i64 locks) (.int .i64 cap) (.int .u64 (boost : Int)) (.float .f64 keep) (.float .f64 ratio) (.slice A n c) (.slice A3 (m + 1) c3)
        exact ⟨A, n, c, A3, m + 1, c3, rfl, HQ6.out.block HR6.out hk9 (by decide) (by decide), HS6.out.block HR6.out hk9 (by decide), hkk, fun g cs h => (HBK6.out g cs h).kept hk9 (by have := h.lt; simp; omega)⟩

attribute [local go_sem] from_run bits_run
set_option maxHeartbeats 3200000 in
set_option maxRecDepth 100000 in
theorem rline_first (w0 wr : World) (d : Du) (A : Option Addr) (n c : Nat) (B : Option Addr) (m e0 : Nat) (l : List UInt8) (a : List UInt8) (t : List (List UInt8)) (hw : words l = a :: t) (h1 : a = dutyW) (htl : t.length ≤ 90000) (htx : ∀ x ∈ t, x.length ≤ 90000) (x0 x1 x2 x3 x4 x5 x6 : Nat) (hnb : numbU t 7 5 = some [x0, x1, x2, x3, x4, x5, x6]) (hq : RowPQ w0 wr d.progs A n c) (hs : RowS w0 wr d.starts B m e0) (hk : Kept [] w0 wr) (hsm : SmallU 5000 d) (hl : l.length ≤ 80000) :
    Calls Tryz.prog 15 #[.agg (uC d A n c B m e0), strV l, .bool true] wr (Lined w0 wr (ofN [x0, x1, x2, x3, x4, x5, x6], 0)) := by
  have HW := Lib.hid (fun w => refWords l w (by omega))
  rw [hw] at HW
  try simp only [List.length_cons] at HW
  have HQ := Lib.hid hq
  have HS := Lib.hid hs
  have HK := Lib.hid hk
  have HML := Lib.hid hs.len
  have HNL := Lib.hid hq.pp.len
  clear hq hs hk
  obtain ⟨cpus, threads, locks, cap, boost, keep, ratio, progs, starts⟩ := d
  simp only at *
  have hb1 : (a == [100, 117, 116, 121]) = true := by rw [h1]; rfl
  clear h1
  have hx9 := numbU_len hnb
  have hxl := numbU_lt hnb
  have HRE := Lib.hid (fun A n c w h => refRead_for A n c t 2 7 5 w h (by omega) htx (.inl ⟨rfl, rfl, rfl⟩))
  rw [hnb] at HRE
  clear hnb htx hx9
  have H0 := Lib.hid (fun w => refSmall9 x0 w (hxl 0))
  have H1 := Lib.hid (fun w => refSmall9 x1 w (hxl 1))
  have H2 := Lib.hid (fun w => refSmall9 x2 w (hxl 2))
  have H3 := Lib.hid (fun w => refSmall9 x3 w (hxl 3))
  clear hxl
  simp only [ofN, List.getD_cons_zero, List.getD_cons_succ]
  generalize smallN x0 = y0 at *
  generalize smallN x1 = y1 at *
  generalize smallN x2 = y2 at *
  generalize smallN x3 = y3 at *
  unfold Lined
  simp only [uC]
  go_enter Tryz.func15, Tryz.ntmps15
  go_wp2_with fail
  refine (HW.out _).mono ?_
  rintro e w1 ⟨Aw, cw, rfl, hF⟩
  have HF := Lib.hid hF
  have hk1 := hF.2.1
  have HD : Hid (Blk w1 wr.heap.size 27 #[.int .i64 cpus, .int .i64 threads, .int .i64 locks, .int .i64 cap, .int .u64 (boost : Int), .float .f64 keep, .float .f64 ratio, .slice A n c, .slice B m e0]) := ((Blk.new wr 27 _).alloc _).kept hk1 (by simp)
  have HR : Hid (Blk w1 (wr.heap.size + 1) 27 #[.int .i64 0, .int .i64 0, .int .i64 0, .int .i64 0, .int .u64 0, .float .f64 0, .float .f64 0, .slice none 0 0, .slice none 0 0]) := (Blk.newAt (by simp) 27 _).kept hk1 (by simp)
  have HK1 := Lib.hid ((((Kept.refl [] wr).alloc (.cells #[.int .i64 cpus, .int .i64 threads, .int .i64 locks, .int .i64 cap, .int .u64 (boost : Int), .float .f64 keep, .float .f64 ratio, .slice A n c, .slice B m e0] 27)).alloc (.cells #[.int .i64 0, .int .i64 0, .int .i64 0, .int .i64 0, .int .u64 0, .float .f64 0, .float .f64 0, .slice none 0 0, .slice none 0 0] 27)).trans hk1)
  have hdc := HD.out.cell
  have hdf := HD.out.frozen
  have hdl := HD.out.lt
  have hrc := HR.out.cell
  have hrf := HR.out.frozen
  have hrl := HR.out.lt
  clear hF hk1
  obtain ⟨bw, ow, rfl, hbw, hcw⟩ := (Reads.of_own HF.out.1).addr (by omega) (by omega)
  have hc0 := hcw 0 (strV a) (by simp)
  rw [Nat.add_zero] at hc0
  have hb0 : ((t.length : Int) + 1 == 0) = false := beq_eq_false_iff_ne.2 (by omega)
  have hi0 : (0 : Int) < (t.length : Int) + 1 := by omega
  have hcl := own_form HF.out.1
  obtain ⟨A', c', ⟨⟩, hcl1, hcl2⟩ := hcl
  have hsl := run_cut_lo (P := Tryz.prog) 34 9 (.string ByteArray.empty) 16 Tryz.underlying34 Tryz.info9 (some ⟨bw, ow, none⟩) (t.length + 1) cw .i64 1 1 rfl (by omega)
  simp only [Nat.add_sub_cancel] at hsl
  have hr2 : Reads w1 1 (cutA (some ⟨bw, ow, none⟩) 1 cw) t.length (t.map strV) := by
    have h1 := (Reads.of_own HF.out.1).cutA (k := 1) (cap := cw) (by omega) hcl1
    simpa using h1
  have HR2 := Lib.hid hr2
  clear hr2
  go_wp2_with fail
  refine (HRE.out _ _ _ _ HR2.out).mono ?_
  rintro e w2 ⟨A2, n2, c2, f2, rfl, _, hrow0, hk2⟩
  obtain ⟨rfl, hrow⟩ := hrow0 _ rfl
  clear hrow0
  obtain rfl : n2 = 7 := hrow.len
  obtain ⟨bn, on, rfl, hbn, hcn⟩ := hrow.reads.addr (by omega) (by omega)
  have hcx0 : w2.cell? ⟨bn, on, none⟩ = some (.int .u64 x0) := hcn 0 _ rfl
  have hcx1 : w2.cell? ⟨bn, on + 1, none⟩ = some (.int .u64 x1) := hcn 1 _ rfl
  have hcx2 : w2.cell? ⟨bn, on + 2, none⟩ = some (.int .u64 x2) := hcn 2 _ rfl
  have hcx3 : w2.cell? ⟨bn, on + 3, none⟩ = some (.int .u64 x3) := hcn 3 _ rfl
  have hcx4 : w2.cell? ⟨bn, on + 4, none⟩ = some (.int .u64 x4) := hcn 4 _ rfl
  have hcx5 : w2.cell? ⟨bn, on + 5, none⟩ = some (.int .u64 x5) := hcn 5 _ rfl
  have hcx6 : w2.cell? ⟨bn, on + 6, none⟩ = some (.int .u64 x6) := hcn 6 _ rfl
  have HK2 := Lib.hid (HK1.out.trans hk2)
  have HR3 := Lib.hid (HR.out.kept hk2 (by simp))
  have HD3 := Lib.hid (HD.out.kept hk2 (by simp))
  have hdc2 := HD3.out.cell
  have hdf2 := HD3.out.frozen
  have hdl2 := HD3.out.lt
  have hrc2 := HR3.out.cell
  have hrf2 := HR3.out.frozen
  have hrl2 := HR3.out.lt
  have HS2 := Lib.hid (HS.out.kept HK2.out (by simp))
  have HQ2 := Lib.hid (HQ.out.kept HK2.out (by simp))
  have hbn1 : bn ≠ wr.heap.size := by
    intro h
    have h4 := hrow.2 bn (by simp [fp, Value.ownBlock])
    have := HK1.out.size
    have := HD.out.lt
    omega
  have hbn2 : bn ≠ wr.heap.size + 1 := by
    intro h
    have h4 := hrow.2 bn (by simp [fp, Value.ownBlock])
    have := HR.out.lt
    omega
  have hbn3 : wr.heap.size ≠ bn := fun h => hbn1 h.symm
  have hbn4 : wr.heap.size + 1 ≠ bn := fun h => hbn2 h.symm
  clear hk2 hrow hcn hdc hdf hdl hrc hrf hrl
  go_wp2_with fail
  go_region_held3 (fun w' => w'.cell? ⟨bn, on, none⟩ = some (.int .u64 x0) ∧ w'.cell? ⟨bn, on + 1, none⟩ = some (.int .u64 x1) ∧ w'.cell? ⟨bn, on + 2, none⟩ = some (.int .u64 x2) ∧ w'.cell? ⟨bn, on + 3, none⟩ = some (.int .u64 x3) ∧ w'.cell? ⟨bn, on + 4, none⟩ = some (.int .u64 x4) ∧ w'.cell? ⟨bn, on + 5, none⟩ = some (.int .u64 x5) ∧ w'.cell? ⟨bn, on + 6, none⟩ = some (.int .u64 x6)) (go_keep) (first | (go_at_call 35; first | (refine (H0.out _).mono ?_; rintro e w4 ⟨rfl, rfl⟩) | (refine (H1.out _).mono ?_; rintro e w4 ⟨rfl, rfl⟩) | (refine (H2.out _).mono ?_; rintro e w4 ⟨rfl, rfl⟩) | (refine (H3.out _).mono ?_; rintro e w4 ⟨rfl, rfl⟩)))
  go_wp2_with fail
  have hF := ((put9_blk HR3.out (.int .i64 y0) (.int .i64 y1) (.int .i64 y2) (.int .i64 y3) (.int .u64 (x4 : Int)) (.float .f64 x5) (.float .f64 x6) (.slice none 0 0) (.slice none 0 0)).drew).cell
  refine bodyPost_ret (v := .tuple #[.agg #[.int .i64 y0, .int .i64 y1, .int .i64 y2, .int .i64 y3, .int .u64 (x4 : Int), .float .f64 x5, .float .f64 x6, .slice none 0 0, .slice none 0 0], .int .i64 0]) (by simp [results, Tryz.results15, go_sem, hF]) rfl ?_
  exact ⟨none, 0, 0, none, 0, 0, rfl, RowPQ.nil _ _, RowS.nil _ _, (put9_kept (g := wr.heap.size + 1) (HK.out.trans HK2.out) (by have := HK.out.size; omega) (.int .i64 y0) (.int .i64 y1) (.int .i64 y2) (.int .i64 y3) (.int .u64 (x4 : Int)) (.float .f64 x5) (.float .f64 x6) (.slice none 0 0) (.slice none 0 0)).drew, fun g cs h => h.kept (put9_kept (g := wr.heap.size + 1) HK2.out (by omega) (.int .i64 y0) (.int .i64 y1) (.int .i64 y2) (.int .i64 y3) (.int .u64 (x4 : Int)) (.float .f64 x5) (.float .f64 x6) (.slice none 0 0) (.slice none 0 0)).drew (by simp)⟩

end Go.Proofs.YtladfdpcdjjifaaGreatDoor
