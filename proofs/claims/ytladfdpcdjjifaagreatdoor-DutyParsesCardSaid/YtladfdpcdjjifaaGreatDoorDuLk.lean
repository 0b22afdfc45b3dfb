/- The document's line: another line, walked. -/
import Derived.Test.YtladfdpcdjjifaaGreatDoorDutyC
import Derived.Test.YtladfdpcdjjifaaGreatDoorDeedV
namespace Go.Proofs.YtladfdpcdjjifaaGreatDoor
open Go.RowKit

attribute [local go_sem] run_store_float

set_option maxHeartbeats 3200000 in
set_option maxRecDepth 100000 in
theorem rline_deed (w0 wr : World) (d : Du) (A : Option Addr) (n c : Nat) (B : Option Addr) (m e0 : Nat) (l : List UInt8) (a : List UInt8) (t : List (List UInt8)) (hw : words l = a :: t) (h1 : a ≠ dutyW) (h2 : a ≠ startW) (h3 : d.starts = []) (h4 : a ≠ progW) (ho : opOf a ≠ 0) (ps : List (List Dd)) (p : List Dd) (h6 : d.progs = ps ++ [p]) (h7 : (parseD 1048576 l).2 = 0) (hq : RowPQ w0 wr d.progs A n c) (hs : RowS w0 wr d.starts B m e0) (hk : Kept [] w0 wr) (hsm : SmallU 5000 d) (hl : l.length ≤ 80000) :
    Calls Tryz.prog 15 #[.agg (uC d A n c B m e0), strV l, .bool false] wr (Lined w0 wr (({ d with progs := ps ++ [p ++ [(parseD 1048576 l).1]] } : Du), 0)) := by
  have HW := Lib.hid (fun w => refWords l w (by omega))
  rw [hw] at HW
  try simp only [List.length_cons] at HW
  have HQ := Lib.hid hq
  have HS := Lib.hid hs
  have HK := Lib.hid hk
  have HML := Lib.hid hs.len
  have HNL := Lib.hid hq.pp.len
  clear hq hs hk
  obtain ⟨cpus, threads, locks, cap, boost, keep, ratio, progs, starts⟩ := d
  simp only at *
  have hb1 : (a == [100, 117, 116, 121]) = false := beq_eq_false_iff_ne.2 h1
  have hb2 : (a == [115, 116, 97, 114, 116]) = false := beq_eq_false_iff_ne.2 h2
  clear h1 h2
  have hb3 : (a == [112, 114, 111, 103]) = false := beq_eq_false_iff_ne.2 h4
  clear h4
  have hm0 : m = 0 := by have := HML.out; rw [h3] at this; simpa using this
  clear h3 HML
  subst hm0
  have HNM := Lib.hid (fun w => refName9 a w)
  have hnm : (opOf a != 0) = true := by rw [bne_iff_ne]; exact ho
  rw [hnm] at HNM
  clear hnm ho
  have HD7 := Lib.hid (fun w => refParse_any l w (by omega))
  rw [parse_same] at HD7
  generalize parseD 1048576 l = pr at *
  obtain ⟨⟨do_, da, db, dr, dn, dm, dl⟩, ec⟩ := pr
  simp only at h7
  subst h7
  simp only [dCd] at HD7 ⊢
  have hn1 : n = ps.length + 1 := by have := HNL.out; rw [h6] at this; simpa using this
  have hn3 : ps.length + 1 ≤ 5000 := by have := HNL.out; have := hsm.1; simp only at this; omega
  have hpl : p.length ≤ 5000 := hsm.2.2.1 p (by simp only; rw [h6]; simp)
  rw [h6] at HQ
  clear h6 HNL
  subst hn1
  have hn0 : (0 : Int) < (ps.length : Int) + 1 := by omega
  have hw1 : IntKind.i64.wrap ((ps.length : Int) + 1 - 1) = (ps.length : Int) := by rw [Int.add_sub_cancel]; exact IntWalk.i64_in _ (by omega)
  have hi3 : (0 : Int) ≤ (ps.length : Int) := by omega
  have hi4 : (ps.length : Int) < (ps.length : Int) + 1 := by omega
  unfold Lined
  simp only [uC]
  go_enter Tryz.func15, Tryz.ntmps15
  go_wp2_with fail
  refine (HW.out _).mono ?_
  rintro e w1 ⟨Aw, cw, rfl, hF⟩
  have HF := Lib.hid hF
  have hk1 := hF.2.1
  have HD : Hid (Blk w1 wr.heap.size 27 #[.int .i64 cpus, .int .i64 threads, .int .i64 locks, .int .i64 cap, .int .u64 (boost : Int), .float .f64 keep, .float .f64 ratio, .slice A (ps.length + 1) c, .slice B 0 e0]) := ((Blk.new wr 27 _).alloc _).kept hk1 (by simp)
  have HR : Hid (Blk w1 (wr.heap.size + 1) 27 #[.int .i64 0, .int .i64 0, .int .i64 0, .int .i64 0, .int .u64 0, .float .f64 0, .float .f64 0, .slice none 0 0, .slice none 0 0]) := (Blk.newAt (by simp) 27 _).kept hk1 (by simp)
  have HK1 := Lib.hid ((((Kept.refl [] wr).alloc (.cells #[.int .i64 cpus, .int .i64 threads, .int .i64 locks, .int .i64 cap, .int .u64 (boost : Int), .float .f64 keep, .float .f64 ratio, .slice A (ps.length + 1) c, .slice B 0 e0] 27)).alloc (.cells #[.int .i64 0, .int .i64 0, .int .i64 0, .int .i64 0, .int .u64 0, .float .f64 0, .float .f64 0, .slice none 0 0, .slice none 0 0] 27)).trans hk1)
  have hdc := HD.out.cell
  have hdf := HD.out.frozen
  have hdl := HD.out.lt
  have hrc := HR.out.cell
  have hrf := HR.out.frozen
  have hrl := HR.out.lt
  clear hF hk1
  obtain ⟨bw, ow, rfl, hbw, hcw⟩ := (Reads.of_own HF.out.1).addr (by omega) (by omega)
  have hc0 := hcw 0 (strV a) (by simp)
  rw [Nat.add_zero] at hc0
  have hb0 : ((t.length : Int) + 1 == 0) = false := beq_eq_false_iff_ne.2 (by omega)
  have hi0 : (0 : Int) < (t.length : Int) + 1 := by omega
  go_wp2_with fail
  refine (HNM.out _).mono ?_
  rintro e w2 ⟨rfl, hk2⟩
  have hc02 : w2.cell? ⟨bw, ow, none⟩ = some (strV a) := hk2.cell_some hc0 (by simp)
  have HK2 := Lib.hid (HK1.out.trans hk2)
  have HR3 := Lib.hid (HR.out.kept hk2 (by simp))
  have HD3 := Lib.hid (HD.out.kept hk2 (by simp))
  have hdc2 := HD3.out.cell
  have hdf2 := HD3.out.frozen
  have hdl2 := HD3.out.lt
  have hrc2 := HR3.out.cell
  have hrf2 := HR3.out.frozen
  have hrl2 := HR3.out.lt
  clear hk2
  go_wp2_with fail
  refine (HD7.out _).mono ?_
  rintro e w3 ⟨rfl, hk3⟩
  have HK4 := Lib.hid (HK2.out.trans hk3)
  have HR4 := Lib.hid ((HR3.out.kept hk3 (by simp)))
  have HD4 := Lib.hid (HD3.out.kept hk3 (by simp))
  have hdc4 := HD4.out.cell
  have hdf4 := HD4.out.frozen
  have hdl4 := HD4.out.lt
  have hrc4 := HR4.out.cell
  have hrf4 := HR4.out.frozen
  have hrl4 := HR4.out.lt
  have hne1 : wr.heap.size ≠ w3.heap.size := by omega
  have hne2 : wr.heap.size + 1 ≠ w3.heap.size := by omega
  have hne3 : w3.heap.size ≠ wr.heap.size := by omega
  have hne4 : w3.heap.size ≠ wr.heap.size + 1 := by omega
  have hlt1 : wr.heap.size < w3.heap.size + 1 := by omega
  have hlt2 : wr.heap.size + 1 < w3.heap.size + 1 := by omega
  have HKW := Lib.hid hk3
  clear hk3 hdc2 hdf2 hdl2 hrc2 hrf2 hrl2 hdc hdf hdl hrc hrf hrl
  obtain ⟨gp, Ap, np, cp, rfl, _, hcell5, hfro5, hrd5, hgp, hgq, hrow2, hre⟩ := (HQ.out.kept HK4.out (by simp)).lastK (HK.out.trans HK4.out).size
  have hgg1 : wr.heap.size ∉ [gp] := by
    obtain ⟨xs, n2, c2, ho⟩ := hrow2
    intro h
    have h := List.mem_singleton.1 h
    subst h
    exact own_blk_ne ho HD4.out (by decide) rfl
  have HGG3 : Hid (∀ g cs, Blk wr g 27 cs → g ∉ [gp]) := fun g cs hb h => by
    obtain ⟨xs, n2, c2, ho⟩ := hrow2
    obtain rfl := List.mem_singleton.1 h
    exact own_blk_ne ho (hb.kept HK4.out (by simp)) (by decide) rfl
  have hgg2 : wr.heap.size + 1 ∉ [gp] := by
    obtain ⟨xs, n2, c2, ho⟩ := hrow2
    intro h
    have h := List.mem_singleton.1 h
    subst h
    exact own_blk_ne ho HR4.out (by decide) rfl
  have hgs2 : ∀ k, k ∈ fp (.slice B 0 e0) → k ∉ [gp] := fun k hk' h => by
    obtain ⟨xs, n2, c2, ho⟩ := hrow2
    obtain rfl := List.mem_singleton.1 h
    exact own_own_ne (HS.out.kept HK4.out (by simp)).1 ho (by decide) k hk' (by simp [fp_some])
  have HRE := Lib.hid hre
  have HGG1 := Lib.hid hgg1
  have HGG2 := Lib.hid hgg2
  have HGS := Lib.hid hgs2
  have HO : Hid (∀ W, Kept [] w3 W → W.ownsRow 0 60 7 (.slice Ap np cp) np (p.flatMap dL)) := fun W hk => (hrd5.kept hk (by simp)).1
  have H2 := Lib.hid hrd5.2
  have HGQ := Lib.hid hgq
  have HC5 := Lib.hid hcell5
  have hgpl := World.block_lt_of_cell? w3 _ hcell5
  simp only at hgpl
  have hnp : np = p.length := Reads.lenK dL 7 dL_len hrd5.reads (by omega)
  have hgpl3 : gp < w3.heap.size + 1 := by omega
  have hgpne : gp ≠ w3.heap.size := by omega
  have hgpne2 : w3.heap.size ≠ gp := by omega
  have hnp2 : np ≤ 5000 := by omega
  clear hre hrd5 hgq hnp hgg1 hgg2 hgs2 hrow2
  go_wp2_with fail
  have HDB : Hid (Blk (w3.alloc (.cells #[.int .i64 do_, .int .i64 da, .int .i64 db, .int .i64 dr, .int .u64 (dn : Int), .int .u64 (dm : Int), .bool dl] 60)) w3.heap.size 60 #[.int .i64 do_, .int .i64 da, .int .i64 db, .int .i64 dr, .int .u64 (dn : Int), .int .u64 (dm : Int), .bool dl]) := Blk.new _ _ _
  have HDBF : Hid (w3.heap.size ∉ fp (.slice Ap np cp)) := fun h => absurd (own_lt (HO.out _ (Kept.refl _ _)) _ h) (by omega)
  refine wp_region_held_drew (S := fun w' => w'.cell? ⟨wr.heap.size, 7, none⟩ = some (.slice (some ⟨gp, 0, none⟩) (ps.length + 1) c) ∧ ∀ i, w'.cell? ⟨w3.heap.size, i, none⟩ = #[.int .i64 do_, .int .i64 da, .int .i64 db, .int .i64 dr, .int .u64 (dn : Int), .int .u64 (dm : Int), .bool dl][i]?) (by kernel_rfl) ⟨(HD4.out.kept (show Kept [] w3 _ by (repeat (first | (with_reducible exact Kept.refl _ _) | (with_reducible assumption) | (with_reducible refine Kept.alloc ?_ _) | (with_reducible refine Kept.drew ?_) | (with_reducible refine Kept.drewN ?_ _) | (with_reducible refine Kept.setCell ?_ ?_ _) | (exact .inr (Nat.le_refl _)) | (exact .inr (by simp only; omega)) | (exact .inr (by omega))))) (by simp)).cell 7, (HDB.out.kept (show Kept [] (w3.alloc (.cells #[.int .i64 do_, .int .i64 da, .int .i64 db, .int .i64 dr, .int .u64 (dn : Int), .int .u64 (dm : Int), .bool dl] 60)) _ by (repeat (first | (with_reducible exact Kept.refl _ _) | (with_reducible assumption) | (with_reducible refine Kept.alloc ?_ _) | (with_reducible refine Kept.drew ?_) | (with_reducible refine Kept.drewN ?_ _) | (with_reducible refine Kept.setCell ?_ ?_ _) | (exact .inr (Nat.le_refl _)) | (exact .inr (by simp only; omega)) | (exact .inr (by omega))))) (by simp)).cell⟩ (fun hHeld => ?_)
  (refine rtake_0 (v := ?_) (by kernel_rfl) (by kernel_rfl) (by kernel_rfl) (fun _ _ _ h => h) (Or.inl ⟨by rfl, ?_⟩) (by assumption) ?_; rotate_left; focus ((intro w hSw; (try dsimp only at hSw); go_simp); try (with_reducible rfl)); (try simp only [Act.put, List.setIfInBounds_toArray, List.set_cons_zero, List.set_cons_succ]))
  (try simp only [Act.put, List.setIfInBounds_toArray, List.set_cons_zero, List.set_cons_succ])
  (refine rtake_1 (v := ?_) (by kernel_rfl) (by kernel_rfl) (by kernel_rfl) (fun _ _ _ h => h) (Or.inl ⟨by rfl, ?_⟩) (by assumption) ?_; rotate_left; focus ((intro w hSw; (try dsimp only at hSw); go_simp); try (with_reducible rfl)); (try simp only [Act.put, List.setIfInBounds_toArray, List.set_cons_zero, List.set_cons_succ]))
  (try simp only [Act.put, List.setIfInBounds_toArray, List.set_cons_zero, List.set_cons_succ])
  (refine rtake_2 (v := ?_) (by kernel_rfl) (by kernel_rfl) (by kernel_rfl) (fun _ _ _ h => h) (Or.inl ⟨by rfl, ?_⟩) (by assumption) ?_; rotate_left; focus ((intro w hSw; (try dsimp only at hSw); go_simp); try (with_reducible rfl)); (try simp only [Act.put, List.setIfInBounds_toArray, List.set_cons_zero, List.set_cons_succ]))
  (try simp only [Act.put, List.setIfInBounds_toArray, List.set_cons_zero, List.set_cons_succ])
  (refine rtake_3 (v := ?_) (by kernel_rfl) (by kernel_rfl) (by kernel_rfl) (fun _ _ _ h => h) (Or.inl ⟨by rfl, ?_⟩) (by assumption) ?_; rotate_left; focus ((intro w hSw; (try dsimp only at hSw); go_simp); try (with_reducible rfl)); (try simp only [Act.put, List.setIfInBounds_toArray, List.set_cons_zero, List.set_cons_succ]))
  (try simp only [Act.put, List.setIfInBounds_toArray, List.set_cons_zero, List.set_cons_succ])
  (refine rtake_4 (v := ?_) (by kernel_rfl) (by kernel_rfl) (by kernel_rfl) (fun _ _ _ h => h) (Or.inl ⟨by rfl, ?_⟩) (by assumption) ?_; rotate_left; focus ((intro w hSw; (try dsimp only at hSw); go_simp); try (with_reducible rfl)); (try simp only [Act.put, List.setIfInBounds_toArray, List.set_cons_zero, List.set_cons_succ]))
  (try simp only [Act.put, List.setIfInBounds_toArray, List.set_cons_zero, List.set_cons_succ])
  (refine rtake_5 (v := ?_) (by kernel_rfl) (by kernel_rfl) (by kernel_rfl) (fun _ _ _ h => h) (Or.inl ⟨by rfl, ?_⟩) (by assumption) ?_; rotate_left; focus ((intro w hSw; (try dsimp only at hSw); go_simp); try (with_reducible rfl)); (try simp only [Act.put, List.setIfInBounds_toArray, List.set_cons_zero, List.set_cons_succ]))
  (try simp only [Act.put, List.setIfInBounds_toArray, List.set_cons_zero, List.set_cons_succ])
  (refine rtake_6 (v := ?_) (by kernel_rfl) (by kernel_rfl) (by kernel_rfl) (fun _ _ _ h => h) (Or.inl ⟨by rfl, ?_⟩) (by assumption) ?_; rotate_left; focus ((intro w hSw; (try dsimp only at hSw); go_simp); try (with_reducible rfl)); (try simp only [Act.put, List.setIfInBounds_toArray, List.set_cons_zero, List.set_cons_succ]))
  (try simp only [Act.put, List.setIfInBounds_toArray, List.set_cons_zero, List.set_cons_succ])
  (refine rtake_8 (v := ?_) (by kernel_rfl) (by kernel_rfl) (by kernel_rfl) (fun _ _ _ h => h) (Or.inl ⟨by rfl, ?_⟩) (by assumption) ?_; rotate_left; focus ((intro w hSw; (try dsimp only at hSw); go_simp); try (with_reducible rfl)); (try simp only [Act.put, List.setIfInBounds_toArray, List.set_cons_zero, List.set_cons_succ]))
  (try simp only [Act.put, List.setIfInBounds_toArray, List.set_cons_zero, List.set_cons_succ])
  (refine wpAnyH_ready (rs := [7, 9]) (by kernel_rfl) (by simp) ?_; refine rcons_7 (fun K hK => ?_) (rcons_9 (fun K hK => ?_) (AllReadyH.nil)))
  · go_simp
    refine hK.out _ _ ⟨by first | exact hHeld.1 | exact (HD4.out.kept (show Kept [] w3 _ by (repeat (first | (with_reducible exact Kept.refl _ _) | (with_reducible assumption) | (with_reducible refine Kept.alloc ?_ _) | (with_reducible refine Kept.drew ?_) | (with_reducible refine Kept.drewN ?_ _) | (with_reducible refine Kept.setCell ?_ ?_ _) | (exact .inr (Nat.le_refl _)) | (exact .inr (by simp only; omega)) | (exact .inr (by omega))))) (by simp)).cell 7, by first | exact hHeld.2 | exact (HDB.out.kept (show Kept [] (w3.alloc (.cells #[.int .i64 do_, .int .i64 da, .int .i64 db, .int .i64 dr, .int .u64 (dn : Int), .int .u64 (dm : Int), .bool dl] 60)) _ by (repeat (first | (with_reducible exact Kept.refl _ _) | (with_reducible assumption) | (with_reducible refine Kept.alloc ?_ _) | (with_reducible refine Kept.drew ?_) | (with_reducible refine Kept.drewN ?_ _) | (with_reducible refine Kept.setCell ?_ ?_ _) | (exact .inr (Nat.le_refl _)) | (exact .inr (by simp only; omega)) | (exact .inr (by omega))))) (by simp)).cell⟩ (fun hHeld => ?_)
    clear hK K
    (try simp only [Act.put, List.setIfInBounds_toArray, List.set_cons_zero, List.set_cons_succ])
    (refine wpAnyH_ready (rs := [9]) (by kernel_rfl) (by simp) ?_; refine rcons_9 (fun K hK => ?_) (AllReadyH.nil))
    go_simp
    refine hK.out _ _ ⟨by first | exact hHeld.1 | exact (HD4.out.kept (show Kept [] w3 _ by (repeat (first | (with_reducible exact Kept.refl _ _) | (with_reducible assumption) | (with_reducible refine Kept.alloc ?_ _) | (with_reducible refine Kept.drew ?_) | (with_reducible refine Kept.drewN ?_ _) | (with_reducible refine Kept.setCell ?_ ?_ _) | (exact .inr (Nat.le_refl _)) | (exact .inr (by simp only; omega)) | (exact .inr (by omega))))) (by simp)).cell 7, by first | exact hHeld.2 | exact (HDB.out.kept (show Kept [] (w3.alloc (.cells #[.int .i64 do_, .int .i64 da, .int .i64 db, .int .i64 dr, .int .u64 (dn : Int), .int .u64 (dm : Int), .bool dl] 60)) _ by (repeat (first | (with_reducible exact Kept.refl _ _) | (with_reducible assumption) | (with_reducible refine Kept.alloc ?_ _) | (with_reducible refine Kept.drew ?_) | (with_reducible refine Kept.drewN ?_ _) | (with_reducible refine Kept.setCell ?_ ?_ _) | (exact .inr (Nat.le_refl _)) | (exact .inr (by simp only; omega)) | (exact .inr (by omega))))) (by simp)).cell⟩ (fun hHeld => ?_)
    clear hK K
    (try simp only [Act.put, List.setIfInBounds_toArray, List.set_cons_zero, List.set_cons_succ])
    (refine wpAnyH_ready (rs := [10]) (by kernel_rfl) (by simp) ?_; refine rcons_10 (fun K hK => ?_) (AllReadyH.nil))
    refine step_append_any _ rfl (.tmp 165) (.tmp 167) 47 rfl 60 (.agg (dC 0 0 0 0 0 0 false)) 7 56 Tryz.underlying47 Tryz.info60 rfl (by decide) (.slice Ap np cp) np (p.flatMap dL) (by simp [Act.eval, Act.put]) (HO.out _ (by (repeat (first | (with_reducible exact Kept.refl _ _) | (with_reducible assumption) | (with_reducible refine Kept.alloc ?_ _) | (with_reducible refine Kept.drew ?_) | (with_reducible refine Kept.drewN ?_ _) | (with_reducible refine Kept.setCell ?_ ?_ _) | (exact .inr (Nat.le_refl _)) | (exact .inr (by simp only; omega)) | (exact .inr (by omega)))))) _ 1 1 (dL ⟨do_, da, db, dr, dn, dm, dl⟩) (by simp [Act.eval, Act.put]) (reads_dd _ _ ⟨do_, da, db, dr, dn, dm, dl⟩) (dL_one _) (by simp only [maxLen]; omega) (by omega) ?_
    rintro A2 c2 w5 happ
    have HA := Lib.hid happ
    have HD5 := Lib.hid (blk_apart (HD4.out.kept (show Kept [] w3 _ by (repeat (first | (with_reducible exact Kept.refl _ _) | (with_reducible assumption) | (with_reducible refine Kept.alloc ?_ _) | (with_reducible refine Kept.drew ?_) | (with_reducible refine Kept.drewN ?_ _) | (with_reducible refine Kept.setCell ?_ ?_ _) | (exact .inr (Nat.le_refl _)) | (exact .inr (by simp only; omega)) | (exact .inr (by omega))))) (by simp)) (HO.out _ (show Kept [] w3 _ by (repeat (first | (with_reducible exact Kept.refl _ _) | (with_reducible assumption) | (with_reducible refine Kept.alloc ?_ _) | (with_reducible refine Kept.drew ?_) | (with_reducible refine Kept.drewN ?_ _) | (with_reducible refine Kept.setCell ?_ ?_ _) | (exact .inr (Nat.le_refl _)) | (exact .inr (by simp only; omega)) | (exact .inr (by omega)))))) happ.2.1 (by decide))
    have HR5 := Lib.hid (blk_apart (HR4.out.kept (show Kept [] w3 _ by (repeat (first | (with_reducible exact Kept.refl _ _) | (with_reducible assumption) | (with_reducible refine Kept.alloc ?_ _) | (with_reducible refine Kept.drew ?_) | (with_reducible refine Kept.drewN ?_ _) | (with_reducible refine Kept.setCell ?_ ?_ _) | (exact .inr (Nat.le_refl _)) | (exact .inr (by simp only; omega)) | (exact .inr (by omega))))) (by simp)) (HO.out _ (show Kept [] w3 _ by (repeat (first | (with_reducible exact Kept.refl _ _) | (with_reducible assumption) | (with_reducible refine Kept.alloc ?_ _) | (with_reducible refine Kept.drew ?_) | (with_reducible refine Kept.drewN ?_ _) | (with_reducible refine Kept.setCell ?_ ?_ _) | (exact .inr (Nat.le_refl _)) | (exact .inr (by simp only; omega)) | (exact .inr (by omega)))))) happ.2.1 (by decide))
    have HBK5 : Hid (∀ g cs, Blk wr g 27 cs → Blk w5 g 27 cs) := fun g cs h => blk_apart (h.kept (HK4.out.trans (show Kept [] w3 _ by (repeat (first | (with_reducible exact Kept.refl _ _) | (with_reducible assumption) | (with_reducible refine Kept.alloc ?_ _) | (with_reducible refine Kept.drew ?_) | (with_reducible refine Kept.drewN ?_ _) | (with_reducible refine Kept.setCell ?_ ?_ _) | (exact .inr (Nat.le_refl _)) | (exact .inr (by simp only; omega)) | (exact .inr (by omega)))))) (by simp)) (HO.out _ (show Kept [] w3 _ by (repeat (first | (with_reducible exact Kept.refl _ _) | (with_reducible assumption) | (with_reducible refine Kept.alloc ?_ _) | (with_reducible refine Kept.drew ?_) | (with_reducible refine Kept.drewN ?_ _) | (with_reducible refine Kept.setCell ?_ ?_ _) | (exact .inr (Nat.le_refl _)) | (exact .inr (by simp only; omega)) | (exact .inr (by omega)))))) HA.out.2.1 (by decide)
    have hk5 : Kept (fp (.slice Ap np cp)) w3 w5 := Kept.trans' (Kept.mono (show Kept [] w3 _ by (repeat (first | (with_reducible exact Kept.refl _ _) | (with_reducible assumption) | (with_reducible refine Kept.alloc ?_ _) | (with_reducible refine Kept.drew ?_) | (with_reducible refine Kept.drewN ?_ _) | (with_reducible refine Kept.setCell ?_ ?_ _) | (exact .inr (Nat.le_refl _)) | (exact .inr (by simp only; omega)) | (exact .inr (by omega))))) (by simp)) happ.2.1 (fun q hq => .inl hq)
    have hk4 : Kept (fp (.slice Ap np cp)) (w3.alloc (.cells #[.int .i64 do_, .int .i64 da, .int .i64 db, .int .i64 dr, .int .u64 (dn : Int), .int .u64 (dm : Int), .bool dl] 60)) w5 := Kept.trans' (Kept.mono (show Kept [] (w3.alloc (.cells #[.int .i64 do_, .int .i64 da, .int .i64 db, .int .i64 dr, .int .u64 (dn : Int), .int .u64 (dm : Int), .bool dl] 60)) _ by (repeat (first | (with_reducible exact Kept.refl _ _) | (with_reducible assumption) | (with_reducible refine Kept.alloc ?_ _) | (with_reducible refine Kept.drew ?_) | (with_reducible refine Kept.drewN ?_ _) | (with_reducible refine Kept.setCell ?_ ?_ _) | (exact .inr (Nat.le_refl _)) | (exact .inr (by simp only; omega)) | (exact .inr (by omega))))) (by simp)) happ.2.1 (fun q hq => .inl hq)
    have HDB5 := Lib.hid (HDB.out.kept hk4 HDBF.out)
    have hc6 : w5.cell? ⟨gp, ps.length, none⟩ = some (.slice Ap np cp) := hk5.cell_some HC5.out HGQ.out
    have hf6 : w5.frozen? ⟨gp, ps.length, none⟩ = false := (hk5.frozen hgpl HGQ.out).trans hfro5
    have hl6 : gp < w5.heap.size := World.block_lt_of_cell? w5 _ hc6
    clear happ
    refine hK.out _ _ ⟨HD5.out.cell 7, HDB5.out.cell⟩ (fun hHeld => ?_)
    clear hK K
    (try simp only [Act.put, List.setIfInBounds_toArray, List.set_cons_zero, List.set_cons_succ])
    (refine rtake_11 (v := ?_) (by kernel_rfl) (by kernel_rfl) (by kernel_rfl) (fun _ _ _ h => h) (Or.inl ⟨by rfl, ?_⟩) (by assumption) ?_; rotate_left; focus ((intro w hSw; (try dsimp only at hSw); go_simp); try (with_reducible rfl)); (try simp only [Act.put, List.setIfInBounds_toArray, List.set_cons_zero, List.set_cons_succ]))
    (refine wpAnyH_ready (rs := [12]) (by kernel_rfl) (by simp) ?_; refine rcons_12 (fun K hK => ?_) (AllReadyH.nil))
    go_simp
    have hset : Kept [gp] w5 (w5.setCell ⟨gp, ps.length, none⟩ (.slice A2 (np + 1) c2)) := (Kept.refl [gp] w5).setCell (.inl (by simp)) _
    refine hK.out _ _ ⟨(HD5.out.kept hset HGG1.out).cell 7, (HDB5.out.kept hset (by simp; omega)).cell⟩ (fun hHeld => ?_)
    clear hK K
    refine wpAnyH_done (by kernel_rfl) ?_ _
    have hq5 := HRE.out _ _ _ _ ⟨do_, da, db, dr, dn, dm, dl⟩ (show Kept [] w3 _ by (repeat (first | (with_reducible exact Kept.refl _ _) | (with_reducible assumption) | (with_reducible refine Kept.alloc ?_ _) | (with_reducible refine Kept.drew ?_) | (with_reducible refine Kept.drewN ?_ _) | (with_reducible refine Kept.setCell ?_ ?_ _) | (exact .inr (Nat.le_refl _)) | (exact .inr (by simp only; omega)) | (exact .inr (by omega))))) HA.out
    have hs5 : RowS w0 w5 starts B 0 e0 := (HS.out.kept (HK4.out.trans (show Kept [] w3 _ by (repeat (first | (with_reducible exact Kept.refl _ _) | (with_reducible assumption) | (with_reducible refine Kept.alloc ?_ _) | (with_reducible refine Kept.drew ?_) | (with_reducible refine Kept.drewN ?_ _) | (with_reducible refine Kept.setCell ?_ ?_ _) | (exact .inr (Nat.le_refl _)) | (exact .inr (by simp only; omega)) | (exact .inr (by omega)))))) (by simp)).apart (HO.out _ (show Kept [] w3 _ by (repeat (first | (with_reducible exact Kept.refl _ _) | (with_reducible assumption) | (with_reducible refine Kept.alloc ?_ _) | (with_reducible refine Kept.drew ?_) | (with_reducible refine Kept.drewN ?_ _) | (with_reducible refine Kept.setCell ?_ ?_ _) | (exact .inr (Nat.le_refl _)) | (exact .inr (by simp only; omega)) | (exact .inr (by omega)))))) HA.out.2.1 (by decide)
    have hk7 : Kept [] w0 w5 := ((HK.out.trans HK4.out).trans (show Kept [] w3 _ by (repeat (first | (with_reducible exact Kept.refl _ _) | (with_reducible assumption) | (with_reducible refine Kept.alloc ?_ _) | (with_reducible refine Kept.drew ?_) | (with_reducible refine Kept.drewN ?_ _) | (with_reducible refine Kept.setCell ?_ ?_ _) | (exact .inr (Nat.le_refl _)) | (exact .inr (by simp only; omega)) | (exact .inr (by omega)))))).trans' HA.out.2.1 (fun q hq => .inr (H2.out q hq))
    have HQ6 := Lib.hid hq5
    have HS6 := Lib.hid (hs5.kept2 hset HGS.out)
    have HK6 := Lib.hid (hk7.setCell (p := ⟨gp, ps.length, none⟩) (.inr hgp) (.slice A2 (np + 1) c2))
    have HD6 := Lib.hid (HD5.out.kept hset HGG1.out)
    have HR6 := Lib.hid (HR5.out.kept hset HGG2.out)
    have HBK6 : Hid (∀ g cs, Blk wr g 27 cs → Blk (w5.setCell ⟨gp, ps.length, none⟩ (.slice A2 (np + 1) c2)) g 27 cs) := fun g cs h => (HBK5.out g cs h).kept hset (HGG3.out g cs h)
    have hdc6 := HD6.out.cell
    have hdf6 := HD6.out.frozen
    have hdl6 := HD6.out.lt
    have hrc6 := HR6.out.cell
    have hrf6 := HR6.out.frozen
    have hrl6 := HR6.out.lt
    clear hq5 hs5 hk5 hk4 hk7 hset hHeld
    generalize w5.setCell ⟨gp, ps.length, none⟩ (.slice A2 (np + 1) c2) = w6 at *
    clear hdc4 hdf4 hdl4 hrc4 hrf4 hrl4 hc6 hf6 hl6
    go_wp2_with fail
    have hF := (put9_blk HR6.out (.int .i64 cpus) (.int .i64 threads) (.int .i64 locks) (.int .i64 cap) (.int .u64 (boost : Int)) (.float .f64 keep) (.float .f64 ratio) (.slice (some ⟨gp, 0, none⟩) (ps.length + 1) c) (.slice B 0 e0)).cell
    refine bodyPost_ret (v := .tuple #[.agg #[.int .i64 cpus, .int .i64 threads, .int .i64 locks, .int .i64 cap, .int .u64 (boost : Int), .float .f64 keep, .float .f64 ratio, .slice (some ⟨gp, 0, none⟩) (ps.length + 1) c, .slice B 0 e0], .int .i64 0]) (by simp [results, Tryz.results15, go_sem, hF]) rfl ?_
    have hk9 := put9_keeps (w := w6) (g := wr.heap.size + 1) (.int .i64 cpus) (.int .i64 threads) (.int .i64 locks) (.int .i64 cap) (.int .u64 (boost : Int)) (.float .f64 keep) (.float .f64 ratio) (.slice (some ⟨gp, 0, none⟩) (ps.length + 1) c) (.slice B 0 e0)
    have hkk := put9_kept (g := wr.heap.size + 1) HK6.out (by have := HK.out.size; omega) (.int .i64 cpus) (.int .i64 threads) (.int .i64 locks) (.int .i64 cap) (.int .u64 (boost : Int)) (.float .f64 keep) (.float .f64 ratio) (.slice (some ⟨gp, 0, none⟩) (ps.length + 1) c) (.slice B 0 e0)
    exact ⟨some ⟨gp, 0, none⟩, ps.length + 1, c, B, 0, e0, rfl, HQ6.out.block HR6.out hk9 (by decide) (by decide), HS6.out.block HR6.out hk9 (by decide), hkk, fun g cs h => (HBK6.out g cs h).kept hk9 (by have := h.lt; simp; omega)⟩
  · go_simp
    refine hK.out _ _ ⟨by first | exact hHeld.1 | exact (HD4.out.kept (show Kept [] w3 _ by (repeat (first | (with_reducible exact Kept.refl _ _) | (with_reducible assumption) | (with_reducible refine Kept.alloc ?_ _) | (with_reducible refine Kept.drew ?_) | (with_reducible refine Kept.drewN ?_ _) | (with_reducible refine Kept.setCell ?_ ?_ _) | (exact .inr (Nat.le_refl _)) | (exact .inr (by simp only; omega)) | (exact .inr (by omega))))) (by simp)).cell 7, by first | exact hHeld.2 | exact (HDB.out.kept (show Kept [] (w3.alloc (.cells #[.int .i64 do_, .int .i64 da, .int .i64 db, .int .i64 dr, .int .u64 (dn : Int), .int .u64 (dm : Int), .bool dl] 60)) _ by (repeat (first | (with_reducible exact Kept.refl _ _) | (with_reducible assumption) | (with_reducible refine Kept.alloc ?_ _) | (with_reducible refine Kept.drew ?_) | (with_reducible refine Kept.drewN ?_ _) | (with_reducible refine Kept.setCell ?_ ?_ _) | (exact .inr (Nat.le_refl _)) | (exact .inr (by simp only; omega)) | (exact .inr (by omega))))) (by simp)).cell⟩ (fun hHeld => ?_)
    clear hK K
    (try simp only [Act.put, List.setIfInBounds_toArray, List.set_cons_zero, List.set_cons_succ])
    (refine wpAnyH_ready (rs := [7]) (by kernel_rfl) (by simp) ?_; refine rcons_7 (fun K hK => ?_) (AllReadyH.nil))
    go_simp
    refine hK.out _ _ ⟨by first | exact hHeld.1 | exact (HD4.out.kept (show Kept [] w3 _ by (repeat (first | (with_reducible exact Kept.refl _ _) | (with_reducible assumption) | (with_reducible refine Kept.alloc ?_ _) | (with_reducible refine Kept.drew ?_) | (with_reducible refine Kept.drewN ?_ _) | (with_reducible refine Kept.setCell ?_ ?_ _) | (exact .inr (Nat.le_refl _)) | (exact .inr (by simp only; omega)) | (exact .inr (by omega))))) (by simp)).cell 7, by first | exact hHeld.2 | exact (HDB.out.kept (show Kept [] (w3.alloc (.cells #[.int .i64 do_, .int .i64 da, .int .i64 db, .int .i64 dr, .int .u64 (dn : Int), .int .u64 (dm : Int), .bool dl] 60)) _ by (repeat (first | (with_reducible exact Kept.refl _ _) | (with_reducible assumption) | (with_reducible refine Kept.alloc ?_ _) | (with_reducible refine Kept.drew ?_) | (with_reducible refine Kept.drewN ?_ _) | (with_reducible refine Kept.setCell ?_ ?_ _) | (exact .inr (Nat.le_refl _)) | (exact .inr (by simp only; omega)) | (exact .inr (by omega))))) (by simp)).cell⟩ (fun hHeld => ?_)
    clear hK K
    (try simp only [Act.put, List.setIfInBounds_toArray, List.set_cons_zero, List.set_cons_succ])
    (refine wpAnyH_ready (rs := [10]) (by kernel_rfl) (by simp) ?_; refine rcons_10 (fun K hK => ?_) (AllReadyH.nil))
    refine step_append_any _ rfl (.tmp 165) (.tmp 167) 47 rfl 60 (.agg (dC 0 0 0 0 0 0 false)) 7 56 Tryz.underlying47 Tryz.info60 rfl (by decide) (.slice Ap np cp) np (p.flatMap dL) (by simp [Act.eval, Act.put]) (HO.out _ (by (repeat (first | (with_reducible exact Kept.refl _ _) | (with_reducible assumption) | (with_reducible refine Kept.alloc ?_ _) | (with_reducible refine Kept.drew ?_) | (with_reducible refine Kept.drewN ?_ _) | (with_reducible refine Kept.setCell ?_ ?_ _) | (exact .inr (Nat.le_refl _)) | (exact .inr (by simp only; omega)) | (exact .inr (by omega)))))) _ 1 1 (dL ⟨do_, da, db, dr, dn, dm, dl⟩) (by simp [Act.eval, Act.put]) (reads_dd _ _ ⟨do_, da, db, dr, dn, dm, dl⟩) (dL_one _) (by simp only [maxLen]; omega) (by omega) ?_
    rintro A2 c2 w5 happ
    have HA := Lib.hid happ
    have HD5 := Lib.hid (blk_apart (HD4.out.kept (show Kept [] w3 _ by (repeat (first | (with_reducible exact Kept.refl _ _) | (with_reducible assumption) | (with_reducible refine Kept.alloc ?_ _) | (with_reducible refine Kept.drew ?_) | (with_reducible refine Kept.drewN ?_ _) | (with_reducible refine Kept.setCell ?_ ?_ _) | (exact .inr (Nat.le_refl _)) | (exact .inr (by simp only; omega)) | (exact .inr (by omega))))) (by simp)) (HO.out _ (show Kept [] w3 _ by (repeat (first | (with_reducible exact Kept.refl _ _) | (with_reducible assumption) | (with_reducible refine Kept.alloc ?_ _) | (with_reducible refine Kept.drew ?_) | (with_reducible refine Kept.drewN ?_ _) | (with_reducible refine Kept.setCell ?_ ?_ _) | (exact .inr (Nat.le_refl _)) | (exact .inr (by simp only; omega)) | (exact .inr (by omega)))))) happ.2.1 (by decide))
    have HR5 := Lib.hid (blk_apart (HR4.out.kept (show Kept [] w3 _ by (repeat (first | (with_reducible exact Kept.refl _ _) | (with_reducible assumption) | (with_reducible refine Kept.alloc ?_ _) | (with_reducible refine Kept.drew ?_) | (with_reducible refine Kept.drewN ?_ _) | (with_reducible refine Kept.setCell ?_ ?_ _) | (exact .inr (Nat.le_refl _)) | (exact .inr (by simp only; omega)) | (exact .inr (by omega))))) (by simp)) (HO.out _ (show Kept [] w3 _ by (repeat (first | (with_reducible exact Kept.refl _ _) | (with_reducible assumption) | (with_reducible refine Kept.alloc ?_ _) | (with_reducible refine Kept.drew ?_) | (with_reducible refine Kept.drewN ?_ _) | (with_reducible refine Kept.setCell ?_ ?_ _) | (exact .inr (Nat.le_refl _)) | (exact .inr (by simp only; omega)) | (exact .inr (by omega)))))) happ.2.1 (by decide))
    have HBK5 : Hid (∀ g cs, Blk wr g 27 cs → Blk w5 g 27 cs) := fun g cs h => blk_apart (h.kept (HK4.out.trans (show Kept [] w3 _ by (repeat (first | (with_reducible exact Kept.refl _ _) | (with_reducible assumption) | (with_reducible refine Kept.alloc ?_ _) | (with_reducible refine Kept.drew ?_) | (with_reducible refine Kept.drewN ?_ _) | (with_reducible refine Kept.setCell ?_ ?_ _) | (exact .inr (Nat.le_refl _)) | (exact .inr (by simp only; omega)) | (exact .inr (by omega)))))) (by simp)) (HO.out _ (show Kept [] w3 _ by (repeat (first | (with_reducible exact Kept.refl _ _) | (with_reducible assumption) | (with_reducible refine Kept.alloc ?_ _) | (with_reducible refine Kept.drew ?_) | (with_reducible refine Kept.drewN ?_ _) | (with_reducible refine Kept.setCell ?_ ?_ _) | (exact .inr (Nat.le_refl _)) | (exact .inr (by simp only; omega)) | (exact .inr (by omega)))))) HA.out.2.1 (by decide)
    have hk5 : Kept (fp (.slice Ap np cp)) w3 w5 := Kept.trans' (Kept.mono (show Kept [] w3 _ by (repeat (first | (with_reducible exact Kept.refl _ _) | (with_reducible assumption) | (with_reducible refine Kept.alloc ?_ _) | (with_reducible refine Kept.drew ?_) | (with_reducible refine Kept.drewN ?_ _) | (with_reducible refine Kept.setCell ?_ ?_ _) | (exact .inr (Nat.le_refl _)) | (exact .inr (by simp only; omega)) | (exact .inr (by omega))))) (by simp)) happ.2.1 (fun q hq => .inl hq)
    have hk4 : Kept (fp (.slice Ap np cp)) (w3.alloc (.cells #[.int .i64 do_, .int .i64 da, .int .i64 db, .int .i64 dr, .int .u64 (dn : Int), .int .u64 (dm : Int), .bool dl] 60)) w5 := Kept.trans' (Kept.mono (show Kept [] (w3.alloc (.cells #[.int .i64 do_, .int .i64 da, .int .i64 db, .int .i64 dr, .int .u64 (dn : Int), .int .u64 (dm : Int), .bool dl] 60)) _ by (repeat (first | (with_reducible exact Kept.refl _ _) | (with_reducible assumption) | (with_reducible refine Kept.alloc ?_ _) | (with_reducible refine Kept.drew ?_) | (with_reducible refine Kept.drewN ?_ _) | (with_reducible refine Kept.setCell ?_ ?_ _) | (exact .inr (Nat.le_refl _)) | (exact .inr (by simp only; omega)) | (exact .inr (by omega))))) (by simp)) happ.2.1 (fun q hq => .inl hq)
    have HDB5 := Lib.hid (HDB.out.kept hk4 HDBF.out)
    have hc6 : w5.cell? ⟨gp, ps.length, none⟩ = some (.slice Ap np cp) := hk5.cell_some HC5.out HGQ.out
    have hf6 : w5.frozen? ⟨gp, ps.length, none⟩ = false := (hk5.frozen hgpl HGQ.out).trans hfro5
    have hl6 : gp < w5.heap.size := World.block_lt_of_cell? w5 _ hc6
    clear happ
    refine hK.out _ _ ⟨HD5.out.cell 7, HDB5.out.cell⟩ (fun hHeld => ?_)
    clear hK K
    (try simp only [Act.put, List.setIfInBounds_toArray, List.set_cons_zero, List.set_cons_succ])
    (refine rtake_11 (v := ?_) (by kernel_rfl) (by kernel_rfl) (by kernel_rfl) (fun _ _ _ h => h) (Or.inl ⟨by rfl, ?_⟩) (by assumption) ?_; rotate_left; focus ((intro w hSw; (try dsimp only at hSw); go_simp); try (with_reducible rfl)); (try simp only [Act.put, List.setIfInBounds_toArray, List.set_cons_zero, List.set_cons_succ]))
    (refine wpAnyH_ready (rs := [12]) (by kernel_rfl) (by simp) ?_; refine rcons_12 (fun K hK => ?_) (AllReadyH.nil))
    go_simp
    have hset : Kept [gp] w5 (w5.setCell ⟨gp, ps.length, none⟩ (.slice A2 (np + 1) c2)) := (Kept.refl [gp] w5).setCell (.inl (by simp)) _
    refine hK.out _ _ ⟨(HD5.out.kept hset HGG1.out).cell 7, (HDB5.out.kept hset (by simp; omega)).cell⟩ (fun hHeld => ?_)
    clear hK K
    refine wpAnyH_done (by kernel_rfl) ?_ _
    have hq5 := HRE.out _ _ _ _ ⟨do_, da, db, dr, dn, dm, dl⟩ (show Kept [] w3 _ by (repeat (first | (with_reducible exact Kept.refl _ _) | (with_reducible assumption) | (with_reducible refine Kept.alloc ?_ _) | (with_reducible refine Kept.drew ?_) | (with_reducible refine Kept.drewN ?_ _) | (with_reducible refine Kept.setCell ?_ ?_ _) | (exact .inr (Nat.le_refl _)) | (exact .inr (by simp only; omega)) | (exact .inr (by omega))))) HA.out
    have hs5 : RowS w0 w5 starts B 0 e0 := (HS.out.kept (HK4.out.trans (show Kept [] w3 _ by (repeat (first | (with_reducible exact Kept.refl _ _) | (with_reducible assumption) | (with_reducible refine Kept.alloc ?_ _) | (with_reducible refine Kept.drew ?_) | (with_reducible refine Kept.drewN ?_ _) | (with_reducible refine Kept.setCell ?_ ?_ _) | (exact .inr (Nat.le_refl _)) | (exact .inr (by simp only; omega)) | (exact .inr (by omega)))))) (by simp)).apart (HO.out _ (show Kept [] w3 _ by (repeat (first | (with_reducible exact Kept.refl _ _) | (with_reducible assumption) | (with_reducible refine Kept.alloc ?_ _) | (with_reducible refine Kept.drew ?_) | (with_reducible refine Kept.drewN ?_ _) | (with_reducible refine Kept.setCell ?_ ?_ _) | (exact .inr (Nat.le_refl _)) | (exact .inr (by simp only; omega)) | (exact .inr (by omega)))))) HA.out.2.1 (by decide)
    have hk7 : Kept [] w0 w5 := ((HK.out.trans HK4.out).trans (show Kept [] w3 _ by (repeat (first | (with_reducible exact Kept.refl _ _) | (with_reducible assumption) | (with_reducible refine Kept.alloc ?_ _) | (with_reducible refine Kept.drew ?_) | (with_reducible refine Kept.drewN ?_ _) | (with_reducible refine Kept.setCell ?_ ?_ _) | (exact .inr (Nat.le_refl _)) | (exact .inr (by simp only; omega)) | (exact .inr (by omega)))))).trans' HA.out.2.1 (fun q hq => .inr (H2.out q hq))
    have HQ6 := Lib.hid hq5
    have HS6 := Lib.hid (hs5.kept2 hset HGS.out)
    have HK6 := Lib.hid (hk7.setCell (p := ⟨gp, ps.length, none⟩) (.inr hgp) (.slice A2 (np + 1) c2))
    have HD6 := Lib.hid (HD5.out.kept hset HGG1.out)
    have HR6 := Lib.hid (HR5.out.kept hset HGG2.out)
    have HBK6 : Hid (∀ g cs, Blk wr g 27 cs → Blk (w5.setCell ⟨gp, ps.length, none⟩ (.slice A2 (np + 1) c2)) g 27 cs) := fun g cs h => (HBK5.out g cs h).kept hset (HGG3.out g cs h)
    have hdc6 := HD6.out.cell
    have hdf6 := HD6.out.frozen
    have hdl6 := HD6.out.lt
    have hrc6 := HR6.out.cell
    have hrf6 := HR6.out.frozen
    have hrl6 := HR6.out.lt
    clear hq5 hs5 hk5 hk4 hk7 hset hHeld
    generalize w5.setCell ⟨gp, ps.length, none⟩ (.slice A2 (np + 1) c2) = w6 at *
    clear hdc4 hdf4 hdl4 hrc4 hrf4 hrl4 hc6 hf6 hl6
    go_wp2_with fail
    have hF := (put9_blk HR6.out (.int .i64 cpus) (.int .i64 threads) (.int .i64 locks) (.int .i64 cap) (.int .u64 (boost : Int)) (.float .f64 keep) (.float .f64 ratio) (.slice (some ⟨gp, 0, none⟩) (ps.length + 1) c) (.slice B 0 e0)).cell
    refine bodyPost_ret (v := .tuple #[.agg #[.int .i64 cpus, .int .i64 threads, .int .i64 locks, .int .i64 cap, .int .u64 (boost : Int), .float .f64 keep, .float .f64 ratio, .slice (some ⟨gp, 0, none⟩) (ps.length + 1) c, .slice B 0 e0], .int .i64 0]) (by simp [results, Tryz.results15, go_sem, hF]) rfl ?_
    have hk9 := put9_keeps (w := w6) (g := wr.heap.size + 1) (.int .i64 cpus) (.int .i64 threads) (.int .i64 locks) (.int .i64 cap) (.int .u64 (boost : Int)) (.float .f64 keep) (.float .f64 ratio) (.slice (some ⟨gp, 0, none⟩) (ps.length + 1) c) (.slice B 0 e0)
    have hkk := put9_kept (g := wr.heap.size + 1) HK6.out (by have := HK.out.size; omega) (.int .i64 cpus) (.int .i64 threads) (.int .i64 locks) (.int .i64 cap) (.int .u64 (boost : Int)) (.float .f64 keep) (.float .f64 ratio) (.slice (some ⟨gp, 0, none⟩) (ps.length + 1) c) (.slice B 0 e0)
    exact ⟨some ⟨gp, 0, none⟩, ps.length + 1, c, B, 0, e0, rfl, HQ6.out.block HR6.out hk9 (by decide) (by decide), HS6.out.block HR6.out hk9 (by decide), hkk, fun g cs h => (HBK6.out g cs h).kept hk9 (by have := h.lt; simp; omega)⟩

end Go.Proofs.YtladfdpcdjjifaaGreatDoor
