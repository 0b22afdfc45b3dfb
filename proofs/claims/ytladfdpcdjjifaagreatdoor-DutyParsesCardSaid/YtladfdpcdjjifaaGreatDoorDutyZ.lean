/- The document's Same of programs; The document's Same of duties; Package duty: the page's example: Plain, Text; the law's awake. -/
import Derived.Test.YtladfdpcdjjifaaGreatDoorDeedC
import Derived.Deep.QuietTactic
import Derived.BigQuiet
import Derived.Test.YtladfdpcdjjifaaGreatDoorDuO
import Derived.ChangeKeysEq
import Derived.Laws.StructEq
import Derived.Deep.RegionHeld3
import Derived.Test.YtladfdpcdjjifaaGreatDoorDeedV
import Derived.Test.YtladfdpcdjjifaaGreatDoorDuK
import Derived.Test.YtladfdpcdjjifaaGreatDoorDeedE
import Derived.Test.YtladfdpcdjjifaaGreatDoorShelf
import Derived.Test.YtladfdpcdjjifaaGreatDoorNumsB
import Derived.Test.YtladfdpcdjjifaaGreatDoorNumsH
import Derived.Test.YtladfdpcdjjifaaGreatDoorDeedK

/- The document's Same of programs. -/
namespace Go.Proofs.YtladfdpcdjjifaaGreatDoor
open Go.RowKit
attribute [local go_sem] eqDeed

set_option maxHeartbeats 3200000 in
set_option maxRecDepth 100000 in
theorem refSameD (A : Option Addr) (n c : Nat) (A2 : Option Addr) (m d : Nat) (l : List Dd) (w : World) (ha : ReadsD w A n l) (hb : ReadsD w A2 m l) (hl : l.length ≤ 100000) :
    Calls Tryz.prog 18 #[.slice A n c, .slice A2 m d] w fun e w' => e = .returned (.bool true) ∧ Kept [] w w' := by
  have hn := ha.len
  have hm := hb.len
  subst hn hm
  have HA := Lib.hid ha
  have HB := Lib.hid hb
  have hbn : ((l.length : Int) != (l.length : Int)) = false := by simp
  clear ha hb
  go_enter Tryz.func18, Tryz.ntmps18
  go_wp2_with fail
  go_loopw [5] (fun iv wr => ∃ k : Nat, k ≤ l.length ∧ iv = .int .i64 k ∧ Hid (Kept [] w wr)) (fun i _ => l.length - (intOf i).toNat)
  case atStart => exact ⟨0, by omega, rfl, Kept.refl _ _⟩
  case round =>
    obtain ⟨k, hk, rfl, HK⟩ := hrel
    by_cases hlt : k < l.length
    · obtain ⟨e, b, o, rfl, hx, hb, hc0, hc1, hc2, hc3, hc4, hc5, hc6⟩ := (HA.out.old HK.out).at_ hlt
      obtain ⟨e2, b2, o2, rfl, hx2, hb2, hd0, hd1, hd2, hd3, hd4, hd5, hd6⟩ := (HB.out.old HK.out).at_ hlt
      rw [hx] at hx2
      injection hx2 with hx2
      subst hx2
      obtain ⟨o1, a1, b1, r1, n1, m1, l1⟩ := e
      simp only at hc0 hc1 hc2 hc3 hc4 hc5 hc6 hd0 hd1 hd2 hd3 hd4 hd5 hd6
      have hi0 : (0 : Int) ≤ (k : Int) := by omega
      have hi1 : (k : Int) < (l.length : Int) := by omega
      clear hx
      go_wp2_with fail
      go_quiet (fail)
      go_wp2_with fail
      go_roundw
      case rel => exact ⟨k + 1, by omega, by go_num, HK.out.trans (by (repeat (first | (with_reducible exact Kept.refl _ _) | (with_reducible assumption) | (with_reducible refine Kept.alloc ?_ _) | (with_reducible refine Kept.drew ?_) | (with_reducible refine Kept.drewN ?_ _) | (with_reducible refine Kept.setCell ?_ ?_ _) | (exact .inr (Nat.le_refl _)) | (exact .inr (by simp only; omega)) | (exact .inr (by omega)))))⟩
      case measure => simp [intOf]; omega
    · obtain rfl : k = l.length := by omega
      go_wp2_with fail
      go_ret
      exact ⟨rfl, HK.out⟩

end Go.Proofs.YtladfdpcdjjifaaGreatDoor

/- The document's Same of duties. -/
namespace Go.Proofs.YtladfdpcdjjifaaGreatDoor
open Go.RowKit

theorem Tryz.info22q : (Tryz.prog.info? 22).map (fun i => (i.zero, i.size, i.bytes)) = some (some (.int .u64 0), 1, 8) := by kernel_rfl
set_option maxRecDepth 100000 in
theorem eqArr7 (a0 a1 a2 a3 a4 a5 a6 : Int) (W : World) : (Op.equalIn 10000 44 (.agg #[.int .u64 a0, .int .u64 a1, .int .u64 a2, .int .u64 a3, .int .u64 a4, .int .u64 a5, .int .u64 a6]) (.agg #[.int .u64 a0, .int .u64 a1, .int .u64 a2, .int .u64 a3, .int .u64 a4, .int .u64 a5, .int .u64 a6])).run Tryz.prog W = .ok true W := by
  obtain ⟨i, hi, hz, hs, hb⟩ := info_parts Tryz.info22q
  have hc : Tryz.prog.cellsOf 22 = 1 := by kernel_rfl
  have u24 := Tryz.underlying22
  rw [show (10000 : Nat) = 9999 + 1 from rfl, Go.run_equalIn_array _ 9999 _ _ Tryz.underlying44 hi, hc]
  rw [show List.range 7 = [0, 1, 2, 3, 4, 5, 6] from rfl]
  simp only [Op.eqItems]
  go_simp
theorem eqStart (a b : Int) (c : Int) (a' b' : Int) (c' : Int) (w : World) : (Op.equalIn 10000 49 (.agg #[.int .i64 a, .int .i64 b, .int .u64 c]) (.agg #[.int .i64 a', .int .i64 b', .int .u64 c'])).run Tryz.prog w = .ok (a == a' && (b == b' && c == c')) w := by
  have hS : Tryz.prog.underlying 49 = some (.struct (Tryz.prog.fieldsOf 49)) := by kernel_rfl
  have hp : Tryz.prog.stoodInHeld 49 = false := by kernel_rfl
  have u3 := Tryz.underlying3
  have u24 := Tryz.underlying22
  rw [show (10000 : Nat) = 9999 + 1 from rfl, run_equalIn_agg w 9999 49 _ _ hS hp]
  simp only [Program.fieldsOf, Tryz.underlying49]
  go_simp
  by_cases h1 : a = a' <;> by_cases h2 : b = b' <;> by_cases h3 : c = c' <;> simp [h1, h2, h3]
attribute [local go_sem] eqArr7 eqStart

set_option maxHeartbeats 6400000 in
set_option maxRecDepth 100000 in
theorem refSame9 (d : Du) (A : Option Addr) (n c : Nat) (B : Option Addr) (m e : Nat) (A2 : Option Addr) (n2 c2 : Nat) (B2 : Option Addr) (m2 e2 : Nat) (w : World) (h1 : IsU w d A n B m) (h2 : IsU w d A2 n2 B2 m2) (hp : d.progs.length ≤ 100000) (hs : d.starts.length ≤ 100000) (hb : ∀ p ∈ d.progs, p.length ≤ 100000) :
    Calls Tryz.prog 6 #[.agg (uC d A n c B m e), .agg (uC d A2 n2 c2 B2 m2 e2)] w fun r w' => r = .returned (.bool true) ∧ Kept [] w w' := by
  have HN1 := Lib.hid (fun w => R9numbers_any d A n c B m e w)
  have HN2 := Lib.hid (fun w => R9numbers_any d A2 n2 c2 B2 m2 e2 w)
  have HU1 := Lib.hid h1
  have HU2 := Lib.hid h2
  have HBL := Lib.hid hb
  have l1 := h1.1.len
  have l2 := h1.2.len
  have l3 := h2.1.len
  have l4 := h2.2.len
  obtain ⟨cpus, threads, locks, cap, boost, keep, ratio, progs, starts⟩ := d
  simp only [uC, numsC] at HN1 HN2 ⊢
  simp only at HU1 HU2 HBL hp hs l1 l2 l3 l4
  subst l1 l2 l3 l4
  clear h1 h2 hb
  go_enter Tryz.func6, Tryz.ntmps6
  go_wp2_with fail
  have hmix : Tryz.prog.follows .mixedOrders = true := by kernel_rfl
  have qB := Lib.hid (((Blk.new w 27 #[.int .i64 cpus, .int .i64 threads, .int .i64 locks, .int .i64 cap, .int .u64 (boost : Int), .float .f64 keep, .float .f64 ratio, .slice A progs.length c, .slice B starts.length e]).alloc (.cells #[.int .i64 cpus, .int .i64 threads, .int .i64 locks, .int .i64 cap, .int .u64 (boost : Int), .float .f64 keep, .float .f64 ratio, .slice A2 progs.length c2, .slice B2 starts.length e2] 27)).drew)
  have qD : Hid (Blk ((w.alloc (.cells #[.int .i64 cpus, .int .i64 threads, .int .i64 locks, .int .i64 cap, .int .u64 (boost : Int), .float .f64 keep, .float .f64 ratio, .slice A progs.length c, .slice B starts.length e] 27)).alloc (.cells #[.int .i64 cpus, .int .i64 threads, .int .i64 locks, .int .i64 cap, .int .u64 (boost : Int), .float .f64 keep, .float .f64 ratio, .slice A2 progs.length c2, .slice B2 starts.length e2] 27)).drew (w.heap.size + 1) 27 #[.int .i64 cpus, .int .i64 threads, .int .i64 locks, .int .i64 cap, .int .u64 (boost : Int), .float .f64 keep, .float .f64 ratio, .slice A2 progs.length c2, .slice B2 starts.length e2]) := (Blk.newAt (w := w.alloc (.cells #[.int .i64 cpus, .int .i64 threads, .int .i64 locks, .int .i64 cap, .int .u64 (boost : Int), .float .f64 keep, .float .f64 ratio, .slice A progs.length c, .slice B starts.length e] 27)) (by simp) 27 #[.int .i64 cpus, .int .i64 threads, .int .i64 locks, .int .i64 cap, .int .u64 (boost : Int), .float .f64 keep, .float .f64 ratio, .slice A2 progs.length c2, .slice B2 starts.length e2]).drew
  have qK : Hid (Kept [] w ((w.alloc (.cells #[.int .i64 cpus, .int .i64 threads, .int .i64 locks, .int .i64 cap, .int .u64 (boost : Int), .float .f64 keep, .float .f64 ratio, .slice A progs.length c, .slice B starts.length e] 27)).alloc (.cells #[.int .i64 cpus, .int .i64 threads, .int .i64 locks, .int .i64 cap, .int .u64 (boost : Int), .float .f64 keep, .float .f64 ratio, .slice A2 progs.length c2, .slice B2 starts.length e2] 27)).drew) := (((Kept.refl _ _).alloc _).alloc _).drew
  refine wp_region_held_drew (S := fun w' => (∀ i, w'.cell? ⟨w.heap.size, i, none⟩ = #[.int .i64 cpus, .int .i64 threads, .int .i64 locks, .int .i64 cap, .int .u64 (boost : Int), .float .f64 keep, .float .f64 ratio, .slice A progs.length c, .slice B starts.length e][i]?) ∧ (∀ i, w'.cell? ⟨w.heap.size + 1, i, none⟩ = #[.int .i64 cpus, .int .i64 threads, .int .i64 locks, .int .i64 cap, .int .u64 (boost : Int), .float .f64 keep, .float .f64 ratio, .slice A2 progs.length c2, .slice B2 starts.length e2][i]?)) hmix ⟨qB.out.cell, qD.out.cell⟩ (fun hHeld => ?_)
  (refine rtake_0 (v := ?_) (by kernel_rfl) (by kernel_rfl) (by kernel_rfl) (fun _ _ _ h => h) (Or.inl ⟨by rfl, ?_⟩) (by assumption) ?_; rotate_left; focus ((intro w hSw; (try dsimp only at hSw); go_simp); try (with_reducible rfl)); (try simp only [Act.put, List.setIfInBounds_toArray, List.set_cons_zero, List.set_cons_succ]))
  (refine rtake_2 (v := ?_) (by kernel_rfl) (by kernel_rfl) (by kernel_rfl) (fun _ _ _ h => h) (Or.inl ⟨by rfl, ?_⟩) (by assumption) ?_; rotate_left; focus ((intro w hSw; (try dsimp only at hSw); go_simp); try (with_reducible rfl)); (try simp only [Act.put, List.setIfInBounds_toArray, List.set_cons_zero, List.set_cons_succ]))
  (refine wpAnyH_ready (rs := [1]) (by kernel_rfl) (by simp) ?_; refine rcons_1 (fun K hK => ?_) (AllReadyH.nil))
  go_simp
  (with_reducible refine (HN1.out _).mono ?_)
  rintro r w1 ⟨rfl, hk1⟩
  have HB1 := Lib.hid (qB.out.kept hk1 (by simp))
  have HD1 := Lib.hid (qD.out.kept hk1 (by simp))
  have HK1 := Lib.hid (qK.out.trans hk1)
  clear hk1
  try go_simp
  refine hK.out _ _ ⟨HB1.out.cell, HD1.out.cell⟩ (fun hHeld => ?_)
  clear hK K
  (refine wpAnyH_ready (rs := [3]) (by kernel_rfl) (by simp) ?_; refine rcons_3 (fun K hK => ?_) (AllReadyH.nil))
  go_simp
  (with_reducible refine (HN2.out _).mono ?_)
  rintro r w2 ⟨rfl, hk2⟩
  have HB2 := Lib.hid (HB1.out.kept hk2 (by simp))
  have HD2 := Lib.hid (HD1.out.kept hk2 (by simp))
  have HK2 := Lib.hid (HK1.out.trans hk2)
  clear hk2
  try go_simp
  refine hK.out _ _ ⟨HB2.out.cell, HD2.out.cell⟩ (fun hHeld => ?_)
  clear hK K
  (refine rtake_4 (v := ?_) (by kernel_rfl) (by kernel_rfl) (by kernel_rfl) (fun _ _ _ h => h) (Or.inl ⟨by rfl, ?_⟩) (by assumption) ?_; rotate_left; focus ((intro w hSw; (try dsimp only at hSw); go_simp); try (with_reducible rfl)); (try simp only [Act.put, List.setIfInBounds_toArray, List.set_cons_zero, List.set_cons_succ]))
  simp only [Act.put, List.setIfInBounds_toArray, List.set_cons_zero, List.set_cons_succ]
  (refine rtake_5 (v := ?_) (by kernel_rfl) (by kernel_rfl) (by kernel_rfl) (fun _ _ _ h => h) (Or.inl ⟨by rfl, ?_⟩) (by assumption) ?_; rotate_left; focus ((intro w hSw; (try dsimp only at hSw); go_simp); try (with_reducible rfl)); (try simp only [Act.put, List.setIfInBounds_toArray, List.set_cons_zero, List.set_cons_succ]))
  simp only [Act.put, List.setIfInBounds_toArray, List.set_cons_zero, List.set_cons_succ]
  (refine rtake_6 (v := ?_) (by kernel_rfl) (by kernel_rfl) (by kernel_rfl) (fun _ _ _ h => h) (Or.inl ⟨by rfl, ?_⟩) (by assumption) ?_; rotate_left; focus ((intro w hSw; (try dsimp only at hSw); go_simp); try (with_reducible rfl)); (try simp only [Act.put, List.setIfInBounds_toArray, List.set_cons_zero, List.set_cons_succ]))
  simp only [Act.put, List.setIfInBounds_toArray, List.set_cons_zero, List.set_cons_succ]
  (refine rtake_7 (v := ?_) (by kernel_rfl) (by kernel_rfl) (by kernel_rfl) (fun _ _ _ h => h) (Or.inl ⟨by rfl, ?_⟩) (by assumption) ?_; rotate_left; focus ((intro w hSw; (try dsimp only at hSw); go_simp); try (with_reducible rfl)); (try simp only [Act.put, List.setIfInBounds_toArray, List.set_cons_zero, List.set_cons_succ]))
  simp only [Act.put, List.setIfInBounds_toArray, List.set_cons_zero, List.set_cons_succ]
  (refine rtake_8 (v := ?_) (by kernel_rfl) (by kernel_rfl) (by kernel_rfl) (fun _ _ _ h => h) (Or.inl ⟨by rfl, ?_⟩) (by assumption) ?_; rotate_left; focus ((intro w hSw; (try dsimp only at hSw); go_simp); try (with_reducible rfl)); (try simp only [Act.put, List.setIfInBounds_toArray, List.set_cons_zero, List.set_cons_succ]))
  simp only [Act.put, List.setIfInBounds_toArray, List.set_cons_zero, List.set_cons_succ]
  (refine rtake_9 (v := ?_) (by kernel_rfl) (by kernel_rfl) (by kernel_rfl) (fun _ _ _ h => h) (Or.inl ⟨by rfl, ?_⟩) (by assumption) ?_; rotate_left; focus ((intro w hSw; (try dsimp only at hSw); go_simp); try (with_reducible rfl)); (try simp only [Act.put, List.setIfInBounds_toArray, List.set_cons_zero, List.set_cons_succ]))
  simp only [Act.put, List.setIfInBounds_toArray, List.set_cons_zero, List.set_cons_succ]
  (refine rtake_10 (v := ?_) (by kernel_rfl) (by kernel_rfl) (by kernel_rfl) (fun _ _ _ h => h) (Or.inl ⟨by rfl, ?_⟩) (by assumption) ?_; rotate_left; focus ((intro w hSw; (try dsimp only at hSw); go_simp); try (with_reducible rfl)); (try simp only [Act.put, List.setIfInBounds_toArray, List.set_cons_zero, List.set_cons_succ]))
  simp only [Act.put, List.setIfInBounds_toArray, List.set_cons_zero, List.set_cons_succ]
  (refine rtake_11 (v := ?_) (by kernel_rfl) (by kernel_rfl) (by kernel_rfl) (fun _ _ _ h => h) (Or.inl ⟨by rfl, ?_⟩) (by assumption) ?_; rotate_left; focus ((intro w hSw; (try dsimp only at hSw); go_simp); try (with_reducible rfl)); (try simp only [Act.put, List.setIfInBounds_toArray, List.set_cons_zero, List.set_cons_succ]))
  simp only [Act.put, List.setIfInBounds_toArray, List.set_cons_zero, List.set_cons_succ]
  (refine rtake_12 (v := ?_) (by kernel_rfl) (by kernel_rfl) (by kernel_rfl) (fun _ _ _ h => h) (Or.inl ⟨by rfl, ?_⟩) (by assumption) ?_; rotate_left; focus ((intro w hSw; (try dsimp only at hSw); go_simp); try (with_reducible rfl)); (try simp only [Act.put, List.setIfInBounds_toArray, List.set_cons_zero, List.set_cons_succ]))
  simp only [Act.put, List.setIfInBounds_toArray, List.set_cons_zero, List.set_cons_succ]
  (refine rtake_13 (v := ?_) (by kernel_rfl) (by kernel_rfl) (by kernel_rfl) (fun _ _ _ h => h) (Or.inl ⟨by rfl, ?_⟩) (by assumption) ?_; rotate_left; focus ((intro w hSw; (try dsimp only at hSw); go_simp); try (with_reducible rfl)); (try simp only [Act.put, List.setIfInBounds_toArray, List.set_cons_zero, List.set_cons_succ]))
  simp only [Act.put, List.setIfInBounds_toArray, List.set_cons_zero, List.set_cons_succ]
  (refine rtake_14 (v := ?_) (by kernel_rfl) (by kernel_rfl) (by kernel_rfl) (fun _ _ _ h => h) (Or.inl ⟨by rfl, ?_⟩) (by assumption) ?_; rotate_left; focus ((intro w hSw; (try dsimp only at hSw); go_simp); try (with_reducible rfl)); (try simp only [Act.put, List.setIfInBounds_toArray, List.set_cons_zero, List.set_cons_succ]))
  simp only [Act.put, List.setIfInBounds_toArray, List.set_cons_zero, List.set_cons_succ]
  (refine rtake_15 (v := ?_) (by kernel_rfl) (by kernel_rfl) (by kernel_rfl) (fun _ _ _ h => h) (Or.inl ⟨by rfl, ?_⟩) (by assumption) ?_; rotate_left; focus ((intro w hSw; (try dsimp only at hSw); go_simp); try (with_reducible rfl)); (try simp only [Act.put, List.setIfInBounds_toArray, List.set_cons_zero, List.set_cons_succ]))
  simp only [Act.put, List.setIfInBounds_toArray, List.set_cons_zero, List.set_cons_succ]
  (refine rtake_16 (v := ?_) (by kernel_rfl) (by kernel_rfl) (by kernel_rfl) (fun _ _ _ h => h) (Or.inl ⟨by rfl, ?_⟩) (by assumption) ?_; rotate_left; focus ((intro w hSw; (try dsimp only at hSw); go_simp); try (with_reducible rfl)); (try simp only [Act.put, List.setIfInBounds_toArray, List.set_cons_zero, List.set_cons_succ]))
  simp only [Act.put, List.setIfInBounds_toArray, List.set_cons_zero, List.set_cons_succ]
  (refine rtake_17 (v := ?_) (by kernel_rfl) (by kernel_rfl) (by kernel_rfl) (fun _ _ _ h => h) (Or.inl ⟨by rfl, ?_⟩) (by assumption) ?_; rotate_left; focus ((intro w hSw; (try dsimp only at hSw); go_simp); try (with_reducible rfl)); (try simp only [Act.put, List.setIfInBounds_toArray, List.set_cons_zero, List.set_cons_succ]))
  simp only [Act.put, List.setIfInBounds_toArray, List.set_cons_zero, List.set_cons_succ]
  (refine rtake_18 (v := ?_) (by kernel_rfl) (by kernel_rfl) (by kernel_rfl) (fun _ _ _ h => h) (Or.inl ⟨by rfl, ?_⟩) (by assumption) ?_; rotate_left; focus ((intro w hSw; (try dsimp only at hSw); go_simp); try (with_reducible rfl)); (try simp only [Act.put, List.setIfInBounds_toArray, List.set_cons_zero, List.set_cons_succ]))
  simp only [Act.put, List.setIfInBounds_toArray, List.set_cons_zero, List.set_cons_succ]
  (refine rtake_19 (v := ?_) (by kernel_rfl) (by kernel_rfl) (by kernel_rfl) (fun _ _ _ h => h) (Or.inl ⟨by rfl, ?_⟩) (by assumption) ?_; rotate_left; focus ((intro w hSw; (try dsimp only at hSw); go_simp); try (with_reducible rfl)); (try simp only [Act.put, List.setIfInBounds_toArray, List.set_cons_zero, List.set_cons_succ]))
  simp only [Act.put, List.setIfInBounds_toArray, List.set_cons_zero, List.set_cons_succ]
  (refine rtake_20 (v := ?_) (by kernel_rfl) (by kernel_rfl) (by kernel_rfl) (fun _ _ _ h => h) (Or.inl ⟨by rfl, ?_⟩) (by assumption) ?_; rotate_left; focus ((intro w hSw; (try dsimp only at hSw); go_simp); try (with_reducible rfl)); (try simp only [Act.put, List.setIfInBounds_toArray, List.set_cons_zero, List.set_cons_succ]))
  simp only [Act.put, List.setIfInBounds_toArray, List.set_cons_zero, List.set_cons_succ]
  (refine rtake_21 (v := ?_) (by kernel_rfl) (by kernel_rfl) (by kernel_rfl) (fun _ _ _ h => h) (Or.inl ⟨by rfl, ?_⟩) (by assumption) ?_; rotate_left; focus ((intro w hSw; (try dsimp only at hSw); go_simp); try (with_reducible rfl)); (try simp only [Act.put, List.setIfInBounds_toArray, List.set_cons_zero, List.set_cons_succ]))
  simp only [Act.put, List.setIfInBounds_toArray, List.set_cons_zero, List.set_cons_succ]
  (refine rtake_22 (v := ?_) (by kernel_rfl) (by kernel_rfl) (by kernel_rfl) (fun _ _ _ h => h) (Or.inl ⟨by rfl, ?_⟩) (by assumption) ?_; rotate_left; focus ((intro w hSw; (try dsimp only at hSw); go_simp); try (with_reducible rfl)); (try simp only [Act.put, List.setIfInBounds_toArray, List.set_cons_zero, List.set_cons_succ]))
  simp only [Act.put, List.setIfInBounds_toArray, List.set_cons_zero, List.set_cons_succ]
  refine wpAnyH_done (by kernel_rfl) ?_ _
  go_wp2_with fail
  go_loopw [5] (fun iv wr => ∃ k : Nat, k ≤ progs.length ∧ iv = .int .i64 k ∧ Hid (Kept [] w2 wr)) (fun i _ => progs.length - (intOf i).toNat)
  case atStart => exact ⟨0, by omega, rfl, Kept.refl _ _⟩
  case round =>
    obtain ⟨k, hk, rfl, HK⟩ := hrel
    have HBr := Lib.hid (HB2.out.kept HK.out (by simp))
    have HDr := Lib.hid (HD2.out.kept HK.out (by simp))
    have HKr := Lib.hid (HK2.out.trans HK.out)
    have hb := HBr.out.cell
    have hbl := HBr.out.lt
    have hd := HDr.out.cell
    have hdl := HDr.out.lt
    by_cases hlt : k < progs.length
    · obtain ⟨p, b, o, Ai, ni, ci, rfl, hx, hb1, hc0, hrp⟩ := (HU1.out.1.old HKr.out).at_ hlt
      obtain ⟨p2, b2, o2, Aj, nj, cj, rfl, hx2, hb2, hd0, hrp2⟩ := (HU2.out.1.old HKr.out).at_ hlt
      have hx' : progs[k]? = some p := hx
      have hx2' : progs[k]? = some p2 := hx2
      rw [hx'] at hx2'
      injection hx2' with hx2'
      subst hx2'
      have hpl := HBL.out p (List.mem_of_getElem? hx')
      have HSM := Lib.hid (fun w' (hk : Kept [] wr w') => refSameD Ai ni ci Aj nj cj p w' (hrp.old hk) (hrp2.old hk) hpl)
      have hi0 : (0 : Int) ≤ (k : Int) := by omega
      have hi1 : (k : Int) < (progs.length : Int) := by omega
      have HC0 : Hid (wr.drew.cell? ⟨b, o + k, none⟩ = some (.slice Ai ni ci)) := hc0
      have HD0 : Hid (wr.drew.cell? ⟨b2, o2 + k, none⟩ = some (.slice Aj nj cj)) := hd0
      clear hx hx' hx2 hrp hrp2
      go_wp2_with fail
      refine wp_region_held_drew (S := fun w' => (∀ i, w'.cell? ⟨w.heap.size, i, none⟩ = #[.int .i64 cpus, .int .i64 threads, .int .i64 locks, .int .i64 cap, .int .u64 (boost : Int), .float .f64 keep, .float .f64 ratio, .slice (some ⟨b, o, none⟩) progs.length c, .slice B starts.length e][i]?) ∧ (∀ i, w'.cell? ⟨w.heap.size + 1, i, none⟩ = #[.int .i64 cpus, .int .i64 threads, .int .i64 locks, .int .i64 cap, .int .u64 (boost : Int), .float .f64 keep, .float .f64 ratio, .slice (some ⟨b2, o2, none⟩) progs.length c2, .slice B2 starts.length e2][i]?) ∧ w'.cell? ⟨b, o + k, none⟩ = some (.slice Ai ni ci) ∧ w'.cell? ⟨b2, o2 + k, none⟩ = some (.slice Aj nj cj)) hmix ⟨HBr.out.drew.cell, HDr.out.drew.cell, HC0.out, HD0.out⟩ (fun hHeld => ?_)
      clear hb hbl hd hdl hc0 hd0
      (refine rtake_0 (v := ?_) (by kernel_rfl) (by kernel_rfl) (by kernel_rfl) (fun _ _ _ h => h) (Or.inl ⟨by rfl, ?_⟩) (by assumption) ?_; rotate_left; focus ((intro w hSw; (try dsimp only at hSw); go_simp); try (with_reducible rfl)); (try simp only [Act.put, List.setIfInBounds_toArray, List.set_cons_zero, List.set_cons_succ]))
      simp only [Act.put, List.setIfInBounds_toArray, List.set_cons_zero, List.set_cons_succ]
      (refine rtake_1 (v := ?_) (by kernel_rfl) (by kernel_rfl) (by kernel_rfl) (fun _ _ _ h => h) (Or.inl ⟨by rfl, ?_⟩) (by assumption) ?_; rotate_left; focus ((intro w hSw; (try dsimp only at hSw); go_simp); try (with_reducible rfl)); (try simp only [Act.put, List.setIfInBounds_toArray, List.set_cons_zero, List.set_cons_succ]))
      simp only [Act.put, List.setIfInBounds_toArray, List.set_cons_zero, List.set_cons_succ]
      (refine rtake_2 (v := ?_) (by kernel_rfl) (by kernel_rfl) (by kernel_rfl) (fun _ _ _ h => h) (Or.inl ⟨by rfl, ?_⟩) (by assumption) ?_; rotate_left; focus ((intro w hSw; (try dsimp only at hSw); go_simp); try (with_reducible rfl)); (try simp only [Act.put, List.setIfInBounds_toArray, List.set_cons_zero, List.set_cons_succ]))
      simp only [Act.put, List.setIfInBounds_toArray, List.set_cons_zero, List.set_cons_succ]
      (refine rtake_3 (v := ?_) (by kernel_rfl) (by kernel_rfl) (by kernel_rfl) (fun _ _ _ h => h) (Or.inl ⟨by rfl, ?_⟩) (by assumption) ?_; rotate_left; focus ((intro w hSw; (try dsimp only at hSw); go_simp); try (with_reducible rfl)); (try simp only [Act.put, List.setIfInBounds_toArray, List.set_cons_zero, List.set_cons_succ]))
      simp only [Act.put, List.setIfInBounds_toArray, List.set_cons_zero, List.set_cons_succ]
      (refine rtake_4 (v := ?_) (by kernel_rfl) (by kernel_rfl) (by kernel_rfl) (fun _ _ _ h => h) (Or.inl ⟨by rfl, ?_⟩) (by assumption) ?_; rotate_left; focus ((intro w hSw; (try dsimp only at hSw); go_simp); try (with_reducible rfl)); (try simp only [Act.put, List.setIfInBounds_toArray, List.set_cons_zero, List.set_cons_succ]))
      simp only [Act.put, List.setIfInBounds_toArray, List.set_cons_zero, List.set_cons_succ]
      (refine rtake_5 (v := ?_) (by kernel_rfl) (by kernel_rfl) (by kernel_rfl) (fun _ _ _ h => h) (Or.inl ⟨by rfl, ?_⟩) (by assumption) ?_; rotate_left; focus ((intro w hSw; (try dsimp only at hSw); go_simp); try (with_reducible rfl)); (try simp only [Act.put, List.setIfInBounds_toArray, List.set_cons_zero, List.set_cons_succ]))
      simp only [Act.put, List.setIfInBounds_toArray, List.set_cons_zero, List.set_cons_succ]
      (refine rtake_6 (v := ?_) (by kernel_rfl) (by kernel_rfl) (by kernel_rfl) (fun _ _ _ h => h) (Or.inl ⟨by rfl, ?_⟩) (by assumption) ?_; rotate_left; focus ((intro w hSw; (try dsimp only at hSw); go_simp); try (with_reducible rfl)); (try simp only [Act.put, List.setIfInBounds_toArray, List.set_cons_zero, List.set_cons_succ]))
      simp only [Act.put, List.setIfInBounds_toArray, List.set_cons_zero, List.set_cons_succ]
      (refine rtake_7 (v := ?_) (by kernel_rfl) (by kernel_rfl) (by kernel_rfl) (fun _ _ _ h => h) (Or.inl ⟨by rfl, ?_⟩) (by assumption) ?_; rotate_left; focus ((intro w hSw; (try dsimp only at hSw); go_simp); try (with_reducible rfl)); (try simp only [Act.put, List.setIfInBounds_toArray, List.set_cons_zero, List.set_cons_succ]))
      simp only [Act.put, List.setIfInBounds_toArray, List.set_cons_zero, List.set_cons_succ]
      (refine rtake_8 (v := ?_) (by kernel_rfl) (by kernel_rfl) (by kernel_rfl) (fun _ _ _ h => h) (Or.inl ⟨by rfl, ?_⟩) (by assumption) ?_; rotate_left; focus ((intro w hSw; (try dsimp only at hSw); go_simp); try (with_reducible rfl)); (try simp only [Act.put, List.setIfInBounds_toArray, List.set_cons_zero, List.set_cons_succ]))
      simp only [Act.put, List.setIfInBounds_toArray, List.set_cons_zero, List.set_cons_succ]
      (refine rtake_9 (v := ?_) (by kernel_rfl) (by kernel_rfl) (by kernel_rfl) (fun _ _ _ h => h) (Or.inl ⟨by rfl, ?_⟩) (by assumption) ?_; rotate_left; focus ((intro w hSw; (try dsimp only at hSw); go_simp); try (with_reducible rfl)); (try simp only [Act.put, List.setIfInBounds_toArray, List.set_cons_zero, List.set_cons_succ]))
      simp only [Act.put, List.setIfInBounds_toArray, List.set_cons_zero, List.set_cons_succ]
      (refine wpAnyH_ready (rs := [10]) (by kernel_rfl) (by simp) ?_; refine rcons_10 (fun K hK => ?_) (AllReadyH.nil))
      go_simp
      (with_reducible refine (HSM.out _ (Kept.refl _ _).drew).mono ?_)
      rintro r w4 ⟨rfl, hk4⟩
      have HB4 := Lib.hid (HBr.out.drew.kept hk4 (by simp))
      have HD4 := Lib.hid (HDr.out.drew.kept hk4 (by simp))
      have HK4 := Lib.hid ((HK.out.drew).trans hk4)
      have hc4 := hk4.cell_some HC0.out (by simp)
      have hd4 := hk4.cell_some HD0.out (by simp)
      clear hk4
      try go_simp
      refine hK.out _ _ ⟨HB4.out.cell, HD4.out.cell, hc4, hd4⟩ (fun hHeld => ?_)
      clear hK K
      (refine rtake_11 (v := ?_) (by kernel_rfl) (by kernel_rfl) (by kernel_rfl) (fun _ _ _ h => h) (Or.inl ⟨by rfl, ?_⟩) (by assumption) ?_; rotate_left; focus ((intro w hSw; (try dsimp only at hSw); go_simp); try (with_reducible rfl)); (try simp only [Act.put, List.setIfInBounds_toArray, List.set_cons_zero, List.set_cons_succ]))
      simp only [Act.put, List.setIfInBounds_toArray, List.set_cons_zero, List.set_cons_succ]
      refine wpAnyH_done (by kernel_rfl) ?_ _
      go_wp2_with fail
      go_roundw
      case rel => exact ⟨k + 1, by omega, by go_num, HK4⟩
      case measure => simp [intOf]; omega
    · obtain rfl : k = progs.length := by omega
      go_wp2_with fail
      generalize wr = w5 at *
      go_loopw [6] (fun iv wr => ∃ k : Nat, k ≤ starts.length ∧ iv = .int .i64 k ∧ Hid (Kept [] w5 wr)) (fun i _ => starts.length - (intOf i).toNat)
      case atStart => exact ⟨0, by omega, rfl, Kept.refl _ _⟩
      case round =>
        obtain ⟨k, hk, rfl, HKq⟩ := hrel
        have HBq := Lib.hid (HBr.out.kept HKq.out (by simp))
        have HDq := Lib.hid (HDr.out.kept HKq.out (by simp))
        have HKw := Lib.hid (HKr.out.trans HKq.out)
        clear hb hbl hd hdl
        have hb := HBq.out.cell
        have hbl := HBq.out.lt
        have hd := HDq.out.cell
        have hdl := HDq.out.lt
        by_cases hlt : k < starts.length
        · obtain ⟨t, b, o, rfl, hx, hb1, hs0, hs1, hs2⟩ := (HU1.out.2.old HKw.out).at_ hlt
          obtain ⟨t2, b2, o2, rfl, hx2, hb2, ht0, ht1, ht2⟩ := (HU2.out.2.old HKw.out).at_ hlt
          have hx' : starts[k]? = some t := hx
          have hx2' : starts[k]? = some t2 := hx2
          rw [hx'] at hx2'
          injection hx2' with hx2'
          subst hx2'
          obtain ⟨pg, gr, mk⟩ := t
          simp only at hs0 hs1 hs2 ht0 ht1 ht2
          have hi0 : (0 : Int) ≤ (k : Int) := by omega
          have hi1 : (k : Int) < (starts.length : Int) := by omega
          clear hx hx' hx2
          go_wp2_with fail
          go_quiet (fail)
          go_wp2_with fail
          go_roundw
          case rel => exact ⟨k + 1, by omega, by go_num, HKq.out.trans (by (repeat (first | (with_reducible exact Kept.refl _ _) | (with_reducible assumption) | (with_reducible refine Kept.alloc ?_ _) | (with_reducible refine Kept.drew ?_) | (with_reducible refine Kept.drewN ?_ _) | (with_reducible refine Kept.setCell ?_ ?_ _) | (exact .inr (Nat.le_refl _)) | (exact .inr (by simp only; omega)) | (exact .inr (by omega)))))⟩
          case measure => simp [intOf]; omega
        · obtain rfl : k = starts.length := by omega
          go_wp2_with fail
          go_ret
          exact ⟨rfl, HKw.out⟩

end Go.Proofs.YtladfdpcdjjifaaGreatDoor

/- Package duty: the page's example: Plain, Text; the law's awake. -/
namespace Go.Proofs.YtladfdpcdjjifaaGreatDoor
open Go.RowKit
attribute [local go_sem] run_store_float

/-- The example's duty. -/
def exU : Du := ⟨2, 3, 4, 4, 8, 4602678819172646912, 4611686018427387904, [], []⟩
def exC (cap : Int) : Array Value := #[.int .i64 2, .int .i64 3, .int .i64 4, .int .i64 cap, .int .u64 8, .float .f64 4602678819172646912, .float .f64 4611686018427387904, .slice none 0 0, .slice none 0 0]
/-- What is still to do. -/
def capM (dx : Nat) (w : World) : Nat := 10 - (intOf ((w.cell? ⟨dx, 3, none⟩).getD undef)).toNat

set_option maxHeartbeats 1600000 in
theorem plain_ex (w : World) : Calls Tryz.prog 19 #[.int .i64 2, .int .i64 3] w fun e w' => e = .returned (.agg (exC 4)) ∧ Kept [] w w' := by
  go_enter Tryz.func19, Tryz.ntmps19
  go_wp2_with fail
  go_loopw [17] (fun _ wr => ∃ cap : Int, (cap = 2 ∨ cap = 4) ∧ Hid (Blk wr (w.heap.size + 1) 27 (exC cap)) ∧ Hid (Blk wr w.heap.size 27 #[.int .i64 0, .int .i64 0, .int .i64 0, .int .i64 0, .int .u64 0, .float .f64 0, .float .f64 0, .slice none 0 0, .slice none 0 0]) ∧ Hid (Kept [] w wr)) (fun _ wr => capM (w.heap.size + 1) wr)
  case atStart =>
    exact ⟨2, .inl rfl, Blk.newAt (by simp) _ _, (Blk.new w _ _).alloc _, ((Kept.refl _ _).alloc _).alloc _⟩
  case round =>
    obtain ⟨cap, hcap, HB, HR, HK⟩ := hrel
    have hb := HB.out.cell
    have hbf := HB.out.frozen
    have hbl := HB.out.lt
    have hr := HR.out.cell
    have hrf := HR.out.frozen
    have hrl := HR.out.lt
    unfold exC at hb
    rcases hcap with rfl | rfl
    · go_wp2_with fail
      go_roundw
      case rel => exact ⟨4, .inr rfl, HB.out.set 3 _, HR.out.far (by simp only; omega) _, HK.out.setCell (.inr (by simp only; omega)) _⟩
      case measure =>
        have h1 := (HB.out.set 3 (.int .i64 4)).cell 3
        have h2 := HB.out.cell 3
        unfold capM
        rw [h1, h2]
        decide
    · go_wp2_with fail
      have hF := ((((((((((HR.out.set 0 (.int .i64 2)).set 1 (.int .i64 3)).set 2 (.int .i64 4)).set 3 (.int .i64 4)).set 4 (.int .u64 8)).set 5 (.float .f64 4602678819172646912)).set 6 (.float .f64 4611686018427387904)).set 7 (.slice none 0 0)).set 8 (.slice none 0 0))).cell
      refine bodyPost_ret (v := .agg (exC 4)) (by simp [results, Tryz.results19, go_sem, hF, exC]) rfl ?_
      exact ⟨rfl, (((((((((HK.out.setCell (p := ⟨w.heap.size, 0, none⟩) (.inr (Nat.le_refl _)) (.int .i64 2)).setCell (p := ⟨w.heap.size, 1, none⟩) (.inr (Nat.le_refl _)) (.int .i64 3)).setCell (p := ⟨w.heap.size, 2, none⟩) (.inr (Nat.le_refl _)) (.int .i64 4)).setCell (p := ⟨w.heap.size, 3, none⟩) (.inr (Nat.le_refl _)) (.int .i64 4)).setCell (p := ⟨w.heap.size, 4, none⟩) (.inr (Nat.le_refl _)) (.int .u64 8)).setCell (p := ⟨w.heap.size, 5, none⟩) (.inr (Nat.le_refl _)) (.float .f64 4602678819172646912)).setCell (p := ⟨w.heap.size, 6, none⟩) (.inr (Nat.le_refl _)) (.float .f64 4611686018427387904)).setCell (p := ⟨w.heap.size, 7, none⟩) (.inr (Nat.le_refl _)) (.slice none 0 0)).setCell (p := ⟨w.heap.size, 8, none⟩) (.inr (Nat.le_refl _)) (.slice none 0 0))⟩

/-- A piece of the example's first line. -/
def exX (i : Nat) : Nat := match i with | 0 => 2 | 1 => 3 | 2 => 4 | 3 => 4 | 4 => 8 | 5 => 4602678819172646912 | _ => 4611686018427387904
def exW (i : Nat) : List UInt8 := if i < 5 then dec (exX i) else hex (exX i)
/-- The example's text up to a piece. -/
def exT : Nat → List UInt8
  | 0 => [100, 117, 116, 121]
  | k + 1 => exT k ++ 32 :: exW k
theorem exX_lt (i : Nat) : exX i < 18446744073709551616 := by unfold exX; split <;> omega
theorem exW_len (i : Nat) : (exW i).length ≤ 21 := by
  unfold exW
  have hd := dec_len (exX i) (exX_lt i)
  have hh : (hex (exX i)).length ≤ 16 := by rw [hex, hexN_len]; omega
  split <;> omega
theorem exT_len : ∀ k, (exT k).length ≤ 4 + 22 * k
  | 0 => by simp [exT]
  | k + 1 => by have := exT_len k; have := exW_len k; simp [exT]; omega
theorem exT_all : exT 7 ++ [10] = [100, 117, 116, 121, 32, 50, 32, 51, 32, 52, 32, 52, 32, 56, 32, 51, 102, 101, 48, 48, 48, 48, 48, 48, 48, 48, 48, 48, 48, 48, 48, 32, 52, 48, 48, 48, 48, 48, 48, 48, 48, 48, 48, 48, 48, 48, 48, 48, 10] := by decide +kernel

theorem idx_ex (k : Nat) (hk : k < 7) (W : World) : (Instr.index 44 (.agg (numsC exU)) (.int .i64 (k : Int))).run Tryz.prog W = .ok (.int .u64 (exX k : Int)) W := by
  have h0 : ∀ W, (Instr.index 44 (.agg (numsC exU)) (.int .i64 0)).run Tryz.prog W = .ok (.int .u64 2) W := fun _ => by kernel_rfl
  have h1 : ∀ W, (Instr.index 44 (.agg (numsC exU)) (.int .i64 1)).run Tryz.prog W = .ok (.int .u64 3) W := fun _ => by kernel_rfl
  have h2 : ∀ W, (Instr.index 44 (.agg (numsC exU)) (.int .i64 2)).run Tryz.prog W = .ok (.int .u64 4) W := fun _ => by kernel_rfl
  have h3 : ∀ W, (Instr.index 44 (.agg (numsC exU)) (.int .i64 3)).run Tryz.prog W = .ok (.int .u64 4) W := fun _ => by kernel_rfl
  have h4 : ∀ W, (Instr.index 44 (.agg (numsC exU)) (.int .i64 4)).run Tryz.prog W = .ok (.int .u64 8) W := fun _ => by kernel_rfl
  have h5 : ∀ W, (Instr.index 44 (.agg (numsC exU)) (.int .i64 5)).run Tryz.prog W = .ok (.int .u64 4602678819172646912) W := fun _ => by kernel_rfl
  have h6 : ∀ W, (Instr.index 44 (.agg (numsC exU)) (.int .i64 6)).run Tryz.prog W = .ok (.int .u64 4611686018427387904) W := fun _ => by kernel_rfl
  rcases (by omega : k = 0 ∨ k = 1 ∨ k = 2 ∨ k = 3 ∨ k = 4 ∨ k = 5 ∨ k = 6) with rfl | rfl | rfl | rfl | rfl | rfl | rfl
  · exact h0 W
  · exact h1 W
  · exact h2 W
  · exact h3 W
  · exact h4 W
  · exact h5 W
  · exact h6 W
theorem check_ex : checkU exU = 0 := by decide
theorem duty_cells : ([] : List Value) ++ Lib.strCells (⟨#[100, 117, 116, 121]⟩ : ByteArray) = Lib.byteCells (exT 0) := rfl
theorem sp_cells (l : List UInt8) : Lib.byteCells l ++ [.int .u8 32] = Lib.byteCells (l ++ [32]) := by simp [Lib.byteCells]

set_option maxHeartbeats 3200000 in
set_option maxRecDepth 100000 in
theorem text_ex (w : World) (hP : HasPow w) : Calls Tryz.prog 20 #[.agg (exC 4)] w fun e w' => e = .returned (strV (exT 7 ++ [10])) ∧ Kept [] w w' := by
  have HCK : Hid (∀ w, Calls Tryz.prog 13 #[.agg #[.int .i64 2, .int .i64 3, .int .i64 4, .int .i64 4, .int .u64 8, .float .f64 4602678819172646912, .float .f64 4611686018427387904, .slice none 0 0, .slice none 0 0]] w fun e w' => e = .returned (.int .i64 0) ∧ Kept [] w w') := fun w => by
    have h := ucheck_any exU none 0 0 none 0 0 w ⟨ReadsPP.none_ _, ReadsS.none_ _⟩ (by decide) (by decide) (by simp [exU]) (by simp [exU])
    rw [check_ex] at h
    exact h
  have HNU : Hid (∀ w, Calls Tryz.prog 45 #[.agg #[.int .i64 2, .int .i64 3, .int .i64 4, .int .i64 4, .int .u64 8, .float .f64 4602678819172646912, .float .f64 4611686018427387904, .slice none 0 0, .slice none 0 0]] w fun e w' => e = .returned (.agg (numsC exU)) ∧ Kept [] w w') := fun w => unumbers_any exU none 0 0 none 0 0 w
  have HIX := Lib.hid idx_ex
  generalize numsC exU = na at *
  have HP := Lib.hid hP
  clear hP
  unfold exC
  have HBX := Lib.hid (Blk.new w 27 #[.int .i64 2, .int .i64 3, .int .i64 4, .int .i64 4, .int .u64 8, .float .f64 4602678819172646912, .float .f64 4611686018427387904, .slice none 0 0, .slice none 0 0])
  go_enter Tryz.func20, Tryz.ntmps20
  go_wp2_with fail
  refine (HCK.out _).mono ?_
  rintro e w1 ⟨rfl, hk1⟩
  have HBX1 := Lib.hid (HBX.out.kept hk1 (by simp))
  have HK1 := Lib.hid (((Kept.refl [] w).alloc _).trans hk1)
  have hx1 := HBX1.out.cell
  have hxl1 := HBX1.out.lt
  clear hk1
  have HB0 := Lib.hid (builder_new w1)
  have HBX2 := Lib.hid (HBX1.out.alloc (.cells #[.pointer none, .slice none 0 0] 78))
  have HWS := Lib.hid (fun w' h hB => writeString_any w1.heap.size w1.heap.size [] (⟨#[100, 117, 116, 121]⟩ : ByteArray) w' h (by simp [ByteArray.size]) hB)
  rw [duty_cells] at HWS
  go_wp2_with fail
  refine (HWS.out _ HB0.out (by simp)).mono ?_
  rintro e w2 ⟨rfl, hb2, hw2⟩
  have HB2 := Lib.hid hb2
  have HW2 := Lib.hid (((Below.refl w1.heap.size w1).alloc (Nat.le_refl _) (.cells #[.pointer none, .slice none 0 0] 78)).trans hw2)
  have HBX3 := Lib.hid (HBX1.out.kept (Kept.ofBelow HW2.out []) (by simp))
  have hx3 := HBX3.out.cell
  have hxl3 := HBX3.out.lt
  clear hb2 hw2 hx1 hxl1
  go_wp2_with fail
  refine (HNU.out _).mono ?_
  rintro e w3 ⟨rfl, hk3⟩
  have HB3 := Lib.hid (builder_kept HB2.out hk3)
  have HW3 := Lib.hid (HW2.out.trans ((hk3.toBelow).mono HW2.out.size))
  clear hk3 hx3 hxl3
  go_wp2_with fail
  go_loopw [16] (fun kv wr => ∃ k : Nat, k ≤ 7 ∧ kv = .int .i64 k ∧ Hid (Lib.IsBuilder 78 5 w1.heap.size w1.heap.size (Lib.byteCells (exT k)) wr) ∧ Hid (Below w1.heap.size w1 wr)) (fun k _ => 7 - (intOf k).toNat)
  case atStart => exact ⟨0, by omega, rfl, HB3, HW3⟩
  case round =>
    obtain ⟨k, hk, rfl, HB, HW⟩ := hrel
    have hsz := HW.out.size
    by_cases hlt : k < 7
    · have hi0 : (0 : Int) ≤ (k : Int) := by omega
      have hi1 : (k : Int) < 7 := by omega
      have hidx := HIX.out k hlt
      have htl := exT_len k
      have hwl := exW_len k
      have hxl := exX_lt k
      have HSN : Hid (exT (k + 1) = exT k ++ 32 :: exW k) := rfl
      have HWB := Lib.hid (fun w' h hB => writeByte_any w1.heap.size w1.heap.size (Lib.byteCells (exT k)) 32 w' h (by rw [Lib.byteCells_length]; omega) hB)
      rw [sp_cells] at HWB
      have HWS := Lib.hid (fun w' h hB => writeString_any w1.heap.size w1.heap.size (Lib.byteCells (exT k ++ [32])) (⟨(exW k).toArray⟩ : ByteArray) w' h (by rw [Lib.byteCells_length, ln_size, List.length_append, List.length_singleton]; omega) hB)
      rw [ln_cells] at HWS
      by_cases h5 : k < 5
      · have b5 : decide ((k : Int) < 5) = true := by simp; omega
        have HPR := Lib.hid (fun w h => print_any (exX k) w hxl h)
        rw [show dec (exX k) = exW k from (if_pos h5).symm] at HPR
        generalize exT k = tk at *
        generalize exW k = ln at *
        generalize exX k = xk at *
        clear h5
        go_wp2_with fail
        refine (HWB.out _ HB.out (by omega)).mono ?_
        rintro e w4 ⟨rfl, hb4, hw4⟩
        have HB4 := Lib.hid hb4
        have HW4 := Lib.hid (HW.out.trans hw4)
        clear hb4 hw4
        go_wp2_with fail
        refine (HPR.out _ (HP.out.old (HK1.out.trans (Kept.ofBelow HW4.out [])))).mono ?_
        rintro e w5 ⟨rfl, hk5⟩
        have HB5 := Lib.hid (builder_kept HB4.out hk5)
        have HW5 := Lib.hid (HW4.out.trans ((hk5.toBelow).mono HW4.out.size))
        clear hk5
        go_wp2_with fail
        refine (HWS.out _ HB5.out HW5.out.size).mono ?_
        rintro e w6 ⟨rfl, hb6, hw6⟩
        have HB6 := Lib.hid hb6
        have HW6 := Lib.hid (HW5.out.trans hw6)
        clear hb6 hw6
        go_wp2_with fail
        go_roundw
        case rel => exact ⟨k + 1, by omega, by go_num, by rw [HSN.out]; have h := HB6.out; rw [List.append_assoc] at h; exact h, HW6⟩
        case measure => simp [intOf]; omega
      · have b5 : decide ((k : Int) < 5) = false := by simp; omega
        have HPR := Lib.hid (fun w => hex_any (exX k) w hxl)
        rw [show hex (exX k) = exW k from (if_neg h5).symm] at HPR
        generalize exT k = tk at *
        generalize exW k = ln at *
        generalize exX k = xk at *
        clear h5
        go_wp2_with fail
        refine (HWB.out _ HB.out (by omega)).mono ?_
        rintro e w4 ⟨rfl, hb4, hw4⟩
        have HB4 := Lib.hid hb4
        have HW4 := Lib.hid (HW.out.trans hw4)
        clear hb4 hw4
        go_wp2_with fail
        refine (HPR.out _).mono ?_
        rintro e w5 ⟨rfl, hk5⟩
        have HB5 := Lib.hid (builder_kept HB4.out hk5)
        have HW5 := Lib.hid (HW4.out.trans ((hk5.toBelow).mono HW4.out.size))
        clear hk5
        go_wp2_with fail
        refine (HWS.out _ HB5.out HW5.out.size).mono ?_
        rintro e w6 ⟨rfl, hb6, hw6⟩
        have HB6 := Lib.hid hb6
        have HW6 := Lib.hid (HW5.out.trans hw6)
        clear hb6 hw6
        go_wp2_with fail
        go_roundw
        case rel => exact ⟨k + 1, by omega, by go_num, by rw [HSN.out]; have h := HB6.out; rw [List.append_assoc] at h; exact h, HW6⟩
        case measure => simp [intOf]; omega
    · obtain rfl : k = 7 := by omega
      have htl := exT_len 7
      have HWB := Lib.hid (fun w' h hB => writeByte_any w1.heap.size w1.heap.size (Lib.byteCells (exT 7)) 10 w' h (by rw [Lib.byteCells_length]; omega) hB)
      rw [show Lib.byteCells (exT 7) ++ [.int .u8 10] = Lib.byteCells (exT 7 ++ [10]) by simp [Lib.byteCells]] at HWB
      have HBX4 := Lib.hid (HBX1.out.kept (Kept.ofBelow HW.out []) (by simp))
      generalize h7 : exT 7 = t7 at *
      generalize htx : t7 ++ [10] = tx at *
      have HT7 := Lib.hid h7
      have HTX := Lib.hid htx
      clear h7 htx
      go_wp2_with fail
      refine (HWB.out _ HB.out (by omega)).mono ?_
      rintro e w4 ⟨rfl, hb4, hw4⟩
      have HB4 := Lib.hid hb4
      have HW4 := Lib.hid (HW.out.trans hw4)
      have HBX5 := Lib.hid (HBX1.out.kept (Kept.ofBelow HW4.out []) (by simp))
      have hx5 := HBX5.out.cell
      have hxl5 := HBX5.out.lt
      clear hb4 hw4
      have hsz4 := HW4.out.size
      go_wp2_with fail
      have HS := Lib.hid (Tryz.Builder_String_any w1.heap.size w1.heap.size tx w4 HB4.out (by omega))
      go_loopw [34] (fun kv wr => kv = .int .i64 0 ∧ w4 = wr) (fun _ _ => 0)
      case atStart => exact ⟨rfl, rfl⟩
      case round =>
        obtain ⟨rfl, rfl⟩ := hrel
        go_wp2_with fail
        go_loopw [46] (fun kv wr => kv = .int .i64 0 ∧ w4 = wr) (fun _ _ => 0)
        case atStart => exact ⟨rfl, rfl⟩
        case round =>
          obtain ⟨rfl, rfl⟩ := hrel
          go_wp2_with fail
          refine (HS.out).mono ?_
          rintro e w5 ⟨rfl, hb⟩
          have HBB := Lib.hid (HW4.out.trans hb)
          clear hb
          go_wp2_with fail
          go_ret
          exact ⟨by rw [HT7.out, HTX.out]; rfl, HK1.out.trans (Kept.ofBelow HBB.out _)⟩

set_option maxHeartbeats 1600000 in
set_option maxRecDepth 100000 in
theorem awake9 (w : World) (hP : HasPow w) : Calls Tryz.prog 7 #[] w fun e w' => e = .returned (.bool true) ∧ Kept [] w w' := by
  have HCK : Hid (∀ w, Calls Tryz.prog 13 #[.agg #[.int .i64 2, .int .i64 3, .int .i64 4, .int .i64 4, .int .u64 8, .float .f64 4602678819172646912, .float .f64 4611686018427387904, .slice none 0 0, .slice none 0 0]] w fun e w' => e = .returned (.int .i64 0) ∧ Kept [] w w') := fun w => by
    have h := ucheck_any exU none 0 0 none 0 0 w ⟨ReadsPP.none_ _, ReadsS.none_ _⟩ (by decide) (by decide) (by simp [exU]) (by simp [exU])
    rw [check_ex] at h
    exact h
  have HT := Lib.hid (fun w h => text_ex w h)
  rw [exT_all] at HT
  have HPL := Lib.hid plain_ex
  unfold exC at HT HPL
  have HP := Lib.hid hP
  clear hP
  go_enter Tryz.func7, Tryz.ntmps7
  go_wp2_with fail
  refine (HPL.out _).mono ?_
  rintro e w1 ⟨rfl, hk1⟩
  have HB1 := Lib.hid (Blk.new w1 27 #[.int .i64 2, .int .i64 3, .int .i64 4, .int .i64 4, .int .u64 8, .float .f64 4602678819172646912, .float .f64 4611686018427387904, .slice none 0 0, .slice none 0 0])
  have HK1 := Lib.hid (hk1.alloc (.cells #[.int .i64 2, .int .i64 3, .int .i64 4, .int .i64 4, .int .u64 8, .float .f64 4602678819172646912, .float .f64 4611686018427387904, .slice none 0 0, .slice none 0 0] 27))
  clear hk1
  go_wp2_with fail
  refine (HCK.out _).mono ?_
  rintro e w2 ⟨rfl, hk2⟩
  have HB2 := Lib.hid (HB1.out.kept hk2 (by simp))
  have HK2 := Lib.hid (HK1.out.trans hk2)
  have hx2 := HB2.out.cell
  have hxl2 := HB2.out.lt
  clear hk2
  go_wp2_with fail
  refine (HT.out _ (HP.out.old HK2.out)).mono ?_
  rintro e w3 ⟨rfl, hk3⟩
  have HK3 := Lib.hid (HK2.out.trans hk3)
  clear hk3
  go_wp2_with fail
  go_ret
  exact ⟨rfl, HK3.out⟩

end Go.Proofs.YtladfdpcdjjifaaGreatDoor

