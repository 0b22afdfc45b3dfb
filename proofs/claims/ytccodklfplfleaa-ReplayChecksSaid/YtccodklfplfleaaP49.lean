/- Law 35's example (awake), walked; Arguments opened: from what a row says of its arguments (readings) to the words for memory. No program in sight; A deed among the arguments, opened. -/
import Derived.Test.YtccodklfplfleaaP48
import Derived.Test.YtccodklfplfleaaP02
import Derived.ProofKit
import Derived.OpenShut
import Derived.ShutString
import Derived.ChangeOld
import Derived.Deep.Slices
import Derived.Deep.Fields
import Derived.ChangeSame
import Derived.Test.YtccodklfplfleaaP03
import Derived.Lib.SmallJoins

/- Law 35's example (awake), walked. -/
namespace Go.Proofs.Ytccodklfplfleaa
open Go.RowKit

theorem run_store_flt {a : Addr} {m : Mode} {P : Program} {w : World} (k : FloatKind) (x : Nat) : (store a (.float k x) m).run P w = stored P w a (.float k x) m := run_store P w a _ m rfl
attribute [local go_sem] run_store_flt
def dP : Du := ⟨1, 1, 4, 2, 8, 4602678819172646912, 4611686018427387904, [], []⟩
set_option maxHeartbeats 1600000 in
set_option maxRecDepth 100000 in
theorem plain11 (w : World) : Calls Try.prog 12 #[.int .i64 1, .int .i64 1] w fun x w' => x = .returned (.agg (uC dP none 0 0 none 0 0)) ∧ Kept [] w w' := by
  go_enter Try.func12, Try.ntmps12
  go_wp2_with fail
  go_loopw [] (fun wr => Hid (Blk wr w.heap.size 27 (uC Du.zero none 0 0 none 0 0)) ∧ Hid (Blk wr (w.heap.size + 1) 27 (uC dP none 0 0 none 0 0)) ∧ Hid (Kept [] w wr)) (fun _ => 0)
  case atStart => exact ⟨(Blk.new w _ _).alloc _, Blk.newAt (by simp) _ _, ((Kept.refl _ _).alloc _).alloc _⟩
  case round =>
    obtain ⟨HB0, HB1, HK⟩ := hrel
    have l0 := HB0.out.lt
    have l1 := HB1.out.lt
    have f0 := HB0.out.frozen
    have q0 := HB1.out.cell 0
    have o0 := HB0.out.cell 0
    have q1 := HB1.out.cell 1
    have o1 := HB0.out.cell 1
    have q2 := HB1.out.cell 2
    have o2 := HB0.out.cell 2
    have q3 := HB1.out.cell 3
    have o3 := HB0.out.cell 3
    have q4 := HB1.out.cell 4
    have o4 := HB0.out.cell 4
    have q5 := HB1.out.cell 5
    have o5 := HB0.out.cell 5
    have q6 := HB1.out.cell 6
    have o6 := HB0.out.cell 6
    have q7 := HB1.out.cell 7
    have o7 := HB0.out.cell 7
    have q8 := HB1.out.cell 8
    have o8 := HB0.out.cell 8
    simp [uC, dP, Du.zero] at q0 q1 q2 q3 q4 q5 q6 q7 q8 o0 o1 o2 o3 o4 o5 o6 o7 o8
    have HK2 := HK
    go_wp2_with fail
    have hB := ((((((((HB0.out.set 0 (.int .i64 1)).set 1 (.int .i64 1)).set 2 (.int .i64 4)).set 3 (.int .i64 2)).set 4 (.int .u64 8)).set 5 (.float .f64 4602678819172646912)).set 6 (.float .f64 4611686018427387904)).set 7 (.slice none 0 0)).set 8 (.slice none 0 0)
    refine bodyPost_ret (v := .agg (uC dP none 0 0 none 0 0)) (results_cell_row rfl _ _ w.heap.size 27 (uC dP none 0 0 none 0 0) (0, 0) _ rfl hB Try.underlying27 rfl (by kernel_rfl)) rfl ⟨rfl, ?_⟩
    have HK3 := HK.out
    (repeat (first | (with_reducible exact Kept.refl _ _) | (with_reducible assumption) | (with_reducible refine Kept.alloc ?_ _) | (with_reducible refine Kept.drew ?_) | (with_reducible refine Kept.drewN ?_ _) | (with_reducible refine Kept.setCell ?_ ?_ _) | (exact .inr (Nat.le_refl _)) | (exact .inr (by simp only; omega)) | (exact .inr (by omega))))
def dA : Du := ⟨1, 1, 4, 2, 8, 4602678819172646912, 4611686018427387904, [[⟨5, 0, 0, 0, 0, 0, false⟩]], [⟨0, 3, 1⟩]⟩
def lA : List Ev := [⟨0, 0, 4, 0, 1, 0, 0, 0⟩, ⟨0, 0, 1, 0, 1, 5, 0, 0⟩, ⟨0, 0, 2, 0, 1, 5, 0, 0⟩, ⟨0, 0, 5, 0, 1, 0, 0, 0⟩, ⟨0, 0, 4, 0, 1, 0, 0, 0⟩, ⟨0, 0, 3, 0, 1, 0, 0, 0⟩]
def lA2 : List Ev := [⟨0, 0, 4, 0, 1, 0, 0, 0⟩, ⟨0, 0, 2, 0, 1, 5, 0, 0⟩]
theorem resA1 : resA dA lA = (6, 0) := by decide
theorem resA2 : resA dA lA2 = (1, 14) := by decide
theorem resA3 : statesA (accA dA lA) = [3] := by decide
theorem Blk.reads {w : World} {g t : Nat} {l : List Value} {n k : Nat} (h : Blk w g t l.toArray) (hl : l.length = n * k) : Reads w k (some ⟨g, 0, none⟩) n l :=
  ⟨hl, fun _ => ⟨_, rfl, fun j u hu => by rw [add_mk, Nat.zero_add, h.cell, List.getElem?_toArray]; exact hu⟩⟩
def awW (w1 : World) : World := ((((((w1.alloc (.cells #[.int .i64 1, .int .i64 1, .int .i64 4, .int .i64 2, .int .u64 8, .float .f64 4602678819172646912, .float .f64 4611686018427387904, .slice (some ⟨w1.heap.size + 1 + 1, 0, none⟩) 1 1, .slice (some ⟨w1.heap.size + 1 + 1 + 1, 0, none⟩) 1 1] 27)).alloc (.cells #[.int .i64 5, .int .i64 0, .int .i64 0, .int .i64 0, .int .u64 0, .int .u64 0, .bool false] 47)).alloc (.cells #[.slice (some ⟨w1.heap.size + 1, 0, none⟩) 1 1] 48)).alloc (.cells #[.int .i64 0, .int .i64 3, .int .u64 1] 50)).alloc (.cells #[.int .i64 0, .int .u32 1] 53)).alloc (.cells #[.int .i64 0, .int .i64 0, .int .i64 4, .int .i64 0, .int .u32 1, .int .i64 0, .int .i64 0, .int .u64 0, .int .i64 0, .int .i64 0, .int .i64 1, .int .i64 0, .int .u32 1, .int .i64 5, .int .i64 0, .int .u64 0, .int .i64 0, .int .i64 0, .int .i64 2, .int .i64 0, .int .u32 1, .int .i64 5, .int .i64 0, .int .u64 0, .int .i64 0, .int .i64 0, .int .i64 5, .int .i64 0, .int .u32 1, .int .i64 0, .int .i64 0, .int .u64 0, .int .i64 0, .int .i64 0, .int .i64 4, .int .i64 0, .int .u32 1, .int .i64 0, .int .i64 0, .int .u64 0, .int .i64 0, .int .i64 0, .int .i64 3, .int .i64 0, .int .u32 1, .int .i64 0, .int .i64 0, .int .u64 0] 55))
def A6 : Array Value := #[.int .i64 0, .int .i64 0, .int .i64 4, .int .i64 0, .int .u32 1, .int .i64 0, .int .i64 0, .int .u64 0, .int .i64 0, .int .i64 0, .int .i64 1, .int .i64 0, .int .u32 1, .int .i64 5, .int .i64 0, .int .u64 0, .int .i64 0, .int .i64 0, .int .i64 2, .int .i64 0, .int .u32 1, .int .i64 5, .int .i64 0, .int .u64 0, .int .i64 0, .int .i64 0, .int .i64 5, .int .i64 0, .int .u32 1, .int .i64 0, .int .i64 0, .int .u64 0, .int .i64 0, .int .i64 0, .int .i64 4, .int .i64 0, .int .u32 1, .int .i64 0, .int .i64 0, .int .u64 0, .int .i64 0, .int .i64 0, .int .i64 3, .int .i64 0, .int .u32 1, .int .i64 0, .int .i64 0, .int .u64 0]
def A2 : Array Value := #[.int .i64 0, .int .i64 0, .int .i64 4, .int .i64 0, .int .u32 1, .int .i64 0, .int .i64 0, .int .u64 0, .int .i64 0, .int .i64 0, .int .i64 2, .int .i64 0, .int .u32 1, .int .i64 5, .int .i64 0, .int .u64 0]
theorem aw_facts {w1 W6 : World} {g : Nat} (hg : w1.heap.size = g) (h : awW w1 = W6) : Kept [] w1 W6 ∧ Blk W6 g 27 (uC dA (some ⟨g + 1 + 1, 0, none⟩) 1 1 (some ⟨g + 1 + 1 + 1, 0, none⟩) 1 1) ∧ Blk W6 (g + 1 + 1 + 1 + 1 + 1) 55 A6 ∧ IsU W6 dA (some ⟨g + 1 + 1, 0, none⟩) 1 (some ⟨g + 1 + 1 + 1, 0, none⟩) 1 ∧ ReadsE W6 (some ⟨g + 1 + 1 + 1 + 1 + 1, 0, none⟩) 6 lA := by
  subst hg h
  have b1 : Blk (awW w1) w1.heap.size 27 (uC dA (some ⟨w1.heap.size + 1 + 1, 0, none⟩) 1 1 (some ⟨w1.heap.size + 1 + 1 + 1, 0, none⟩) 1 1) := (((((Blk.new w1 _ _).alloc _).alloc _).alloc _).alloc _).alloc _
  have b2 : Blk (awW w1) (w1.heap.size + 1) 47 (dL ⟨5, 0, 0, 0, 0, 0, false⟩).toArray := ((((Blk.newAt (by simp) _ _).alloc _).alloc _).alloc _).alloc _
  have b3 : Blk (awW w1) (w1.heap.size + 1 + 1) 48 [Value.slice (some ⟨w1.heap.size + 1, 0, none⟩) 1 1].toArray := (((Blk.newAt (by simp) _ _).alloc _).alloc _).alloc _
  have b4 : Blk (awW w1) (w1.heap.size + 1 + 1 + 1) 50 (stL ⟨0, 3, 1⟩).toArray := ((Blk.newAt (by simp) _ _).alloc _).alloc _
  have b6 : Blk (awW w1) (w1.heap.size + 1 + 1 + 1 + 1 + 1) 55 A6 := Blk.newAt (by simp) _ _
  refine ⟨((((((Kept.refl _ _).alloc _).alloc _).alloc _).alloc _).alloc _).alloc _, b1, b6, ⟨⟨_, b3.reads rfl, rfl, fun i p hp => ?_⟩, b4.reads rfl⟩, b6.reads (l := lA.flatMap eL) rfl⟩
  obtain ⟨hi, rfl⟩ := List.getElem?_eq_some_iff.1 hp
  have hi2 : i < 1 := hi
  obtain rfl : i = 0 := by omega
  exact ⟨_, _, _, rfl, b2.reads rfl⟩
theorem dA_b : ∀ p ∈ dA.progs, p.length ≤ 9223372036854775807 := by simp [dA]
theorem dA_s : ∀ s ∈ dA.starts, s.mask < 18446744073709551616 := by simp [dA]
theorem dA_m : MaskD dA := by
  intro p hp x hx
  simp [dA] at hp
  subst hp
  simp at hx
  subst hx
  decide
set_option maxHeartbeats 3200000 in
set_option maxRecDepth 100000 in
theorem awake35_any (w : World) : Calls Try.prog 5 #[] w fun x w' => x = .returned (.bool true) ∧ Kept [] w w' := by
  go_enter Try.func5, Try.ntmps5
  go_wp2_with fail
  refine (plain11 _).mono ?_
  rintro x w1 ⟨rfl, hk1⟩
  have HK1 := Lib.hid hk1
  clear hk1
  simp only [uC, dP]
  go_upto_region 6 with fail
  obtain ⟨W6, hW6⟩ : ∃ W, awW w1 = W := ⟨_, rfl⟩
  have hW7 := hW6
  unfold awW at hW7
  rw [hW7]
  clear hW7
  obtain ⟨g, hg⟩ : ∃ g, w1.heap.size = g := ⟨_, rfl⟩
  rw [hg]
  obtain ⟨hk6, hB, hE, hU, hL⟩ := aw_facts hg hW6
  have HK6 : Hid (Kept [] w W6) := HK1.out.trans hk6
  have HF : Hid (∀ W, Kept [] W6 W → W.cell? ⟨g, 0, none⟩ = some (.int .i64 1) ∧ W.cell? ⟨g, 1, none⟩ = some (.int .i64 1) ∧ W.cell? ⟨g, 2, none⟩ = some (.int .i64 4) ∧ W.cell? ⟨g, 3, none⟩ = some (.int .i64 2) ∧ W.cell? ⟨g, 4, none⟩ = some (.int .u64 8) ∧ W.cell? ⟨g, 5, none⟩ = some (.float .f64 4602678819172646912) ∧ W.cell? ⟨g, 6, none⟩ = some (.float .f64 4611686018427387904) ∧ W.cell? ⟨g, 7, none⟩ = some (.slice (some ⟨g + 1 + 1, 0, none⟩) 1 1) ∧ W.cell? ⟨g, 8, none⟩ = some (.slice (some ⟨g + 1 + 1 + 1, 0, none⟩) 1 1) ∧ g < W.heap.size) := fun W hk => by
    have h := hB.kept hk (by simp)
    exact ⟨h.cell 0, h.cell 1, h.cell 2, h.cell 3, h.cell 4, h.cell 5, h.cell 6, h.cell 7, h.cell 8, h.lt⟩
  have HF7 : Hid (∀ W, Kept [] W6 W → (W.cell? ⟨g, 0, none⟩ = some (.int .i64 1) ∧ W.cell? ⟨g, 1, none⟩ = some (.int .i64 1) ∧ W.cell? ⟨g, 2, none⟩ = some (.int .i64 4) ∧ W.cell? ⟨g, 3, none⟩ = some (.int .i64 2) ∧ W.cell? ⟨g, 4, none⟩ = some (.int .u64 8) ∧ W.cell? ⟨g, 5, none⟩ = some (.float .f64 4602678819172646912) ∧ W.cell? ⟨g, 6, none⟩ = some (.float .f64 4611686018427387904) ∧ W.cell? ⟨g, 7, none⟩ = some (.slice (some ⟨g + 1 + 1, 0, none⟩) 1 1) ∧ W.cell? ⟨g, 8, none⟩ = some (.slice (some ⟨g + 1 + 1 + 1, 0, none⟩) 1 1) ∧ g < W.heap.size) ∧ W.cell? ⟨g + 1 + 1 + 1 + 1 + 1, 0, none⟩ = some (.int .i64 0) ∧ W.cell? ⟨g + 1 + 1 + 1 + 1 + 1, 1, none⟩ = some (.int .i64 0) ∧ W.cell? ⟨g + 1 + 1 + 1 + 1 + 1, 2, none⟩ = some (.int .i64 4) ∧ W.cell? ⟨g + 1 + 1 + 1 + 1 + 1, 3, none⟩ = some (.int .i64 0) ∧ W.cell? ⟨g + 1 + 1 + 1 + 1 + 1, 4, none⟩ = some (.int .u32 1) ∧ W.cell? ⟨g + 1 + 1 + 1 + 1 + 1, 5, none⟩ = some (.int .i64 0) ∧ W.cell? ⟨g + 1 + 1 + 1 + 1 + 1, 6, none⟩ = some (.int .i64 0) ∧ W.cell? ⟨g + 1 + 1 + 1 + 1 + 1, 7, none⟩ = some (.int .u64 0) ∧ W.cell? ⟨g + 1 + 1 + 1 + 1 + 1, 16, none⟩ = some (.int .i64 0) ∧ W.cell? ⟨g + 1 + 1 + 1 + 1 + 1, 17, none⟩ = some (.int .i64 0) ∧ W.cell? ⟨g + 1 + 1 + 1 + 1 + 1, 18, none⟩ = some (.int .i64 2) ∧ W.cell? ⟨g + 1 + 1 + 1 + 1 + 1, 19, none⟩ = some (.int .i64 0) ∧ W.cell? ⟨g + 1 + 1 + 1 + 1 + 1, 20, none⟩ = some (.int .u32 1) ∧ W.cell? ⟨g + 1 + 1 + 1 + 1 + 1, 21, none⟩ = some (.int .i64 5) ∧ W.cell? ⟨g + 1 + 1 + 1 + 1 + 1, 22, none⟩ = some (.int .i64 0) ∧ W.cell? ⟨g + 1 + 1 + 1 + 1 + 1, 23, none⟩ = some (.int .u64 0) ∧ g + 1 + 1 + 1 + 1 + 1 < W.heap.size) := fun W hk => by
    have h := hE.kept hk (by simp)
    exact ⟨HF.out W hk, h.cell 0, h.cell 1, h.cell 2, h.cell 3, h.cell 4, h.cell 5, h.cell 6, h.cell 7, h.cell 16, h.cell 17, h.cell 18, h.cell 19, h.cell 20, h.cell 21, h.cell 22, h.cell 23, h.lt⟩
  have HT : Hid (∀ W, Kept [] W6 W → Tr35 W dA (some ⟨g + 1 + 1, 0, none⟩) 1 (some ⟨g + 1 + 1 + 1, 0, none⟩) 1 (some ⟨g + 1 + 1 + 1 + 1 + 1, 0, none⟩) 6 lA) := fun W hk => (⟨hU, dA_b, dA_s, dA_m, hL, by omega⟩ : Tr35 W6 dA (some ⟨g + 1 + 1, 0, none⟩) 1 (some ⟨g + 1 + 1 + 1, 0, none⟩) 1 (some ⟨g + 1 + 1 + 1 + 1 + 1, 0, none⟩) 6 lA).old hk
  have HU := Lib.hid hU
  have hUC : uC dA (some ⟨g + 1 + 1, 0, none⟩) 1 1 (some ⟨g + 1 + 1 + 1, 0, none⟩) 1 1 = #[.int .i64 1, .int .i64 1, .int .i64 4, .int .i64 2, .int .u64 8, .float .f64 4602678819172646912, .float .f64 4611686018427387904, .slice (some ⟨g + 1 + 1, 0, none⟩) 1 1, .slice (some ⟨g + 1 + 1 + 1, 0, none⟩) 1 1] := rfl
  have HC1 : Hid (∀ W, Kept [] W6 W → Calls Try.prog 7 #[.agg (uC dA (some ⟨g + 1 + 1, 0, none⟩) 1 1 (some ⟨g + 1 + 1 + 1, 0, none⟩) 1 1), .slice (some ⟨g + 1 + 1 + 1 + 1 + 1, 0, none⟩) 6 6] W fun x w' => x = .returned (.tuple #[.int .i64 6, .int .i64 0]) ∧ Kept [] W w') := fun W hk => by
    have h := rpCheck_any (c := 1) (e := 1) (ce := 6) (HT.out W hk)
    rw [resA1] at h
    exact h
  have HC2 : Hid (∀ W W', Kept [] W6 W → Kept [] (W.alloc (.cells A2 55)) W' → Calls Try.prog 7 #[.agg (uC dA (some ⟨g + 1 + 1, 0, none⟩) 1 1 (some ⟨g + 1 + 1 + 1, 0, none⟩) 1 1), .slice (some ⟨W.heap.size, 0, none⟩) 2 2] W' fun x w' => x = .returned (.tuple #[.int .i64 1, .int .i64 14]) ∧ Kept [] W' w') := fun W W' hk hk' => by
    have b : Blk (W.alloc (.cells A2 55)) W.heap.size 55 A2 := Blk.new _ _ _
    have h := rpCheck_any (c := 1) (e := 1) (ce := 2) ((⟨(HU.out.old hk).old ((Kept.refl _ _).alloc _), dA_b, dA_s, dA_m, b.reads (l := lA2.flatMap eL) rfl, by omega⟩ : Tr35 (W.alloc (.cells A2 55)) dA (some ⟨g + 1 + 1, 0, none⟩) 1 (some ⟨g + 1 + 1 + 1, 0, none⟩) 1 (some ⟨W.heap.size, 0, none⟩) 2 lA2).old hk')
    rw [resA2] at h
    exact h
  have HC3 : Hid (∀ W, Kept [] W6 W → Calls Try.prog 9 #[.agg (uC dA (some ⟨g + 1 + 1, 0, none⟩) 1 1 (some ⟨g + 1 + 1 + 1, 0, none⟩) 1 1), .slice (some ⟨g + 1 + 1 + 1 + 1 + 1, 0, none⟩) 6 6] W (SlP ((0 : Int) = 0) [3] W)) := fun W hk => by
    have h := rpStates_any (c := 1) (e := 1) (ce := 6) (HT.out W hk)
    rw [resA1, resA3] at h
    exact h
  rw [hUC] at HC1 HC2 HC3
  clear hB hE hU hL hk6 hUC HT HU hW6
  have hf := HF.out W6 (Kept.refl _ _)
  go_wp2_with fail
  refine (HC1.out _ (Kept.refl _ _)).mono ?_
  rintro x w2 ⟨rfl, hk2⟩
  have HK2 := Lib.hid hk2
  clear hk2 hf
  go_upto_region 7 with fail
  (refine wp_region_held_drew (S := fun W => Kept [] W6 W) (by kernel_rfl) (HK2.out).drew (fun hHeld => ?_))
  (refine held_take (i := 0) (v := ?_) (listed := #[false, false, false, false, false, false, false, false, false, false, false, false, false, false]) nth_0 (by kernel_rfl) (by kernel_rfl) (by kernel_rfl) (fun _ _ _ h => h) (Or.inl ⟨by rfl, ?_⟩) (by assumption) ?_; rotate_left; (focus ((intro W hC; have hF := HF7.out W hC; go_simp); try (with_reducible rfl))); (try dsimp only [Act.put]); (try simp only [List.setIfInBounds_toArray, List.set_cons_zero, List.set_cons_succ]))
  (refine held_take (i := 1) (v := ?_) (listed := #[true, false, false, false, false, false, false, false, false, false, false, false, false, false]) nth_1 (by kernel_rfl) (by kernel_rfl) (by kernel_rfl) (fun _ _ _ h => h) (Or.inl ⟨by rfl, ?_⟩) (by assumption) ?_; rotate_left; (focus ((intro W hC; go_simp); try (with_reducible rfl))); (try dsimp only [Act.put]); (try simp only [List.setIfInBounds_toArray, List.set_cons_zero, List.set_cons_succ]))
  (refine held_take (i := 2) (v := ?_) (listed := #[true, true, false, false, false, false, false, false, false, false, false, false, false, false]) nth_2 (by kernel_rfl) (by kernel_rfl) (by kernel_rfl) (fun _ _ _ h => h) (Or.inl ⟨by rfl, ?_⟩) (by assumption) ?_; rotate_left; (focus ((intro W hC; go_simp); try (with_reducible rfl))); (try dsimp only [Act.put]); (try simp only [List.setIfInBounds_toArray, List.set_cons_zero, List.set_cons_succ]))
  (refine held_take (i := 3) (v := ?_) (listed := #[true, true, true, false, false, false, false, false, false, false, false, false, false, false]) nth_3 (by kernel_rfl) (by kernel_rfl) (by kernel_rfl) (fun _ _ _ h => h) (Or.inl ⟨by rfl, ?_⟩) (by assumption) ?_; rotate_left; (focus ((intro W hC; have hF := HF7.out W hC; go_simp); try (with_reducible rfl))); (try dsimp only [Act.put]); (try simp only [List.setIfInBounds_toArray, List.set_cons_zero, List.set_cons_succ]))
  (refine held_take (i := 4) (v := ?_) (listed := #[true, true, true, true, false, false, false, false, false, false, false, false, false, false]) nth_4 (by kernel_rfl) (by kernel_rfl) (by kernel_rfl) (fun _ _ _ h => h) (Or.inl ⟨by rfl, ?_⟩) (by assumption) ?_; rotate_left; (focus ((intro W hC; go_simp); try (with_reducible rfl))); (try dsimp only [Act.put]); (try simp only [List.setIfInBounds_toArray, List.set_cons_zero, List.set_cons_succ]))
  (refine held_take (i := 5) (v := ?_) (listed := #[true, true, true, true, true, false, false, false, false, false, false, false, false, false]) nth_5 (by kernel_rfl) (by kernel_rfl) (by kernel_rfl) (fun _ _ _ h => h) (Or.inl ⟨by rfl, ?_⟩) (by assumption) ?_; rotate_left; (focus ((intro W hC; go_simp); try (with_reducible rfl))); (try dsimp only [Act.put]); (try simp only [List.setIfInBounds_toArray, List.set_cons_zero, List.set_cons_succ]))
  (refine held_take (i := 6) (v := ?_) (listed := #[true, true, true, true, true, true, false, false, false, false, false, false, false, false]) nth_6 (by kernel_rfl) (by kernel_rfl) (by kernel_rfl) (fun _ _ _ h => h) (Or.inl ⟨by rfl, ?_⟩) (by assumption) ?_; rotate_left; (focus ((intro W hC; have hF := HF7.out W hC; go_simp); try (with_reducible rfl))); (try dsimp only [Act.put]); (try simp only [List.setIfInBounds_toArray, List.set_cons_zero, List.set_cons_succ]))
  (refine wpAnyH_ready (rs := [7]) (by kernel_rfl) (by simp) ?_; refine held_cons nth_7 (fun K hK => ?_) AllReadyH.nil)
  go_simp
  (refine hK.out _ _ ((by exact hHeld.alloc _)) (fun hHeld => ?_); clear hK K)
  (try dsimp only [Act.put]); (try simp only [List.setIfInBounds_toArray, List.set_cons_zero, List.set_cons_succ])
  (refine wpAnyH_ready (rs := [8]) (by kernel_rfl) (by simp) ?_; refine held_cons nth_8 (fun K hK => ?_) AllReadyH.nil)
  go_simp
  refine (HC2.out w2 _ HK2.out (Kept.refl _ _).drew).mono ?_
  rintro x w3 ⟨rfl, hk3⟩
  have HK3 : Hid (Kept [] W6 w3) := ((HK2.out.alloc _).drew).trans hk3
  clear hk3 HF7 HC1 HC2
  (refine hK.out _ _ ((by exact HK3.out)) (fun hHeld => ?_); clear hK K)
  (try dsimp only [Act.put]); (try simp only [List.setIfInBounds_toArray, List.set_cons_zero, List.set_cons_succ])
  (refine held_take (i := 9) (v := ?_) (listed := #[true, true, true, true, true, true, true, true, true, false, false, false, false, false]) nth_9 (by kernel_rfl) (by kernel_rfl) (by kernel_rfl) (fun _ _ _ h => h) (Or.inl ⟨by rfl, ?_⟩) (by assumption) ?_; rotate_left; (focus ((intro W hC; go_simp); try (with_reducible rfl))); (try dsimp only [Act.put]); (try simp only [List.setIfInBounds_toArray, List.set_cons_zero, List.set_cons_succ]))
  (refine held_take (i := 10) (v := ?_) (listed := #[true, true, true, true, true, true, true, true, true, true, false, false, false, false]) nth_10 (by kernel_rfl) (by kernel_rfl) (by kernel_rfl) (fun _ _ _ h => h) (Or.inl ⟨by rfl, ?_⟩) (by assumption) ?_; rotate_left; (focus ((intro W hC; go_simp); try (with_reducible rfl))); (try dsimp only [Act.put]); (try simp only [List.setIfInBounds_toArray, List.set_cons_zero, List.set_cons_succ]))
  (refine held_take (i := 11) (v := ?_) (listed := #[true, true, true, true, true, true, true, true, true, true, true, false, false, false]) nth_11 (by kernel_rfl) (by kernel_rfl) (by kernel_rfl) (fun _ _ _ h => h) (Or.inl ⟨by rfl, ?_⟩) (by assumption) ?_; rotate_left; (focus ((intro W hC; go_simp); try (with_reducible rfl))); (try dsimp only [Act.put]); (try simp only [List.setIfInBounds_toArray, List.set_cons_zero, List.set_cons_succ]))
  (refine held_take (i := 12) (v := ?_) (listed := #[true, true, true, true, true, true, true, true, true, true, true, true, false, false]) nth_12 (by kernel_rfl) (by kernel_rfl) (by kernel_rfl) (fun _ _ _ h => h) (Or.inl ⟨by rfl, ?_⟩) (by assumption) ?_; rotate_left; (focus ((intro W hC; go_simp); try (with_reducible rfl))); (try dsimp only [Act.put]); (try simp only [List.setIfInBounds_toArray, List.set_cons_zero, List.set_cons_succ]))
  (refine held_take (i := 13) (v := ?_) (listed := #[true, true, true, true, true, true, true, true, true, true, true, true, true, false]) nth_13 (by kernel_rfl) (by kernel_rfl) (by kernel_rfl) (fun _ _ _ h => h) (Or.inl ⟨by rfl, ?_⟩) (by assumption) ?_; rotate_left; (focus ((intro W hC; go_simp); try (with_reducible rfl))); (try dsimp only [Act.put]); (try simp only [List.setIfInBounds_toArray, List.set_cons_zero, List.set_cons_succ]))
  (refine wpAnyH_done (by kernel_rfl) ?_ _)
  have hf := HF.out _ HK3.out
  go_wp2_with fail
  refine (HC3.out _ HK3.out).mono ?_
  rintro x w4 hx
  have hx4 : ∃ A n c, x = .returned (.slice A n c) ∧ Reads w4 1 A n ([3].map (Value.int .i64)) ∧ Kept [] w3 w4 := by
    cases hx with
    | no _ h1 _ => exact absurd trivial h1
    | yes _ A n c _ h2 h3 => exact ⟨A, n, c, rfl, h2, h3⟩
  obtain ⟨A, n, c, rfl, hR, hk4⟩ := hx4
  have HR := Lib.hid hR
  have HK4 : Hid (Kept [] W6 w4) := HK3.out.trans hk4
  clear hx hf hR hk4 HF HC3
  go_wp2_with fail
  refine (refSameQ A n c _ 1 1 [3] _ (HR.out.alloc _) ((Blk.new _ _ _).reads rfl) (by decide)).mono ?_
  rintro x w5 ⟨rfl, hk5⟩
  have HK5 : Hid (Kept [] w w5) := (HK6.out.trans (HK4.out.alloc _)).trans hk5
  clear hk5
  go_wp2_with fail
  go_ret
  exact ⟨rfl, HK5.out⟩
end Go.Proofs.Ytccodklfplfleaa

/- Arguments opened: from what a row says of its arguments (readings) to the words for memory. No program in sight. -/
namespace Go.Proofs.Ytccodklfplfleaa
open Go.ChangeShapes Go.WideShapes Go.ChangeAt Go.RowKit Go.Deep
open Go.ChangeMaps (open_string shut_string)

section
variable {H : Type} {enc : TypeId × Value → H} {P : Program} {w : World} {base : Nat} {spare : Nat → Bool} {held : Bool}
/-- A slice of structs of one-cell fields: every element's fields, cell by cell. -/
theorem open_slice_fields {t e : TypeId} {fs : Array Field} {fuel : Nat} {cs : List Value} {x : DataW H × List MemPlace} (ht : P.underlying t = some (.slice e)) (he : P.underlying e = some (.struct fs))
    (hone : oneCellFields P fs = true) (hC : P.cellsOf e = fs.size) (h : DataW.trod enc P w base spare held fuel t cs = some x) :
    cs = [.slice none 0 0] ∨
    ∃ (a : Addr) (len cap : Nat), cs = [.slice (some a) len cap] ∧ len ≤ cap ∧ cap ≤ maxLen ∧
      ∀ i, i < len → ∃ (n : Nat), ∀ (j : Nat) (f : Field), fs[j]? = some f → ∃ (v : Value) (y : DataW H × List MemPlace), w.cell? (a.add (i * fs.size + j)) = some v ∧ DataW.trod enc P w base spare held n f.type [v] = some y := by
  rcases open_slice ht h with ⟨h0, _⟩ | ⟨a, len, cap, m, n, D, Pl, hcs, hb, hl, hm, hmm, hx, hi⟩
  · exact .inl h0
  · refine .inr ⟨a, len, cap, hcs, hl, hm, fun i him => ?_⟩
    obtain ⟨cs', hc, ht'⟩ := hi i (by rw [hmm]; split <;> omega)
    rw [hC] at hc
    obtain ⟨ys, n', hn', hy, hlen, hyl, hf⟩ := DataW.trod_struct he ht'
    obtain ⟨_, hcl, hat⟩ := World.cells?_some hc
    refine ⟨n', fun j f hj => ?_⟩
    obtain ⟨ho, hk⟩ := hone_of hone j f hj
    have hjl : j < fs.size := (Array.getElem?_eq_some_iff.1 hj).1
    have hcell := hat j hjl
    have hv : cs'[j]? = some (cs'[j]'(by omega)) := List.getElem?_eq_getElem (by omega)
    have h1 := hf j f hj
    rw [ho, hk] at h1
    have hone' : (cs'.drop j).take 1 = [cs'[j]'(by omega)] := by
      rw [List.drop_eq_getElem_cons (by omega)]
      rfl
    rw [hone'] at h1
    have hys : ys[j]? = some (ys[j]'(by omega)) := List.getElem?_eq_getElem (by omega)
    refine ⟨_, _, ?_, h1.trans hys⟩
    rw [← Go.Deep.add_add, hcell, hv]

theorem open_i64 {t : TypeId} {k : IntKind} {fuel : Nat} {v : Value} {x : DataW H × List MemPlace} (ht : P.underlying t = some (.int k)) (h : DataW.trod enc P w base spare held fuel t [v] = some x) : ∃ z : Int, v = .int k z ∧ (Lit.int k z).wf = true := by
  obtain ⟨z, e0, _, wz⟩ := DataW.trod_int ht h
  simp at e0
  exact ⟨z, e0, wz⟩
end

end Go.Proofs.Ytccodklfplfleaa

/- A deed among the arguments, opened. -/
namespace Go.Proofs.Ytccodklfplfleaa
open Go.Joins Go.ChangeShapes Go.WideShapes Go.ChangeAt Go.RowKit Go.Deep

section
variable {H : Type} {enc : TypeId × Value → H} {P : Program} {w : World} {base : Nat} {spare : Nat → Bool} {held : Bool}
/-- A struct of one-cell fields by value. -/
theorem open_fields {r : Reach} {b0 : Nat} {t : TypeId} {fs : Array Field} {v : Value} {d : DataW H} {p : List MemPlace} (hs : P.underlying t = some (.struct fs)) (hone : oneCellFields P fs = true) (hC : P.cellsOf t = fs.size)
    (hv : Value.okWide P w r b0 t v) (h : DataW.Trod enc P w base spare held t v d p) :
    ∃ cs : Array Value, v = .agg cs ∧ cs.size = fs.size ∧ ∃ n, ∀ (j : Nat) (f : Field), fs[j]? = some f → ∃ u y, cs[j]? = some u ∧ DataW.trod enc P w base spare held n f.type [u] = some y := by
  obtain ⟨cs, rfl, hsz⟩ := okWide_struct hs hv
  obtain ⟨fuel, hf⟩ := h
  obtain ⟨xs, n, _, hx, _, hlen, hg⟩ := DataW.trod_struct hs hf
  refine ⟨cs, rfl, hsz.trans hC, n, fun j f hj => ?_⟩
  obtain ⟨ho, hk⟩ := hone_of hone j f hj
  have hjl : j < fs.size := (Array.getElem?_eq_some_iff.1 hj).1
  have hjc : j < cs.size := by rw [hsz, hC]; exact hjl
  have h1 := hg j f hj
  rw [ho, hk] at h1
  have hone' : ((Value.agg cs).cells.toList.drop j).take 1 = [cs[j]] := by
    show (cs.toList.drop j).take 1 = [cs[j]]
    rw [List.drop_eq_getElem_cons (by simpa using hjc)]
    simp
  rw [hone'] at h1
  have hys : xs[j]? = some (xs[j]'(by omega)) := List.getElem?_eq_getElem (by omega)
  exact ⟨cs[j], _, Array.getElem?_eq_getElem hjc, h1.trans hys⟩
end

section
variable {H : Type} {enc : TypeId × Value → H} {w : World} {base : Nat} {spare : Nat → Bool} {held : Bool}
end

end Go.Proofs.Ytccodklfplfleaa

