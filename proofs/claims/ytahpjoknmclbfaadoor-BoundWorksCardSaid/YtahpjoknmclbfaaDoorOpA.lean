/- Package mem: a memory in memory; Load, Store, Cas; Package deque: an operation in memory; the memory's calls beside it. -/
import Derived.Test.YtahpjoknmclbfaaDoorProg
import Derived.Test.YtahpjoknmclbfaaDoorHold
import Derived.Defers
import Derived.Deep.RegionHeld3

/- Package mem: a memory in memory; Load, Store, Cas. -/
namespace Go.Proofs.YtahpjoknmclbfaaDoor
open Go.RowKit

abbrev U64 (x : Nat) : Value := .int .u64 x
set_option maxHeartbeats 800000 in
theorem mCount_d (w : World) (mb : Nat) (x : Int) (h1 : w.cell? ⟨mb, 1, none⟩ = some (.int .u64 x)) (f1 : w.frozen? ⟨mb, 1, none⟩ = false) (u : FrameMode) :
    CallsD Tryd.prog 63 #[.pointer (some ⟨mb, 0, none⟩)] u w fun e u' w' => u' = u ∧ (e = .returned (.tuple #[]) ∧ w' = w.setCell ⟨mb, 1, none⟩ (.int .u64 (IntKind.u64.wrap (x + 1)))) := by
  go_enter_d Tryd.func63, Tryd.ntmps63
  go_wp2
  go_end0
  exact ⟨rfl, rfl⟩
set_option maxHeartbeats 800000 in
theorem mLoad_any (w : World) (mb wb n a : Nat) (x u : Int) (h0 : w.cell? ⟨mb, 0, none⟩ = some (.slice (some ⟨wb, 0, none⟩) n n)) (h1 : w.cell? ⟨mb, 1, none⟩ = some (.int .u64 u)) (f1 : w.frozen? ⟨mb, 1, none⟩ = false)
    (ha : a < n) (hc : w.cell? ⟨wb, a, none⟩ = some (.int .u64 x)) :
    Calls Tryd.prog 48 #[.pointer (some ⟨mb, 0, none⟩), .int .i64 a] w fun e w' => e = .returned (.int .u64 x) ∧ w' = w.setCell ⟨mb, 1, none⟩ (.int .u64 (IntKind.u64.wrap (u + 1))) := by
  go_enter_defers Tryd.func48, Tryd.ntmps48
  go_wp2
  refine leaves_cons (f := 63) (args := #[.pointer (some ⟨mb, 0, none⟩)]) (by simp) (by simp [go_sem]) ?_
  refine (mCount_d _ mb u h1 f1 .returning).mono ?_
  rintro e u' w'' ⟨rfl, rfl, rfl⟩
  exact ⟨_, results_tmp rfl _ _ _, rfl, rfl⟩
set_option maxHeartbeats 800000 in
theorem mStore_any (w : World) (mb wb n a : Nat) (x y u : Int) (h0 : w.cell? ⟨mb, 0, none⟩ = some (.slice (some ⟨wb, 0, none⟩) n n)) (h1 : w.cell? ⟨mb, 1, none⟩ = some (.int .u64 u)) (f1 : w.frozen? ⟨mb, 1, none⟩ = false) (hne : mb ≠ wb)
    (ha : a < n) (hc : w.cell? ⟨wb, a, none⟩ = some (.int .u64 x)) (hf : w.frozen? ⟨wb, a, none⟩ = false) :
    Calls Tryd.prog 88 #[.pointer (some ⟨mb, 0, none⟩), .int .i64 a, .int .u64 y] w fun e w' => e = .returned (.tuple #[]) ∧ w' = (w.setCell ⟨wb, a, none⟩ (.int .u64 y)).setCell ⟨mb, 1, none⟩ (.int .u64 (IntKind.u64.wrap (u + 1))) := by
  go_enter_defers Tryd.func88, Tryd.ntmps88
  go_wp2
  first | go_end0 | (simp only [Exit.inBlock, Exit.then]; refine bodyPost_ret (results_none rfl _ _ _) rfl ?_) | skip
  refine leaves_cons (f := 63) (args := #[.pointer (some ⟨mb, 0, none⟩)]) (by simp) (by simp [go_sem]) ?_
  refine (mCount_d _ mb u ?_ ?_ .returning).mono ?_
  · exact (World.cell?_setCell_other _ ⟨wb, a, none⟩ ⟨mb, 1, none⟩ _ (by simp)).trans h1
  · simp [f1]
  rintro e u' w'' ⟨rfl, rfl, rfl⟩
  exact ⟨_, results_none rfl _ _ _, rfl, rfl⟩
set_option maxHeartbeats 800000 in
theorem mCas_no (w : World) (mb wb n a : Nat) (x y z u : Int) (h0 : w.cell? ⟨mb, 0, none⟩ = some (.slice (some ⟨wb, 0, none⟩) n n)) (h1 : w.cell? ⟨mb, 1, none⟩ = some (.int .u64 u)) (f1 : w.frozen? ⟨mb, 1, none⟩ = false)
    (ha : a < n) (hc : w.cell? ⟨wb, a, none⟩ = some (.int .u64 x)) (hxy : x ≠ y) :
    Calls Tryd.prog 95 #[.pointer (some ⟨mb, 0, none⟩), .int .i64 a, .int .u64 y, .int .u64 z] w fun e w' => e = .returned (.bool false) ∧ w' = w.setCell ⟨mb, 1, none⟩ (.int .u64 (IntKind.u64.wrap (u + 1))) := by
  go_enter_defers Tryd.func95, Tryd.ntmps95
  go_wp2
  refine leaves_cons (f := 63) (args := #[.pointer (some ⟨mb, 0, none⟩)]) (by simp) (by simp [go_sem]) ?_
  refine (mCount_d _ mb u h1 f1 .returning).mono ?_
  rintro e u' w'' ⟨rfl, rfl, rfl⟩
  exact ⟨_, results_tmp rfl _ _ _, rfl, rfl⟩
set_option maxHeartbeats 800000 in
theorem mCas_yes (w : World) (mb wb n a : Nat) (x z u : Int) (h0 : w.cell? ⟨mb, 0, none⟩ = some (.slice (some ⟨wb, 0, none⟩) n n)) (h1 : w.cell? ⟨mb, 1, none⟩ = some (.int .u64 u)) (f1 : w.frozen? ⟨mb, 1, none⟩ = false) (hne : mb ≠ wb)
    (ha : a < n) (hc : w.cell? ⟨wb, a, none⟩ = some (.int .u64 x)) (hf : w.frozen? ⟨wb, a, none⟩ = false) :
    Calls Tryd.prog 95 #[.pointer (some ⟨mb, 0, none⟩), .int .i64 a, .int .u64 x, .int .u64 z] w fun e w' => e = .returned (.bool true) ∧ w' = (w.setCell ⟨wb, a, none⟩ (.int .u64 z)).setCell ⟨mb, 1, none⟩ (.int .u64 (IntKind.u64.wrap (u + 1))) := by
  go_enter_defers Tryd.func95, Tryd.ntmps95
  go_wp2
  refine leaves_cons (f := 63) (args := #[.pointer (some ⟨mb, 0, none⟩)]) (by simp) (by simp [go_sem]) ?_
  refine (mCount_d _ mb u ?_ ?_ .returning).mono ?_
  · exact (World.cell?_setCell_other _ ⟨wb, a, none⟩ ⟨mb, 1, none⟩ _ (by simp)).trans h1
  · simp [f1]
  rintro e u' w'' ⟨rfl, rfl, rfl⟩
  exact ⟨_, results_tmp rfl _ _ _, rfl, rfl⟩
end Go.Proofs.YtahpjoknmclbfaaDoor

/- Package deque: an operation in memory; the memory's calls beside it. -/
namespace Go.Proofs.YtahpjoknmclbfaaDoor
open Go.RowKit

structure OpS where
  base : Nat
  cap : Nat
  kind : Nat
  steps : Nat
  b : Nat
  t : Nat
  x : Nat
  won : Bool
  done : Bool
  err : Nat
def opC (o : OpS) : Array Value := #[.int .i64 o.base, .int .i64 o.cap, .int .i64 o.kind, .int .i64 o.steps, U64 o.b, U64 o.t, U64 o.x, .bool o.won, .bool o.done, .int .i64 o.err]
/-- A memory and an operation. -/
structure MOp (w : World) (mb wb ob : Nat) (xs : List Nat) (o : OpS) : Prop where
  mem : ∃ u : Int, Blk w mb 43 #[.slice (some ⟨wb, 0, none⟩) xs.length xs.length, .int .u64 u]
  words : Blk w wb 30 (xs.map U64).toArray
  op : Blk w ob 88 (opC o)
section
variable {w : World} {mb wb ob : Nat} {xs : List Nat} {o : OpS}
theorem MOp.a1 (M : MOp w mb wb ob xs o) : mb ≠ wb := by obtain ⟨u, h⟩ := M.mem; exact h.ne M.words (by decide)
theorem MOp.a2 (M : MOp w mb wb ob xs o) : mb ≠ ob := by obtain ⟨u, h⟩ := M.mem; exact h.ne M.op (by decide)
theorem MOp.a3 (M : MOp w mb wb ob xs o) : wb ≠ ob := M.words.ne M.op (by decide)
theorem MOp.drew (M : MOp w mb wb ob xs o) : MOp w.drew mb wb ob xs o := ⟨M.mem, M.words, M.op⟩
theorem MOp.used (M : MOp w mb wb ob xs o) (v : Int) : MOp (w.setCell ⟨mb, 1, none⟩ (.int .u64 v)) mb wb ob xs o := by
  obtain ⟨u, h⟩ := M.mem
  exact ⟨⟨v, h.set 1 _⟩, M.words.far (Ne.symm M.a1) _, M.op.far (Ne.symm M.a2) _⟩
theorem MOp.put (M : MOp w mb wb ob xs o) (a y : Nat) (ha : a < xs.length) : MOp (w.setCell ⟨wb, a, none⟩ (U64 y)) mb wb ob (xs.set a y) o := by
  obtain ⟨u, h⟩ := M.mem
  refine ⟨⟨u, ?_⟩, ?_, M.op.far (Ne.symm M.a3) _⟩
  · rw [List.length_set]; exact h.far M.a1 _
  · have := M.words.set a (U64 y)
    have e : (xs.map U64).toArray.setIfInBounds a (U64 y) = ((xs.set a y).map U64).toArray := by
      apply Array.ext'
      simp [List.map_set]
    rw [e] at this
    exact this
theorem MOp.setOp (M : MOp w mb wb ob xs o) (i : Nat) (u : Value) {o' : OpS} (h : (opC o).setIfInBounds i u = opC o') : MOp (w.setCell ⟨ob, i, none⟩ u) mb wb ob xs o' := by
  obtain ⟨v, hm⟩ := M.mem
  refine ⟨⟨v, hm.far M.a2 _⟩, M.words.far M.a3 _, ?_⟩
  rw [← h]; exact M.op.set i u
theorem MOp.word (M : MOp w mb wb ob xs o) {a : Nat} (ha : a < xs.length) : w.cell? ⟨wb, a, none⟩ = some (U64 (xs.getD a 0)) := by
  rw [M.words.cell]
  simp [ha]
theorem MOp.load (M : MOp w mb wb ob xs o) {a : Nat} (ha : a < xs.length) : Calls Tryd.prog 48 #[.pointer (some ⟨mb, 0, none⟩), .int .i64 a] w fun e w' => e = .returned (U64 (xs.getD a 0)) ∧ MOp w' mb wb ob xs o ∧ Kept [mb, wb, ob] w w' := by
  obtain ⟨u, h⟩ := M.mem
  refine (mLoad_any w mb wb xs.length a (xs.getD a 0) u (by rw [h.cell]; rfl) (by rw [h.cell]; rfl) (h.frozen 1) ha (M.word ha)).mono ?_
  rintro e w' ⟨rfl, rfl⟩
  exact ⟨rfl, M.used _, (Kept.refl _ w).setCell (.inl (by simp)) _⟩
theorem MOp.store (M : MOp w mb wb ob xs o) {a : Nat} (y : Nat) (ha : a < xs.length) : Calls Tryd.prog 88 #[.pointer (some ⟨mb, 0, none⟩), .int .i64 a, .int .u64 y] w fun e w' => e = .returned (.tuple #[]) ∧ MOp w' mb wb ob (xs.set a y) o ∧ Kept [mb, wb, ob] w w' := by
  obtain ⟨u, h⟩ := M.mem
  refine (mStore_any w mb wb xs.length a (xs.getD a 0) y u (by rw [h.cell]; rfl) (by rw [h.cell]; rfl) (h.frozen 1) M.a1 ha (M.word ha) (M.words.frozen a)).mono ?_
  rintro e w' ⟨rfl, rfl⟩
  exact ⟨rfl, (M.put a y ha).used _, ((Kept.refl _ w).setCell (.inl (by simp)) _).setCell (.inl (by simp)) _⟩
theorem MOp.cas (M : MOp w mb wb ob xs o) {a : Nat} (y z : Nat) (ha : a < xs.length) : Calls Tryd.prog 95 #[.pointer (some ⟨mb, 0, none⟩), .int .i64 a, .int .u64 y, .int .u64 z] w fun e w' =>
    e = .returned (.bool (decide (xs.getD a 0 = y))) ∧ MOp w' mb wb ob (if xs.getD a 0 = y then xs.set a z else xs) o ∧ Kept [mb, wb, ob] w w' := by
  obtain ⟨u, h⟩ := M.mem
  by_cases hy : xs.getD a 0 = y
  · rw [if_pos hy, decide_eq_true hy]
    have hc := M.word ha
    rw [hy] at hc
    refine (mCas_yes w mb wb xs.length a y z u (by rw [h.cell]; rfl) (by rw [h.cell]; rfl) (h.frozen 1) M.a1 ha hc (M.words.frozen a)).mono ?_
    rintro e w' ⟨rfl, rfl⟩
    exact ⟨rfl, (M.put a z ha).used _, ((Kept.refl _ w).setCell (.inl (by simp)) _).setCell (.inl (by simp)) _⟩
  · rw [if_neg hy, decide_eq_false hy]
    refine (mCas_no w mb wb xs.length a (xs.getD a 0) y z u (by rw [h.cell]; rfl) (by rw [h.cell]; rfl) (h.frozen 1) ha (M.word ha) (by omega)).mono ?_
    rintro e w' ⟨rfl, rfl⟩
    exact ⟨rfl, M.used _, (Kept.refl _ w).setCell (.inl (by simp)) _⟩
end
end Go.Proofs.YtahpjoknmclbfaaDoor

