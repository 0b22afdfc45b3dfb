/- Package replay: the thread of a register (target), whether a lock's code may be (mayLock), walked. -/
import Derived.Test.YtccodklfplfleaaRpG
namespace Go.Proofs.Ytccodklfplfleaa
open Go.RowKit

/-- A deed's cells. -/
abbrev ddC (x : Dd) : Array Value := #[.int .i64 x.op, .int .i64 x.a, .int .i64 x.b, .int .i64 x.r, .int .u64 x.n, .int .u64 x.mask, .bool x.loose]
/-- What a deed's box holds. -/
theorem dd_box {w wb : World} {x : Dd} (hwb : w.alloc (.cells (ddC x) 47) = wb) : ∀ W, Kept [] wb W → (W.cell? ⟨w.heap.size, 0, none⟩ = some (.int .i64 x.op) ∧ W.cell? ⟨w.heap.size, 1, none⟩ = some (.int .i64 x.a) ∧ W.cell? ⟨w.heap.size, 2, none⟩ = some (.int .i64 x.b) ∧ W.cell? ⟨w.heap.size, 3, none⟩ = some (.int .i64 x.r) ∧ W.cell? ⟨w.heap.size, 4, none⟩ = some (.int .u64 x.n) ∧ W.cell? ⟨w.heap.size, 5, none⟩ = some (.int .u64 x.mask) ∧ W.cell? ⟨w.heap.size, 6, none⟩ = some (.bool x.loose) ∧ w.heap.size < W.heap.size) := fun W hk => by
  subst hwb
  have h := (Blk.new w 47 (ddC x)).kept hk (by simp)
  exact ⟨h.cell 0, h.cell 1, h.cell 2, h.cell 3, h.cell 4, h.cell 5, h.cell 6, h.lt⟩
/-- The thread of an id, if it is there. -/
def tgA (b : AcA) (a : Acc) (x : Int × Nat) : Value := .pointer (if hasA a x.1 x.2 = true then some (tA b x.1.toNat) else none)

set_option maxHeartbeats 3200000 in
set_option maxRecDepth 100000 in
theorem rptarget_any {w : World} {b : AcA} {d : Du} {a : Acc} {K : Array Value} (h : AccAt w b d a K) (hw : AWhole d a) {t : Nat} (ht : t < a.T.length) (dd : Dd) {r : Nat} (hr : dd.r = r) (hr8 : r < 8) :
    Calls Try.prog 84 #[.pointer (some ⟨b.g, 0, none⟩), .pointer (some (tA b t)), .agg (ddC dd)] w fun x w' => x = .returned (tgA b a ((a.th t).regs.getD r (0, 0))) ∧ Kept [] w w' := by
  obtain ⟨wb, hwb⟩ : ∃ wb, w.alloc (.cells (ddC dd) 47) = wb := ⟨_, rfl⟩
  have h0 : Kept [] w wb := by rw [← hwb]; exact (Kept.refl _ _).alloc _
  have HK0 := Lib.hid h0
  have HF : Hid (∀ W, Kept [] wb W → (W.cell? ⟨b.g, 9, none⟩ = some (.pointer (some ⟨b.gr, 0, none⟩)) ∧ W.cell? ⟨b.g, 10, none⟩ = some (.slice b.AT a.T.length b.cT) ∧ W.cell? ⟨b.g, 11, none⟩ = some (.slice b.AH a.held.length b.cH) ∧ b.g < W.heap.size) ∧ W.cell? ⟨w.heap.size, 3, none⟩ = some (.int .i64 r) ∧ W.cell? ⟨gT b, t * 31 + 6 + r * 2, none⟩ = some (.int .i64 ((a.th t).regs.getD r (0, 0)).1) ∧ W.cell? ⟨gT b, t * 31 + 6 + r * 2 + 1, none⟩ = some (.int .u32 ((a.th t).regs.getD r (0, 0)).2) ∧ gT b < W.heap.size ∧ w.heap.size < W.heap.size) := fun W hk => by
    have h1 := AccAt.old h (h0.trans hk)
    have h2 := dd_box hwb W hk
    rw [← hr]
    exact ⟨AccAt.fact h W (h0.trans hk), h2.2.2.2.1, (AccAt.rf h1 ht hr8).1, (AccAt.rf h1 ht hr8).2, (AccAt.tf h1 ht).2.2.2, h2.2.2.2.2.2.2.2⟩
  unfold tgA
  generalize (a.th t).regs.getD r (0, 0) = x at *
  obtain ⟨s, gn⟩ := x
  simp only at HF ⊢
  have HHS : Hid (∀ W, Kept [] wb W → Calls Try.prog 82 #[.pointer (some ⟨b.gr, 0, none⟩), .agg #[.int .i64 s, .int .u32 gn]] W fun x w' => x = .returned (.bool (hasA a s gn)) ∧ Kept [] W w') := fun W hk => rlHas_any (AccAt.roll (AccAt.old h (h0.trans hk))) s gn
  have hr0 : (0 : Int) ≤ (r : Int) := by omega
  have hr1 : (r : Int) < 8 := by omega
  unfold tA
  have hk5 : Kept [] wb (wb.alloc (.cells #[.int .i64 s, .int .u32 gn] 53)).drew := ((Kept.refl _ _).alloc _).drew
  have hb5 : Blk (wb.alloc (.cells #[.int .i64 s, .int .u32 gn] 53)).drew wb.heap.size 53 #[.int .i64 s, .int .u32 gn] := (Blk.new wb 53 _).drew
  obtain ⟨w5, hw5⟩ : ∃ w5, (wb.alloc (.cells #[.int .i64 s, .int .u32 gn] 53)).drew = w5 := ⟨_, rfl⟩
  rw [hw5] at hk5 hb5
  have HK5 := Lib.hid hk5
  have HF5 : Hid (∀ W, Kept [] w5 W → (W.cell? ⟨b.g, 9, none⟩ = some (.pointer (some ⟨b.gr, 0, none⟩)) ∧ W.cell? ⟨b.g, 10, none⟩ = some (.slice b.AT a.T.length b.cT) ∧ W.cell? ⟨b.g, 11, none⟩ = some (.slice b.AH a.held.length b.cH) ∧ b.g < W.heap.size) ∧ W.cell? ⟨wb.heap.size, 0, none⟩ = some (.int .i64 s) ∧ W.cell? ⟨wb.heap.size, 1, none⟩ = some (.int .u32 gn) ∧ wb.heap.size < W.heap.size) := fun W hk => by
    have h1 := hb5.kept hk (by simp)
    exact ⟨AccAt.fact h W ((h0.trans hk5).trans hk), h1.cell 0, h1.cell 1, h1.lt⟩
  have HHS : Hid (∀ W, Kept [] w5 W → Calls Try.prog 82 #[.pointer (some ⟨b.gr, 0, none⟩), .agg #[.int .i64 s, .int .u32 gn]] W fun x w' => x = .returned (.bool (hasA a s gn)) ∧ Kept [] W w') := fun W hk => HHS.out W (hk5.trans hk)
  have HGT : Hid (hasA a s gn = true → b.AT = some ⟨gT b, 0, none⟩ ∧ 0 ≤ s ∧ s < (a.T.length : Int)) := fun hh => by
    obtain ⟨p0, p1, _⟩ := hasA_lt hh
    have : s.toNat < a.T.length := by rw [hw.tl]; exact p1
    exact ⟨AccAt.gt h this, p0, by omega⟩
  clear h hw ht hr hr8 h0 hk5 hb5
  cases hh : hasA a s gn with
  | false =>
    rw [hh] at HHS
    rw [if_neg (by simp)]
    clear HGT hh
    go_enter Try.func84, Try.ntmps84
    go_wp2_with fail
    try rw [hwb]
    (refine wp_region_held_drew (S := fun W => Kept [] wb W) (by kernel_rfl) (Kept.refl _ _).drew (fun hHeld => ?_))
    (refine held_take (i := 0) (v := ?_) (listed := #[false, false, false, false, false, false, false, false, false]) nth_0 (by kernel_rfl) (by kernel_rfl) (by kernel_rfl) (fun _ _ _ h => h) (Or.inl ⟨by rfl, ?_⟩) (by assumption) ?_; rotate_left; (focus ((intro W hC; go_simp); try (with_reducible rfl))); (try dsimp only [Act.put]); (try simp only [List.setIfInBounds_toArray, List.set_cons_zero, List.set_cons_succ]))
    (refine held_take (i := 1) (v := ?_) (listed := #[true, false, false, false, false, false, false, false, false]) nth_1 (by kernel_rfl) (by kernel_rfl) (by kernel_rfl) (fun _ _ _ h => h) (Or.inl ⟨by rfl, ?_⟩) (by assumption) ?_; rotate_left; (focus ((intro W hC; go_simp); try (with_reducible rfl))); (try dsimp only [Act.put]); (try simp only [List.setIfInBounds_toArray, List.set_cons_zero, List.set_cons_succ]))
    (refine held_take (i := 2) (v := ?_) (listed := #[true, true, false, false, false, false, false, false, false]) nth_2 (by kernel_rfl) (by kernel_rfl) (by kernel_rfl) (fun _ _ _ h => h) (Or.inl ⟨by rfl, ?_⟩) (by assumption) ?_; rotate_left; (focus ((intro W hC; have hF := HF.out W hC; go_simp); try (with_reducible rfl))); (try dsimp only [Act.put]); (try simp only [List.setIfInBounds_toArray, List.set_cons_zero, List.set_cons_succ]))
    (refine held_take (i := 3) (v := ?_) (listed := #[true, true, true, false, false, false, false, false, false]) nth_3 (by kernel_rfl) (by kernel_rfl) (by kernel_rfl) (fun _ _ _ h => h) (Or.inl ⟨by rfl, ?_⟩) (by assumption) ?_; rotate_left; (focus ((intro W hC; go_simp); try (with_reducible rfl))); (try dsimp only [Act.put]); (try simp only [List.setIfInBounds_toArray, List.set_cons_zero, List.set_cons_succ]))
    (refine held_take (i := 4) (v := ?_) (listed := #[true, true, true, true, false, false, false, false, false]) nth_4 (by kernel_rfl) (by kernel_rfl) (by kernel_rfl) (fun _ _ _ h => h) (Or.inl ⟨by rfl, ?_⟩) (by assumption) ?_; rotate_left; (focus ((intro W hC; go_simp); try (with_reducible rfl))); (try dsimp only [Act.put]); (try simp only [List.setIfInBounds_toArray, List.set_cons_zero, List.set_cons_succ]))
    (refine held_take (i := 5) (v := ?_) (listed := #[true, true, true, true, true, false, false, false, false]) nth_5 (by kernel_rfl) (by kernel_rfl) (by kernel_rfl) (fun _ _ _ h => h) (Or.inl ⟨by rfl, ?_⟩) (by assumption) ?_; rotate_left; (focus ((intro W hC; go_simp); try (with_reducible rfl))); (try dsimp only [Act.put]); (try simp only [List.setIfInBounds_toArray, List.set_cons_zero, List.set_cons_succ]))
    (refine held_take (i := 6) (v := ?_) (listed := #[true, true, true, true, true, true, false, false, false]) nth_6 (by kernel_rfl) (by kernel_rfl) (by kernel_rfl) (fun _ _ _ h => h) (Or.inl ⟨by rfl, ?_⟩) (by assumption) ?_; rotate_left; (focus ((intro W hC; have hF := HF.out W hC; go_simp); try (with_reducible rfl))); (try dsimp only [Act.put]); (try simp only [List.setIfInBounds_toArray, List.set_cons_zero, List.set_cons_succ]))
    (refine wpAnyH_ready (rs := [7]) (by kernel_rfl) (by simp) ?_; refine held_cons nth_7 (fun K hK => ?_) AllReadyH.nil)
    go_simp
    (refine hK.out _ _ ((by exact hHeld.alloc _)) (fun hHeld => ?_); clear hK K)
    (try dsimp only [Act.put]); (try simp only [List.setIfInBounds_toArray, List.set_cons_zero, List.set_cons_succ])
    (refine wpAnyH_ready (rs := [8]) (by kernel_rfl) (by simp) ?_; refine held_cons nth_8 (fun K hK => ?_) AllReadyH.nil)
    go_simp
    (refine hK.out _ _ ((by exact HK5.out)) (fun hHeld => ?_); clear hK K)
    (try dsimp only [Act.put]); (try simp only [List.setIfInBounds_toArray, List.set_cons_zero, List.set_cons_succ])
    (refine wpAnyH_done (by kernel_rfl) ?_ _)
    try rw [hw5]
    go_wp2_with fail
    try rw [hw5]
    (refine wp_region_phases (n := 7) (listed := #[false, false, false, false, false, false, false]) (by kernel_rfl) (by rfl) (by rfl) ?_)
    (refine wpAny_phase (fun W => Kept [] w5 W) [(0, false), (1, false), (2, false), (3, false), (4, false), (5, false), (6, false)] (f := 0) (listed := #[false, false, false, false, false, false, false]) (listed' := #[true, true, true, true, true, true, true]) (by kernel_rfl) (by kernel_rfl) (by rfl) (Kept.refl [] _).drew (fun d _ _ _ _ h => by cases d <;> exact h) ?_)
    iterate 5 (refine wpQL_take (v := ?_) rfl (by rfl) ?_ ?_; rotate_left; (focus ((intro W hC; have hF := HF5.out W hC; go_simp); try (with_reducible rfl))); (try dsimp only [Act.put]); (try simp only [List.setIfInBounds_toArray, List.set_cons_zero, List.set_cons_succ]))
    (refine wpQL_call nth_5 (by rfl) ?_ (fun W hC => quiet_call hC (HHS.out W hC)) ?_; (focus (intro W hC; go_simp; try (with_reducible rfl))); (try dsimp only [Act.put]); (try simp only [List.setIfInBounds_toArray, List.set_cons_zero, List.set_cons_succ]))
    (refine wpQL_take (v := ?_) nth_6 (by rfl) ?_ ?_; rotate_left; (focus ((intro W hC; go_simp); try (with_reducible rfl))); (try dsimp only [Act.put]); (try simp only [List.setIfInBounds_toArray, List.set_cons_zero, List.set_cons_succ]))
    (refine wpQL_nil ?_)
    (intro wq hq)
    (refine wpAny_done (by kernel_rfl) ?_ _)
    go_wp2_with fail
    go_ret
    exact ⟨rfl, (HK0.out.trans HK5.out).trans hq⟩
  | true =>
    obtain ⟨g1, g2, g3⟩ := HGT.out hh
    rw [hh] at HHS
    rw [g1] at HF5
    rw [if_pos rfl]
    clear HGT hh g1
    go_enter Try.func84, Try.ntmps84
    go_wp2_with fail
    try rw [hwb]
    (refine wp_region_held_drew (S := fun W => Kept [] wb W) (by kernel_rfl) (Kept.refl _ _).drew (fun hHeld => ?_))
    (refine held_take (i := 0) (v := ?_) (listed := #[false, false, false, false, false, false, false, false, false]) nth_0 (by kernel_rfl) (by kernel_rfl) (by kernel_rfl) (fun _ _ _ h => h) (Or.inl ⟨by rfl, ?_⟩) (by assumption) ?_; rotate_left; (focus ((intro W hC; go_simp); try (with_reducible rfl))); (try dsimp only [Act.put]); (try simp only [List.setIfInBounds_toArray, List.set_cons_zero, List.set_cons_succ]))
    (refine held_take (i := 1) (v := ?_) (listed := #[true, false, false, false, false, false, false, false, false]) nth_1 (by kernel_rfl) (by kernel_rfl) (by kernel_rfl) (fun _ _ _ h => h) (Or.inl ⟨by rfl, ?_⟩) (by assumption) ?_; rotate_left; (focus ((intro W hC; go_simp); try (with_reducible rfl))); (try dsimp only [Act.put]); (try simp only [List.setIfInBounds_toArray, List.set_cons_zero, List.set_cons_succ]))
    (refine held_take (i := 2) (v := ?_) (listed := #[true, true, false, false, false, false, false, false, false]) nth_2 (by kernel_rfl) (by kernel_rfl) (by kernel_rfl) (fun _ _ _ h => h) (Or.inl ⟨by rfl, ?_⟩) (by assumption) ?_; rotate_left; (focus ((intro W hC; have hF := HF.out W hC; go_simp); try (with_reducible rfl))); (try dsimp only [Act.put]); (try simp only [List.setIfInBounds_toArray, List.set_cons_zero, List.set_cons_succ]))
    (refine held_take (i := 3) (v := ?_) (listed := #[true, true, true, false, false, false, false, false, false]) nth_3 (by kernel_rfl) (by kernel_rfl) (by kernel_rfl) (fun _ _ _ h => h) (Or.inl ⟨by rfl, ?_⟩) (by assumption) ?_; rotate_left; (focus ((intro W hC; go_simp); try (with_reducible rfl))); (try dsimp only [Act.put]); (try simp only [List.setIfInBounds_toArray, List.set_cons_zero, List.set_cons_succ]))
    (refine held_take (i := 4) (v := ?_) (listed := #[true, true, true, true, false, false, false, false, false]) nth_4 (by kernel_rfl) (by kernel_rfl) (by kernel_rfl) (fun _ _ _ h => h) (Or.inl ⟨by rfl, ?_⟩) (by assumption) ?_; rotate_left; (focus ((intro W hC; go_simp); try (with_reducible rfl))); (try dsimp only [Act.put]); (try simp only [List.setIfInBounds_toArray, List.set_cons_zero, List.set_cons_succ]))
    (refine held_take (i := 5) (v := ?_) (listed := #[true, true, true, true, true, false, false, false, false]) nth_5 (by kernel_rfl) (by kernel_rfl) (by kernel_rfl) (fun _ _ _ h => h) (Or.inl ⟨by rfl, ?_⟩) (by assumption) ?_; rotate_left; (focus ((intro W hC; go_simp); try (with_reducible rfl))); (try dsimp only [Act.put]); (try simp only [List.setIfInBounds_toArray, List.set_cons_zero, List.set_cons_succ]))
    (refine held_take (i := 6) (v := ?_) (listed := #[true, true, true, true, true, true, false, false, false]) nth_6 (by kernel_rfl) (by kernel_rfl) (by kernel_rfl) (fun _ _ _ h => h) (Or.inl ⟨by rfl, ?_⟩) (by assumption) ?_; rotate_left; (focus ((intro W hC; have hF := HF.out W hC; go_simp); try (with_reducible rfl))); (try dsimp only [Act.put]); (try simp only [List.setIfInBounds_toArray, List.set_cons_zero, List.set_cons_succ]))
    (refine wpAnyH_ready (rs := [7]) (by kernel_rfl) (by simp) ?_; refine held_cons nth_7 (fun K hK => ?_) AllReadyH.nil)
    go_simp
    (refine hK.out _ _ ((by exact hHeld.alloc _)) (fun hHeld => ?_); clear hK K)
    (try dsimp only [Act.put]); (try simp only [List.setIfInBounds_toArray, List.set_cons_zero, List.set_cons_succ])
    (refine wpAnyH_ready (rs := [8]) (by kernel_rfl) (by simp) ?_; refine held_cons nth_8 (fun K hK => ?_) AllReadyH.nil)
    go_simp
    (refine hK.out _ _ ((by exact HK5.out)) (fun hHeld => ?_); clear hK K)
    (try dsimp only [Act.put]); (try simp only [List.setIfInBounds_toArray, List.set_cons_zero, List.set_cons_succ])
    (refine wpAnyH_done (by kernel_rfl) ?_ _)
    try rw [hw5]
    go_wp2_with fail
    try rw [hw5]
    (refine wp_region_phases (n := 7) (listed := #[false, false, false, false, false, false, false]) (by kernel_rfl) (by rfl) (by rfl) ?_)
    (refine wpAny_phase (fun W => Kept [] w5 W) [(0, false), (1, false), (2, false), (3, false), (4, false), (5, false), (6, false)] (f := 0) (listed := #[false, false, false, false, false, false, false]) (listed' := #[true, true, true, true, true, true, true]) (by kernel_rfl) (by kernel_rfl) (by rfl) (Kept.refl [] _).drew (fun d _ _ _ _ h => by cases d <;> exact h) ?_)
    iterate 5 (refine wpQL_take (v := ?_) rfl (by rfl) ?_ ?_; rotate_left; (focus ((intro W hC; have hF := HF5.out W hC; go_simp); try (with_reducible rfl))); (try dsimp only [Act.put]); (try simp only [List.setIfInBounds_toArray, List.set_cons_zero, List.set_cons_succ]))
    (refine wpQL_call nth_5 (by rfl) ?_ (fun W hC => quiet_call hC (HHS.out W hC)) ?_; (focus (intro W hC; go_simp; try (with_reducible rfl))); (try dsimp only [Act.put]); (try simp only [List.setIfInBounds_toArray, List.set_cons_zero, List.set_cons_succ]))
    (refine wpQL_take (v := ?_) nth_6 (by rfl) ?_ ?_; rotate_left; (focus ((intro W hC; go_simp); try (with_reducible rfl))); (try dsimp only [Act.put]); (try simp only [List.setIfInBounds_toArray, List.set_cons_zero, List.set_cons_succ]))
    (refine wpQL_nil ?_)
    (intro wq hq)
    (refine wpAny_done (by kernel_rfl) ?_ _)
    go_wp2_with fail
    (refine wp_region_phases (n := 8) (listed := #[false, false, false, false, false, false, false, false]) (by kernel_rfl) (by rfl) (by rfl) ?_)
    (refine wpAny_phase (fun W => Kept [] w5 W) [(0, false), (1, false), (2, false), (3, false), (4, false), (5, false), (6, false), (7, false)] (f := 0) (listed := #[false, false, false, false, false, false, false, false]) (listed' := #[true, true, true, true, true, true, true, true]) (by kernel_rfl) (by kernel_rfl) (by rfl) (hq).drew (fun d _ _ _ _ h => by cases d <;> exact h) ?_)
    iterate 8 (refine wpQL_take (v := ?_) rfl (by rfl) ?_ ?_; rotate_left; (focus ((intro W hC; have hF := HF5.out W hC; go_simp); try (with_reducible rfl))); (try dsimp only [Act.put]); (try simp only [List.setIfInBounds_toArray, List.set_cons_zero, List.set_cons_succ]))
    (refine wpQL_nil ?_)
    (intro wq hq)
    (refine wpAny_done (by kernel_rfl) ?_ _)
    go_wp2_with fail
    go_ret
    exact ⟨rfl, (HK0.out.trans HK5.out).trans hq⟩

/-- May a lock's code be? -/
def mayLk (d : Du) (a : Acc) (t : Int) (x : Dd) (code : Int) : Bool :=
  if d.locks ≤ x.a then code == 1
  else if x.op = 11 then (if a.hl x.a.toNat ≠ t then code == 11 else code == 0)
  else code == 0 || (code == 12 || (decide (x.op = 10 ∧ x.n = 0) && code == 13))

set_option maxHeartbeats 3200000 in
set_option maxRecDepth 100000 in
theorem rpmayLock_any {w : World} {b : AcA} {d : Du} {a : Acc} {K : Array Value} (h : AccAt w b d a K) (hw : AWhole d a) (t : Int) (x : Dd) (ha : 0 ≤ x.a) (code : Int) :
    Calls Try.prog 95 #[.pointer (some ⟨b.g, 0, none⟩), .int .i64 t, .agg (ddC x), .int .i64 code] w fun y w' => y = .returned (.bool (mayLk d a t x code)) ∧ Kept [] w w' := by
  obtain ⟨wb, hwb⟩ : ∃ wb, w.alloc (.cells (ddC x) 47) = wb := ⟨_, rfl⟩
  have h0 : Kept [] w wb := by rw [← hwb]; exact (Kept.refl _ _).alloc _
  have HK0 := Lib.hid h0
  have HF : Hid (∀ W, Kept [] wb W → ((W.cell? ⟨b.g, 9, none⟩ = some (.pointer (some ⟨b.gr, 0, none⟩)) ∧ W.cell? ⟨b.g, 10, none⟩ = some (.slice b.AT a.T.length b.cT) ∧ W.cell? ⟨b.g, 11, none⟩ = some (.slice b.AH a.held.length b.cH) ∧ b.g < W.heap.size) ∧ W.cell? ⟨b.g, 2, none⟩ = some (.int .i64 d.locks)) ∧ W.cell? ⟨w.heap.size, 0, none⟩ = some (.int .i64 x.op) ∧ W.cell? ⟨w.heap.size, 1, none⟩ = some (.int .i64 x.a) ∧ W.cell? ⟨w.heap.size, 4, none⟩ = some (.int .u64 x.n) ∧ w.heap.size < W.heap.size) := fun W hk => by
    have h2 := dd_box hwb W hk
    exact ⟨⟨AccAt.fact h W (h0.trans hk), (AccAt.cells (AccAt.old h (h0.trans hk))).2.1⟩, h2.1, h2.2.1, h2.2.2.2.2.1, h2.2.2.2.2.2.2.2⟩
  unfold mayLk
  by_cases hl : d.locks ≤ x.a
  · have hl1 : decide (d.locks ≤ x.a) = true := decide_eq_true hl
    rw [if_pos hl]
    clear h hw h0 ha
    go_enter Try.func95, Try.ntmps95
    go_wp2_with fail
    try rw [hwb]
    (refine wp_region_phases (n := 9) (listed := #[false, false, false, false, false, false, false, false, false]) (by kernel_rfl) (by rfl) (by rfl) ?_)
    (refine wpAny_phase (fun W => Kept [] wb W) [(0, false), (1, false), (2, false), (3, false), (4, false), (5, false), (6, false), (7, false), (8, false)] (f := 0) (listed := #[false, false, false, false, false, false, false, false, false]) (listed' := #[true, true, true, true, true, true, true, true, true]) (by kernel_rfl) (by kernel_rfl) (by rfl) (Kept.refl [] _).drew (fun d _ _ _ _ h => by cases d <;> exact h) ?_)
    iterate 9 (refine wpQL_take (v := ?_) rfl (by rfl) ?_ ?_; rotate_left; (focus ((intro W hC; have hF := HF.out W hC; go_simp); try (with_reducible rfl))); (try dsimp only [Act.put]); (try simp only [List.setIfInBounds_toArray, List.set_cons_zero, List.set_cons_succ]))
    (refine wpQL_nil ?_)
    (intro wq hq)
    (refine wpAny_done (by kernel_rfl) ?_ _)
    go_wp2_with fail
    go_ret
    exact ⟨rfl, HK0.out.trans hq⟩
  · have hl1 : decide (d.locks ≤ x.a) = false := decide_eq_false hl
    rw [if_neg hl]
    have hal : x.a.toNat < a.held.length := by have := hw.hl; omega
    have HH : Hid (∀ W, Kept [] wb W → ((((W.cell? ⟨b.g, 9, none⟩ = some (.pointer (some ⟨b.gr, 0, none⟩)) ∧ W.cell? ⟨b.g, 10, none⟩ = some (.slice b.AT a.T.length b.cT) ∧ W.cell? ⟨b.g, 11, none⟩ = some (.slice b.AH a.held.length b.cH) ∧ b.g < W.heap.size) ∧ W.cell? ⟨b.g, 2, none⟩ = some (.int .i64 d.locks)) ∧ W.cell? ⟨w.heap.size, 0, none⟩ = some (.int .i64 x.op) ∧ W.cell? ⟨w.heap.size, 1, none⟩ = some (.int .i64 x.a) ∧ W.cell? ⟨w.heap.size, 4, none⟩ = some (.int .u64 x.n) ∧ w.heap.size < W.heap.size)) ∧ ∃ g, b.AH = some ⟨g, 0, none⟩ ∧ W.cell? ⟨g, x.a.toNat, none⟩ = some (.int .i64 (a.hl x.a.toNat)) ∧ g < W.heap.size) := fun W hk => by
      obtain ⟨g, e1, e2, e3, _⟩ := AccAt.hld (AccAt.old h (h0.trans hk)) _ hal
      exact ⟨HF.out W hk, g, e1, e2, e3⟩
    obtain ⟨g, hg⟩ : ∃ g, b.AH = some ⟨g, 0, none⟩ := by obtain ⟨_, g, e, _⟩ := HH.out wb (Kept.refl _ _); exact ⟨g, e⟩
    have HF2 : Hid (∀ W, Kept [] wb W → ((((W.cell? ⟨b.g, 9, none⟩ = some (.pointer (some ⟨b.gr, 0, none⟩)) ∧ W.cell? ⟨b.g, 10, none⟩ = some (.slice b.AT a.T.length b.cT) ∧ W.cell? ⟨b.g, 11, none⟩ = some (.slice b.AH a.held.length b.cH) ∧ b.g < W.heap.size) ∧ W.cell? ⟨b.g, 2, none⟩ = some (.int .i64 d.locks)) ∧ W.cell? ⟨w.heap.size, 0, none⟩ = some (.int .i64 x.op) ∧ W.cell? ⟨w.heap.size, 1, none⟩ = some (.int .i64 x.a) ∧ W.cell? ⟨w.heap.size, 4, none⟩ = some (.int .u64 x.n) ∧ w.heap.size < W.heap.size)) ∧ W.cell? ⟨g, x.a.toNat, none⟩ = some (.int .i64 (a.hl x.a.toNat)) ∧ g < W.heap.size) := fun W hk => by
      obtain ⟨h1, g', e1, e2, e3⟩ := HH.out W hk
      obtain rfl : g = g' := by rw [hg] at e1; injection e1 with e1; injection e1
      exact ⟨h1, e2, e3⟩
    rw [hg] at HF2
    have hin : x.a < (a.held.length : Int) := by omega
    generalize a.hl x.a.toNat = z at *
    clear h hw h0 hal HH HF hg
    by_cases h11 : x.op = 11
    · rw [if_pos h11]
      rw [h11] at HF2
      by_cases hz : z = t
      · have hz1 : (z != t) = false := by simp [hz]
        rw [if_neg (by simp [hz])]
        clear h11 hz
        go_enter Try.func95, Try.ntmps95
        go_wp2_with fail
        try rw [hwb]
        (refine wp_region_phases (n := 9) (listed := #[false, false, false, false, false, false, false, false, false]) (by kernel_rfl) (by rfl) (by rfl) ?_)
        (refine wpAny_phase (fun W => Kept [] wb W) [(0, false), (1, false), (2, false), (3, false), (4, false), (5, false), (6, false), (7, false), (8, false)] (f := 0) (listed := #[false, false, false, false, false, false, false, false, false]) (listed' := #[true, true, true, true, true, true, true, true, true]) (by kernel_rfl) (by kernel_rfl) (by rfl) (Kept.refl [] _).drew (fun d _ _ _ _ h => by cases d <;> exact h) ?_)
        iterate 9 (refine wpQL_take (v := ?_) rfl (by rfl) ?_ ?_; rotate_left; (focus ((intro W hC; have hF := HF2.out W hC; go_simp); try (with_reducible rfl))); (try dsimp only [Act.put]); (try simp only [List.setIfInBounds_toArray, List.set_cons_zero, List.set_cons_succ]))
        (refine wpQL_nil ?_)
        (intro wq hq)
        (refine wpAny_done (by kernel_rfl) ?_ _)
        go_wp2_with fail
        (refine wp_region_phases (n := 16) (listed := #[false, false, false, false, false, false, false, false, false, false, false, false, false, false, false, false]) (by kernel_rfl) (by rfl) (by rfl) ?_)
        (refine wpAny_phase (fun W => Kept [] wb W) [(0, false), (1, false), (2, false), (3, false), (4, false), (5, false), (6, false), (7, false), (8, false), (9, false), (10, false), (11, false), (12, false), (13, false), (14, false), (15, false)] (f := 0) (listed := #[false, false, false, false, false, false, false, false, false, false, false, false, false, false, false, false]) (listed' := #[true, true, true, true, true, true, true, true, true, true, true, true, true, true, true, true]) (by kernel_rfl) (by kernel_rfl) (by rfl) (hq).drew (fun d _ _ _ _ h => by cases d <;> exact h) ?_)
        iterate 16 (first | (refine wpQL_take (v := ?_) rfl ?_ ?_ ?_; rotate_left; (focus (first | rfl | (go_simp; done))); (focus ((intro W hC; have hF := HF2.out W hC; go_simp); try (with_reducible rfl))); (try dsimp only [Act.put]); (try simp only [List.setIfInBounds_toArray, List.set_cons_zero, List.set_cons_succ])) | (refine wpQL_not rfl ?_ ?_; (focus (go_simp; done)); (try dsimp only [Act.put]); (try simp only [List.setIfInBounds_toArray, List.set_cons_zero, List.set_cons_succ])))
        (refine wpQL_nil ?_)
        (intro wq hq)
        (refine wpAny_done (by kernel_rfl) ?_ _)
        have hf := HF2.out _ hq
        go_wp2_with fail
        go_ret
        exact ⟨rfl, HK0.out.trans hq⟩
      · have hz1 : (z != t) = true := bne_iff_ne.2 hz
        rw [if_pos hz]
        clear h11 hz
        go_enter Try.func95, Try.ntmps95
        go_wp2_with fail
        try rw [hwb]
        (refine wp_region_phases (n := 9) (listed := #[false, false, false, false, false, false, false, false, false]) (by kernel_rfl) (by rfl) (by rfl) ?_)
        (refine wpAny_phase (fun W => Kept [] wb W) [(0, false), (1, false), (2, false), (3, false), (4, false), (5, false), (6, false), (7, false), (8, false)] (f := 0) (listed := #[false, false, false, false, false, false, false, false, false]) (listed' := #[true, true, true, true, true, true, true, true, true]) (by kernel_rfl) (by kernel_rfl) (by rfl) (Kept.refl [] _).drew (fun d _ _ _ _ h => by cases d <;> exact h) ?_)
        iterate 9 (refine wpQL_take (v := ?_) rfl (by rfl) ?_ ?_; rotate_left; (focus ((intro W hC; have hF := HF2.out W hC; go_simp); try (with_reducible rfl))); (try dsimp only [Act.put]); (try simp only [List.setIfInBounds_toArray, List.set_cons_zero, List.set_cons_succ]))
        (refine wpQL_nil ?_)
        (intro wq hq)
        (refine wpAny_done (by kernel_rfl) ?_ _)
        go_wp2_with fail
        (refine wp_region_phases (n := 16) (listed := #[false, false, false, false, false, false, false, false, false, false, false, false, false, false, false, false]) (by kernel_rfl) (by rfl) (by rfl) ?_)
        (refine wpAny_phase (fun W => Kept [] wb W) [(0, false), (1, false), (2, false), (3, false), (4, false), (5, false), (6, false), (7, false), (8, false), (9, false), (10, false), (11, false), (12, false), (13, false), (14, false), (15, false)] (f := 0) (listed := #[false, false, false, false, false, false, false, false, false, false, false, false, false, false, false, false]) (listed' := #[true, true, true, true, true, true, true, true, true, true, true, true, true, true, true, true]) (by kernel_rfl) (by kernel_rfl) (by rfl) (hq).drew (fun d _ _ _ _ h => by cases d <;> exact h) ?_)
        iterate 16 (first | (refine wpQL_take (v := ?_) rfl ?_ ?_ ?_; rotate_left; (focus (first | rfl | (go_simp; done))); (focus ((intro W hC; have hF := HF2.out W hC; go_simp); try (with_reducible rfl))); (try dsimp only [Act.put]); (try simp only [List.setIfInBounds_toArray, List.set_cons_zero, List.set_cons_succ])) | (refine wpQL_not rfl ?_ ?_; (focus (go_simp; done)); (try dsimp only [Act.put]); (try simp only [List.setIfInBounds_toArray, List.set_cons_zero, List.set_cons_succ])))
        (refine wpQL_nil ?_)
        (intro wq hq)
        (refine wpAny_done (by kernel_rfl) ?_ _)
        go_wp2_with fail
        go_ret
        exact ⟨rfl, HK0.out.trans hq⟩
    · have h111 : (x.op == 11) = false := beq_eq_false_iff_ne.2 h11
      rw [if_neg h11]
      go_enter Try.func95, Try.ntmps95
      go_wp2_with fail
      try rw [hwb]
      (refine wp_region_phases (n := 9) (listed := #[false, false, false, false, false, false, false, false, false]) (by kernel_rfl) (by rfl) (by rfl) ?_)
      (refine wpAny_phase (fun W => Kept [] wb W) [(0, false), (1, false), (2, false), (3, false), (4, false), (5, false), (6, false), (7, false), (8, false)] (f := 0) (listed := #[false, false, false, false, false, false, false, false, false]) (listed' := #[true, true, true, true, true, true, true, true, true]) (by kernel_rfl) (by kernel_rfl) (by rfl) (Kept.refl [] _).drew (fun d _ _ _ _ h => by cases d <;> exact h) ?_)
      iterate 9 (refine wpQL_take (v := ?_) rfl (by rfl) ?_ ?_; rotate_left; (focus ((intro W hC; have hF := HF2.out W hC; go_simp); try (with_reducible rfl))); (try dsimp only [Act.put]); (try simp only [List.setIfInBounds_toArray, List.set_cons_zero, List.set_cons_succ]))
      (refine wpQL_nil ?_)
      (intro wq hq)
      (refine wpAny_done (by kernel_rfl) ?_ _)
      go_wp2_with fail
      (refine wp_region_phases (n := 16) (listed := #[false, false, false, false, false, false, false, false, false, false, false, false, false, false, false, false]) (by kernel_rfl) (by rfl) (by rfl) ?_)
      (refine wpAny_phase (fun W => Kept [] wb W) [(0, false), (1, false), (2, false), (3, false), (4, false), (5, false), (6, false), (7, false), (8, false), (9, false), (10, false), (11, false), (12, false), (13, false), (14, false), (15, false)] (f := 0) (listed := #[false, false, false, false, false, false, false, false, false, false, false, false, false, false, false, false]) (listed' := #[true, true, true, true, true, true, true, true, true, true, true, true, true, true, true, true]) (by kernel_rfl) (by kernel_rfl) (by rfl) (hq).drew (fun d _ _ _ _ h => by cases d <;> exact h) ?_)
      iterate 16 (first | (refine wpQL_take (v := ?_) rfl ?_ ?_ ?_; rotate_left; (focus (first | rfl | (go_simp; done))); (focus ((intro W hC; have hF := HF2.out W hC; go_simp); try (with_reducible rfl))); (try dsimp only [Act.put]); (try simp only [List.setIfInBounds_toArray, List.set_cons_zero, List.set_cons_succ])) | (refine wpQL_not rfl ?_ ?_; (focus (go_simp; done)); (try dsimp only [Act.put]); (try simp only [List.setIfInBounds_toArray, List.set_cons_zero, List.set_cons_succ])))
      (refine wpQL_nil ?_)
      (intro wq hq)
      (refine wpAny_done (by kernel_rfl) ?_ _)
      have hf := HF2.out _ hq
      have HQ := Lib.hid (HK0.out.trans hq)
      clear hq
      go_wp2_with fail
      all_goals (go_ret; refine ⟨?_, HQ.out⟩)
      all_goals (simp [*, Bool.or_assoc]; try omega)

end Go.Proofs.Ytccodklfplfleaa
