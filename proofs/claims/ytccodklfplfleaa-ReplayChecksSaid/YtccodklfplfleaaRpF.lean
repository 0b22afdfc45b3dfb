/- Package replay: the thread of an event (runs), of a register (target), walked. -/
import Derived.Test.YtccodklfplfleaaP20
import Derived.Test.YtccodklfplfleaaP02
import Derived.Test.YtccodklfplfleaaQp
namespace Go.Proofs.Ytccodklfplfleaa
open Go.RowKit

/-- The block of the threads. -/
def gT (b : AcA) : Nat := match b.AT with | some x => x.block | none => 0
/-- A thread's address. -/
def tA (b : AcA) (t : Nat) : Addr := ⟨gT b, t * 31, none⟩
section
variable {w : World} {b : AcA} {d : Du} {a : Acc} {K : Array Value}
theorem AccAt.gt (h : AccAt w b d a K) {k : Nat} (hk : k < a.T.length) : b.AT = some ⟨gT b, 0, none⟩ := by
  obtain ⟨g, e, _⟩ := AccAt.thr h k hk
  unfold gT
  rw [e]
/-- A thread's cells, one by one. -/
theorem AccAt.tf (h : AccAt w b d a K) {k : Nat} (hk : k < a.T.length) :
    (w.cell? ⟨gT b, k * 31, none⟩ = some (.int .i64 (a.th k).prog) ∧ w.cell? ⟨gT b, k * 31 + 1, none⟩ = some (.int .i64 (a.th k).pc) ∧ w.cell? ⟨gT b, k * 31 + 2, none⟩ = some (.int .i64 (a.th k).state) ∧ w.cell? ⟨gT b, k * 31 + 3, none⟩ = some (.int .i64 (a.th k).cpu) ∧ w.cell? ⟨gT b, k * 31 + 4, none⟩ = some (.int .u64 (a.th k).mask) ∧ w.cell? ⟨gT b, k * 31 + 5, none⟩ = some (.bool (a.th k).loose)) ∧
    w.cell? ⟨gT b, k * 31 + 22, none⟩ = some (.int .i64 (a.th k).call) ∧ w.cell? ⟨gT b, k * 31 + 30, none⟩ = some (.int .i64 (a.th k).code) ∧ gT b < w.heap.size := by
  obtain ⟨g, e, hc, hl, _⟩ := AccAt.thr h k hk
  have hg : gT b = g := by unfold gT; rw [e]
  rw [hg]
  exact ⟨⟨hc 0 _ rfl, hc 1 _ rfl, hc 2 _ rfl, hc 3 _ rfl, hc 4 _ rfl, hc 5 _ rfl⟩, hc 22 _ rfl, hc 30 _ rfl, hl⟩
/-- A thread's deed. -/
theorem AccAt.df (h : AccAt w b d a K) {k : Nat} (hk : k < a.T.length) :
    w.cell? ⟨gT b, k * 31 + 23, none⟩ = some (.int .i64 (a.th k).deed.op) ∧ w.cell? ⟨gT b, k * 31 + 24, none⟩ = some (.int .i64 (a.th k).deed.a) ∧ w.cell? ⟨gT b, k * 31 + 25, none⟩ = some (.int .i64 (a.th k).deed.b) ∧ w.cell? ⟨gT b, k * 31 + 26, none⟩ = some (.int .i64 (a.th k).deed.r) ∧ w.cell? ⟨gT b, k * 31 + 27, none⟩ = some (.int .u64 (a.th k).deed.n) ∧ w.cell? ⟨gT b, k * 31 + 28, none⟩ = some (.int .u64 (a.th k).deed.mask) ∧ w.cell? ⟨gT b, k * 31 + 29, none⟩ = some (.bool (a.th k).deed.loose) := by
  obtain ⟨g, e, hc, hl, _⟩ := AccAt.thr h k hk
  have hg : gT b = g := by unfold gT; rw [e]
  rw [hg]
  exact ⟨hc 23 _ rfl, hc 24 _ rfl, hc 25 _ rfl, hc 26 _ rfl, hc 27 _ rfl, hc 28 _ rfl, hc 29 _ rfl⟩
/-- A thread's register. -/
theorem AccAt.rf (h : AccAt w b d a K) {k : Nat} (hk : k < a.T.length) {r : Nat} (hr : r < 8) :
    w.cell? ⟨gT b, k * 31 + 6 + r * 2, none⟩ = some (.int .i64 ((a.th k).regs.getD r (0, 0)).1) ∧ w.cell? ⟨gT b, k * 31 + 6 + r * 2 + 1, none⟩ = some (.int .u32 ((a.th k).regs.getD r (0, 0)).2) := by
  obtain ⟨g, e, hc, hl, _⟩ := AccAt.thr h k hk
  have hg : gT b = g := by unfold gT; rw [e]
  rw [hg]
  have h1 := thL_reg (a.th k) r hr
  have c1 := hc _ _ h1.1
  have c2 := hc _ _ h1.2
  exact ⟨by rw [Nat.add_assoc]; exact c1, by rw [Nat.add_assoc, Nat.add_assoc, ← Nat.add_assoc 6]; exact c2⟩
theorem AccAt.old (h : AccAt w b d a K) {w' : World} (hk : Kept [] w w') : AccAt w' b d a K := Holds.old h hk
end

set_option maxHeartbeats 6400000 in
set_option maxRecDepth 100000 in
theorem rpruns_any {w : World} {b : AcA} {d : Du} {a : Acc} {K : Array Value} (h : AccAt w b d a K) (hw : AWhole d a) (e : Ev) :
    Calls Try.prog 78 #[.pointer (some ⟨b.g, 0, none⟩), .agg (eC e.step e.cpu e.kind e.slot e.gen e.op e.code e.n)] w fun x w' => x = .returned (.pointer (if runsA a e = true then some (tA b e.slot.toNat) else none)) ∧ Kept [] w w' := by
  have HB : ∀ W, Kept [] w W → Kept [] (w.alloc (.cells (eC e.step e.cpu e.kind e.slot e.gen e.op e.code e.n) 55)) W → AccAt W b d a K ∧ Blk W w.heap.size 55 (eC e.step e.cpu e.kind e.slot e.gen e.op e.code e.n) := fun W h1 h2 => ⟨AccAt.old h h1, (Blk.new w _ _).kept h2 (by simp)⟩
  have h0 : Kept [] w (w.alloc (.cells (eC e.step e.cpu e.kind e.slot e.gen e.op e.code e.n) 55)) := (Kept.refl _ _).alloc _
  obtain ⟨wb, hwb⟩ : ∃ wb, w.alloc (.cells (eC e.step e.cpu e.kind e.slot e.gen e.op e.code e.n) 55) = wb := ⟨_, rfl⟩
  simp only [hwb] at HB h0
  have HK0 := Lib.hid h0
  have HF : Hid (∀ W, Kept [] wb W → (W.cell? ⟨b.g, 9, none⟩ = some (.pointer (some ⟨b.gr, 0, none⟩)) ∧ W.cell? ⟨b.g, 10, none⟩ = some (.slice b.AT a.T.length b.cT) ∧ b.g < W.heap.size) ∧ W.cell? ⟨w.heap.size, 1, none⟩ = some (.int .i64 e.cpu) ∧ W.cell? ⟨w.heap.size, 3, none⟩ = some (.int .i64 e.slot) ∧ W.cell? ⟨w.heap.size, 4, none⟩ = some (.int .u32 e.gen) ∧ w.heap.size < W.heap.size) := fun W hk => by
    obtain ⟨h1, h2⟩ := HB W (h0.trans hk) hk
    obtain ⟨_, _, _, c9, c10, _, hl⟩ := AccAt.cells h1
    exact ⟨⟨c9, c10, hl⟩, h2.cell 1, h2.cell 3, h2.cell 4, h2.lt⟩
  have HHS : Hid (∀ W, Kept [] wb W → Calls Try.prog 82 #[.pointer (some ⟨b.gr, 0, none⟩), .agg #[.int .i64 e.slot, .int .u32 e.gen]] W fun x w' => x = .returned (.bool (hasA a e.slot e.gen)) ∧ Kept [] W w') := fun W hk => rlHas_any (AccAt.roll (HB W (h0.trans hk) hk).1) e.slot e.gen
  have HON : Hid (∀ W, Kept [] wb W → Calls Try.prog 83 #[.pointer (some ⟨b.g, 0, none⟩), .int .i64 e.cpu] W fun x w' => x = .returned (.int .i64 (onA a e.cpu)) ∧ Kept [] W w') := fun W hk => rpon_any (HB W (h0.trans hk) hk).1 hw e.cpu
  unfold runsA
  cases hh : hasA a e.slot e.gen with
  | false =>
    rw [hh] at HHS
    clear h hw HB h0 hh
    go_enter Try.func78, Try.ntmps78
    go_wp2_with fail
    try rw [hwb]
    (refine wp_region_phases (n := 18) (listed := #[false, false, false, false, false, false, false, false, false, false, false, false, false, false, false, false, false, false]) (by kernel_rfl) (by rfl) (by rfl) ?_)
    (refine wpAny_phase (fun W => Kept [] wb W) [(0, false), (1, false), (2, false), (3, false), (4, false), (5, false), (6, false), (7, false), (8, false), (9, false), (10, false), (11, false), (12, false), (13, false), (14, false), (15, false), (16, false), (17, false)] (f := 0) (listed := #[false, false, false, false, false, false, false, false, false, false, false, false, false, false, false, false, false, false]) (listed' := #[true, true, true, true, true, true, true, true, true, true, true, true, true, true, true, true, true, true]) (by kernel_rfl) (by kernel_rfl) (by rfl) (Kept.refl [] _).drew (fun d _ _ _ _ h => by cases d <;> exact h) ?_)
    iterate 6 (refine wpQL_take (v := ?_) rfl (by rfl) ?_ ?_; rotate_left; (focus ((intro W hC; have hF := HF.out W hC; go_simp); try (with_reducible rfl))); (try dsimp only [Act.put]); (try simp only [List.setIfInBounds_toArray, List.set_cons_zero, List.set_cons_succ]))
    (refine wpQL_call nth_6 (by rfl) ?_ (fun W hC => quiet_call hC (HHS.out W hC)) ?_; (focus (intro W hC; go_simp; try (with_reducible rfl))); (try dsimp only [Act.put]); (try simp only [List.setIfInBounds_toArray, List.set_cons_zero, List.set_cons_succ]))
    iterate 5 (first | (refine wpQL_take (v := ?_) rfl ?_ ?_ ?_; rotate_left; (focus (first | rfl | (go_simp; done))); (focus ((intro W hC; have hF := HF.out W hC; go_simp); try (with_reducible rfl))); (try dsimp only [Act.put]); (try simp only [List.setIfInBounds_toArray, List.set_cons_zero, List.set_cons_succ])) | (refine wpQL_not rfl ?_ ?_; (focus (go_simp; done)); (try dsimp only [Act.put]); (try simp only [List.setIfInBounds_toArray, List.set_cons_zero, List.set_cons_succ])))
    (first | (refine wpQL_call nth_12 ?_ ?_ (fun W hC => quiet_call hC (HON.out W hC)) ?_; (focus (go_simp; done)); (focus (intro W hC; go_simp; try (with_reducible rfl))); (try dsimp only [Act.put]); (try simp only [List.setIfInBounds_toArray, List.set_cons_zero, List.set_cons_succ])) | (refine wpQL_not nth_12 ?_ ?_; (focus (go_simp; done)); (try dsimp only [Act.put]); (try simp only [List.setIfInBounds_toArray, List.set_cons_zero, List.set_cons_succ])))
    iterate 5 (first | (refine wpQL_take (v := ?_) rfl ?_ ?_ ?_; rotate_left; (focus (first | rfl | (go_simp; done))); (focus ((intro W hC; have hF := HF.out W hC; go_simp); try (with_reducible rfl))); (try dsimp only [Act.put]); (try simp only [List.setIfInBounds_toArray, List.set_cons_zero, List.set_cons_succ])) | (refine wpQL_not rfl ?_ ?_; (focus (go_simp; done)); (try dsimp only [Act.put]); (try simp only [List.setIfInBounds_toArray, List.set_cons_zero, List.set_cons_succ])))
    (refine wpQL_nil ?_)
    (intro wq hq)
    (refine wpAny_done (by kernel_rfl) ?_ _)
    go_wp2_with fail
    go_ret
    exact ⟨by simp, HK0.out.trans hq⟩
  | true =>
    obtain ⟨p0, p1, p2, p3⟩ := hasA_lt hh
    have ht : e.slot.toNat < a.T.length := by rw [hw.tl]; exact p1
    have hgt := AccAt.gt h ht
    rw [hh] at HHS
    by_cases ho : onA a e.cpu = e.slot
    · have ho1 : (onA a e.cpu == e.slot) = true := beq_iff_eq.2 ho
      rw [ho] at HON
      rw [ho1]
      rw [hgt] at HF
      have hin : e.slot < (a.T.length : Int) := by omega
      have hi0 : (0 : Int) ≤ e.slot := by omega
      clear h hw HB h0 hh p0 p1 p2 p3 ho ho1 hgt
      go_enter Try.func78, Try.ntmps78
      go_wp2_with fail
      try rw [hwb]
      (refine wp_region_phases (n := 18) (listed := #[false, false, false, false, false, false, false, false, false, false, false, false, false, false, false, false, false, false]) (by kernel_rfl) (by rfl) (by rfl) ?_)
      (refine wpAny_phase (fun W => Kept [] wb W) [(0, false), (1, false), (2, false), (3, false), (4, false), (5, false), (6, false), (7, false), (8, false), (9, false), (10, false), (11, false), (12, false), (13, false), (14, false), (15, false), (16, false), (17, false)] (f := 0) (listed := #[false, false, false, false, false, false, false, false, false, false, false, false, false, false, false, false, false, false]) (listed' := #[true, true, true, true, true, true, true, true, true, true, true, true, true, true, true, true, true, true]) (by kernel_rfl) (by kernel_rfl) (by rfl) (Kept.refl [] _).drew (fun d _ _ _ _ h => by cases d <;> exact h) ?_)
      iterate 6 (refine wpQL_take (v := ?_) rfl (by rfl) ?_ ?_; rotate_left; (focus ((intro W hC; have hF := HF.out W hC; go_simp); try (with_reducible rfl))); (try dsimp only [Act.put]); (try simp only [List.setIfInBounds_toArray, List.set_cons_zero, List.set_cons_succ]))
      (refine wpQL_call nth_6 (by rfl) ?_ (fun W hC => quiet_call hC (HHS.out W hC)) ?_; (focus (intro W hC; go_simp; try (with_reducible rfl))); (try dsimp only [Act.put]); (try simp only [List.setIfInBounds_toArray, List.set_cons_zero, List.set_cons_succ]))
      iterate 5 (first | (refine wpQL_take (v := ?_) rfl ?_ ?_ ?_; rotate_left; (focus (first | rfl | (go_simp; done))); (focus ((intro W hC; have hF := HF.out W hC; go_simp); try (with_reducible rfl))); (try dsimp only [Act.put]); (try simp only [List.setIfInBounds_toArray, List.set_cons_zero, List.set_cons_succ])) | (refine wpQL_not rfl ?_ ?_; (focus (go_simp; done)); (try dsimp only [Act.put]); (try simp only [List.setIfInBounds_toArray, List.set_cons_zero, List.set_cons_succ])))
      (first | (refine wpQL_call nth_12 ?_ ?_ (fun W hC => quiet_call hC (HON.out W hC)) ?_; (focus (go_simp; done)); (focus (intro W hC; go_simp; try (with_reducible rfl))); (try dsimp only [Act.put]); (try simp only [List.setIfInBounds_toArray, List.set_cons_zero, List.set_cons_succ])) | (refine wpQL_not nth_12 ?_ ?_; (focus (go_simp; done)); (try dsimp only [Act.put]); (try simp only [List.setIfInBounds_toArray, List.set_cons_zero, List.set_cons_succ])))
      iterate 5 (first | (refine wpQL_take (v := ?_) rfl ?_ ?_ ?_; rotate_left; (focus (first | rfl | (go_simp; done))); (focus ((intro W hC; have hF := HF.out W hC; go_simp); try (with_reducible rfl))); (try dsimp only [Act.put]); (try simp only [List.setIfInBounds_toArray, List.set_cons_zero, List.set_cons_succ])) | (refine wpQL_not rfl ?_ ?_; (focus (go_simp; done)); (try dsimp only [Act.put]); (try simp only [List.setIfInBounds_toArray, List.set_cons_zero, List.set_cons_succ])))
      (refine wpQL_nil ?_)
      (intro wq hq)
      (refine wpAny_done (by kernel_rfl) ?_ _)
      go_wp2_with fail
      (refine wp_region_phases (n := 9) (listed := #[false, false, false, false, false, false, false, false, false]) (by kernel_rfl) (by rfl) (by rfl) ?_)
      (refine wpAny_phase (fun W => Kept [] wb W) [(0, false), (1, false), (2, false), (3, false), (4, false), (5, false), (6, false), (7, false), (8, false)] (f := 0) (listed := #[false, false, false, false, false, false, false, false, false]) (listed' := #[true, true, true, true, true, true, true, true, true]) (by kernel_rfl) (by kernel_rfl) (by rfl) (hq).drew (fun d _ _ _ _ h => by cases d <;> exact h) ?_)
      iterate 9 (refine wpQL_take (v := ?_) rfl (by rfl) ?_ ?_; rotate_left; (focus ((intro W hC; have hF := HF.out W hC; go_simp); try (with_reducible rfl))); (try dsimp only [Act.put]); (try simp only [List.setIfInBounds_toArray, List.set_cons_zero, List.set_cons_succ]))
      (refine wpQL_nil ?_)
      (intro wq hq)
      (refine wpAny_done (by kernel_rfl) ?_ _)
      go_wp2_with fail
      go_ret
      exact ⟨rfl, HK0.out.trans hq⟩
    · have ho1 : (onA a e.cpu == e.slot) = false := beq_eq_false_iff_ne.2 ho
      rw [ho1]
      obtain ⟨o, ho2⟩ : ∃ o, onA a e.cpu = o := ⟨_, rfl⟩
      rw [ho2] at HON ho1
      clear h hw HB h0 hh p0 p1 p2 p3 ho hgt ho2
      go_enter Try.func78, Try.ntmps78
      go_wp2_with fail
      try rw [hwb]
      (refine wp_region_phases (n := 18) (listed := #[false, false, false, false, false, false, false, false, false, false, false, false, false, false, false, false, false, false]) (by kernel_rfl) (by rfl) (by rfl) ?_)
      (refine wpAny_phase (fun W => Kept [] wb W) [(0, false), (1, false), (2, false), (3, false), (4, false), (5, false), (6, false), (7, false), (8, false), (9, false), (10, false), (11, false), (12, false), (13, false), (14, false), (15, false), (16, false), (17, false)] (f := 0) (listed := #[false, false, false, false, false, false, false, false, false, false, false, false, false, false, false, false, false, false]) (listed' := #[true, true, true, true, true, true, true, true, true, true, true, true, true, true, true, true, true, true]) (by kernel_rfl) (by kernel_rfl) (by rfl) (Kept.refl [] _).drew (fun d _ _ _ _ h => by cases d <;> exact h) ?_)
      iterate 6 (refine wpQL_take (v := ?_) rfl (by rfl) ?_ ?_; rotate_left; (focus ((intro W hC; have hF := HF.out W hC; go_simp); try (with_reducible rfl))); (try dsimp only [Act.put]); (try simp only [List.setIfInBounds_toArray, List.set_cons_zero, List.set_cons_succ]))
      (refine wpQL_call nth_6 (by rfl) ?_ (fun W hC => quiet_call hC (HHS.out W hC)) ?_; (focus (intro W hC; go_simp; try (with_reducible rfl))); (try dsimp only [Act.put]); (try simp only [List.setIfInBounds_toArray, List.set_cons_zero, List.set_cons_succ]))
      iterate 5 (first | (refine wpQL_take (v := ?_) rfl ?_ ?_ ?_; rotate_left; (focus (first | rfl | (go_simp; done))); (focus ((intro W hC; have hF := HF.out W hC; go_simp); try (with_reducible rfl))); (try dsimp only [Act.put]); (try simp only [List.setIfInBounds_toArray, List.set_cons_zero, List.set_cons_succ])) | (refine wpQL_not rfl ?_ ?_; (focus (go_simp; done)); (try dsimp only [Act.put]); (try simp only [List.setIfInBounds_toArray, List.set_cons_zero, List.set_cons_succ])))
      (first | (refine wpQL_call nth_12 ?_ ?_ (fun W hC => quiet_call hC (HON.out W hC)) ?_; (focus (go_simp; done)); (focus (intro W hC; go_simp; try (with_reducible rfl))); (try dsimp only [Act.put]); (try simp only [List.setIfInBounds_toArray, List.set_cons_zero, List.set_cons_succ])) | (refine wpQL_not nth_12 ?_ ?_; (focus (go_simp; done)); (try dsimp only [Act.put]); (try simp only [List.setIfInBounds_toArray, List.set_cons_zero, List.set_cons_succ])))
      iterate 5 (first | (refine wpQL_take (v := ?_) rfl ?_ ?_ ?_; rotate_left; (focus (first | rfl | (go_simp; done))); (focus ((intro W hC; have hF := HF.out W hC; go_simp); try (with_reducible rfl))); (try dsimp only [Act.put]); (try simp only [List.setIfInBounds_toArray, List.set_cons_zero, List.set_cons_succ])) | (refine wpQL_not rfl ?_ ?_; (focus (go_simp; done)); (try dsimp only [Act.put]); (try simp only [List.setIfInBounds_toArray, List.set_cons_zero, List.set_cons_succ])))
      (refine wpQL_nil ?_)
      (intro wq hq)
      (refine wpAny_done (by kernel_rfl) ?_ _)
      go_wp2_with fail
      go_ret
      exact ⟨by simp, HK0.out.trans hq⟩

end Go.Proofs.Ytccodklfplfleaa
