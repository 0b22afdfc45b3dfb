/- The document's account (layer 35): may a code be (may), walked. -/
import Derived.Test.YtccodklfplfleaaRqO
import Derived.Test.YtccodklfplfleaaP15
import Derived.Deep.DeepCutAuto
namespace Go.Proofs.Ytccodklfplfleaa
open Go.RowKit

/-- May a lock's code be? -/
def mayLkR (d : Du) (a : Acc) (t : Int) (x : Dd) (code : Int) : Bool :=
  if d.locks ≤ x.a then code == 1
  else if x.op = 11 then (if a.hl x.a.toNat ≠ t then code == 11 else code == 0)
  else code == 0 || (code == 12 || (decide (x.op = 10 ∧ x.n = 0) && code == 13))
theorem mayA_eqR (d : Du) (a : Acc) (t : Nat) (code : Int) : mayA d a t code =
  if (a.th t).deed.op = 2 then (if (d.progs.length : Int) ≤ (a.th t).deed.a then code == 1 else if legalU d (a.th t).deed.mask = false then code == 10 else if roomA a = 0 then code == 6 else code == 0)
  else if (a.th t).deed.op = 4 then (if isA a t = false then code == 9 else code == 0 || (code == 12 && !overA a t))
  else if (a.th t).deed.op = 7 ∨ (a.th t).deed.op = 8 then (if isA a t = false ∨ overA a t = true then code == 9 else if (a.th t).deed.op = 7 ∧ legalU d (a.th t).deed.mask = false then code == 10 else code == 0)
  else if (a.th t).deed.op = 9 ∨ (a.th t).deed.op = 10 ∨ (a.th t).deed.op = 11 then mayLkR d a t (a.th t).deed code
  else code == 0 := by
  unfold mayA mayLkR
  rfl
set_option maxHeartbeats 6400000 in
set_option maxRecDepth 100000 in
theorem R35may_any {w : World} {b : RqA} {d : Du} {a : Acc} (h : RqAt w b d a) (hw : AWhole d a) (hd : checkU d = 0) (hn : b.n = d.progs.length) {t : Nat} (ht : t < a.T.length) (hm : (a.th t).deed.mask < 18446744073709551616) (code : Int) :
    Calls Try.prog 31 #[.pointer (some ⟨b.g, 0, none⟩), .int .i64 t, .agg (ddR (a.th t).deed), .int .i64 code] w fun y w' => y = .returned (.bool (mayA d a t code)) ∧ Kept [] w w' := by
  have hx := hw.at_ ht
  obtain ⟨hc1, hc2⟩ := (checkU_parts hd).1
  obtain ⟨cp, hcp⟩ : ∃ cp : Nat, d.cpus = cp := ⟨d.cpus.toNat, by omega⟩
  obtain ⟨r, hr⟩ : ∃ r : Nat, (a.th t).deed.r = r := ⟨(a.th t).deed.r.toNat, by have := hx.deed; omega⟩
  have hr8 : r < 8 := by have := hx.deed; omega
  have hreg : regA a t = (a.th t).regs.getD r (0, 0) := by unfold regA; rw [hr, Int.toNat_natCast]
  obtain ⟨wb, hwb⟩ : ∃ wb, w.alloc (.cells (ddR (a.th t).deed) 47) = wb := ⟨_, rfl⟩
  have h0 : Kept [] w wb := by rw [← hwb]; exact (Kept.refl _ _).alloc _
  have HK0 := Lib.hid h0
  have hlg : legalU d (a.th t).deed.mask = decide (0 < (lowL (a.th t).deed.mask cp).length) := by rw [lowL_and]; unfold legalU; rw [hcp, Int.toNat_natCast]
  have HLI := Lib.hid (fun W => R22List_any (a.th t).deed.mask cp W hm (by omega))
  have HT : Hid (∀ W, Kept [] wb W → Calls Try.prog 44 #[.pointer (some ⟨b.g, 0, none⟩), .int .i64 t, .agg (ddR (a.th t).deed)] W fun y w' => y = .returned (.tuple #[.bool (isA a t), .bool (overA a t)]) ∧ Kept [] W w') := fun W hk => by
    have := R35there_any (RqAt.old h (h0.trans hk)) hw ht (a.th t).deed hr hr8
    rw [← hreg] at this
    exact this
  have HRM : Hid (∀ W, Kept [] wb W → Calls Try.prog 45 #[.pointer (some ⟨b.gr, 0, none⟩)] W fun x w' => x = .returned (.int .i64 (roomA a)) ∧ Kept [] W w') := fun W hk => (R20Room_any (RqAt.old h (h0.trans hk)) hw.n64).mono fun _ _ h => ⟨h.1, by rw [h.2]; exact Kept.refl _ _⟩
  obtain ⟨V, hV⟩ : ∃ V, mayA d a t code = V := ⟨_, rfl⟩
  have HEQ := Lib.hid (hV.symm.trans (mayA_eqR d a t code))
  have HFd : Hid (∀ W, Kept [] wb W → (W.cell? ⟨b.g, 0, none⟩ = some (.int .i64 cp) ∧ W.cell? ⟨b.g, 2, none⟩ = some (.int .i64 d.locks) ∧ W.cell? ⟨b.g, 7, none⟩ = some (.slice b.A d.progs.length b.c) ∧ W.cell? ⟨b.g, 9, none⟩ = some (.pointer (some ⟨b.gr, 0, none⟩)) ∧ W.cell? ⟨b.g, 11, none⟩ = some (.slice b.AH a.held.length b.cH) ∧ b.g < W.heap.size)) := fun W hk => by
    have h2 := RqAt.cells (RqAt.old h (h0.trans hk))
    exact ⟨by rw [← hcp]; exact h2.1, h2.2.1, by rw [← hn]; exact h2.2.2.1, h2.2.2.2.1, h2.2.2.2.2.2.1, h2.2.2.2.2.2.2⟩
  have HDD := Lib.hid (dd_boxR hwb)
  have HHL : Hid ((a.th t).deed.a < d.locks → ∃ g, b.AH = some ⟨g, 0, none⟩ ∧ (0 : Int) ≤ (a.th t).deed.a ∧ (a.th t).deed.a < (a.held.length : Int) ∧ ∀ W, Kept [] wb W → W.cell? ⟨g, (a.th t).deed.a.toNat, none⟩ = some (.int .i64 (a.hl (a.th t).deed.a.toNat)) ∧ g < W.heap.size) := fun hl => by
    have hal : (a.th t).deed.a.toNat < a.held.length := by have := hw.hl; have := hx.deed; omega
    obtain ⟨g, e1, _⟩ := RqAt.hld h hal
    refine ⟨g, e1, hx.deed.1, by have := hx.deed; omega, fun W hk => ?_⟩
    obtain ⟨g', e1', e2, e3, _⟩ := RqAt.hld (RqAt.old h (h0.trans hk)) hal
    obtain rfl : g = g' := by rw [e1] at e1'; injection e1' with e1; injection e1
    exact ⟨e2, e3⟩
  have HF : Hid (∀ W, Kept [] wb W → (W.cell? ⟨b.g, 0, none⟩ = some (.int .i64 cp) ∧ W.cell? ⟨b.g, 2, none⟩ = some (.int .i64 d.locks) ∧ W.cell? ⟨b.g, 7, none⟩ = some (.slice b.A d.progs.length b.c) ∧ W.cell? ⟨b.g, 9, none⟩ = some (.pointer (some ⟨b.gr, 0, none⟩)) ∧ W.cell? ⟨b.g, 11, none⟩ = some (.slice b.AH a.held.length b.cH) ∧ b.g < W.heap.size) ∧ (W.cell? ⟨w.heap.size, 0, none⟩ = some (.int .i64 (a.th t).deed.op) ∧ W.cell? ⟨w.heap.size, 1, none⟩ = some (.int .i64 (a.th t).deed.a) ∧ W.cell? ⟨w.heap.size, 2, none⟩ = some (.int .i64 (a.th t).deed.b) ∧ W.cell? ⟨w.heap.size, 3, none⟩ = some (.int .i64 (a.th t).deed.r) ∧ W.cell? ⟨w.heap.size, 4, none⟩ = some (.int .u64 (a.th t).deed.n) ∧ W.cell? ⟨w.heap.size, 5, none⟩ = some (.int .u64 (a.th t).deed.mask) ∧ W.cell? ⟨w.heap.size, 6, none⟩ = some (.bool (a.th t).deed.loose) ∧ w.heap.size < W.heap.size)) := fun W hk => ⟨HFd.out W hk, HDD.out W hk⟩
  have HLG : Hid (∀ k, k = (lowL (a.th t).deed.mask cp).length → decide (0 < k) = legalU d (a.th t).deed.mask) := fun k hk => by rw [hlg, hk]
  rw [hV]
  generalize legalU d (a.th t).deed.mask = lg at *
  generalize roomA a = rm at *
  generalize isA a t = is at *
  generalize overA a t = ov at *
  unfold mayLkR at HEQ
  generalize a.hl (a.th t).deed.a.toNat = hld at *
  generalize hxx : (a.th t).deed = x at *
  obtain ⟨o, xa, xb, xr, xn, xm, xl⟩ := x
  simp only at HT HF HEQ HHL HLG HLI hwb ⊢
  generalize (lowL xm cp) = ll at *
  generalize d.progs.length = np at *
  generalize a.held.length = nh at *
  generalize d.locks = lk at *
  clear h hw hd hn ht hm hx hr hr8 hreg hV hlg hxx hc1 hc2 h0 hcp HFd HDD
  go_enter Try.func31, Try.ntmps31
  go_wp2_with fail
  try rw [hwb]
  (refine wp_region_phases (n := 11) (listed := #[false, false, false, false, false, false, false, false, false, false, false]) (by kernel_rfl) (by rfl) (by rfl) ?_)
  (refine wpAny_phase (fun W => Kept [] wb W) [(0, false), (1, false), (2, false), (3, false), (4, false), (5, false), (6, false)] (f := 4) (listed := #[false, false, false, false, false, false, false, false, false, false, false]) (listed' := #[true, true, true, true, true, true, true, false, false, false, false]) (by kernel_rfl) (by kernel_rfl) (by rfl) (Kept.refl [] _).drew (fun d _ _ _ _ h => by cases d <;> exact h) ?_)
  iterate 7 (refine wpQL_take (v := ?_) rfl (by rfl) ?_ ?_; rotate_left; (focus ((intro W hC; have hF := HF.out W hC; go_simp); try (with_reducible rfl))); (try dsimp only [Act.put]); (try simp only [List.setIfInBounds_toArray, List.set_cons_zero, List.set_cons_succ]))
  (refine wpQL_nil ?_)
  (intro wq hq)
  (refine wpAny_loud 7 (fuel := 3) (listed := #[true, true, true, true, true, true, true, false, false, false, false]) (listed' := #[true, true, true, true, true, true, true, true, false, false, false]) (by kernel_rfl) (by rfl) nth_7 (fun K hK => ?_))
  go_simp
  refine (HLI.out _).mono ?_
  rintro y w6 ⟨A6, c6, k6, rfl, hk6, hkl⟩
  have hlk := HLG.out k6 hkl
  have HKc := Lib.hid (hq.trans hk6)
  clear hq hk6 hkl HLG HLI
  (refine hK.out _ _ ?_; clear hK K)
  (try simp only [Act.put, List.setIfInBounds_toArray, List.set_cons_zero, List.set_cons_succ])
  (refine wpAny_phase (fun W => W = _) [(8, false), (9, false), (10, false)] (f := 0) (listed := #[true, true, true, true, true, true, true, true, false, false, false]) (listed' := #[true, true, true, true, true, true, true, true, true, true, true]) (by kernel_rfl) (by kernel_rfl) (by rfl) rfl (fun d _ _ _ _ h => by cases d <;> exact h) ?_)
  (refine wpQL_take (v := ?_) nth_8 (by rfl) ?_ ?_; rotate_left; (focus ((intro W hC; subst hC; go_simp); try (with_reducible rfl))); (try dsimp only [Act.put]); (try simp only [List.setIfInBounds_toArray, List.set_cons_zero, List.set_cons_succ]))
  iterate 2 (refine wpQL_take (v := ?_) rfl (by rfl) ?_ ?_; rotate_left; (focus ((intro W hC; go_simp); try (with_reducible rfl))); (try dsimp only [Act.put]); (try simp only [List.setIfInBounds_toArray, List.set_cons_zero, List.set_cons_succ]))
  (refine wpQL_nil ?_)
  (intro wq hq; subst hq)
  (refine wpAny_done (by kernel_rfl) ?_ _)
  have hf := HF.out _ HKc.out
  clear hlk
  go_wp2_with fail
  refine (HT.out _ HKc.out).mono ?_
  rintro x wc ⟨rfl, hkc⟩
  have HKn := Lib.hid (HKc.out.trans hkc)
  clear hkc HKc hf
  have hf := HF.out _ HKn.out
  clear HT
  rcases (by omega : o = 2 ∨ o = 4 ∨ o = 7 ∨ o = 8 ∨ o = 9 ∨ o = 10 ∨ o = 11 ∨ (o ≠ 2 ∧ o ≠ 4 ∧ o ≠ 7 ∧ o ≠ 8 ∧ o ≠ 9 ∧ o ≠ 10 ∧ o ≠ 11)) with rfl | rfl | rfl | rfl | rfl | rfl | rfl | ⟨h2, h4, h7, h8, h9, h10, h11⟩
  · by_cases hnp : (np : Int) ≤ xa
    · have e1 : decide ((np : Int) ≤ xa) = true := decide_eq_true hnp
      have HR : Hid (V = (code == 1)) := by show V = _; rw [HEQ.out]; simp [hnp]
      have HKc := HKn
      clear HEQ hnp HKn
      go_wp2_with fail
      clear hf
      (refine wp_region_phases (n := 9) (listed := #[false, false, false, false, false, false, false, false, false]) (by kernel_rfl) (by rfl) (by rfl) ?_)
      (refine wpAny_phase (fun W => Kept [] wb W) [(0, false), (1, false), (2, false), (3, false), (4, false), (5, false), (6, false), (7, false), (8, false)] (f := 0) (listed := #[false, false, false, false, false, false, false, false, false]) (listed' := #[true, true, true, true, true, true, true, true, true]) (by kernel_rfl) (by kernel_rfl) (by rfl) (HKc.out).drew (fun d _ _ _ _ h => by cases d <;> exact h) ?_)
      iterate 9 (refine wpQL_take (v := ?_) rfl (by rfl) ?_ ?_; rotate_left; (focus ((intro W hC; have hF := HF.out W hC; go_simp); try (with_reducible rfl))); (try dsimp only [Act.put]); (try simp only [List.setIfInBounds_toArray, List.set_cons_zero, List.set_cons_succ]))
      (refine wpQL_nil ?_)
      (intro wq hq)
      (refine wpAny_done (by kernel_rfl) ?_ _)
      clear HKc
      have HKc := Lib.hid hq
      clear hq
      have hf := HF.out _ HKc.out
      (try (go_wp2_with fail))
      go_ret
      exact ⟨by rw [HR.out] <;> rfl, HK0.out.trans HKc.out⟩
    · have e1 : decide ((np : Int) ≤ xa) = false := decide_eq_false hnp
      have HKc := HKn
      clear HKn
      cases lg with
      | false =>
        have HR : Hid (V = (code == 10)) := by show V = _; rw [HEQ.out]; simp; intro h; omega
        clear HEQ hnp
        go_wp2_with fail
        clear hf
        (refine wp_region_phases (n := 9) (listed := #[false, false, false, false, false, false, false, false, false]) (by kernel_rfl) (by rfl) (by rfl) ?_)
        (refine wpAny_phase (fun W => Kept [] wb W) [(0, false), (1, false), (2, false), (3, false), (4, false), (5, false), (6, false), (7, false), (8, false)] (f := 0) (listed := #[false, false, false, false, false, false, false, false, false]) (listed' := #[true, true, true, true, true, true, true, true, true]) (by kernel_rfl) (by kernel_rfl) (by rfl) (HKc.out).drew (fun d _ _ _ _ h => by cases d <;> exact h) ?_)
        iterate 9 (refine wpQL_take (v := ?_) rfl (by rfl) ?_ ?_; rotate_left; (focus ((intro W hC; have hF := HF.out W hC; go_simp); try (with_reducible rfl))); (try dsimp only [Act.put]); (try simp only [List.setIfInBounds_toArray, List.set_cons_zero, List.set_cons_succ]))
        (refine wpQL_nil ?_)
        (intro wq hq)
        (refine wpAny_done (by kernel_rfl) ?_ _)
        clear HKc
        have HKc := Lib.hid hq
        clear hq
        have hf := HF.out _ HKc.out
        (try (go_wp2_with fail))
        go_ret
        exact ⟨by rw [HR.out] <;> rfl, HK0.out.trans HKc.out⟩
      | true =>
        by_cases hr0 : rm = 0
        · subst hr0
          have HR : Hid (V = (code == 6)) := by show V = _; rw [HEQ.out]; simp; intro h; omega
          clear HEQ hnp
          go_wp2_with fail
          clear hf
          (refine wp_region_phases (n := 9) (listed := #[false, false, false, false, false, false, false, false, false]) (by kernel_rfl) (by rfl) (by rfl) ?_)
          (refine wpAny_phase (fun W => Kept [] wb W) [(0, false), (1, false), (2, false), (3, false), (4, false), (5, false), (6, false), (7, false), (8, false)] (f := 0) (listed := #[false, false, false, false, false, false, false, false, false]) (listed' := #[true, true, true, true, true, true, true, true, true]) (by kernel_rfl) (by kernel_rfl) (by rfl) (HKc.out).drew (fun d _ _ _ _ h => by cases d <;> exact h) ?_)
          iterate 9 (refine wpQL_take (v := ?_) rfl (by rfl) ?_ ?_; rotate_left; (focus ((intro W hC; have hF := HF.out W hC; go_simp); try (with_reducible rfl))); (try dsimp only [Act.put]); (try simp only [List.setIfInBounds_toArray, List.set_cons_zero, List.set_cons_succ]))
          (refine wpQL_nil ?_)
          (intro wq hq)
          (refine wpAny_done (by kernel_rfl) ?_ _)
          clear HKc
          have HKc := Lib.hid hq
          clear hq
          have hf := HF.out _ HKc.out
          (try (go_wp2_with fail))
          clear hf
          refine (HRM.out _ HKc.out).mono ?_
          rintro x wc1 ⟨rfl, hkc⟩
          have HKn := Lib.hid (HKc.out.trans hkc)
          clear hkc HKc
          have HKc := HKn
          clear HKn
          have hf := HF.out _ HKc.out
          (try (go_wp2_with fail))
          go_ret
          exact ⟨by rw [HR.out] <;> rfl, HK0.out.trans HKc.out⟩
        · have e3 : ((rm : Int) == 0) = false := beq_eq_false_iff_ne.2 (by omega)
          have HR : Hid (V = (code == 0)) := by show V = _; rw [HEQ.out]; simp [hr0]; intro h; omega
          clear hr0 HEQ hnp
          go_wp2_with fail
          clear hf
          (refine wp_region_phases (n := 9) (listed := #[false, false, false, false, false, false, false, false, false]) (by kernel_rfl) (by rfl) (by rfl) ?_)
          (refine wpAny_phase (fun W => Kept [] wb W) [(0, false), (1, false), (2, false), (3, false), (4, false), (5, false), (6, false), (7, false), (8, false)] (f := 0) (listed := #[false, false, false, false, false, false, false, false, false]) (listed' := #[true, true, true, true, true, true, true, true, true]) (by kernel_rfl) (by kernel_rfl) (by rfl) (HKc.out).drew (fun d _ _ _ _ h => by cases d <;> exact h) ?_)
          iterate 9 (refine wpQL_take (v := ?_) rfl (by rfl) ?_ ?_; rotate_left; (focus ((intro W hC; have hF := HF.out W hC; go_simp); try (with_reducible rfl))); (try dsimp only [Act.put]); (try simp only [List.setIfInBounds_toArray, List.set_cons_zero, List.set_cons_succ]))
          (refine wpQL_nil ?_)
          (intro wq hq)
          (refine wpAny_done (by kernel_rfl) ?_ _)
          clear HKc
          have HKc := Lib.hid hq
          clear hq
          have hf := HF.out _ HKc.out
          (try (go_wp2_with fail))
          clear hf
          refine (HRM.out _ HKc.out).mono ?_
          rintro x wc1 ⟨rfl, hkc⟩
          have HKn := Lib.hid (HKc.out.trans hkc)
          clear hkc HKc
          have HKc := HKn
          clear HKn
          have hf := HF.out _ HKc.out
          (try (go_wp2_with fail))
          go_ret
          exact ⟨by rw [HR.out] <;> rfl, HK0.out.trans HKc.out⟩
  · cases is with
    | false =>
      have HR : Hid (V = (code == 9)) := by show V = _; rw [HEQ.out]; simp
      clear HEQ
      go_wp2_with fail
      go_ret
      exact ⟨by rw [HR.out] <;> rfl, HK0.out.trans HKn.out⟩
    | true =>
      have HR : Hid (V = (code == 0 || (code == 12 && !ov))) := by show V = _; rw [HEQ.out]; simp
      clear HEQ
      go_wp2_with fail
      all_goals (go_ret; refine ⟨?_, HK0.out.trans HKn.out⟩)
      all_goals (rw [HR.out]; simp [*])
  · cases is with
    | false =>
      have HR : Hid (V = (code == 9)) := by show V = _; rw [HEQ.out]; simp
      clear HEQ
      go_wp2_with fail
      go_ret
      exact ⟨by rw [HR.out] <;> rfl, HK0.out.trans HKn.out⟩
    | true =>
      cases ov with
      | true =>
        have HR : Hid (V = (code == 9)) := by show V = _; rw [HEQ.out]; simp
        clear HEQ
        go_wp2_with fail
        go_ret
        exact ⟨by rw [HR.out] <;> rfl, HK0.out.trans HKn.out⟩
      | false =>
        cases lg with
        | false =>
          have HR : Hid (V = (code == 10)) := by show V = _; rw [HEQ.out]; simp
          clear HEQ
          go_wp2_with fail
          go_ret
          exact ⟨by rw [HR.out] <;> rfl, HK0.out.trans HKn.out⟩
        | true =>
          have HR : Hid (V = (code == 0)) := by show V = _; rw [HEQ.out]; simp
          clear HEQ
          go_wp2_with fail
          go_ret
          exact ⟨by rw [HR.out] <;> rfl, HK0.out.trans HKn.out⟩
  · cases is with
    | false =>
      have HR : Hid (V = (code == 9)) := by show V = _; rw [HEQ.out]; simp
      clear HEQ
      go_wp2_with fail
      go_ret
      exact ⟨by rw [HR.out] <;> rfl, HK0.out.trans HKn.out⟩
    | true =>
      cases ov with
      | true =>
        have HR : Hid (V = (code == 9)) := by show V = _; rw [HEQ.out]; simp
        clear HEQ
        go_wp2_with fail
        go_ret
        exact ⟨by rw [HR.out] <;> rfl, HK0.out.trans HKn.out⟩
      | false =>
        have HR : Hid (V = (code == 0)) := by show V = _; rw [HEQ.out]; simp
        clear HEQ
        go_wp2_with fail
        go_ret
        exact ⟨by rw [HR.out] <;> rfl, HK0.out.trans HKn.out⟩
  · by_cases hl : lk ≤ xa
    · have e1 : decide (lk ≤ xa) = true := decide_eq_true hl
      have HR : Hid (V = (code == 1)) := by show V = _; rw [HEQ.out]; simp [hl]
      have HKc := HKn
      clear HEQ hl HKn HHL
      go_wp2_with fail
      clear hf
      (refine wp_region_phases (n := 8) (listed := #[false, false, false, false, false, false, false, false]) (by kernel_rfl) (by rfl) (by rfl) ?_)
      (refine wpAny_phase (fun W => Kept [] wb W) [(0, false), (1, false), (2, false), (3, false), (4, false), (5, false), (6, false), (7, false)] (f := 0) (listed := #[false, false, false, false, false, false, false, false]) (listed' := #[true, true, true, true, true, true, true, true]) (by kernel_rfl) (by kernel_rfl) (by rfl) (HKc.out).drew (fun d _ _ _ _ h => by cases d <;> exact h) ?_)
      iterate 8 (refine wpQL_take (v := ?_) rfl (by rfl) ?_ ?_; rotate_left; (focus ((intro W hC; have hF := HF.out W hC; go_simp); try (with_reducible rfl))); (try dsimp only [Act.put]); (try simp only [List.setIfInBounds_toArray, List.set_cons_zero, List.set_cons_succ]))
      (refine wpQL_nil ?_)
      (intro wq hq)
      (refine wpAny_done (by kernel_rfl) ?_ _)
      clear HKc
      have HKc := Lib.hid hq
      clear hq
      have hf := HF.out _ HKc.out
      (try (go_wp2_with fail))
      go_ret
      exact ⟨by rw [HR.out] <;> rfl, HK0.out.trans HKc.out⟩
    · have e1 : decide (lk ≤ xa) = false := decide_eq_false hl
      have HR : Hid (V = (code == 0 || (code == 12 || (decide ((9 : Int) = 10 ∧ xn = 0) && code == 13)))) := by show V = _; rw [HEQ.out]; simp; intro h; omega
      have HKc := HKn
      clear HEQ hl HKn HHL
      by_cases hx0 : xn = 0
      · have e2 : ((xn : Int) == 0) = true := by simp [hx0]
        have HX := Lib.hid hx0
        clear hx0
        go_wp2_with fail
        clear hf
        (refine wp_region_phases (n := 8) (listed := #[false, false, false, false, false, false, false, false]) (by kernel_rfl) (by rfl) (by rfl) ?_)
        (refine wpAny_phase (fun W => Kept [] wb W) [(0, false), (1, false), (2, false), (3, false), (4, false), (5, false), (6, false), (7, false)] (f := 0) (listed := #[false, false, false, false, false, false, false, false]) (listed' := #[true, true, true, true, true, true, true, true]) (by kernel_rfl) (by kernel_rfl) (by rfl) (HKc.out).drew (fun d _ _ _ _ h => by cases d <;> exact h) ?_)
        iterate 8 (refine wpQL_take (v := ?_) rfl (by rfl) ?_ ?_; rotate_left; (focus ((intro W hC; have hF := HF.out W hC; go_simp); try (with_reducible rfl))); (try dsimp only [Act.put]); (try simp only [List.setIfInBounds_toArray, List.set_cons_zero, List.set_cons_succ]))
        (refine wpQL_nil ?_)
        (intro wq hq)
        (refine wpAny_done (by kernel_rfl) ?_ _)
        clear HKc
        have HKc := Lib.hid hq
        clear hq
        have hf := HF.out _ HKc.out
        (try (go_wp2_with fail))
        clear hf
        (refine wp_region_phases (n := 15) (listed := #[false, false, false, false, false, false, false, false, false, false, false, false, false, false, false]) (by kernel_rfl) (by rfl) (by rfl) ?_)
        (refine wpAny_phase (fun W => Kept [] wb W) [(0, false), (1, false), (2, false), (3, false), (4, false), (5, false), (6, false), (7, false), (8, false), (9, false), (10, false), (11, false), (12, false), (13, false), (14, false)] (f := 0) (listed := #[false, false, false, false, false, false, false, false, false, false, false, false, false, false, false]) (listed' := #[true, true, true, true, true, true, true, true, true, true, true, true, true, true, true]) (by kernel_rfl) (by kernel_rfl) (by rfl) (HKc.out).drew (fun d _ _ _ _ h => by cases d <;> exact h) ?_)
        iterate 15 (first | (refine wpQL_take (v := ?_) rfl ?_ ?_ ?_; rotate_left; (focus (first | rfl | (go_simp; done))); (focus ((intro W hC; have hF := HF.out W hC; go_simp); try (with_reducible rfl))); (try dsimp only [Act.put]); (try simp only [List.setIfInBounds_toArray, List.set_cons_zero, List.set_cons_succ])) | (refine wpQL_not rfl ?_ ?_; (focus (go_simp; done)); (try dsimp only [Act.put]); (try simp only [List.setIfInBounds_toArray, List.set_cons_zero, List.set_cons_succ])))
        (refine wpQL_nil ?_)
        (intro wq hq)
        (refine wpAny_done (by kernel_rfl) ?_ _)
        clear HKc
        have HKc := Lib.hid hq
        clear hq
        have hf := HF.out _ HKc.out
        (try (go_wp2_with fail))
        all_goals (go_ret; refine ⟨?_, HK0.out.trans HKc.out⟩)
        all_goals (rw [HR.out]; first | (simp [*, HX.out]; done) | (simp [*, HX.out]; rename_i h1 h2; simp at h1 h2; omega))
      · have e2 : ((xn : Int) == 0) = false := beq_eq_false_iff_ne.2 (by omega)
        have HX := Lib.hid hx0
        clear hx0
        go_wp2_with fail
        clear hf
        (refine wp_region_phases (n := 8) (listed := #[false, false, false, false, false, false, false, false]) (by kernel_rfl) (by rfl) (by rfl) ?_)
        (refine wpAny_phase (fun W => Kept [] wb W) [(0, false), (1, false), (2, false), (3, false), (4, false), (5, false), (6, false), (7, false)] (f := 0) (listed := #[false, false, false, false, false, false, false, false]) (listed' := #[true, true, true, true, true, true, true, true]) (by kernel_rfl) (by kernel_rfl) (by rfl) (HKc.out).drew (fun d _ _ _ _ h => by cases d <;> exact h) ?_)
        iterate 8 (refine wpQL_take (v := ?_) rfl (by rfl) ?_ ?_; rotate_left; (focus ((intro W hC; have hF := HF.out W hC; go_simp); try (with_reducible rfl))); (try dsimp only [Act.put]); (try simp only [List.setIfInBounds_toArray, List.set_cons_zero, List.set_cons_succ]))
        (refine wpQL_nil ?_)
        (intro wq hq)
        (refine wpAny_done (by kernel_rfl) ?_ _)
        clear HKc
        have HKc := Lib.hid hq
        clear hq
        have hf := HF.out _ HKc.out
        (try (go_wp2_with fail))
        clear hf
        (refine wp_region_phases (n := 15) (listed := #[false, false, false, false, false, false, false, false, false, false, false, false, false, false, false]) (by kernel_rfl) (by rfl) (by rfl) ?_)
        (refine wpAny_phase (fun W => Kept [] wb W) [(0, false), (1, false), (2, false), (3, false), (4, false), (5, false), (6, false), (7, false), (8, false), (9, false), (10, false), (11, false), (12, false), (13, false), (14, false)] (f := 0) (listed := #[false, false, false, false, false, false, false, false, false, false, false, false, false, false, false]) (listed' := #[true, true, true, true, true, true, true, true, true, true, true, true, true, true, true]) (by kernel_rfl) (by kernel_rfl) (by rfl) (HKc.out).drew (fun d _ _ _ _ h => by cases d <;> exact h) ?_)
        iterate 15 (first | (refine wpQL_take (v := ?_) rfl ?_ ?_ ?_; rotate_left; (focus (first | rfl | (go_simp; done))); (focus ((intro W hC; have hF := HF.out W hC; go_simp); try (with_reducible rfl))); (try dsimp only [Act.put]); (try simp only [List.setIfInBounds_toArray, List.set_cons_zero, List.set_cons_succ])) | (refine wpQL_not rfl ?_ ?_; (focus (go_simp; done)); (try dsimp only [Act.put]); (try simp only [List.setIfInBounds_toArray, List.set_cons_zero, List.set_cons_succ])))
        (refine wpQL_nil ?_)
        (intro wq hq)
        (refine wpAny_done (by kernel_rfl) ?_ _)
        clear HKc
        have HKc := Lib.hid hq
        clear hq
        have hf := HF.out _ HKc.out
        (try (go_wp2_with fail))
        all_goals (go_ret; refine ⟨?_, HK0.out.trans HKc.out⟩)
        all_goals (rw [HR.out]; first | (simp [*, HX.out]; done) | (simp [*, HX.out]; rename_i h1 h2; simp at h1 h2; omega))
  · by_cases hl : lk ≤ xa
    · have e1 : decide (lk ≤ xa) = true := decide_eq_true hl
      have HR : Hid (V = (code == 1)) := by show V = _; rw [HEQ.out]; simp [hl]
      have HKc := HKn
      clear HEQ hl HKn HHL
      go_wp2_with fail
      clear hf
      (refine wp_region_phases (n := 8) (listed := #[false, false, false, false, false, false, false, false]) (by kernel_rfl) (by rfl) (by rfl) ?_)
      (refine wpAny_phase (fun W => Kept [] wb W) [(0, false), (1, false), (2, false), (3, false), (4, false), (5, false), (6, false), (7, false)] (f := 0) (listed := #[false, false, false, false, false, false, false, false]) (listed' := #[true, true, true, true, true, true, true, true]) (by kernel_rfl) (by kernel_rfl) (by rfl) (HKc.out).drew (fun d _ _ _ _ h => by cases d <;> exact h) ?_)
      iterate 8 (refine wpQL_take (v := ?_) rfl (by rfl) ?_ ?_; rotate_left; (focus ((intro W hC; have hF := HF.out W hC; go_simp); try (with_reducible rfl))); (try dsimp only [Act.put]); (try simp only [List.setIfInBounds_toArray, List.set_cons_zero, List.set_cons_succ]))
      (refine wpQL_nil ?_)
      (intro wq hq)
      (refine wpAny_done (by kernel_rfl) ?_ _)
      clear HKc
      have HKc := Lib.hid hq
      clear hq
      have hf := HF.out _ HKc.out
      (try (go_wp2_with fail))
      go_ret
      exact ⟨by rw [HR.out] <;> rfl, HK0.out.trans HKc.out⟩
    · have e1 : decide (lk ≤ xa) = false := decide_eq_false hl
      have HR : Hid (V = (code == 0 || (code == 12 || (decide ((10 : Int) = 10 ∧ xn = 0) && code == 13)))) := by show V = _; rw [HEQ.out]; simp; intro h; omega
      have HKc := HKn
      clear HEQ hl HKn HHL
      by_cases hx0 : xn = 0
      · have e2 : ((xn : Int) == 0) = true := by simp [hx0]
        have HX := Lib.hid hx0
        clear hx0
        go_wp2_with fail
        clear hf
        (refine wp_region_phases (n := 8) (listed := #[false, false, false, false, false, false, false, false]) (by kernel_rfl) (by rfl) (by rfl) ?_)
        (refine wpAny_phase (fun W => Kept [] wb W) [(0, false), (1, false), (2, false), (3, false), (4, false), (5, false), (6, false), (7, false)] (f := 0) (listed := #[false, false, false, false, false, false, false, false]) (listed' := #[true, true, true, true, true, true, true, true]) (by kernel_rfl) (by kernel_rfl) (by rfl) (HKc.out).drew (fun d _ _ _ _ h => by cases d <;> exact h) ?_)
        iterate 8 (refine wpQL_take (v := ?_) rfl (by rfl) ?_ ?_; rotate_left; (focus ((intro W hC; have hF := HF.out W hC; go_simp); try (with_reducible rfl))); (try dsimp only [Act.put]); (try simp only [List.setIfInBounds_toArray, List.set_cons_zero, List.set_cons_succ]))
        (refine wpQL_nil ?_)
        (intro wq hq)
        (refine wpAny_done (by kernel_rfl) ?_ _)
        clear HKc
        have HKc := Lib.hid hq
        clear hq
        have hf := HF.out _ HKc.out
        (try (go_wp2_with fail))
        clear hf
        (refine wp_region_phases (n := 15) (listed := #[false, false, false, false, false, false, false, false, false, false, false, false, false, false, false]) (by kernel_rfl) (by rfl) (by rfl) ?_)
        (refine wpAny_phase (fun W => Kept [] wb W) [(0, false), (1, false), (2, false), (3, false), (4, false), (5, false), (6, false), (7, false), (8, false), (9, false), (10, false), (11, false), (12, false), (13, false), (14, false)] (f := 0) (listed := #[false, false, false, false, false, false, false, false, false, false, false, false, false, false, false]) (listed' := #[true, true, true, true, true, true, true, true, true, true, true, true, true, true, true]) (by kernel_rfl) (by kernel_rfl) (by rfl) (HKc.out).drew (fun d _ _ _ _ h => by cases d <;> exact h) ?_)
        iterate 15 (first | (refine wpQL_take (v := ?_) rfl ?_ ?_ ?_; rotate_left; (focus (first | rfl | (go_simp; done))); (focus ((intro W hC; have hF := HF.out W hC; go_simp); try (with_reducible rfl))); (try dsimp only [Act.put]); (try simp only [List.setIfInBounds_toArray, List.set_cons_zero, List.set_cons_succ])) | (refine wpQL_not rfl ?_ ?_; (focus (go_simp; done)); (try dsimp only [Act.put]); (try simp only [List.setIfInBounds_toArray, List.set_cons_zero, List.set_cons_succ])))
        (refine wpQL_nil ?_)
        (intro wq hq)
        (refine wpAny_done (by kernel_rfl) ?_ _)
        clear HKc
        have HKc := Lib.hid hq
        clear hq
        have hf := HF.out _ HKc.out
        (try (go_wp2_with fail))
        all_goals (go_ret; refine ⟨?_, HK0.out.trans HKc.out⟩)
        all_goals (rw [HR.out]; first | (simp [*, HX.out]; done) | (simp [*, HX.out]; rename_i h1 h2; simp at h1 h2; omega))
      · have e2 : ((xn : Int) == 0) = false := beq_eq_false_iff_ne.2 (by omega)
        have HX := Lib.hid hx0
        clear hx0
        go_wp2_with fail
        clear hf
        (refine wp_region_phases (n := 8) (listed := #[false, false, false, false, false, false, false, false]) (by kernel_rfl) (by rfl) (by rfl) ?_)
        (refine wpAny_phase (fun W => Kept [] wb W) [(0, false), (1, false), (2, false), (3, false), (4, false), (5, false), (6, false), (7, false)] (f := 0) (listed := #[false, false, false, false, false, false, false, false]) (listed' := #[true, true, true, true, true, true, true, true]) (by kernel_rfl) (by kernel_rfl) (by rfl) (HKc.out).drew (fun d _ _ _ _ h => by cases d <;> exact h) ?_)
        iterate 8 (refine wpQL_take (v := ?_) rfl (by rfl) ?_ ?_; rotate_left; (focus ((intro W hC; have hF := HF.out W hC; go_simp); try (with_reducible rfl))); (try dsimp only [Act.put]); (try simp only [List.setIfInBounds_toArray, List.set_cons_zero, List.set_cons_succ]))
        (refine wpQL_nil ?_)
        (intro wq hq)
        (refine wpAny_done (by kernel_rfl) ?_ _)
        clear HKc
        have HKc := Lib.hid hq
        clear hq
        have hf := HF.out _ HKc.out
        (try (go_wp2_with fail))
        clear hf
        (refine wp_region_phases (n := 15) (listed := #[false, false, false, false, false, false, false, false, false, false, false, false, false, false, false]) (by kernel_rfl) (by rfl) (by rfl) ?_)
        (refine wpAny_phase (fun W => Kept [] wb W) [(0, false), (1, false), (2, false), (3, false), (4, false), (5, false), (6, false), (7, false), (8, false), (9, false), (10, false), (11, false), (12, false), (13, false), (14, false)] (f := 0) (listed := #[false, false, false, false, false, false, false, false, false, false, false, false, false, false, false]) (listed' := #[true, true, true, true, true, true, true, true, true, true, true, true, true, true, true]) (by kernel_rfl) (by kernel_rfl) (by rfl) (HKc.out).drew (fun d _ _ _ _ h => by cases d <;> exact h) ?_)
        iterate 15 (first | (refine wpQL_take (v := ?_) rfl ?_ ?_ ?_; rotate_left; (focus (first | rfl | (go_simp; done))); (focus ((intro W hC; have hF := HF.out W hC; go_simp); try (with_reducible rfl))); (try dsimp only [Act.put]); (try simp only [List.setIfInBounds_toArray, List.set_cons_zero, List.set_cons_succ])) | (refine wpQL_not rfl ?_ ?_; (focus (go_simp; done)); (try dsimp only [Act.put]); (try simp only [List.setIfInBounds_toArray, List.set_cons_zero, List.set_cons_succ])))
        (refine wpQL_nil ?_)
        (intro wq hq)
        (refine wpAny_done (by kernel_rfl) ?_ _)
        clear HKc
        have HKc := Lib.hid hq
        clear hq
        have hf := HF.out _ HKc.out
        (try (go_wp2_with fail))
        all_goals (go_ret; refine ⟨?_, HK0.out.trans HKc.out⟩)
        all_goals (rw [HR.out]; first | (simp [*, HX.out]; done) | (simp [*, HX.out]; rename_i h1 h2; simp at h1 h2; omega))
  · by_cases hl : lk ≤ xa
    · have e1 : decide (lk ≤ xa) = true := decide_eq_true hl
      have HR : Hid (V = (code == 1)) := by show V = _; rw [HEQ.out]; simp [hl]
      have HKc := HKn
      clear HEQ hl HKn HHL
      go_wp2_with fail
      clear hf
      (refine wp_region_phases (n := 8) (listed := #[false, false, false, false, false, false, false, false]) (by kernel_rfl) (by rfl) (by rfl) ?_)
      (refine wpAny_phase (fun W => Kept [] wb W) [(0, false), (1, false), (2, false), (3, false), (4, false), (5, false), (6, false), (7, false)] (f := 0) (listed := #[false, false, false, false, false, false, false, false]) (listed' := #[true, true, true, true, true, true, true, true]) (by kernel_rfl) (by kernel_rfl) (by rfl) (HKc.out).drew (fun d _ _ _ _ h => by cases d <;> exact h) ?_)
      iterate 8 (refine wpQL_take (v := ?_) rfl (by rfl) ?_ ?_; rotate_left; (focus ((intro W hC; have hF := HF.out W hC; go_simp); try (with_reducible rfl))); (try dsimp only [Act.put]); (try simp only [List.setIfInBounds_toArray, List.set_cons_zero, List.set_cons_succ]))
      (refine wpQL_nil ?_)
      (intro wq hq)
      (refine wpAny_done (by kernel_rfl) ?_ _)
      clear HKc
      have HKc := Lib.hid hq
      clear hq
      have hf := HF.out _ HKc.out
      (try (go_wp2_with fail))
      go_ret
      exact ⟨by rw [HR.out] <;> rfl, HK0.out.trans HKc.out⟩
    · have e1 : decide (lk ≤ xa) = false := decide_eq_false hl
      obtain ⟨gh, hgh, hx0, hx1, hgc⟩ := HHL.out (by omega)
      have HR : Hid (V = (if hld ≠ t then code == 11 else code == 0)) := by show V = _; rw [HEQ.out]; simp; intro h; omega
      have HF2 := Lib.hid (fun W hk => And.intro (HF.out W hk) (hgc W hk))
      rw [hgh] at HF2
      have HKc := HKn
      clear HEQ hl HKn HHL hgh hgc HF hf
      have hf := HF2.out _ HKc.out
      by_cases hz : hld = t
      · have e2 : (hld != (t : Int)) = false := by simp [hz]
        rw [if_neg (by simp [hz])] at HR
        clear hz
        go_wp2_with fail
        clear hf
        (refine wp_region_phases (n := 8) (listed := #[false, false, false, false, false, false, false, false]) (by kernel_rfl) (by rfl) (by rfl) ?_)
        (refine wpAny_phase (fun W => Kept [] wb W) [(0, false), (1, false), (2, false), (3, false), (4, false), (5, false), (6, false), (7, false)] (f := 0) (listed := #[false, false, false, false, false, false, false, false]) (listed' := #[true, true, true, true, true, true, true, true]) (by kernel_rfl) (by kernel_rfl) (by rfl) (HKc.out).drew (fun d _ _ _ _ h => by cases d <;> exact h) ?_)
        iterate 8 (refine wpQL_take (v := ?_) rfl (by rfl) ?_ ?_; rotate_left; (focus ((intro W hC; have hF := HF2.out W hC; go_simp); try (with_reducible rfl))); (try dsimp only [Act.put]); (try simp only [List.setIfInBounds_toArray, List.set_cons_zero, List.set_cons_succ]))
        (refine wpQL_nil ?_)
        (intro wq hq)
        (refine wpAny_done (by kernel_rfl) ?_ _)
        clear HKc
        have HKc := Lib.hid hq
        clear hq
        have hf := HF2.out _ HKc.out
        (try (go_wp2_with fail))
        clear hf
        (refine wp_region_phases (n := 15) (listed := #[false, false, false, false, false, false, false, false, false, false, false, false, false, false, false]) (by kernel_rfl) (by rfl) (by rfl) ?_)
        (refine wpAny_phase (fun W => Kept [] wb W) [(0, false), (1, false), (2, false), (3, false), (4, false), (5, false), (6, false), (7, false), (8, false), (9, false), (10, false), (11, false), (12, false), (13, false), (14, false)] (f := 0) (listed := #[false, false, false, false, false, false, false, false, false, false, false, false, false, false, false]) (listed' := #[true, true, true, true, true, true, true, true, true, true, true, true, true, true, true]) (by kernel_rfl) (by kernel_rfl) (by rfl) (HKc.out).drew (fun d _ _ _ _ h => by cases d <;> exact h) ?_)
        iterate 15 (first | (refine wpQL_take (v := ?_) rfl ?_ ?_ ?_; rotate_left; (focus (first | rfl | (go_simp; done))); (focus ((intro W hC; have hF := HF2.out W hC; go_simp); try (with_reducible rfl))); (try dsimp only [Act.put]); (try simp only [List.setIfInBounds_toArray, List.set_cons_zero, List.set_cons_succ])) | (refine wpQL_not rfl ?_ ?_; (focus (go_simp; done)); (try dsimp only [Act.put]); (try simp only [List.setIfInBounds_toArray, List.set_cons_zero, List.set_cons_succ])))
        (refine wpQL_nil ?_)
        (intro wq hq)
        (refine wpAny_done (by kernel_rfl) ?_ _)
        clear HKc
        have HKc := Lib.hid hq
        clear hq
        have hf := HF2.out _ HKc.out
        (try (go_wp2_with fail))
        go_ret
        exact ⟨by rw [HR.out] <;> rfl, HK0.out.trans HKc.out⟩
      · have e2 : (hld != (t : Int)) = true := bne_iff_ne.2 hz
        rw [if_pos hz] at HR
        clear hz
        go_wp2_with fail
        clear hf
        (refine wp_region_phases (n := 8) (listed := #[false, false, false, false, false, false, false, false]) (by kernel_rfl) (by rfl) (by rfl) ?_)
        (refine wpAny_phase (fun W => Kept [] wb W) [(0, false), (1, false), (2, false), (3, false), (4, false), (5, false), (6, false), (7, false)] (f := 0) (listed := #[false, false, false, false, false, false, false, false]) (listed' := #[true, true, true, true, true, true, true, true]) (by kernel_rfl) (by kernel_rfl) (by rfl) (HKc.out).drew (fun d _ _ _ _ h => by cases d <;> exact h) ?_)
        iterate 8 (refine wpQL_take (v := ?_) rfl (by rfl) ?_ ?_; rotate_left; (focus ((intro W hC; have hF := HF2.out W hC; go_simp); try (with_reducible rfl))); (try dsimp only [Act.put]); (try simp only [List.setIfInBounds_toArray, List.set_cons_zero, List.set_cons_succ]))
        (refine wpQL_nil ?_)
        (intro wq hq)
        (refine wpAny_done (by kernel_rfl) ?_ _)
        clear HKc
        have HKc := Lib.hid hq
        clear hq
        have hf := HF2.out _ HKc.out
        (try (go_wp2_with fail))
        clear hf
        (refine wp_region_phases (n := 15) (listed := #[false, false, false, false, false, false, false, false, false, false, false, false, false, false, false]) (by kernel_rfl) (by rfl) (by rfl) ?_)
        (refine wpAny_phase (fun W => Kept [] wb W) [(0, false), (1, false), (2, false), (3, false), (4, false), (5, false), (6, false), (7, false), (8, false), (9, false), (10, false), (11, false), (12, false), (13, false), (14, false)] (f := 0) (listed := #[false, false, false, false, false, false, false, false, false, false, false, false, false, false, false]) (listed' := #[true, true, true, true, true, true, true, true, true, true, true, true, true, true, true]) (by kernel_rfl) (by kernel_rfl) (by rfl) (HKc.out).drew (fun d _ _ _ _ h => by cases d <;> exact h) ?_)
        iterate 15 (first | (refine wpQL_take (v := ?_) rfl ?_ ?_ ?_; rotate_left; (focus (first | rfl | (go_simp; done))); (focus ((intro W hC; have hF := HF2.out W hC; go_simp); try (with_reducible rfl))); (try dsimp only [Act.put]); (try simp only [List.setIfInBounds_toArray, List.set_cons_zero, List.set_cons_succ])) | (refine wpQL_not rfl ?_ ?_; (focus (go_simp; done)); (try dsimp only [Act.put]); (try simp only [List.setIfInBounds_toArray, List.set_cons_zero, List.set_cons_succ])))
        (refine wpQL_nil ?_)
        (intro wq hq)
        (refine wpAny_done (by kernel_rfl) ?_ _)
        clear HKc
        have HKc := Lib.hid hq
        clear hq
        have hf := HF2.out _ HKc.out
        (try (go_wp2_with fail))
        go_ret
        exact ⟨by rw [HR.out] <;> rfl, HK0.out.trans HKc.out⟩
  · have e2 : (o == 2) = false := beq_eq_false_iff_ne.2 h2
    have e4 : (o == 4) = false := beq_eq_false_iff_ne.2 h4
    have e7 : (o == 7) = false := beq_eq_false_iff_ne.2 h7
    have e8 : (o == 8) = false := beq_eq_false_iff_ne.2 h8
    have e9 : (o == 9) = false := beq_eq_false_iff_ne.2 h9
    have e10 : (o == 10) = false := beq_eq_false_iff_ne.2 h10
    have e11 : (o == 11) = false := beq_eq_false_iff_ne.2 h11
    have HR : Hid (V = (code == 0)) := by show V = _; rw [HEQ.out]; simp [h2, h4, h7, h8, h9, h10, h11]
    clear h2 h4 h7 h8 h9 h10 h11 HEQ
    go_wp2_with fail
    go_ret
    exact ⟨by rw [HR.out] <;> rfl, HK0.out.trans HKn.out⟩

end Go.Proofs.Ytccodklfplfleaa
