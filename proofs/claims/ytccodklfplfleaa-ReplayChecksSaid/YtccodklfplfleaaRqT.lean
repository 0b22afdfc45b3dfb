/- The document's account (layer 35): what a call may wait for (waits), what it may return with (returns); walked. -/
import Derived.Test.YtccodklfplfleaaRqO
import Derived.Deep.MidRow
import Derived.Deep.WholeRow
namespace Go.Proofs.Ytccodklfplfleaa
open Go.RowKit

theorem wantR {a : Acc} {t : Nat} {n : Nat} : decide (wantA a t ≠ 0 ∧ wantA a t = n) =
  if (a.th t).deed.op = 6 then decide (0 < (a.th t).deed.n) && decide (n = 3)
  else if (a.th t).deed.op = 9 then decide (n = 4)
  else if (a.th t).deed.op = 10 then decide (0 < (a.th t).deed.n) && decide (n = 4)
  else if (a.th t).deed.op = 4 then isA a t && (!overA a t && decide (n = 5)) else false := by
  unfold wantA
  split
  · split <;> rename_i h <;> simp [h] <;> omega
  · split
    · simp; omega
    · split
      · split <;> rename_i h <;> simp [h] <;> omega
      · split
        · cases isA a t <;> cases overA a t <;> simp <;> omega
        · simp
section
variable {w : World} {b : RqA} {d : Du} {a : Acc}
set_option maxHeartbeats 3200000 in
set_option maxRecDepth 100000 in
theorem R35waits_any (h : RqAt w b d a) (hw : AWhole d a) {t : Nat} (ht : t < a.T.length) (n : Nat) :
    Calls Try.prog 33 #[.pointer (some ⟨b.g, 0, none⟩), .int .i64 t, .int .u64 n] w fun y w' => y = .returned (.bool (decide (wantA a t ≠ 0 ∧ wantA a t = n))) ∧ Kept [] w w' := by
  have hx := hw.at_ ht
  obtain ⟨r, hr⟩ : ∃ r : Nat, (a.th t).deed.r = r := ⟨(a.th t).deed.r.toNat, by have := hx.deed; omega⟩
  have hr8 : r < 8 := by have := hx.deed; omega
  have hreg : regA a t = (a.th t).regs.getD r (0, 0) := by unfold regA; rw [hr, Int.toNat_natCast]
  obtain ⟨wb, hwb⟩ : ∃ wb, w.alloc (.cells (ddR (a.th t).deed) 47) = wb := ⟨_, rfl⟩
  have h0 : Kept [] w wb := by rw [← hwb]; exact (Kept.refl _ _).alloc _
  have HK0 := Lib.hid h0
  have HT : Hid (∀ W, Kept [] wb W → Calls Try.prog 44 #[.pointer (some ⟨b.g, 0, none⟩), .int .i64 t, .agg (ddR (a.th t).deed)] W fun y w' => y = .returned (.tuple #[.bool (isA a t), .bool (overA a t)]) ∧ Kept [] W w') := fun W hk => by
    have := R35there_any (RqAt.old h (h0.trans hk)) hw ht (a.th t).deed hr hr8
    rw [← hreg] at this
    exact this
  have HF := Lib.hid (dd_boxR hwb)
  obtain ⟨q1, q2, q3, q4, q5, q6, q7⟩ := RqAt.df h ht
  obtain ⟨_, _, _, _, c10, _, hl⟩ := RqAt.cells h
  have hlT := (RqAt.tf h ht).2.2
  have ht0 : (0 : Int) ≤ (t : Int) := by omega
  have ht1 : (t : Int) < (a.T.length : Int) := by omega
  rw [wantR]
  generalize isA a t = is at *
  generalize overA a t = ov at *
  generalize hxx : (a.th t).deed = x at *
  obtain ⟨o, xa, xb, xr, xn, xm, xl⟩ := x
  simp only at HT HF hwb q1 q2 q3 q4 q5 q6 q7 ⊢
  generalize a.T.length = nT at *
  have hn3 : decide (n = 3) = ((n : Int) == 3) := by rw [Bool.eq_iff_iff]; simp; omega
  have hn4 : decide (n = 4) = ((n : Int) == 4) := by rw [Bool.eq_iff_iff]; simp; omega
  have hn5 : decide (n = 5) = ((n : Int) == 5) := by rw [Bool.eq_iff_iff]; simp; omega
  rw [hn3, hn4, hn5]
  have HWB := Lib.hid hwb
  clear h hw ht hx hr hr8 hreg hxx h0 hn3 hn4 hn5 hwb
  rcases (by omega : o = 6 ∨ o = 9 ∨ o = 10 ∨ o = 4 ∨ (o ≠ 6 ∧ o ≠ 9 ∧ o ≠ 10 ∧ o ≠ 4)) with rfl | rfl | rfl | rfl | ⟨h6, h9, h10, h4⟩
  · rw [if_pos rfl]
    cases hp : decide (0 < xn) with
    | false =>
      go_enter Try.func33, Try.ntmps33
      go_wp2_with fail
      go_ret
      exact ⟨rfl, (Kept.refl _ _).alloc _⟩
    | true =>
      go_enter Try.func33, Try.ntmps33
      go_wp2_with fail
      go_ret
      exact ⟨rfl, (Kept.refl _ _).alloc _⟩
  · rw [if_neg (by omega), if_pos rfl]
    go_enter Try.func33, Try.ntmps33
    go_wp2_with fail
    go_ret
    exact ⟨rfl, (Kept.refl _ _).alloc _⟩
  · rw [if_neg (by omega), if_neg (by omega), if_pos rfl]
    cases hp : decide (0 < xn) with
    | false =>
      go_enter Try.func33, Try.ntmps33
      go_wp2_with fail
      go_ret
      exact ⟨rfl, (Kept.refl _ _).alloc _⟩
    | true =>
      go_enter Try.func33, Try.ntmps33
      go_wp2_with fail
      go_ret
      exact ⟨rfl, (Kept.refl _ _).alloc _⟩
  · rw [if_neg (by omega), if_neg (by omega), if_neg (by omega), if_pos rfl]
    go_enter Try.func33, Try.ntmps33
    go_wp2_with fail
    rw [HWB.out]
    refine (HT.out _ (Kept.refl _ _)).mono ?_
    rintro x wc ⟨rfl, hkc⟩
    have HKc := Lib.hid (HK0.out.trans hkc)
    clear hkc
    cases is with
    | false =>
      go_wp2_with fail
      go_ret
      exact ⟨rfl, HKc.out⟩
    | true =>
      cases ov with
      | false =>
        go_wp2_with fail
        go_ret
        exact ⟨rfl, HKc.out⟩
      | true =>
        go_wp2_with fail
        go_ret
        exact ⟨rfl, HKc.out⟩
  · rw [if_neg h6, if_neg h9, if_neg h10, if_neg h4]
    have e1 : (o == 6) = false := beq_eq_false_iff_ne.2 h6
    have e2 : (o == 9) = false := beq_eq_false_iff_ne.2 h9
    have e3 : (o == 10) = false := beq_eq_false_iff_ne.2 h10
    have e4 : (o == 4) = false := beq_eq_false_iff_ne.2 h4
    clear h6 h9 h10 h4
    go_enter Try.func33, Try.ntmps33
    go_wp2_with fail
    go_ret
    exact ⟨rfl, (Kept.refl _ _).alloc _⟩
set_option maxHeartbeats 3200000 in
set_option maxRecDepth 100000 in
theorem R35returns_any (h : RqAt w b d a) (hw : AWhole d a) {t : Nat} (ht : t < a.T.length) (code : Int) :
    Calls Try.prog 35 #[.pointer (some ⟨b.g, 0, none⟩), .agg (oneL (a.th t)).toArray, .int .i64 code] w fun y w' => y = .returned (.bool (returnsA a t code)) ∧ Kept [] w w' := by
  have hx := hw.at_ ht
  obtain ⟨wb, hwb⟩ : ∃ wb, w.alloc (.cells (oneL (a.th t)).toArray 79) = wb := ⟨_, rfl⟩
  have h0 : Kept [] w wb := by rw [← hwb]; exact (Kept.refl _ _).alloc _
  have HK0 := Lib.hid h0
  have hB : Blk wb w.heap.size 79 (oneL (a.th t)).toArray := by rw [← hwb]; exact Blk.new w _ _
  have HF : Hid (∀ W, Kept [] wb W → (W.cell? ⟨b.g, 11, none⟩ = some (.slice b.AH a.held.length b.cH) ∧ b.g < W.heap.size) ∧ W.cell? ⟨w.heap.size, 4, none⟩ = some (.int .i64 (a.th t).call) ∧ W.cell? ⟨w.heap.size, 23, none⟩ = some (.int .i64 (a.th t).deed.op) ∧ W.cell? ⟨w.heap.size, 24, none⟩ = some (.int .i64 (a.th t).deed.a) ∧ W.cell? ⟨w.heap.size, 30, none⟩ = some (.int .i64 (a.th t).code) ∧ w.heap.size < W.heap.size) := fun W hk => by
    have h1 := hB.kept hk (by simp)
    have h2 := RqAt.cells (RqAt.old h (h0.trans hk))
    exact ⟨⟨h2.2.2.2.2.2.1, h2.2.2.2.2.2.2⟩, h1.cell 4, h1.cell 23, h1.cell 24, h1.cell 30, h1.lt⟩
  have HHL : Hid (((a.th t).call = 2 ∧ (a.th t).code = 0 ∨ (a.th t).call = 3) → ((a.th t).deed.op = 9 ∨ (a.th t).deed.op = 10) → ∃ g, b.AH = some ⟨g, 0, none⟩ ∧ (0 : Int) ≤ (a.th t).deed.a ∧ (a.th t).deed.a < (a.held.length : Int) ∧ ∀ W, Kept [] wb W → W.cell? ⟨g, (a.th t).deed.a.toNat, none⟩ = some (.int .i64 (a.hl (a.th t).deed.a.toNat)) ∧ g < W.heap.size) := fun hl1 hl2 => by
    have hal : (a.th t).deed.a.toNat < a.held.length := by have := hw.hl; have := hx.deed; have := hx.lock hl1 hl2; omega
    obtain ⟨g, e1, _⟩ := RqAt.hld h hal
    refine ⟨g, e1, hx.deed.1, by have := hx.deed; omega, fun W hk => ?_⟩
    obtain ⟨g', e1', e2, e3, _⟩ := RqAt.hld (RqAt.old h (h0.trans hk)) hal
    obtain rfl : g = g' := by rw [e1] at e1'; injection e1' with e1; injection e1
    exact ⟨e2, e3⟩
  obtain ⟨V, hV⟩ : ∃ V, returnsA a t code = V := ⟨_, rfl⟩
  rw [hV]
  have HV : Hid (V = ((if (a.th t).call = 3 then code == 0 || (decide ((a.th t).deed.op = 10) && code == 13) else decide ((a.th t).call = 2) && (a.th t).code == code) &&
    (!(decide ((a.th t).deed.op = 9 ∨ (a.th t).deed.op = 10) && code == 0) || decide (a.hl (a.th t).deed.a.toNat < 0)))) := hV.symm
  generalize a.hl (a.th t).deed.a.toNat = hv at *
  generalize a.th t = x at *
  obtain ⟨x1, x2, x3, x4, x5, x6, x7, cl, ⟨o, da, db, dr, dn, dm, dl⟩, co⟩ := x
  simp only at HF HHL HV
  have ho : (o == 9 || o == 10) = decide (o = 9 ∨ o = 10) := by rw [Bool.eq_iff_iff]; simp
  have HO := Lib.hid ho
  clear h hw ht hx h0 hB hV ho
  -- whether the call has come so far
  by_cases hc3 : cl = 3
  · subst hc3
    by_cases hz : code = 0
    · subst hz
      by_cases h9 : o = 9 ∨ o = 10
      · obtain ⟨gh, hgh, hx0, hx1, hgc⟩ := HHL.out (.inr rfl) h9
        have HF2 := Lib.hid (fun W hk => And.intro (HF.out W hk) (hgc W hk))
        rw [hgh] at HF2
        have HR : Hid (V = decide (hv < 0)) := by show V = _; rw [HV.out]; simp [h9]
        clear HV HHL hgh hgc HF HO
        rcases h9 with rfl | rfl
        · have HKc := Lib.hid (Kept.refl [] wb)
          have hf := HF2.out _ HKc.out
          go_enter Try.func35, Try.ntmps35
          (try (go_wp2_with fail))
          (try rw [hwb])
          clear hf
          (refine wp_region_phases (n := 19) (listed := #[false, false, false, false, false, false, false, false, false, false, false, false, false, false, false, false, false, false, false]) (by kernel_rfl) (by rfl) (by rfl) ?_)
          (refine wpAny_phase (fun W => Kept [] wb W) [(0, false), (1, false), (2, false), (3, false), (4, false), (5, false), (6, false), (7, false), (8, false), (9, false), (10, false), (11, false), (12, false), (13, false), (14, false), (15, false), (16, false), (17, false), (18, false)] (f := 0) (listed := #[false, false, false, false, false, false, false, false, false, false, false, false, false, false, false, false, false, false, false]) (listed' := #[true, true, true, true, true, true, true, true, true, true, true, true, true, true, true, true, true, true, true]) (by kernel_rfl) (by kernel_rfl) (by rfl) (HKc.out).drew (fun d _ _ _ _ h => by cases d <;> exact h) ?_)
          iterate 19 (first | (refine wpQL_take (v := ?_) rfl ?_ ?_ ?_; rotate_left; (focus (first | rfl | (go_simp; done))); (focus ((intro W hC; have hF := HF2.out W hC; go_simp); try (with_reducible rfl))); (try dsimp only [Act.put]); (try simp only [List.setIfInBounds_toArray, List.set_cons_zero, List.set_cons_succ])) | (refine wpQL_not rfl ?_ ?_; (focus (go_simp; done)); (try dsimp only [Act.put]); (try simp only [List.setIfInBounds_toArray, List.set_cons_zero, List.set_cons_succ])))
          (refine wpQL_nil ?_)
          (intro wq hq)
          (refine wpAny_done (by kernel_rfl) ?_ _)
          clear HKc
          have HKc := Lib.hid hq
          clear hq
          have hf := HF2.out _ HKc.out
          (try (go_wp2_with fail))
          go_ret
          exact ⟨by rw [HR.out] <;> rfl, HK0.out.trans HKc.out⟩
        · have HKc := Lib.hid (Kept.refl [] wb)
          have hf := HF2.out _ HKc.out
          go_enter Try.func35, Try.ntmps35
          (try (go_wp2_with fail))
          (try rw [hwb])
          clear hf
          (refine wp_region_phases (n := 19) (listed := #[false, false, false, false, false, false, false, false, false, false, false, false, false, false, false, false, false, false, false]) (by kernel_rfl) (by rfl) (by rfl) ?_)
          (refine wpAny_phase (fun W => Kept [] wb W) [(0, false), (1, false), (2, false), (3, false), (4, false), (5, false), (6, false), (7, false), (8, false), (9, false), (10, false), (11, false), (12, false), (13, false), (14, false), (15, false), (16, false), (17, false), (18, false)] (f := 0) (listed := #[false, false, false, false, false, false, false, false, false, false, false, false, false, false, false, false, false, false, false]) (listed' := #[true, true, true, true, true, true, true, true, true, true, true, true, true, true, true, true, true, true, true]) (by kernel_rfl) (by kernel_rfl) (by rfl) (HKc.out).drew (fun d _ _ _ _ h => by cases d <;> exact h) ?_)
          iterate 19 (first | (refine wpQL_take (v := ?_) rfl ?_ ?_ ?_; rotate_left; (focus (first | rfl | (go_simp; done))); (focus ((intro W hC; have hF := HF2.out W hC; go_simp); try (with_reducible rfl))); (try dsimp only [Act.put]); (try simp only [List.setIfInBounds_toArray, List.set_cons_zero, List.set_cons_succ])) | (refine wpQL_not rfl ?_ ?_; (focus (go_simp; done)); (try dsimp only [Act.put]); (try simp only [List.setIfInBounds_toArray, List.set_cons_zero, List.set_cons_succ])))
          (refine wpQL_nil ?_)
          (intro wq hq)
          (refine wpAny_done (by kernel_rfl) ?_ _)
          clear HKc
          have HKc := Lib.hid hq
          clear hq
          have hf := HF2.out _ HKc.out
          (try (go_wp2_with fail))
          go_ret
          exact ⟨by rw [HR.out] <;> rfl, HK0.out.trans HKc.out⟩
      · have HR : Hid (V = true) := by show V = _; rw [HV.out]; simp [h9]
        have f1 : (o == 9) = false := beq_eq_false_iff_ne.2 (fun e => h9 (.inl e))
        have f2 : (o == 10) = false := beq_eq_false_iff_ne.2 (fun e => h9 (.inr e))
        clear HV HHL h9 HO
        have HKc := Lib.hid (Kept.refl [] wb)
        have hf := HF.out _ HKc.out
        go_enter Try.func35, Try.ntmps35
        (try (go_wp2_with fail))
        (try rw [hwb])
        clear hf
        (refine wp_region_phases (n := 19) (listed := #[false, false, false, false, false, false, false, false, false, false, false, false, false, false, false, false, false, false, false]) (by kernel_rfl) (by rfl) (by rfl) ?_)
        (refine wpAny_phase (fun W => Kept [] wb W) [(0, false), (1, false), (2, false), (3, false), (4, false), (5, false), (6, false), (7, false), (8, false), (9, false), (10, false), (11, false), (12, false), (13, false), (14, false), (15, false), (16, false), (17, false), (18, false)] (f := 0) (listed := #[false, false, false, false, false, false, false, false, false, false, false, false, false, false, false, false, false, false, false]) (listed' := #[true, true, true, true, true, true, true, true, true, true, true, true, true, true, true, true, true, true, true]) (by kernel_rfl) (by kernel_rfl) (by rfl) (HKc.out).drew (fun d _ _ _ _ h => by cases d <;> exact h) ?_)
        iterate 19 (first | (refine wpQL_take (v := ?_) rfl ?_ ?_ ?_; rotate_left; (focus (first | rfl | (go_simp; done))); (focus ((intro W hC; have hF := HF.out W hC; go_simp); try (with_reducible rfl))); (try dsimp only [Act.put]); (try simp only [List.setIfInBounds_toArray, List.set_cons_zero, List.set_cons_succ])) | (refine wpQL_not rfl ?_ ?_; (focus (go_simp; done)); (try dsimp only [Act.put]); (try simp only [List.setIfInBounds_toArray, List.set_cons_zero, List.set_cons_succ])))
        (refine wpQL_nil ?_)
        (intro wq hq)
        (refine wpAny_done (by kernel_rfl) ?_ _)
        clear HKc
        have HKc := Lib.hid hq
        clear hq
        have hf := HF.out _ HKc.out
        (try (go_wp2_with fail))
        go_ret
        exact ⟨by rw [HR.out] <;> rfl, HK0.out.trans HKc.out⟩
    · have f0 : (code != 0) = true := bne_iff_ne.2 hz
      by_cases h10 : o = 10
      · subst h10
        by_cases h13 : code = 13
        · subst h13
          have HR : Hid (V = true) := by show V = _; rw [HV.out]; simp
          clear HV HHL HO
          have HKc := Lib.hid (Kept.refl [] wb)
          have hf := HF.out _ HKc.out
          go_enter Try.func35, Try.ntmps35
          (try (go_wp2_with fail))
          (try rw [hwb])
          clear hf
          (refine wp_region_phases (n := 19) (listed := #[false, false, false, false, false, false, false, false, false, false, false, false, false, false, false, false, false, false, false]) (by kernel_rfl) (by rfl) (by rfl) ?_)
          (refine wpAny_phase (fun W => Kept [] wb W) [(0, false), (1, false), (2, false), (3, false), (4, false), (5, false), (6, false), (7, false), (8, false), (9, false), (10, false), (11, false), (12, false), (13, false), (14, false), (15, false), (16, false), (17, false), (18, false)] (f := 0) (listed := #[false, false, false, false, false, false, false, false, false, false, false, false, false, false, false, false, false, false, false]) (listed' := #[true, true, true, true, true, true, true, true, true, true, true, true, true, true, true, true, true, true, true]) (by kernel_rfl) (by kernel_rfl) (by rfl) (HKc.out).drew (fun d _ _ _ _ h => by cases d <;> exact h) ?_)
          iterate 19 (first | (refine wpQL_take (v := ?_) rfl ?_ ?_ ?_; rotate_left; (focus (first | rfl | (go_simp; done))); (focus ((intro W hC; have hF := HF.out W hC; go_simp); try (with_reducible rfl))); (try dsimp only [Act.put]); (try simp only [List.setIfInBounds_toArray, List.set_cons_zero, List.set_cons_succ])) | (refine wpQL_not rfl ?_ ?_; (focus (go_simp; done)); (try dsimp only [Act.put]); (try simp only [List.setIfInBounds_toArray, List.set_cons_zero, List.set_cons_succ])))
          (refine wpQL_nil ?_)
          (intro wq hq)
          (refine wpAny_done (by kernel_rfl) ?_ _)
          clear HKc
          have HKc := Lib.hid hq
          clear hq
          have hf := HF.out _ HKc.out
          (try (go_wp2_with fail))
          go_ret
          exact ⟨by rw [HR.out] <;> rfl, HK0.out.trans HKc.out⟩
        · have f1 : (code != 13) = true := bne_iff_ne.2 h13
          have HR : Hid (V = false) := by show V = _; rw [HV.out]; simp [hz, h13]
          clear HV HHL HO hz h13
          have HKc := Lib.hid (Kept.refl [] wb)
          have hf := HF.out _ HKc.out
          go_enter Try.func35, Try.ntmps35
          (try (go_wp2_with fail))
          (try rw [hwb])
          go_ret
          exact ⟨by rw [HR.out] <;> rfl, HK0.out.trans HKc.out⟩
      · have f1 : (o != 10) = true := bne_iff_ne.2 h10
        have HR : Hid (V = false) := by show V = _; rw [HV.out]; simp [hz, h10]
        clear HV HHL HO hz h10
        have HKc := Lib.hid (Kept.refl [] wb)
        have hf := HF.out _ HKc.out
        go_enter Try.func35, Try.ntmps35
        (try (go_wp2_with fail))
        (try rw [hwb])
        go_ret
        exact ⟨by rw [HR.out] <;> rfl, HK0.out.trans HKc.out⟩
  · have f3 : (cl == 3) = false := beq_eq_false_iff_ne.2 hc3
    by_cases hc2 : cl = 2
    · subst hc2
      by_cases hco : co = code
      · have fc : (co != code) = false := by simp [hco]
        by_cases hz : code = 0
        · subst hz
          by_cases h9 : o = 9 ∨ o = 10
          · obtain ⟨gh, hgh, hx0, hx1, hgc⟩ := HHL.out (.inl ⟨rfl, hco⟩) h9
            have HF2 := Lib.hid (fun W hk => And.intro (HF.out W hk) (hgc W hk))
            rw [hgh] at HF2
            have HR : Hid (V = decide (hv < 0)) := by show V = _; rw [HV.out]; simp [h9, hco]
            clear HV HHL hgh hgc HF HO hco f3 hc3
            rcases h9 with rfl | rfl
            · have HKc := Lib.hid (Kept.refl [] wb)
              have hf := HF2.out _ HKc.out
              go_enter Try.func35, Try.ntmps35
              (try (go_wp2_with fail))
              (try rw [hwb])
              clear hf
              (refine wp_region_phases (n := 19) (listed := #[false, false, false, false, false, false, false, false, false, false, false, false, false, false, false, false, false, false, false]) (by kernel_rfl) (by rfl) (by rfl) ?_)
              (refine wpAny_phase (fun W => Kept [] wb W) [(0, false), (1, false), (2, false), (3, false), (4, false), (5, false), (6, false), (7, false), (8, false), (9, false), (10, false), (11, false), (12, false), (13, false), (14, false), (15, false), (16, false), (17, false), (18, false)] (f := 0) (listed := #[false, false, false, false, false, false, false, false, false, false, false, false, false, false, false, false, false, false, false]) (listed' := #[true, true, true, true, true, true, true, true, true, true, true, true, true, true, true, true, true, true, true]) (by kernel_rfl) (by kernel_rfl) (by rfl) (HKc.out).drew (fun d _ _ _ _ h => by cases d <;> exact h) ?_)
              iterate 19 (first | (refine wpQL_take (v := ?_) rfl ?_ ?_ ?_; rotate_left; (focus (first | rfl | (go_simp; done))); (focus ((intro W hC; have hF := HF2.out W hC; go_simp); try (with_reducible rfl))); (try dsimp only [Act.put]); (try simp only [List.setIfInBounds_toArray, List.set_cons_zero, List.set_cons_succ])) | (refine wpQL_not rfl ?_ ?_; (focus (go_simp; done)); (try dsimp only [Act.put]); (try simp only [List.setIfInBounds_toArray, List.set_cons_zero, List.set_cons_succ])))
              (refine wpQL_nil ?_)
              (intro wq hq)
              (refine wpAny_done (by kernel_rfl) ?_ _)
              clear HKc
              have HKc := Lib.hid hq
              clear hq
              have hf := HF2.out _ HKc.out
              (try (go_wp2_with fail))
              go_ret
              exact ⟨by rw [HR.out] <;> rfl, HK0.out.trans HKc.out⟩
            · have HKc := Lib.hid (Kept.refl [] wb)
              have hf := HF2.out _ HKc.out
              go_enter Try.func35, Try.ntmps35
              (try (go_wp2_with fail))
              (try rw [hwb])
              clear hf
              (refine wp_region_phases (n := 19) (listed := #[false, false, false, false, false, false, false, false, false, false, false, false, false, false, false, false, false, false, false]) (by kernel_rfl) (by rfl) (by rfl) ?_)
              (refine wpAny_phase (fun W => Kept [] wb W) [(0, false), (1, false), (2, false), (3, false), (4, false), (5, false), (6, false), (7, false), (8, false), (9, false), (10, false), (11, false), (12, false), (13, false), (14, false), (15, false), (16, false), (17, false), (18, false)] (f := 0) (listed := #[false, false, false, false, false, false, false, false, false, false, false, false, false, false, false, false, false, false, false]) (listed' := #[true, true, true, true, true, true, true, true, true, true, true, true, true, true, true, true, true, true, true]) (by kernel_rfl) (by kernel_rfl) (by rfl) (HKc.out).drew (fun d _ _ _ _ h => by cases d <;> exact h) ?_)
              iterate 19 (first | (refine wpQL_take (v := ?_) rfl ?_ ?_ ?_; rotate_left; (focus (first | rfl | (go_simp; done))); (focus ((intro W hC; have hF := HF2.out W hC; go_simp); try (with_reducible rfl))); (try dsimp only [Act.put]); (try simp only [List.setIfInBounds_toArray, List.set_cons_zero, List.set_cons_succ])) | (refine wpQL_not rfl ?_ ?_; (focus (go_simp; done)); (try dsimp only [Act.put]); (try simp only [List.setIfInBounds_toArray, List.set_cons_zero, List.set_cons_succ])))
              (refine wpQL_nil ?_)
              (intro wq hq)
              (refine wpAny_done (by kernel_rfl) ?_ _)
              clear HKc
              have HKc := Lib.hid hq
              clear hq
              have hf := HF2.out _ HKc.out
              (try (go_wp2_with fail))
              go_ret
              exact ⟨by rw [HR.out] <;> rfl, HK0.out.trans HKc.out⟩
          · have HR : Hid (V = true) := by show V = _; rw [HV.out]; simp [h9, hco]
            have f1 : (o == 9) = false := beq_eq_false_iff_ne.2 (fun e => h9 (.inl e))
            have f2 : (o == 10) = false := beq_eq_false_iff_ne.2 (fun e => h9 (.inr e))
            clear HV HHL h9 HO hco f3 hc3
            have HKc := Lib.hid (Kept.refl [] wb)
            have hf := HF.out _ HKc.out
            go_enter Try.func35, Try.ntmps35
            (try (go_wp2_with fail))
            (try rw [hwb])
            clear hf
            (refine wp_region_phases (n := 19) (listed := #[false, false, false, false, false, false, false, false, false, false, false, false, false, false, false, false, false, false, false]) (by kernel_rfl) (by rfl) (by rfl) ?_)
            (refine wpAny_phase (fun W => Kept [] wb W) [(0, false), (1, false), (2, false), (3, false), (4, false), (5, false), (6, false), (7, false), (8, false), (9, false), (10, false), (11, false), (12, false), (13, false), (14, false), (15, false), (16, false), (17, false), (18, false)] (f := 0) (listed := #[false, false, false, false, false, false, false, false, false, false, false, false, false, false, false, false, false, false, false]) (listed' := #[true, true, true, true, true, true, true, true, true, true, true, true, true, true, true, true, true, true, true]) (by kernel_rfl) (by kernel_rfl) (by rfl) (HKc.out).drew (fun d _ _ _ _ h => by cases d <;> exact h) ?_)
            iterate 19 (first | (refine wpQL_take (v := ?_) rfl ?_ ?_ ?_; rotate_left; (focus (first | rfl | (go_simp; done))); (focus ((intro W hC; have hF := HF.out W hC; go_simp); try (with_reducible rfl))); (try dsimp only [Act.put]); (try simp only [List.setIfInBounds_toArray, List.set_cons_zero, List.set_cons_succ])) | (refine wpQL_not rfl ?_ ?_; (focus (go_simp; done)); (try dsimp only [Act.put]); (try simp only [List.setIfInBounds_toArray, List.set_cons_zero, List.set_cons_succ])))
            (refine wpQL_nil ?_)
            (intro wq hq)
            (refine wpAny_done (by kernel_rfl) ?_ _)
            clear HKc
            have HKc := Lib.hid hq
            clear hq
            have hf := HF.out _ HKc.out
            (try (go_wp2_with fail))
            go_ret
            exact ⟨by rw [HR.out] <;> rfl, HK0.out.trans HKc.out⟩
        · have f0 : (code != 0) = true := bne_iff_ne.2 hz
          have HR : Hid (V = true) := by show V = _; rw [HV.out]; simp [hco, hz]
          have HO2 := HO
          generalize decide (o = 9 ∨ o = 10) = lk at *
          clear HV HHL hco hz f3 hc3
          cases h9 : (o == 9) with
          | true => 
            have HKc := Lib.hid (Kept.refl [] wb)
            have hf := HF.out _ HKc.out
            go_enter Try.func35, Try.ntmps35
            (try (go_wp2_with fail))
            (try rw [hwb])
            clear hf
            (refine wp_region_phases (n := 19) (listed := #[false, false, false, false, false, false, false, false, false, false, false, false, false, false, false, false, false, false, false]) (by kernel_rfl) (by rfl) (by rfl) ?_)
            (refine wpAny_phase (fun W => Kept [] wb W) [(0, false), (1, false), (2, false), (3, false), (4, false), (5, false), (6, false), (7, false), (8, false), (9, false), (10, false), (11, false), (12, false), (13, false), (14, false), (15, false), (16, false), (17, false), (18, false)] (f := 0) (listed := #[false, false, false, false, false, false, false, false, false, false, false, false, false, false, false, false, false, false, false]) (listed' := #[true, true, true, true, true, true, true, true, true, true, true, true, true, true, true, true, true, true, true]) (by kernel_rfl) (by kernel_rfl) (by rfl) (HKc.out).drew (fun d _ _ _ _ h => by cases d <;> exact h) ?_)
            iterate 19 (first | (refine wpQL_take (v := ?_) rfl ?_ ?_ ?_; rotate_left; (focus (first | rfl | (go_simp; done))); (focus ((intro W hC; have hF := HF.out W hC; go_simp); try (with_reducible rfl))); (try dsimp only [Act.put]); (try simp only [List.setIfInBounds_toArray, List.set_cons_zero, List.set_cons_succ])) | (refine wpQL_not rfl ?_ ?_; (focus (go_simp; done)); (try dsimp only [Act.put]); (try simp only [List.setIfInBounds_toArray, List.set_cons_zero, List.set_cons_succ])))
            (refine wpQL_nil ?_)
            (intro wq hq)
            (refine wpAny_done (by kernel_rfl) ?_ _)
            clear HKc
            have HKc := Lib.hid hq
            clear hq
            have hf := HF.out _ HKc.out
            (try (go_wp2_with fail))
            go_ret
            exact ⟨by rw [HR.out] <;> rfl, HK0.out.trans HKc.out⟩
          | false =>
            cases h10 : (o == 10) with
            | true => 
              have HKc := Lib.hid (Kept.refl [] wb)
              have hf := HF.out _ HKc.out
              go_enter Try.func35, Try.ntmps35
              (try (go_wp2_with fail))
              (try rw [hwb])
              clear hf
              (refine wp_region_phases (n := 19) (listed := #[false, false, false, false, false, false, false, false, false, false, false, false, false, false, false, false, false, false, false]) (by kernel_rfl) (by rfl) (by rfl) ?_)
              (refine wpAny_phase (fun W => Kept [] wb W) [(0, false), (1, false), (2, false), (3, false), (4, false), (5, false), (6, false), (7, false), (8, false), (9, false), (10, false), (11, false), (12, false), (13, false), (14, false), (15, false), (16, false), (17, false), (18, false)] (f := 0) (listed := #[false, false, false, false, false, false, false, false, false, false, false, false, false, false, false, false, false, false, false]) (listed' := #[true, true, true, true, true, true, true, true, true, true, true, true, true, true, true, true, true, true, true]) (by kernel_rfl) (by kernel_rfl) (by rfl) (HKc.out).drew (fun d _ _ _ _ h => by cases d <;> exact h) ?_)
              iterate 19 (first | (refine wpQL_take (v := ?_) rfl ?_ ?_ ?_; rotate_left; (focus (first | rfl | (go_simp; done))); (focus ((intro W hC; have hF := HF.out W hC; go_simp); try (with_reducible rfl))); (try dsimp only [Act.put]); (try simp only [List.setIfInBounds_toArray, List.set_cons_zero, List.set_cons_succ])) | (refine wpQL_not rfl ?_ ?_; (focus (go_simp; done)); (try dsimp only [Act.put]); (try simp only [List.setIfInBounds_toArray, List.set_cons_zero, List.set_cons_succ])))
              (refine wpQL_nil ?_)
              (intro wq hq)
              (refine wpAny_done (by kernel_rfl) ?_ _)
              clear HKc
              have HKc := Lib.hid hq
              clear hq
              have hf := HF.out _ HKc.out
              (try (go_wp2_with fail))
              go_ret
              exact ⟨by rw [HR.out] <;> rfl, HK0.out.trans HKc.out⟩
            | false => 
              have HKc := Lib.hid (Kept.refl [] wb)
              have hf := HF.out _ HKc.out
              go_enter Try.func35, Try.ntmps35
              (try (go_wp2_with fail))
              (try rw [hwb])
              clear hf
              (refine wp_region_phases (n := 19) (listed := #[false, false, false, false, false, false, false, false, false, false, false, false, false, false, false, false, false, false, false]) (by kernel_rfl) (by rfl) (by rfl) ?_)
              (refine wpAny_phase (fun W => Kept [] wb W) [(0, false), (1, false), (2, false), (3, false), (4, false), (5, false), (6, false), (7, false), (8, false), (9, false), (10, false), (11, false), (12, false), (13, false), (14, false), (15, false), (16, false), (17, false), (18, false)] (f := 0) (listed := #[false, false, false, false, false, false, false, false, false, false, false, false, false, false, false, false, false, false, false]) (listed' := #[true, true, true, true, true, true, true, true, true, true, true, true, true, true, true, true, true, true, true]) (by kernel_rfl) (by kernel_rfl) (by rfl) (HKc.out).drew (fun d _ _ _ _ h => by cases d <;> exact h) ?_)
              iterate 19 (first | (refine wpQL_take (v := ?_) rfl ?_ ?_ ?_; rotate_left; (focus (first | rfl | (go_simp; done))); (focus ((intro W hC; have hF := HF.out W hC; go_simp); try (with_reducible rfl))); (try dsimp only [Act.put]); (try simp only [List.setIfInBounds_toArray, List.set_cons_zero, List.set_cons_succ])) | (refine wpQL_not rfl ?_ ?_; (focus (go_simp; done)); (try dsimp only [Act.put]); (try simp only [List.setIfInBounds_toArray, List.set_cons_zero, List.set_cons_succ])))
              (refine wpQL_nil ?_)
              (intro wq hq)
              (refine wpAny_done (by kernel_rfl) ?_ _)
              clear HKc
              have HKc := Lib.hid hq
              clear hq
              have hf := HF.out _ HKc.out
              (try (go_wp2_with fail))
              go_ret
              exact ⟨by rw [HR.out] <;> rfl, HK0.out.trans HKc.out⟩
      · have fc : (co != code) = true := bne_iff_ne.2 hco
        have HR : Hid (V = false) := by show V = _; rw [HV.out]; simp [hco]
        clear HV HHL HO hco hc3 f3
        have HKc := Lib.hid (Kept.refl [] wb)
        have hf := HF.out _ HKc.out
        go_enter Try.func35, Try.ntmps35
        (try (go_wp2_with fail))
        (try rw [hwb])
        go_ret
        exact ⟨by rw [HR.out] <;> rfl, HK0.out.trans HKc.out⟩
    · have f2 : (cl != 2) = true := bne_iff_ne.2 hc2
      have HR : Hid (V = false) := by show V = _; rw [HV.out]; simp [hc2, hc3]
      clear HV HHL HO hc2 hc3
      have HKc := Lib.hid (Kept.refl [] wb)
      have hf := HF.out _ HKc.out
      go_enter Try.func35, Try.ntmps35
      (try (go_wp2_with fail))
      (try rw [hwb])
      go_ret
      exact ⟨by rw [HR.out] <;> rfl, HK0.out.trans HKc.out⟩
end

end Go.Proofs.Ytccodklfplfleaa
