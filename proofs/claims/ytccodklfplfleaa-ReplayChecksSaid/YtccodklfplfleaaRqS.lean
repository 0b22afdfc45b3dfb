/- The document's account (layer 35): Step, of events that need no running thread (kinds 4, 6, 7, 8); walked. -/
import Derived.Test.YtccodklfplfleaaRqS0
namespace Go.Proofs.Ytccodklfplfleaa
open Go.RowKit

section
variable {w0 : Base} {w : World} {b : RqA} {d : Du} {a : Acc}
set_option maxHeartbeats 6400000 in
set_option maxRecDepth 100000 in
theorem R35Step_8 (h : RqIs w0 w b d a) (hw : AWhole d a) (e : Ev) (hk : e.kind = 8) :
    Calls Try.prog 16 #[.pointer (some ⟨b.g, 0, none⟩), .agg (eC e.step e.cpu e.kind e.slot e.gen e.op e.code e.n)] w fun x w' => x = .returned (.bool (stepA d a e).isSome) ∧ RqIs w0 w' b d ((stepA d a e).getD a) := by
  obtain ⟨wb, hwb⟩ : ∃ wb, w.alloc (.cells (eC e.step e.cpu e.kind e.slot e.gen e.op e.code e.n) 55) = wb := ⟨_, rfl⟩
  obtain ⟨h0, hF, _, hON, _, hEND⟩ := RqIs.evs h hw hwb
  have HF := Lib.hid hF
  have HON := Lib.hid hON
  have HEND := Lib.hid hEND
  have hv : (stepA d a e).isSome = decide (onA a e.cpu < 0) ∧ (stepA d a e).getD a = a := by
    rw [stepR_8 hk]
    split
    · rename_i h; rw [decide_eq_true h]; exact ⟨rfl, rfl⟩
    · rename_i h; rw [decide_eq_false h]; exact ⟨rfl, rfl⟩
  rw [hv.1, hv.2]
  rw [hk] at HF hwb ⊢
  generalize onA a e.cpu = on at *
  generalize a.T.length = nT at *
  clear h hw hF hON hEND hv hk h0
  have HKc := Lib.hid (Kept.refl [] wb)
  have hf := HF.out _ HKc.out
  go_enter Try.func16, Try.ntmps16
  (try (go_wp2_with fail))
  (try rw [hwb])
  clear hf
  refine (HON.out _ HKc.out).mono ?_
  rintro x wc1 ⟨rfl, hkc⟩
  have HKn := Lib.hid (HKc.out.trans hkc)
  clear hkc HKc
  have HKc := HKn
  clear HKn
  have hf := HF.out _ HKc.out
  (try (go_wp2_with fail))
  go_ret
  exact ⟨rfl, HEND.out _ HKc.out⟩
set_option maxHeartbeats 6400000 in
set_option maxRecDepth 100000 in
theorem R35Step_7 (h : RqIs w0 w b d a) (hw : AWhole d a) (e : Ev) (hk : e.kind = 7) :
    Calls Try.prog 16 #[.pointer (some ⟨b.g, 0, none⟩), .agg (eC e.step e.cpu e.kind e.slot e.gen e.op e.code e.n)] w fun x w' => x = .returned (.bool (stepA d a e).isSome) ∧ RqIs w0 w' b d ((stepA d a e).getD a) := by
  obtain ⟨wb, hwb⟩ : ∃ wb, w.alloc (.cells (eC e.step e.cpu e.kind e.slot e.gen e.op e.code e.n) 55) = wb := ⟨_, rfl⟩
  obtain ⟨h0, hF, _, hON, hRU, hEND⟩ := RqIs.evs h hw hwb
  have HF := Lib.hid hF
  have HON := Lib.hid hON
  have HRU := Lib.hid hRU
  have HEND := Lib.hid hEND
  have hv : (stepA d a e).isSome = (runsA a e || (decide (onA a e.cpu < 0) && decide (e.slot = 0 ∧ e.gen = 0))) ∧ (stepA d a e).getD a = a := by
    rw [stepR_7 hk]
    split
    · rename_i h; rw [h]; exact ⟨rfl, rfl⟩
    · rename_i h; rw [Bool.not_eq_true] at h; rw [h]; exact ⟨rfl, rfl⟩
  rw [hv.1, hv.2]
  obtain ⟨st, cp, kd, sl, gn, op, co, nn⟩ := e
  simp only at hk hwb HF HON HRU ⊢
  subst hk
  generalize runsA a ⟨st, cp, 7, sl, gn, op, co, nn⟩ = ru at *
  generalize onA a cp = on at *
  generalize a.T.length = nT at *
  clear h hw hF hON hRU hEND hv h0
  cases ru with
  | true => 
    have HKc := Lib.hid (Kept.refl [] wb)
    have hf := HF.out _ HKc.out
    go_enter Try.func16, Try.ntmps16
    (try (go_wp2_with fail))
    (try rw [hwb])
    clear hf
    refine (HRU.out _ HKc.out).mono ?_
    rintro x wc1 ⟨rfl, hkc⟩
    have HKn := Lib.hid (HKc.out.trans hkc)
    clear hkc HKc
    have HKc := HKn
    clear HKn
    have hf := HF.out _ HKc.out
    (try (go_wp2_with fail))
    go_ret
    exact ⟨rfl, HEND.out _ HKc.out⟩
  | false =>
    by_cases ho : on < 0
    · have e1 : decide (on < 0) = true := decide_eq_true ho
      rw [e1]
      by_cases hs : sl = 0
      · subst hs
        by_cases hg : gn = 0
        · subst hg
          clear ho
          have HKc := Lib.hid (Kept.refl [] wb)
          have hf := HF.out _ HKc.out
          go_enter Try.func16, Try.ntmps16
          (try (go_wp2_with fail))
          (try rw [hwb])
          clear hf
          refine (HRU.out _ HKc.out).mono ?_
          rintro x wc1 ⟨rfl, hkc⟩
          have HKn := Lib.hid (HKc.out.trans hkc)
          clear hkc HKc
          have HKc := HKn
          clear HKn
          have hf := HF.out _ HKc.out
          (try (go_wp2_with fail))
          clear hf
          refine (HON.out _ HKc.out).mono ?_
          rintro x wc2 ⟨rfl, hkc⟩
          have HKn := Lib.hid (HKc.out.trans hkc)
          clear hkc HKc
          have HKc := HKn
          clear HKn
          have hf := HF.out _ HKc.out
          (try (go_wp2_with fail))
          go_ret
          exact ⟨rfl, HEND.out _ HKc.out⟩
        · have e3 : ((gn : Int) == 0) = false := beq_eq_false_iff_ne.2 (by omega)
          rw [decide_eq_false (p := ((0 : Int) = 0 ∧ gn = 0)) (fun h => hg h.2)]
          clear ho hg
          have HKc := Lib.hid (Kept.refl [] wb)
          have hf := HF.out _ HKc.out
          go_enter Try.func16, Try.ntmps16
          (try (go_wp2_with fail))
          (try rw [hwb])
          clear hf
          refine (HRU.out _ HKc.out).mono ?_
          rintro x wc1 ⟨rfl, hkc⟩
          have HKn := Lib.hid (HKc.out.trans hkc)
          clear hkc HKc
          have HKc := HKn
          clear HKn
          have hf := HF.out _ HKc.out
          (try (go_wp2_with fail))
          clear hf
          refine (HON.out _ HKc.out).mono ?_
          rintro x wc2 ⟨rfl, hkc⟩
          have HKn := Lib.hid (HKc.out.trans hkc)
          clear hkc HKc
          have HKc := HKn
          clear HKn
          have hf := HF.out _ HKc.out
          (try (go_wp2_with fail))
          go_ret
          exact ⟨rfl, HEND.out _ HKc.out⟩
      · have e2 : (sl == 0) = false := beq_eq_false_iff_ne.2 hs
        rw [decide_eq_false (p := (sl = 0 ∧ gn = 0)) (fun h => hs h.1)]
        clear ho hs
        have HKc := Lib.hid (Kept.refl [] wb)
        have hf := HF.out _ HKc.out
        go_enter Try.func16, Try.ntmps16
        (try (go_wp2_with fail))
        (try rw [hwb])
        clear hf
        refine (HRU.out _ HKc.out).mono ?_
        rintro x wc1 ⟨rfl, hkc⟩
        have HKn := Lib.hid (HKc.out.trans hkc)
        clear hkc HKc
        have HKc := HKn
        clear HKn
        have hf := HF.out _ HKc.out
        (try (go_wp2_with fail))
        clear hf
        refine (HON.out _ HKc.out).mono ?_
        rintro x wc2 ⟨rfl, hkc⟩
        have HKn := Lib.hid (HKc.out.trans hkc)
        clear hkc HKc
        have HKc := HKn
        clear HKn
        have hf := HF.out _ HKc.out
        (try (go_wp2_with fail))
        go_ret
        exact ⟨rfl, HEND.out _ HKc.out⟩
    · have e1 : decide (on < 0) = false := decide_eq_false ho
      rw [e1]
      clear ho
      have HKc := Lib.hid (Kept.refl [] wb)
      have hf := HF.out _ HKc.out
      go_enter Try.func16, Try.ntmps16
      (try (go_wp2_with fail))
      (try rw [hwb])
      clear hf
      refine (HRU.out _ HKc.out).mono ?_
      rintro x wc1 ⟨rfl, hkc⟩
      have HKn := Lib.hid (HKc.out.trans hkc)
      clear hkc HKc
      have HKc := HKn
      clear HKn
      have hf := HF.out _ HKc.out
      (try (go_wp2_with fail))
      clear hf
      refine (HON.out _ HKc.out).mono ?_
      rintro x wc2 ⟨rfl, hkc⟩
      have HKn := Lib.hid (HKc.out.trans hkc)
      clear hkc HKc
      have HKc := HKn
      clear HKn
      have hf := HF.out _ HKc.out
      (try (go_wp2_with fail))
      go_ret
      exact ⟨rfl, HEND.out _ HKc.out⟩
set_option maxHeartbeats 6400000 in
set_option maxRecDepth 100000 in
theorem R35Step_4 (h : RqIs w0 w b d a) (hw : AWhole d a) (e : Ev) (hk : e.kind = 4) :
    Calls Try.prog 16 #[.pointer (some ⟨b.g, 0, none⟩), .agg (eC e.step e.cpu e.kind e.slot e.gen e.op e.code e.n)] w fun x w' => x = .returned (.bool (stepA d a e).isSome) ∧ RqIs w0 w' b d ((stepA d a e).getD a) := by
  obtain ⟨wb, hwb⟩ : ∃ wb, w.alloc (.cells (eC e.step e.cpu e.kind e.slot e.gen e.op e.code e.n) 55) = wb := ⟨_, rfl⟩
  obtain ⟨h0, hF, hHS, hON, _, hEND⟩ := RqIs.evs h hw hwb
  have HF := Lib.hid hF
  have HON := Lib.hid hON
  have HHS := Lib.hid hHS
  have HEND := Lib.hid hEND
  cases hh : hasA a e.slot e.gen with
  | false =>
    obtain ⟨v1, v2⟩ := stepR_no (d := d) (a := a) (e := e) (by rw [stepR_4 hk, hh]; rfl)
    rw [v1, v2]
    rw [hh] at HHS
    rw [hk] at HF hwb ⊢
    generalize a.T.length = nT at *
    clear h hw hF hON hHS hEND v1 v2 hk h0 hh
    have HKc := Lib.hid (Kept.refl [] wb)
    have hf := HF.out _ HKc.out
    go_enter Try.func16, Try.ntmps16
    (try (go_wp2_with fail))
    (try rw [hwb])
    clear hf
    (refine wp_region_phases (n := 26) (listed := #[false, false, false, false, false, false, false, false, false, false, false, false, false, false, false, false, false, false, false, false, false, false, false, false, false, false]) (by kernel_rfl) (by rfl) (by rfl) ?_)
    (refine wpAny_phase (fun W => Kept [] wb W) [(0, false), (1, false), (2, false), (3, false), (4, false), (5, false), (6, false), (7, false), (8, false), (9, false), (10, false), (11, false), (12, false), (13, false), (14, false), (15, false), (16, false), (17, false), (18, false), (19, false), (20, false), (21, false), (22, false), (23, false), (24, false), (25, false)] (f := 0) (listed := #[false, false, false, false, false, false, false, false, false, false, false, false, false, false, false, false, false, false, false, false, false, false, false, false, false, false]) (listed' := #[true, true, true, true, true, true, true, true, true, true, true, true, true, true, true, true, true, true, true, true, true, true, true, true, true, true]) (by kernel_rfl) (by kernel_rfl) (by rfl) (HKc.out).drew (fun d _ _ _ _ h => by cases d <;> exact h) ?_)
    iterate 6 (refine wpQL_take (v := ?_) rfl (by rfl) ?_ ?_; rotate_left; (focus ((intro W hC; have hF := HF.out W hC; go_simp); try (with_reducible rfl))); (try dsimp only [Act.put]); (try simp only [List.setIfInBounds_toArray, List.set_cons_zero, List.set_cons_succ]))
    (refine wpQL_call nth_6 (by rfl) ?_ (fun W hC => quiet_call hC (HHS.out W hC)) ?_; (focus (intro W hC; go_simp; try (with_reducible rfl))); (try dsimp only [Act.put]); (try simp only [List.setIfInBounds_toArray, List.set_cons_zero, List.set_cons_succ]))
    iterate 16 (first | (refine wpQL_take (v := ?_) rfl ?_ ?_ ?_; rotate_left; (focus (first | rfl | (go_simp; done))); (focus ((intro W hC; have hF := HF.out W hC; go_simp); try (with_reducible rfl))); (try dsimp only [Act.put]); (try simp only [List.setIfInBounds_toArray, List.set_cons_zero, List.set_cons_succ])) | (refine wpQL_not rfl ?_ ?_; (focus (go_simp; done)); (try dsimp only [Act.put]); (try simp only [List.setIfInBounds_toArray, List.set_cons_zero, List.set_cons_succ])))
    (first | (refine wpQL_call nth_23 ?_ ?_ (fun W hC => quiet_call hC (HON.out W hC)) ?_; (focus (go_simp; done)); (focus (intro W hC; go_simp; try (with_reducible rfl))); (try dsimp only [Act.put]); (try simp only [List.setIfInBounds_toArray, List.set_cons_zero, List.set_cons_succ])) | (refine wpQL_not nth_23 ?_ ?_; (focus (go_simp; done)); (try dsimp only [Act.put]); (try simp only [List.setIfInBounds_toArray, List.set_cons_zero, List.set_cons_succ])))
    iterate 2 (first | (refine wpQL_take (v := ?_) rfl ?_ ?_ ?_; rotate_left; (focus (first | rfl | (go_simp; done))); (focus ((intro W hC; go_simp); try (with_reducible rfl))); (try dsimp only [Act.put]); (try simp only [List.setIfInBounds_toArray, List.set_cons_zero, List.set_cons_succ])) | (refine wpQL_not rfl ?_ ?_; (focus (go_simp; done)); (try dsimp only [Act.put]); (try simp only [List.setIfInBounds_toArray, List.set_cons_zero, List.set_cons_succ])))
    (refine wpQL_nil ?_)
    (intro wq hq)
    (refine wpAny_done (by kernel_rfl) ?_ _)
    clear HKc
    have HKc := Lib.hid hq
    clear hq
    have hf := HF.out _ HKc.out
    (try (go_wp2_with fail))
    go_ret
    exact ⟨rfl, HEND.out _ HKc.out⟩
  | true =>
    obtain ⟨p0, p1, p2, p3⟩ := hasA_lt hh
    have ht : e.slot.toNat < a.T.length := by rw [hw.tl]; exact p1
    have ht1 : e.slot < (a.T.length : Int) := by omega
    have HF2 : Hid (∀ W, Kept [] wb W → ((W.cell? ⟨b.g, 9, none⟩ = some (.pointer (some ⟨b.gr, 0, none⟩)) ∧ W.cell? ⟨b.g, 10, none⟩ = some (.slice (some ⟨b.gT, 0, none⟩) a.T.length a.T.length) ∧ b.g < W.heap.size ∧ b.gT < W.heap.size) ∧ (W.cell? ⟨w.heap.size, 0, none⟩ = some (.int .i64 e.step) ∧ W.cell? ⟨w.heap.size, 1, none⟩ = some (.int .i64 e.cpu) ∧ W.cell? ⟨w.heap.size, 2, none⟩ = some (.int .i64 e.kind) ∧ W.cell? ⟨w.heap.size, 3, none⟩ = some (.int .i64 e.slot) ∧ W.cell? ⟨w.heap.size, 4, none⟩ = some (.int .u32 e.gen) ∧ W.cell? ⟨w.heap.size, 5, none⟩ = some (.int .i64 e.op) ∧ W.cell? ⟨w.heap.size, 6, none⟩ = some (.int .i64 e.code) ∧ W.cell? ⟨w.heap.size, 7, none⟩ = some (.int .u64 e.n) ∧ w.heap.size < W.heap.size)) ∧ W.cell? ⟨b.gT, e.slot.toNat * 31 + 2, none⟩ = some (.int .i64 (a.th e.slot.toNat).state) ∧ W.cell? ⟨b.gT, e.slot.toNat * 31 + 3, none⟩ = some (.int .i64 (a.th e.slot.toNat).cpu) ∧ ∀ j, W.frozen? ⟨b.gT, j, none⟩ = false) := fun W hk => ⟨HF.out W hk, (RqAt.tf (HEND.out W hk).at_ ht).1.2.2.1, (RqAt.tf (HEND.out W hk).at_ ht).1.2.2.2.1, (RqAt.th (HEND.out W hk).at_ ht).2.2⟩
    have hlen : (a.setT e.slot.toNat { a.th e.slot.toNat with state := 3 }).T.length = a.T.length := by simp [Acc.setT]
    have HS1 : Hid (∀ W, Kept [] wb W → RqIs w0 (W.setCell ⟨b.gT, e.slot.toNat * 31 + 2, none⟩ (.int .i64 3)) b d (a.setT e.slot.toNat { a.th e.slot.toNat with state := 3 })) := fun W hk => (RqIs.st1 (HEND.out W hk) ht 2 (by omega) (.int .i64 3) _ (by rfl)).2.2.2
    have HS2 : Hid (∀ W, RqIs w0 W b d (a.setT e.slot.toNat { a.th e.slot.toNat with state := 3 }) → (∃ v, W.cell? ⟨b.gT, e.slot.toNat * 31 + 3, none⟩ = some v) ∧ (∀ j, W.frozen? ⟨b.gT, j, none⟩ = false) ∧ (W.cell? ⟨b.g, 10, none⟩ = some (.slice (some ⟨b.gT, 0, none⟩) a.T.length a.T.length) ∧ b.g < W.heap.size ∧ b.gT < W.heap.size) ∧ RqIs w0 (W.setCell ⟨b.gT, e.slot.toNat * 31 + 3, none⟩ (.int .i64 e.cpu)) b d (a.setT e.slot.toNat { a.th e.slot.toNat with state := 3, cpu := e.cpu })) := fun W hA => by
      have := RqIs.st1 hA (t := e.slot.toNat) (by rw [hlen]; exact ht) 3 (by omega) (.int .i64 e.cpu) { a.th e.slot.toNat with state := 3, cpu := e.cpu } (by rw [setT_thR ht]; rfl)
      rw [setT_setT, hlen] at this
      exact this
    have HEB : Hid (∀ W, Kept [] wb W → ∀ W', Kept [b.gT] W W' → W'.cell? ⟨w.heap.size, 1, none⟩ = some (.int .i64 e.cpu) ∧ w.heap.size < W'.heap.size) := fun W hk W' hk' => by
      have h1 := HF.out W hk
      have n2 : w.heap.size ∉ [b.gT] := fun hm => by have e := List.mem_singleton.1 hm; have := (RqAt.bl h.at_).2.2.2.2; omega
      exact ⟨hk'.cell_some h1.2.2.1 n2, Nat.lt_of_lt_of_le h1.2.2.2.2.2.2.2.2.2 hk'.size⟩
    have hs := stepR_4 (d := d) (a := a) hk
    rw [hh] at hs HHS
    by_cases g1 : (a.th e.slot.toNat).state = 2
    · have f1 : ((a.th e.slot.toNat).state != 2) = false := by simp [g1]
      rw [g1] at HF2
      by_cases g2 : onA a e.cpu < 0
      · have f2 : decide (0 ≤ onA a e.cpu) = false := decide_eq_false (by omega)
        rw [if_pos (by simp [g1, g2])] at hs
        obtain ⟨v1, v2⟩ := stepR_yes hs
        rw [v1, v2]
        rw [hk] at HF2 hwb ⊢
        generalize a.setT e.slot.toNat { a.th e.slot.toNat with state := 3, cpu := e.cpu } = a' at *
        generalize a.setT e.slot.toNat { a.th e.slot.toNat with state := 3 } = a1 at *
        generalize onA a e.cpu = on at *
        generalize a.T.length = nT at *
        clear h hw hF hON hHS hEND v1 v2 hk h0 hh hs p1 p2 p3 ht HF g1 g2 f1 hlen
        have HKc := Lib.hid (Kept.refl [] wb)
        have hf := HF2.out _ HKc.out
        go_enter Try.func16, Try.ntmps16
        (try (go_wp2_with fail))
        (try rw [hwb])
        clear hf
        (refine wp_region_phases (n := 26) (listed := #[false, false, false, false, false, false, false, false, false, false, false, false, false, false, false, false, false, false, false, false, false, false, false, false, false, false]) (by kernel_rfl) (by rfl) (by rfl) ?_)
        (refine wpAny_phase (fun W => Kept [] wb W) [(0, false), (1, false), (2, false), (3, false), (4, false), (5, false), (6, false), (7, false), (8, false), (9, false), (10, false), (11, false), (12, false), (13, false), (14, false), (15, false), (16, false), (17, false), (18, false), (19, false), (20, false), (21, false), (22, false), (23, false), (24, false), (25, false)] (f := 0) (listed := #[false, false, false, false, false, false, false, false, false, false, false, false, false, false, false, false, false, false, false, false, false, false, false, false, false, false]) (listed' := #[true, true, true, true, true, true, true, true, true, true, true, true, true, true, true, true, true, true, true, true, true, true, true, true, true, true]) (by kernel_rfl) (by kernel_rfl) (by rfl) (HKc.out).drew (fun d _ _ _ _ h => by cases d <;> exact h) ?_)
        iterate 6 (refine wpQL_take (v := ?_) rfl (by rfl) ?_ ?_; rotate_left; (focus ((intro W hC; have hF := HF2.out W hC; go_simp); try (with_reducible rfl))); (try dsimp only [Act.put]); (try simp only [List.setIfInBounds_toArray, List.set_cons_zero, List.set_cons_succ]))
        (refine wpQL_call nth_6 (by rfl) ?_ (fun W hC => quiet_call hC (HHS.out W hC)) ?_; (focus (intro W hC; go_simp; try (with_reducible rfl))); (try dsimp only [Act.put]); (try simp only [List.setIfInBounds_toArray, List.set_cons_zero, List.set_cons_succ]))
        iterate 16 (first | (refine wpQL_take (v := ?_) rfl ?_ ?_ ?_; rotate_left; (focus (first | rfl | (go_simp; done))); (focus ((intro W hC; have hF := HF2.out W hC; go_simp); try (with_reducible rfl))); (try dsimp only [Act.put]); (try simp only [List.setIfInBounds_toArray, List.set_cons_zero, List.set_cons_succ])) | (refine wpQL_not rfl ?_ ?_; (focus (go_simp; done)); (try dsimp only [Act.put]); (try simp only [List.setIfInBounds_toArray, List.set_cons_zero, List.set_cons_succ])))
        (first | (refine wpQL_call nth_23 ?_ ?_ (fun W hC => quiet_call hC (HON.out W hC)) ?_; (focus (go_simp; done)); (focus (intro W hC; go_simp; try (with_reducible rfl))); (try dsimp only [Act.put]); (try simp only [List.setIfInBounds_toArray, List.set_cons_zero, List.set_cons_succ])) | (refine wpQL_not nth_23 ?_ ?_; (focus (go_simp; done)); (try dsimp only [Act.put]); (try simp only [List.setIfInBounds_toArray, List.set_cons_zero, List.set_cons_succ])))
        iterate 2 (first | (refine wpQL_take (v := ?_) rfl ?_ ?_ ?_; rotate_left; (focus (first | rfl | (go_simp; done))); (focus ((intro W hC; go_simp); try (with_reducible rfl))); (try dsimp only [Act.put]); (try simp only [List.setIfInBounds_toArray, List.set_cons_zero, List.set_cons_succ])) | (refine wpQL_not rfl ?_ ?_; (focus (go_simp; done)); (try dsimp only [Act.put]); (try simp only [List.setIfInBounds_toArray, List.set_cons_zero, List.set_cons_succ])))
        (refine wpQL_nil ?_)
        (intro wq hq)
        (refine wpAny_done (by kernel_rfl) ?_ _)
        clear HKc
        have HKc := Lib.hid hq
        clear hq
        have hf := HF2.out _ HKc.out
        (try (go_wp2_with fail))
        have HA := Lib.hid (HS1.out _ HKc.out)
        have HE7 := Lib.hid (HEB.out _ HKc.out)
        obtain ⟨w7, hw7⟩ : ∃ w7, wq.setCell ⟨b.gT, e.slot.toNat * 31 + 2, none⟩ (.int .i64 3) = w7 := ⟨_, rfl⟩
        have HK7 : Hid (Kept [b.gT] wq w7) := by rw [← hw7]; exact (Kept.refl [b.gT] wq).setCell (.inl (by simp)) _
        rw [hw7] at HA
        have HF7 : Hid (∀ W, Kept [] w7 W → (W.cell? ⟨b.g, 10, none⟩ = some (.slice (some ⟨b.gT, 0, none⟩) nT nT) ∧ b.g < W.heap.size ∧ b.gT < W.heap.size) ∧ W.cell? ⟨w.heap.size, 1, none⟩ = some (.int .i64 e.cpu) ∧ w.heap.size < W.heap.size) := fun W hk => ⟨(HS2.out W (HA.out.old hk)).2.2.1, HE7.out W (HK7.out.trans (hk.mono (by simp)))⟩
        rw [hw7]
        clear hf hw7
        (refine wp_region_phases (n := 10) (listed := #[false, false, false, false, false, false, false, false, false, false]) (by kernel_rfl) (by rfl) (by rfl) ?_)
        (refine wpAny_phase (fun W => Kept [] w7 W) [(0, false), (1, false), (2, false), (3, false), (4, false), (5, false), (6, false), (7, false), (8, false)] (f := 1) (listed := #[false, false, false, false, false, false, false, false, false, false]) (listed' := #[true, true, true, true, true, true, true, true, true, false]) (by kernel_rfl) (by kernel_rfl) (by rfl) (Kept.refl [] _).drew (fun d _ _ _ _ h => by cases d <;> exact h) ?_)
        iterate 9 (refine wpQL_take (v := ?_) rfl (by rfl) ?_ ?_; rotate_left; (focus ((intro W hC; have hF := HF7.out W hC; go_simp); try (with_reducible rfl))); (try dsimp only [Act.put]); (try simp only [List.setIfInBounds_toArray, List.set_cons_zero, List.set_cons_succ]))
        (refine wpQL_nil ?_)
        (intro wq hq)
        obtain ⟨⟨x3, c3⟩, cf, cg, hA⟩ := HS2.out _ (HA.out.old hq)
        have HA9 := Lib.hid hA
        clear hA
        (refine wpAny_loud 9 (fuel := 0) (listed := #[true, true, true, true, true, true, true, true, true, false]) (listed' := #[true, true, true, true, true, true, true, true, true, true]) (by kernel_rfl) (by rfl) nth_9 (fun K hK => ?_))
        go_simp
        (refine hK.out _ _ ?_; clear hK K)
        (try simp only [Act.put, List.setIfInBounds_toArray, List.set_cons_zero, List.set_cons_succ])
        (refine wpAny_done (by kernel_rfl) ?_ _)
        go_wp2_with fail
        go_ret
        exact ⟨rfl, HA9.out⟩
      · have f2 : decide (0 ≤ onA a e.cpu) = true := decide_eq_true (by omega)
        rw [if_neg (by simp [g2])] at hs
        obtain ⟨v1, v2⟩ := stepR_no hs
        rw [v1, v2]
        rw [hk] at HF2 hwb ⊢
        generalize onA a e.cpu = on at *
        generalize (a.th e.slot.toNat).cpu = ocp at *
        generalize a.T.length = nT at *
        clear h hw hF hON hHS hEND v1 v2 hk h0 hh hs p1 p2 p3 ht HF g1 g2 f1 hlen HS1 HS2 HEB
        have HKc := Lib.hid (Kept.refl [] wb)
        have hf := HF2.out _ HKc.out
        go_enter Try.func16, Try.ntmps16
        (try (go_wp2_with fail))
        (try rw [hwb])
        clear hf
        (refine wp_region_phases (n := 26) (listed := #[false, false, false, false, false, false, false, false, false, false, false, false, false, false, false, false, false, false, false, false, false, false, false, false, false, false]) (by kernel_rfl) (by rfl) (by rfl) ?_)
        (refine wpAny_phase (fun W => Kept [] wb W) [(0, false), (1, false), (2, false), (3, false), (4, false), (5, false), (6, false), (7, false), (8, false), (9, false), (10, false), (11, false), (12, false), (13, false), (14, false), (15, false), (16, false), (17, false), (18, false), (19, false), (20, false), (21, false), (22, false), (23, false), (24, false), (25, false)] (f := 0) (listed := #[false, false, false, false, false, false, false, false, false, false, false, false, false, false, false, false, false, false, false, false, false, false, false, false, false, false]) (listed' := #[true, true, true, true, true, true, true, true, true, true, true, true, true, true, true, true, true, true, true, true, true, true, true, true, true, true]) (by kernel_rfl) (by kernel_rfl) (by rfl) (HKc.out).drew (fun d _ _ _ _ h => by cases d <;> exact h) ?_)
        iterate 6 (refine wpQL_take (v := ?_) rfl (by rfl) ?_ ?_; rotate_left; (focus ((intro W hC; have hF := HF2.out W hC; go_simp); try (with_reducible rfl))); (try dsimp only [Act.put]); (try simp only [List.setIfInBounds_toArray, List.set_cons_zero, List.set_cons_succ]))
        (refine wpQL_call nth_6 (by rfl) ?_ (fun W hC => quiet_call hC (HHS.out W hC)) ?_; (focus (intro W hC; go_simp; try (with_reducible rfl))); (try dsimp only [Act.put]); (try simp only [List.setIfInBounds_toArray, List.set_cons_zero, List.set_cons_succ]))
        iterate 16 (first | (refine wpQL_take (v := ?_) rfl ?_ ?_ ?_; rotate_left; (focus (first | rfl | (go_simp; done))); (focus ((intro W hC; have hF := HF2.out W hC; go_simp); try (with_reducible rfl))); (try dsimp only [Act.put]); (try simp only [List.setIfInBounds_toArray, List.set_cons_zero, List.set_cons_succ])) | (refine wpQL_not rfl ?_ ?_; (focus (go_simp; done)); (try dsimp only [Act.put]); (try simp only [List.setIfInBounds_toArray, List.set_cons_zero, List.set_cons_succ])))
        (first | (refine wpQL_call nth_23 ?_ ?_ (fun W hC => quiet_call hC (HON.out W hC)) ?_; (focus (go_simp; done)); (focus (intro W hC; go_simp; try (with_reducible rfl))); (try dsimp only [Act.put]); (try simp only [List.setIfInBounds_toArray, List.set_cons_zero, List.set_cons_succ])) | (refine wpQL_not nth_23 ?_ ?_; (focus (go_simp; done)); (try dsimp only [Act.put]); (try simp only [List.setIfInBounds_toArray, List.set_cons_zero, List.set_cons_succ])))
        iterate 2 (first | (refine wpQL_take (v := ?_) rfl ?_ ?_ ?_; rotate_left; (focus (first | rfl | (go_simp; done))); (focus ((intro W hC; go_simp); try (with_reducible rfl))); (try dsimp only [Act.put]); (try simp only [List.setIfInBounds_toArray, List.set_cons_zero, List.set_cons_succ])) | (refine wpQL_not rfl ?_ ?_; (focus (go_simp; done)); (try dsimp only [Act.put]); (try simp only [List.setIfInBounds_toArray, List.set_cons_zero, List.set_cons_succ])))
        (refine wpQL_nil ?_)
        (intro wq hq)
        (refine wpAny_done (by kernel_rfl) ?_ _)
        clear HKc
        have HKc := Lib.hid hq
        clear hq
        have hf := HF2.out _ HKc.out
        (try (go_wp2_with fail))
        go_ret
        exact ⟨rfl, HEND.out _ HKc.out⟩
    · have f1 : ((a.th e.slot.toNat).state != 2) = true := bne_iff_ne.2 g1
      rw [if_neg (by simp [g1])] at hs
      obtain ⟨v1, v2⟩ := stepR_no hs
      rw [v1, v2]
      rw [hk] at HF2 hwb ⊢
      generalize onA a e.cpu = on at *
      generalize (a.th e.slot.toNat).cpu = ocp at *
      generalize (a.th e.slot.toNat).state = ost at *
      generalize a.T.length = nT at *
      clear h hw hF hON hHS hEND v1 v2 hk h0 hh hs p1 p2 p3 ht HF g1 hlen HS1 HS2 HEB
      have HKc := Lib.hid (Kept.refl [] wb)
      have hf := HF2.out _ HKc.out
      go_enter Try.func16, Try.ntmps16
      (try (go_wp2_with fail))
      (try rw [hwb])
      clear hf
      (refine wp_region_phases (n := 26) (listed := #[false, false, false, false, false, false, false, false, false, false, false, false, false, false, false, false, false, false, false, false, false, false, false, false, false, false]) (by kernel_rfl) (by rfl) (by rfl) ?_)
      (refine wpAny_phase (fun W => Kept [] wb W) [(0, false), (1, false), (2, false), (3, false), (4, false), (5, false), (6, false), (7, false), (8, false), (9, false), (10, false), (11, false), (12, false), (13, false), (14, false), (15, false), (16, false), (17, false), (18, false), (19, false), (20, false), (21, false), (22, false), (23, false), (24, false), (25, false)] (f := 0) (listed := #[false, false, false, false, false, false, false, false, false, false, false, false, false, false, false, false, false, false, false, false, false, false, false, false, false, false]) (listed' := #[true, true, true, true, true, true, true, true, true, true, true, true, true, true, true, true, true, true, true, true, true, true, true, true, true, true]) (by kernel_rfl) (by kernel_rfl) (by rfl) (HKc.out).drew (fun d _ _ _ _ h => by cases d <;> exact h) ?_)
      iterate 6 (refine wpQL_take (v := ?_) rfl (by rfl) ?_ ?_; rotate_left; (focus ((intro W hC; have hF := HF2.out W hC; go_simp); try (with_reducible rfl))); (try dsimp only [Act.put]); (try simp only [List.setIfInBounds_toArray, List.set_cons_zero, List.set_cons_succ]))
      (refine wpQL_call nth_6 (by rfl) ?_ (fun W hC => quiet_call hC (HHS.out W hC)) ?_; (focus (intro W hC; go_simp; try (with_reducible rfl))); (try dsimp only [Act.put]); (try simp only [List.setIfInBounds_toArray, List.set_cons_zero, List.set_cons_succ]))
      iterate 16 (first | (refine wpQL_take (v := ?_) rfl ?_ ?_ ?_; rotate_left; (focus (first | rfl | (go_simp; done))); (focus ((intro W hC; have hF := HF2.out W hC; go_simp); try (with_reducible rfl))); (try dsimp only [Act.put]); (try simp only [List.setIfInBounds_toArray, List.set_cons_zero, List.set_cons_succ])) | (refine wpQL_not rfl ?_ ?_; (focus (go_simp; done)); (try dsimp only [Act.put]); (try simp only [List.setIfInBounds_toArray, List.set_cons_zero, List.set_cons_succ])))
      (first | (refine wpQL_call nth_23 ?_ ?_ (fun W hC => quiet_call hC (HON.out W hC)) ?_; (focus (go_simp; done)); (focus (intro W hC; go_simp; try (with_reducible rfl))); (try dsimp only [Act.put]); (try simp only [List.setIfInBounds_toArray, List.set_cons_zero, List.set_cons_succ])) | (refine wpQL_not nth_23 ?_ ?_; (focus (go_simp; done)); (try dsimp only [Act.put]); (try simp only [List.setIfInBounds_toArray, List.set_cons_zero, List.set_cons_succ])))
      iterate 2 (first | (refine wpQL_take (v := ?_) rfl ?_ ?_ ?_; rotate_left; (focus (first | rfl | (go_simp; done))); (focus ((intro W hC; go_simp); try (with_reducible rfl))); (try dsimp only [Act.put]); (try simp only [List.setIfInBounds_toArray, List.set_cons_zero, List.set_cons_succ])) | (refine wpQL_not rfl ?_ ?_; (focus (go_simp; done)); (try dsimp only [Act.put]); (try simp only [List.setIfInBounds_toArray, List.set_cons_zero, List.set_cons_succ])))
      (refine wpQL_nil ?_)
      (intro wq hq)
      (refine wpAny_done (by kernel_rfl) ?_ _)
      clear HKc
      have HKc := Lib.hid hq
      clear hq
      have hf := HF2.out _ HKc.out
      (try (go_wp2_with fail))
      go_ret
      exact ⟨rfl, HEND.out _ HKc.out⟩
set_option maxHeartbeats 6400000 in
set_option maxRecDepth 100000 in
theorem R35Step_6 (h : RqIs w0 w b d a) (hw : AWhole d a) (e : Ev) (hk : e.kind = 6) :
    Calls Try.prog 16 #[.pointer (some ⟨b.g, 0, none⟩), .agg (eC e.step e.cpu e.kind e.slot e.gen e.op e.code e.n)] w fun x w' => x = .returned (.bool (stepA d a e).isSome) ∧ RqIs w0 w' b d ((stepA d a e).getD a) := by
  obtain ⟨wb, hwb⟩ : ∃ wb, w.alloc (.cells (eC e.step e.cpu e.kind e.slot e.gen e.op e.code e.n) 55) = wb := ⟨_, rfl⟩
  obtain ⟨h0, hF, hHS, hON, _, hEND⟩ := RqIs.evs h hw hwb
  have HF := Lib.hid hF
  have HHS := Lib.hid hHS
  have HEND := Lib.hid hEND
  cases hh : hasA a e.slot e.gen with
  | false =>
    obtain ⟨v1, v2⟩ := stepR_no (d := d) (a := a) (e := e) (by rw [stepR_6 hk, hh]; rfl)
    rw [v1, v2]
    rw [hh] at HHS
    rw [hk] at HF hwb ⊢
    generalize a.T.length = nT at *
    clear h hw hF hON hHS hEND v1 v2 hk h0 hh
    have HKc := Lib.hid (Kept.refl [] wb)
    have hf := HF.out _ HKc.out
    go_enter Try.func16, Try.ntmps16
    (try (go_wp2_with fail))
    (try rw [hwb])
    clear hf
    (refine wp_region_phases (n := 30) (listed := #[false, false, false, false, false, false, false, false, false, false, false, false, false, false, false, false, false, false, false, false, false, false, false, false, false, false, false, false, false, false]) (by kernel_rfl) (by rfl) (by rfl) ?_)
    (refine wpAny_phase (fun W => Kept [] wb W) [(0, false), (1, false), (2, false), (3, false), (4, false), (5, false), (6, false), (7, false), (8, false), (9, false), (10, false), (11, false), (12, false), (13, false), (14, false), (15, false), (16, false), (17, false), (18, false), (19, false), (20, false), (21, false), (22, false), (23, false), (24, false), (25, false), (26, false), (27, false), (28, false), (29, false)] (f := 0) (listed := #[false, false, false, false, false, false, false, false, false, false, false, false, false, false, false, false, false, false, false, false, false, false, false, false, false, false, false, false, false, false]) (listed' := #[true, true, true, true, true, true, true, true, true, true, true, true, true, true, true, true, true, true, true, true, true, true, true, true, true, true, true, true, true, true]) (by kernel_rfl) (by kernel_rfl) (by rfl) (HKc.out).drew (fun d _ _ _ _ h => by cases d <;> exact h) ?_)
    iterate 6 (refine wpQL_take (v := ?_) rfl (by rfl) ?_ ?_; rotate_left; (focus ((intro W hC; have hF := HF.out W hC; go_simp); try (with_reducible rfl))); (try dsimp only [Act.put]); (try simp only [List.setIfInBounds_toArray, List.set_cons_zero, List.set_cons_succ]))
    (refine wpQL_call nth_6 (by rfl) ?_ (fun W hC => quiet_call hC (HHS.out W hC)) ?_; (focus (intro W hC; go_simp; try (with_reducible rfl))); (try dsimp only [Act.put]); (try simp only [List.setIfInBounds_toArray, List.set_cons_zero, List.set_cons_succ]))
    iterate 23 (first | (refine wpQL_take (v := ?_) rfl ?_ ?_ ?_; rotate_left; (focus (first | rfl | (go_simp; done))); (focus ((intro W hC; have hF := HF.out W hC; go_simp); try (with_reducible rfl))); (try dsimp only [Act.put]); (try simp only [List.setIfInBounds_toArray, List.set_cons_zero, List.set_cons_succ])) | (refine wpQL_not rfl ?_ ?_; (focus (first | (go_simp; done) | (go_simp; simp [undef]; done))); (try dsimp only [Act.put]); (try simp only [List.setIfInBounds_toArray, List.set_cons_zero, List.set_cons_succ])))
    (refine wpQL_nil ?_)
    (intro wq hq)
    (refine wpAny_done (by kernel_rfl) ?_ _)
    clear HKc
    have HKc := Lib.hid hq
    clear hq
    have hf := HF.out _ HKc.out
    (try (go_wp2_with fail))
    go_ret
    exact ⟨rfl, HEND.out _ HKc.out⟩
  | true =>
    obtain ⟨p0, p1, p2, p3⟩ := hasA_lt hh
    have ht : e.slot.toNat < a.T.length := by rw [hw.tl]; exact p1
    have ht1 : e.slot < (a.T.length : Int) := by omega
    have HF2 : Hid (∀ W, Kept [] wb W → ((W.cell? ⟨b.g, 9, none⟩ = some (.pointer (some ⟨b.gr, 0, none⟩)) ∧ W.cell? ⟨b.g, 10, none⟩ = some (.slice (some ⟨b.gT, 0, none⟩) a.T.length a.T.length) ∧ b.g < W.heap.size ∧ b.gT < W.heap.size) ∧ (W.cell? ⟨w.heap.size, 0, none⟩ = some (.int .i64 e.step) ∧ W.cell? ⟨w.heap.size, 1, none⟩ = some (.int .i64 e.cpu) ∧ W.cell? ⟨w.heap.size, 2, none⟩ = some (.int .i64 e.kind) ∧ W.cell? ⟨w.heap.size, 3, none⟩ = some (.int .i64 e.slot) ∧ W.cell? ⟨w.heap.size, 4, none⟩ = some (.int .u32 e.gen) ∧ W.cell? ⟨w.heap.size, 5, none⟩ = some (.int .i64 e.op) ∧ W.cell? ⟨w.heap.size, 6, none⟩ = some (.int .i64 e.code) ∧ W.cell? ⟨w.heap.size, 7, none⟩ = some (.int .u64 e.n) ∧ w.heap.size < W.heap.size)) ∧ W.cell? ⟨b.gT, e.slot.toNat * 31 + 2, none⟩ = some (.int .i64 (a.th e.slot.toNat).state) ∧ ∀ j, W.frozen? ⟨b.gT, j, none⟩ = false) := fun W hk => ⟨HF.out W hk, (RqAt.tf (HEND.out W hk).at_ ht).1.2.2.1, (RqAt.th (HEND.out W hk).at_ ht).2.2⟩
    have HS1 : Hid (∀ W, Kept [] wb W → RqIs w0 (W.setCell ⟨b.gT, e.slot.toNat * 31 + 2, none⟩ (.int .i64 2)) b d (a.setT e.slot.toNat { a.th e.slot.toNat with state := 2 })) := fun W hk => (RqIs.st1 (HEND.out W hk) ht 2 (by omega) (.int .i64 2) _ (by rfl)).2.2.2
    have hs := stepR_6 (d := d) (a := a) hk
    rw [hh] at hs HHS
    by_cases g1 : (a.th e.slot.toNat).state = 1
    · rw [g1] at HF2
      rw [if_pos (by simp [g1])] at hs
      obtain ⟨v1, v2⟩ := stepR_yes hs
      rw [v1, v2]
      rw [hk] at HF2 hwb ⊢
      generalize a.setT e.slot.toNat { a.th e.slot.toNat with state := 2 } = a' at *
      generalize a.T.length = nT at *
      clear h hw hF hON hHS hEND v1 v2 hk h0 hh hs p1 p2 p3 ht HF g1
      have HKc := Lib.hid (Kept.refl [] wb)
      have hf := HF2.out _ HKc.out
      go_enter Try.func16, Try.ntmps16
      (try (go_wp2_with fail))
      (try rw [hwb])
      clear hf
      (refine wp_region_phases (n := 30) (listed := #[false, false, false, false, false, false, false, false, false, false, false, false, false, false, false, false, false, false, false, false, false, false, false, false, false, false, false, false, false, false]) (by kernel_rfl) (by rfl) (by rfl) ?_)
      (refine wpAny_phase (fun W => Kept [] wb W) [(0, false), (1, false), (2, false), (3, false), (4, false), (5, false), (6, false), (7, false), (8, false), (9, false), (10, false), (11, false), (12, false), (13, false), (14, false), (15, false), (16, false), (17, false), (18, false), (19, false), (20, false), (21, false), (22, false), (23, false), (24, false), (25, false), (26, false), (27, false), (28, false), (29, false)] (f := 0) (listed := #[false, false, false, false, false, false, false, false, false, false, false, false, false, false, false, false, false, false, false, false, false, false, false, false, false, false, false, false, false, false]) (listed' := #[true, true, true, true, true, true, true, true, true, true, true, true, true, true, true, true, true, true, true, true, true, true, true, true, true, true, true, true, true, true]) (by kernel_rfl) (by kernel_rfl) (by rfl) (HKc.out).drew (fun d _ _ _ _ h => by cases d <;> exact h) ?_)
      iterate 6 (refine wpQL_take (v := ?_) rfl (by rfl) ?_ ?_; rotate_left; (focus ((intro W hC; have hF := HF2.out W hC; go_simp); try (with_reducible rfl))); (try dsimp only [Act.put]); (try simp only [List.setIfInBounds_toArray, List.set_cons_zero, List.set_cons_succ]))
      (refine wpQL_call nth_6 (by rfl) ?_ (fun W hC => quiet_call hC (HHS.out W hC)) ?_; (focus (intro W hC; go_simp; try (with_reducible rfl))); (try dsimp only [Act.put]); (try simp only [List.setIfInBounds_toArray, List.set_cons_zero, List.set_cons_succ]))
      iterate 23 (first | (refine wpQL_take (v := ?_) rfl ?_ ?_ ?_; rotate_left; (focus (first | rfl | (go_simp; done))); (focus ((intro W hC; have hF := HF2.out W hC; go_simp); try (with_reducible rfl))); (try dsimp only [Act.put]); (try simp only [List.setIfInBounds_toArray, List.set_cons_zero, List.set_cons_succ])) | (refine wpQL_not rfl ?_ ?_; (focus (first | (go_simp; done) | (go_simp; simp [undef]; done))); (try dsimp only [Act.put]); (try simp only [List.setIfInBounds_toArray, List.set_cons_zero, List.set_cons_succ])))
      (refine wpQL_nil ?_)
      (intro wq hq)
      (refine wpAny_done (by kernel_rfl) ?_ _)
      clear HKc
      have HKc := Lib.hid hq
      clear hq
      have hf := HF2.out _ HKc.out
      (try (go_wp2_with fail))
      have HA := Lib.hid (HS1.out _ HKc.out)
      go_ret
      exact ⟨rfl, HA.out⟩
    · have f1 : ((a.th e.slot.toNat).state != 1) = true := bne_iff_ne.2 g1
      by_cases g4 : (a.th e.slot.toNat).state = 4
      · have f4 : ((a.th e.slot.toNat).state != 4) = false := by simp [g4]
        rw [g4] at HF2
        rw [if_pos (by simp [g4])] at hs
        obtain ⟨v1, v2⟩ := stepR_yes hs
        rw [v1, v2]
        rw [hk] at HF2 hwb ⊢
        generalize a.setT e.slot.toNat { a.th e.slot.toNat with state := 2 } = a' at *
        generalize a.T.length = nT at *
        clear h hw hF hON hHS hEND v1 v2 hk h0 hh hs p1 p2 p3 ht HF g1 g4 f1 f4
        have HKc := Lib.hid (Kept.refl [] wb)
        have hf := HF2.out _ HKc.out
        go_enter Try.func16, Try.ntmps16
        (try (go_wp2_with fail))
        (try rw [hwb])
        clear hf
        (refine wp_region_phases (n := 30) (listed := #[false, false, false, false, false, false, false, false, false, false, false, false, false, false, false, false, false, false, false, false, false, false, false, false, false, false, false, false, false, false]) (by kernel_rfl) (by rfl) (by rfl) ?_)
        (refine wpAny_phase (fun W => Kept [] wb W) [(0, false), (1, false), (2, false), (3, false), (4, false), (5, false), (6, false), (7, false), (8, false), (9, false), (10, false), (11, false), (12, false), (13, false), (14, false), (15, false), (16, false), (17, false), (18, false), (19, false), (20, false), (21, false), (22, false), (23, false), (24, false), (25, false), (26, false), (27, false), (28, false), (29, false)] (f := 0) (listed := #[false, false, false, false, false, false, false, false, false, false, false, false, false, false, false, false, false, false, false, false, false, false, false, false, false, false, false, false, false, false]) (listed' := #[true, true, true, true, true, true, true, true, true, true, true, true, true, true, true, true, true, true, true, true, true, true, true, true, true, true, true, true, true, true]) (by kernel_rfl) (by kernel_rfl) (by rfl) (HKc.out).drew (fun d _ _ _ _ h => by cases d <;> exact h) ?_)
        iterate 6 (refine wpQL_take (v := ?_) rfl (by rfl) ?_ ?_; rotate_left; (focus ((intro W hC; have hF := HF2.out W hC; go_simp); try (with_reducible rfl))); (try dsimp only [Act.put]); (try simp only [List.setIfInBounds_toArray, List.set_cons_zero, List.set_cons_succ]))
        (refine wpQL_call nth_6 (by rfl) ?_ (fun W hC => quiet_call hC (HHS.out W hC)) ?_; (focus (intro W hC; go_simp; try (with_reducible rfl))); (try dsimp only [Act.put]); (try simp only [List.setIfInBounds_toArray, List.set_cons_zero, List.set_cons_succ]))
        iterate 23 (first | (refine wpQL_take (v := ?_) rfl ?_ ?_ ?_; rotate_left; (focus (first | rfl | (go_simp; done))); (focus ((intro W hC; have hF := HF2.out W hC; go_simp); try (with_reducible rfl))); (try dsimp only [Act.put]); (try simp only [List.setIfInBounds_toArray, List.set_cons_zero, List.set_cons_succ])) | (refine wpQL_not rfl ?_ ?_; (focus (first | (go_simp; done) | (go_simp; simp [undef]; done))); (try dsimp only [Act.put]); (try simp only [List.setIfInBounds_toArray, List.set_cons_zero, List.set_cons_succ])))
        (refine wpQL_nil ?_)
        (intro wq hq)
        (refine wpAny_done (by kernel_rfl) ?_ _)
        clear HKc
        have HKc := Lib.hid hq
        clear hq
        have hf := HF2.out _ HKc.out
        (try (go_wp2_with fail))
        have HA := Lib.hid (HS1.out _ HKc.out)
        go_ret
        exact ⟨rfl, HA.out⟩
      · have f4 : ((a.th e.slot.toNat).state != 4) = true := bne_iff_ne.2 g4
        rw [if_neg (by simp [g1, g4])] at hs
        obtain ⟨v1, v2⟩ := stepR_no hs
        rw [v1, v2]
        rw [hk] at HF2 hwb ⊢
        generalize (a.th e.slot.toNat).state = ost at *
        generalize a.T.length = nT at *
        clear h hw hF hON hHS hEND v1 v2 hk h0 hh hs p1 p2 p3 ht HF g1 g4 HS1
        have HKc := Lib.hid (Kept.refl [] wb)
        have hf := HF2.out _ HKc.out
        go_enter Try.func16, Try.ntmps16
        (try (go_wp2_with fail))
        (try rw [hwb])
        clear hf
        (refine wp_region_phases (n := 30) (listed := #[false, false, false, false, false, false, false, false, false, false, false, false, false, false, false, false, false, false, false, false, false, false, false, false, false, false, false, false, false, false]) (by kernel_rfl) (by rfl) (by rfl) ?_)
        (refine wpAny_phase (fun W => Kept [] wb W) [(0, false), (1, false), (2, false), (3, false), (4, false), (5, false), (6, false), (7, false), (8, false), (9, false), (10, false), (11, false), (12, false), (13, false), (14, false), (15, false), (16, false), (17, false), (18, false), (19, false), (20, false), (21, false), (22, false), (23, false), (24, false), (25, false), (26, false), (27, false), (28, false), (29, false)] (f := 0) (listed := #[false, false, false, false, false, false, false, false, false, false, false, false, false, false, false, false, false, false, false, false, false, false, false, false, false, false, false, false, false, false]) (listed' := #[true, true, true, true, true, true, true, true, true, true, true, true, true, true, true, true, true, true, true, true, true, true, true, true, true, true, true, true, true, true]) (by kernel_rfl) (by kernel_rfl) (by rfl) (HKc.out).drew (fun d _ _ _ _ h => by cases d <;> exact h) ?_)
        iterate 6 (refine wpQL_take (v := ?_) rfl (by rfl) ?_ ?_; rotate_left; (focus ((intro W hC; have hF := HF2.out W hC; go_simp); try (with_reducible rfl))); (try dsimp only [Act.put]); (try simp only [List.setIfInBounds_toArray, List.set_cons_zero, List.set_cons_succ]))
        (refine wpQL_call nth_6 (by rfl) ?_ (fun W hC => quiet_call hC (HHS.out W hC)) ?_; (focus (intro W hC; go_simp; try (with_reducible rfl))); (try dsimp only [Act.put]); (try simp only [List.setIfInBounds_toArray, List.set_cons_zero, List.set_cons_succ]))
        iterate 23 (first | (refine wpQL_take (v := ?_) rfl ?_ ?_ ?_; rotate_left; (focus (first | rfl | (go_simp; done))); (focus ((intro W hC; have hF := HF2.out W hC; go_simp); try (with_reducible rfl))); (try dsimp only [Act.put]); (try simp only [List.setIfInBounds_toArray, List.set_cons_zero, List.set_cons_succ])) | (refine wpQL_not rfl ?_ ?_; (focus (first | (go_simp; done) | (go_simp; simp [undef]; done))); (try dsimp only [Act.put]); (try simp only [List.setIfInBounds_toArray, List.set_cons_zero, List.set_cons_succ])))
        (refine wpQL_nil ?_)
        (intro wq hq)
        (refine wpAny_done (by kernel_rfl) ?_ _)
        clear HKc
        have HKc := Lib.hid hq
        clear hq
        have hf := HF2.out _ HKc.out
        (try (go_wp2_with fail))
        go_ret
        exact ⟨rfl, HEND.out _ HKc.out⟩
end

end Go.Proofs.Ytccodklfplfleaa
