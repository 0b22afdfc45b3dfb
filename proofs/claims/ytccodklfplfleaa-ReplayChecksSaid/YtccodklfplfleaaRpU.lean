/- Package replay: effect, walked. -/
import Derived.Test.YtccodklfplfleaaRpT
namespace Go.Proofs.Ytccodklfplfleaa
open Go.RowKit

theorem stepA_eff {d : Du} {a : Acc} {e : Ev} (hk : e.kind = 2) : stepA d a e = if runsA a e = false then none else if (a.th e.slot.toNat).call = 1 ∧ (a.th e.slot.toNat).deed.op = e.op ∧ mayA d a e.slot.toNat e.code = true then some (if e.code = 0 then doesA (a.setT e.slot.toNat { a.th e.slot.toNat with call := 2, code := e.code }) e.slot.toNat else a.setT e.slot.toNat { a.th e.slot.toNat with call := 2, code := e.code }) else none := by
  unfold stepA stepB
  rw [if_neg (by omega), if_neg (by omega), if_neg (by omega), if_neg (by omega)]
  by_cases h : runsA a e = false
  · rw [if_pos h, if_pos h]
  · rw [if_neg h, if_neg h, if_neg (by omega), if_pos hk]
theorem mayA_isA {d : Du} {a : Acc} {t : Nat} (h : mayA d a t 0 = true) (h2 : (a.th t).deed.op = 4 ∨ (a.th t).deed.op = 7) : isA a t = true := by
  unfold mayA at h
  rcases h2 with h2 | h2
  · rw [if_neg (by omega), if_pos h2] at h
    cases hi : isA a t with
    | true => rfl
    | false => rw [if_pos hi] at h; simp at h
  · rw [if_neg (by omega), if_neg (by omega), if_pos (.inl h2)] at h
    cases hi : isA a t with
    | true => rfl
    | false => rw [if_pos (.inl hi)] at h; simp at h

set_option maxHeartbeats 6400000 in
set_option maxRecDepth 100000 in
theorem rpeffect_h : HandlesU 57 2 := by
  intro w0 w b d a K h hw hd hu hfit e hk hg
  have hs := stepA_eff (d := d) (a := a) hk
  obtain ⟨wb, hwb⟩ : ∃ wb, w.alloc (.cells (eC e.step e.cpu e.kind e.slot e.gen e.op e.code e.n) 55) = wb := ⟨_, rfl⟩
  have h0 : Kept [] w wb := by rw [← hwb]; exact (Kept.refl _ _).alloc _
  have HRU := Lib.hid (rpruns_any (AccAt.old h.at' h0) hw e)
  have HEV := Lib.hid (ev_box hwb)
  have hev := HEV.out wb (Kept.refl _ _)
  have HFIN : Hid (∀ W, Kept [] wb W → AccIs w0 W b d a K) := fun W hk => h.old (h0.trans hk)
  cases hr : runsA a e with
  | false =>
    rw [hr, if_neg (by simp)] at HRU
    rw [hr, if_pos rfl] at hs
    obtain ⟨v1, v2⟩ := step_no hs
    rw [v1, v2]
    have HDUM : Hid (∀ W, Kept [] wb W → True) := fun _ _ => trivial
    clear h hw hd hs h0 hk hg hr v1 v2 hu hfit
    go_enter Try.func57, Try.ntmps57
    go_wp2_with fail
    try rw [hwb]
    go_wp2_with fail
    refine (HRU.out).mono ?_
    rintro x w1 ⟨rfl, hk1⟩
    go_wp2_with fail
    (refine wp_region_phases (n := 30) (listed := #[false, false, false, false, false, false, false, false, false, false, false, false, false, false, false, false, false, false, false, false, false, false, false, false, false, false, false, false, false, false]) (by kernel_rfl) (by rfl) (by rfl) ?_)
    (refine wpAny_phase (fun W => Kept [] wb W) [(0, false), (1, false), (2, false), (3, false), (4, false), (5, false), (6, false), (7, false), (8, false), (9, false), (10, false), (11, false), (12, false), (13, false), (14, false), (15, false), (16, false), (17, false), (18, false), (19, false), (20, false), (21, false), (22, false), (23, false), (24, false), (25, false), (26, false), (27, false), (28, false), (29, false)] (f := 0) (listed := #[false, false, false, false, false, false, false, false, false, false, false, false, false, false, false, false, false, false, false, false, false, false, false, false, false, false, false, false, false, false]) (listed' := #[true, true, true, true, true, true, true, true, true, true, true, true, true, true, true, true, true, true, true, true, true, true, true, true, true, true, true, true, true, true]) (by kernel_rfl) (by kernel_rfl) (by rfl) (hk1).drew (fun d _ _ _ _ h => by cases d <;> exact h) ?_)
    iterate 27 (first | (refine wpQL_take (v := ?_) rfl ?_ ?_ ?_; rotate_left; (focus (first | rfl | (go_simp; done))); (focus ((intro W hC; have hF := HDUM.out W hC; go_simp); try (with_reducible rfl))); (try dsimp only [Act.put]); (try simp only [List.setIfInBounds_toArray, List.set_cons_zero, List.set_cons_succ])) | (refine wpQL_not rfl ?_ ?_; (focus (go_simp; done)); (try dsimp only [Act.put]); (try simp only [List.setIfInBounds_toArray, List.set_cons_zero, List.set_cons_succ])))
    (first | (refine wpQL_call nth_27 ?_ ?_ (fun W hC => quiet_call hC (HNONE.out W hC)) ?_; (focus (go_simp; done)); (focus (intro W hC; go_simp; try (with_reducible rfl))); (try dsimp only [Act.put]); (try simp only [List.setIfInBounds_toArray, List.set_cons_zero, List.set_cons_succ])) | (refine wpQL_not nth_27 ?_ ?_; (focus (go_simp; done)); (try dsimp only [Act.put]); (try simp only [List.setIfInBounds_toArray, List.set_cons_zero, List.set_cons_succ])))
    iterate 2 (first | (refine wpQL_take (v := ?_) rfl ?_ ?_ ?_; rotate_left; (focus (first | rfl | (go_simp; done))); (focus ((intro W hC; go_simp); try (with_reducible rfl))); (try dsimp only [Act.put]); (try simp only [List.setIfInBounds_toArray, List.set_cons_zero, List.set_cons_succ])) | (refine wpQL_not rfl ?_ ?_; (focus (go_simp; done)); (try dsimp only [Act.put]); (try simp only [List.setIfInBounds_toArray, List.set_cons_zero, List.set_cons_succ])))
    (refine wpQL_nil ?_)
    (intro wq hq)
    (refine wpAny_done (by kernel_rfl) ?_ _)
    go_wp2_with fail
    go_ret
    exact ⟨rfl, HFIN.out _ hq⟩
  | true =>
    rw [hr, if_pos rfl] at HRU
    rw [hr, if_neg (by simp)] at hs
    obtain ⟨p0, p1, p2, p3⟩ := hasA_lt (runsA_has hr)
    have ht : e.slot.toNat < a.T.length := by rw [hw.tl]; exact p1
    have hx := hw.at_ ht
    have hun := hu.1.len
    have HF : Hid (∀ W, Kept [] wb W → (W.cell? ⟨w.heap.size, 3, none⟩ = some (.int .i64 e.slot) ∧ W.cell? ⟨w.heap.size, 4, none⟩ = some (.int .u32 e.gen) ∧ W.cell? ⟨w.heap.size, 5, none⟩ = some (.int .i64 e.op) ∧ W.cell? ⟨w.heap.size, 6, none⟩ = some (.int .i64 e.code) ∧ w.heap.size < W.heap.size) ∧ W.cell? ⟨gT b, e.slot.toNat * 31 + 22, none⟩ = some (.int .i64 (a.th e.slot.toNat).call) ∧ W.cell? ⟨gT b, e.slot.toNat * 31 + 23, none⟩ = some (.int .i64 (a.th e.slot.toNat).deed.op) ∧ gT b < W.heap.size) := fun W hk => by
      have h1 := AccAt.old h.at' (h0.trans hk)
      have k8 := AccAt.tf h1 ht
      have k9 := HEV.out W hk
      exact ⟨⟨k9.2.2.2.1, k9.2.2.2.2.1, k9.2.2.2.2.2.1, k9.2.2.2.2.2.2.1, k9.2.2.2.2.2.2.2.2⟩, k8.2.1, (AccAt.df h1 ht).1, k8.2.2.2⟩
    have HMY : Hid (∀ W, Kept [] wb W → Calls Try.prog 80 #[.pointer (some ⟨b.g, 0, none⟩), .int .i64 e.slot, .pointer (some ⟨gT b, e.slot.toNat * 31, none⟩), .int .i64 e.code] W fun y w' => y = .returned (.bool (mayA d a e.slot.toNat e.code)) ∧ Kept [] W w') := fun W hk => by
      have h1 := rpmay_any (AccAt.old h.at' (h0.trans hk)) hw hd hun ht (hfit.mask _ ht) e.code
      rw [Int.toNat_of_nonneg p0] at h1
      exact h1
    unfold tA at HRU
    by_cases hc : (a.th e.slot.toNat).call = 1
    · by_cases ho : (a.th e.slot.toNat).deed.op = e.op
      · cases hmy : mayA d a e.slot.toNat e.code with
        | false =>
          rw [if_neg (by rw [hmy]; simp)] at hs
          obtain ⟨v1, v2⟩ := step_no hs
          rw [v1, v2]
          rw [hmy] at HMY
          rw [hc] at HF
          have ho1 : ((a.th e.slot.toNat).deed.op != e.op) = false := by simp [ho]
          clear hc ho hmy
          generalize (a.th e.slot.toNat).deed.op = o at *
          generalize e.slot.toNat = t at *
          clear h hw hd hs h0 hk hg hr v1 v2 hu hfit p0 p1 p2 p3 ht hx
          go_enter Try.func57, Try.ntmps57
          go_wp2_with fail
          try rw [hwb]
          go_wp2_with fail
          refine (HRU.out).mono ?_
          rintro x w1 ⟨rfl, hk1⟩
          go_wp2_with fail
          (refine wp_region_phases (n := 30) (listed := #[false, false, false, false, false, false, false, false, false, false, false, false, false, false, false, false, false, false, false, false, false, false, false, false, false, false, false, false, false, false]) (by kernel_rfl) (by rfl) (by rfl) ?_)
          (refine wpAny_phase (fun W => Kept [] wb W) [(0, false), (1, false), (2, false), (3, false), (4, false), (5, false), (6, false), (7, false), (8, false), (9, false), (10, false), (11, false), (12, false), (13, false), (14, false), (15, false), (16, false), (17, false), (18, false), (19, false), (20, false), (21, false), (22, false), (23, false), (24, false), (25, false), (26, false), (27, false), (28, false), (29, false)] (f := 0) (listed := #[false, false, false, false, false, false, false, false, false, false, false, false, false, false, false, false, false, false, false, false, false, false, false, false, false, false, false, false, false, false]) (listed' := #[true, true, true, true, true, true, true, true, true, true, true, true, true, true, true, true, true, true, true, true, true, true, true, true, true, true, true, true, true, true]) (by kernel_rfl) (by kernel_rfl) (by rfl) (hk1).drew (fun d _ _ _ _ h => by cases d <;> exact h) ?_)
          iterate 27 (first | (refine wpQL_take (v := ?_) rfl ?_ ?_ ?_; rotate_left; (focus (first | rfl | (go_simp; done))); (focus ((intro W hC; have hF := HF.out W hC; go_simp); try (with_reducible rfl))); (try dsimp only [Act.put]); (try simp only [List.setIfInBounds_toArray, List.set_cons_zero, List.set_cons_succ])) | (refine wpQL_not rfl ?_ ?_; (focus (go_simp; done)); (try dsimp only [Act.put]); (try simp only [List.setIfInBounds_toArray, List.set_cons_zero, List.set_cons_succ])))
          (first | (refine wpQL_call nth_27 ?_ ?_ (fun W hC => quiet_call hC (HMY.out W hC)) ?_; (focus (go_simp; done)); (focus (intro W hC; go_simp; try (with_reducible rfl))); (try dsimp only [Act.put]); (try simp only [List.setIfInBounds_toArray, List.set_cons_zero, List.set_cons_succ])) | (refine wpQL_not nth_27 ?_ ?_; (focus (go_simp; done)); (try dsimp only [Act.put]); (try simp only [List.setIfInBounds_toArray, List.set_cons_zero, List.set_cons_succ])))
          iterate 2 (first | (refine wpQL_take (v := ?_) rfl ?_ ?_ ?_; rotate_left; (focus (first | rfl | (go_simp; done))); (focus ((intro W hC; go_simp); try (with_reducible rfl))); (try dsimp only [Act.put]); (try simp only [List.setIfInBounds_toArray, List.set_cons_zero, List.set_cons_succ])) | (refine wpQL_not rfl ?_ ?_; (focus (go_simp; done)); (try dsimp only [Act.put]); (try simp only [List.setIfInBounds_toArray, List.set_cons_zero, List.set_cons_succ])))
          (refine wpQL_nil ?_)
          (intro wq hq)
          (refine wpAny_done (by kernel_rfl) ?_ _)
          go_wp2_with fail
          go_ret
          exact ⟨rfl, HFIN.out _ hq⟩
        | true =>
          rw [if_pos ⟨hc, ho, hmy⟩] at hs
          obtain ⟨v1, v2⟩ := step_yes hs
          rw [v1, v2]
          have hGN := (AccAt.gT_ne h.at' ht).2
          have hsz : w.heap.size ≤ wb.heap.size := h0.size
          have HFG : Hid (∀ W, Kept [gT b] wb W → (W.cell? ⟨w.heap.size, 3, none⟩ = some (.int .i64 e.slot) ∧ W.cell? ⟨w.heap.size, 4, none⟩ = some (.int .u32 e.gen) ∧ W.cell? ⟨w.heap.size, 5, none⟩ = some (.int .i64 e.op) ∧ W.cell? ⟨w.heap.size, 6, none⟩ = some (.int .i64 e.code) ∧ w.heap.size < W.heap.size)) := fun W hk => by
            have k9 := ev_boxG hwb (fun k hk => by rw [List.mem_singleton.1 hk]; exact hGN) W hk
            exact ⟨k9.2.2.2.1, k9.2.2.2.2.1, k9.2.2.2.2.2.1, k9.2.2.2.2.2.2.1, k9.2.2.2.2.2.2.2.2⟩
          obtain ⟨a1, ha1⟩ : ∃ a1, a.setT e.slot.toNat { a.th e.slot.toNat with call := 2, code := e.code } = a1 := ⟨_, rfl⟩
          have hth1 : a1.th e.slot.toNat = { a.th e.slot.toNat with call := 2, code := e.code } := by rw [← ha1]; exact setT_th ht
          have ht1 : e.slot.toNat < a1.T.length := by rw [← ha1]; simpa [Acc.setT] using ht
          have hpl1 : ∀ u, a1.pl u = a.pl u := fun u => by rw [← ha1]; rfl
          have hP1 : a1.P = a.P := by rw [← ha1]; rfl
          have HST : Hid (∀ W, Kept [] wb W → ((∃ v, W.cell? ⟨gT b, e.slot.toNat * 31 + 22, none⟩ = some v) ∧ (∃ v, W.cell? ⟨gT b, e.slot.toNat * 31 + 30, none⟩ = some v) ∧ (∀ j, W.frozen? ⟨gT b, j, none⟩ = false) ∧ gT b < W.heap.size) ∧ AccIs w0 (((W.setCell ⟨gT b, e.slot.toNat * 31 + 22, none⟩ (.int .i64 2)).setCell ⟨gT b, e.slot.toNat * 31 + 30, none⟩ (.int .i64 e.code)).drew) b d a1 K) := fun W hk => by
            have h1 := h.old (h0.trans hk)
            have k8 := AccAt.tf h1.at' ht
            have h2 := (h1.sts ht [(22, .int .i64 2), (30, .int .i64 e.code)] (by simp) { a.th e.slot.toNat with call := 2, code := e.code } (by rfl)).old ((Kept.refl _ _).drew)
            rw [ha1] at h2
            exact ⟨⟨⟨_, k8.2.1⟩, ⟨_, k8.2.2.1⟩, AccAt.frz h1.at' ht, k8.2.2.2⟩, h2⟩
          by_cases h00 : e.code = 0
          · rw [ha1, if_pos h00]
            rw [h00] at hmy
            have hw1 : AWhole d a1 := by
              rw [← ha1]
              exact hw.setT _ fun _ => hx.mono rfl rfl rfl rfl (fun _ hop => mayA_lock hmy (by omega))
            have HDO : Hid (∀ W, AccIs w0 W b d a1 K → Calls Try.prog 81 #[.pointer (some ⟨b.g, 0, none⟩), .agg #[.int .i64 e.slot, .int .u32 e.gen], .pointer (some ⟨gT b, e.slot.toNat * 31, none⟩)] W fun x w' => x = .returned (.tuple #[]) ∧ AccIs w0 w' b d (doesA a1 e.slot.toNat) K) := fun W hA => by
              have h1 := rpdoes_any hA hw1 ht1 (by rw [hpl1]; exact p2) (by rw [hth1]; intro hop; have := mayA_spawn hmy hop; exact ⟨this.1, by unfold freeA at this ⊢; rw [hP1]; exact this.2⟩)
                (by
                  rw [hth1]
                  intro hop
                  have h3 := mayA_isA hmy hop
                  unfold isA hasA regA at h3 ⊢
                  rw [hth1, hP1]
                  exact h3) (by rw [hth1]; intro hop; exact mayA_lock hmy (by simp only at hop; omega))
              rw [hpl1, p3, Int.toNat_of_nonneg p0] at h1
              exact h1
            rw [hc] at HF
            have HMY2 := HMY
            rw [h00, hmy] at HMY2
            have ho1 : ((a.th e.slot.toNat).deed.op != e.op) = false := by simp [ho]
            have HC0 := Lib.hid h00
            rw [h00] at HF HFG HST
            clear hc ho hmy HMY h00 hw1 hth1 ht1 hpl1 hP1 ha1
            generalize doesA a1 e.slot.toNat = a2 at *
            generalize (a.th e.slot.toNat).deed.op = o at *
            generalize e.slot.toNat = t at *
            clear h hw hd hs h0 hk hg hr v1 v2 hu hfit p0 p1 p2 p3 ht hx
            go_enter Try.func57, Try.ntmps57
            go_wp2_with fail
            try rw [hwb]
            go_wp2_with fail
            refine (HRU.out).mono ?_
            rintro x w1 ⟨rfl, hk1⟩
            go_wp2_with fail
            (refine wp_region_phases (n := 30) (listed := #[false, false, false, false, false, false, false, false, false, false, false, false, false, false, false, false, false, false, false, false, false, false, false, false, false, false, false, false, false, false]) (by kernel_rfl) (by rfl) (by rfl) ?_)
            (refine wpAny_phase (fun W => Kept [] wb W) [(0, false), (1, false), (2, false), (3, false), (4, false), (5, false), (6, false), (7, false), (8, false), (9, false), (10, false), (11, false), (12, false), (13, false), (14, false), (15, false), (16, false), (17, false), (18, false), (19, false), (20, false), (21, false), (22, false), (23, false), (24, false), (25, false), (26, false), (27, false), (28, false), (29, false)] (f := 0) (listed := #[false, false, false, false, false, false, false, false, false, false, false, false, false, false, false, false, false, false, false, false, false, false, false, false, false, false, false, false, false, false]) (listed' := #[true, true, true, true, true, true, true, true, true, true, true, true, true, true, true, true, true, true, true, true, true, true, true, true, true, true, true, true, true, true]) (by kernel_rfl) (by kernel_rfl) (by rfl) (hk1).drew (fun d _ _ _ _ h => by cases d <;> exact h) ?_)
            iterate 27 (first | (refine wpQL_take (v := ?_) rfl ?_ ?_ ?_; rotate_left; (focus (first | rfl | (go_simp; done))); (focus ((intro W hC; have hF := HF.out W hC; go_simp); try (with_reducible rfl))); (try dsimp only [Act.put]); (try simp only [List.setIfInBounds_toArray, List.set_cons_zero, List.set_cons_succ])) | (refine wpQL_not rfl ?_ ?_; (focus (go_simp; done)); (try dsimp only [Act.put]); (try simp only [List.setIfInBounds_toArray, List.set_cons_zero, List.set_cons_succ])))
            (first | (refine wpQL_call nth_27 ?_ ?_ (fun W hC => quiet_call hC (HMY2.out W hC)) ?_; (focus (go_simp; done)); (focus (intro W hC; go_simp; try (with_reducible rfl))); (try dsimp only [Act.put]); (try simp only [List.setIfInBounds_toArray, List.set_cons_zero, List.set_cons_succ])) | (refine wpQL_not nth_27 ?_ ?_; (focus (go_simp; done)); (try dsimp only [Act.put]); (try simp only [List.setIfInBounds_toArray, List.set_cons_zero, List.set_cons_succ])))
            iterate 2 (first | (refine wpQL_take (v := ?_) rfl ?_ ?_ ?_; rotate_left; (focus (first | rfl | (go_simp; done))); (focus ((intro W hC; go_simp); try (with_reducible rfl))); (try dsimp only [Act.put]); (try simp only [List.setIfInBounds_toArray, List.set_cons_zero, List.set_cons_succ])) | (refine wpQL_not rfl ?_ ?_; (focus (go_simp; done)); (try dsimp only [Act.put]); (try simp only [List.setIfInBounds_toArray, List.set_cons_zero, List.set_cons_succ])))
            (refine wpQL_nil ?_)
            (intro wq hq)
            (refine wpAny_done (by kernel_rfl) ?_ _)
            have hq2 := hq
            go_wp2_with fail
            obtain ⟨⟨⟨x22, c22⟩, ⟨x30, c30⟩, cf, cg⟩, hA5⟩ := HST.out _ hq
            have HA5 := Lib.hid hA5
            clear hA5
            (refine wp_region_held_drew (S := fun W => Kept [gT b] wb W) (by kernel_rfl) ((hq.mono (by simp))).drew (fun hHeld => ?_))
            (refine held_take (i := 0) (v := ?_) (listed := #[false, false, false, false, false, false, false, false, false, false]) nth_0 (by kernel_rfl) (by kernel_rfl) (by kernel_rfl) (fun _ _ _ h => h) (Or.inl ⟨by rfl, ?_⟩) (by assumption) ?_; rotate_left; (focus ((intro W hC; go_simp); try (with_reducible rfl))); (try dsimp only [Act.put]); (try simp only [List.setIfInBounds_toArray, List.set_cons_zero, List.set_cons_succ]))
            (refine held_take (i := 1) (v := ?_) (listed := #[true, false, false, false, false, false, false, false, false, false]) nth_1 (by kernel_rfl) (by kernel_rfl) (by kernel_rfl) (fun _ _ _ h => h) (Or.inl ⟨by rfl, ?_⟩) (by assumption) ?_; rotate_left; (focus ((intro W hC; go_simp); try (with_reducible rfl))); (try dsimp only [Act.put]); (try simp only [List.setIfInBounds_toArray, List.set_cons_zero, List.set_cons_succ]))
            (refine held_take (i := 2) (v := ?_) (listed := #[true, true, false, false, false, false, false, false, false, false]) nth_2 (by kernel_rfl) (by kernel_rfl) (by kernel_rfl) (fun _ _ _ h => h) (Or.inl ⟨by rfl, ?_⟩) (by assumption) ?_; rotate_left; (focus ((intro W hC; go_simp); try (with_reducible rfl))); (try dsimp only [Act.put]); (try simp only [List.setIfInBounds_toArray, List.set_cons_zero, List.set_cons_succ]))
            (refine held_take (i := 3) (v := ?_) (listed := #[true, true, true, false, false, false, false, false, false, false]) nth_3 (by kernel_rfl) (by kernel_rfl) (by kernel_rfl) (fun _ _ _ h => h) (Or.inl ⟨by rfl, ?_⟩) (by assumption) ?_; rotate_left; (focus ((intro W hC; have hF := HFG.out W hC; go_simp); try (with_reducible rfl))); (try dsimp only [Act.put]); (try simp only [List.setIfInBounds_toArray, List.set_cons_zero, List.set_cons_succ]))
            (refine held_take (i := 4) (v := ?_) (listed := #[true, true, true, true, false, false, false, false, false, false]) nth_4 (by kernel_rfl) (by kernel_rfl) (by kernel_rfl) (fun _ _ _ h => h) (Or.inl ⟨by rfl, ?_⟩) (by assumption) ?_; rotate_left; (focus ((intro W hC; go_simp); try (with_reducible rfl))); (try dsimp only [Act.put]); (try simp only [List.setIfInBounds_toArray, List.set_cons_zero, List.set_cons_succ]))
            (refine held_take (i := 5) (v := ?_) (listed := #[true, true, true, true, true, false, false, false, false, false]) nth_5 (by kernel_rfl) (by kernel_rfl) (by kernel_rfl) (fun _ _ _ h => h) (Or.inl ⟨by rfl, ?_⟩) (by assumption) ?_; rotate_left; (focus ((intro W hC; go_simp); try (with_reducible rfl))); (try dsimp only [Act.put]); (try simp only [List.setIfInBounds_toArray, List.set_cons_zero, List.set_cons_succ]))
            (refine wpAnyH_ready (rs := [6]) (by kernel_rfl) (by simp) ?_; refine held_cons nth_6 (fun K hK => ?_) AllReadyH.nil)
            go_simp
            (refine hK.out _ _ ((by show Kept _ _ _; (repeat (first | (with_reducible refine Kept.drew ?_) | (with_reducible refine Kept.setCell ?_ (.inl (by simp)) _))); (with_reducible exact hq2.mono (by simp)))) (fun hHeld => ?_); clear hK K)
            (try dsimp only [Act.put]); (try simp only [List.setIfInBounds_toArray, List.set_cons_zero, List.set_cons_succ])
            (refine held_take (i := 7) (v := ?_) (listed := #[true, true, true, true, true, true, true, false, false, false]) nth_7 (by kernel_rfl) (by kernel_rfl) (by kernel_rfl) (fun _ _ _ h => h) (Or.inl ⟨by rfl, ?_⟩) (by assumption) ?_; rotate_left; (focus ((intro W hC; go_simp); try (with_reducible rfl))); (try dsimp only [Act.put]); (try simp only [List.setIfInBounds_toArray, List.set_cons_zero, List.set_cons_succ]))
            (refine held_take (i := 8) (v := ?_) (listed := #[true, true, true, true, true, true, true, true, false, false]) nth_8 (by kernel_rfl) (by kernel_rfl) (by kernel_rfl) (fun _ _ _ h => h) (Or.inl ⟨by rfl, ?_⟩) (by assumption) ?_; rotate_left; (focus ((intro W hC; go_simp); try (with_reducible rfl))); (try dsimp only [Act.put]); (try simp only [List.setIfInBounds_toArray, List.set_cons_zero, List.set_cons_succ]))
            (refine wpAnyH_ready (rs := [9]) (by kernel_rfl) (by simp) ?_; refine held_cons nth_9 (fun K hK => ?_) AllReadyH.nil)
            go_simp
            (refine hK.out _ _ ((by show Kept _ _ _; (repeat (first | (with_reducible refine Kept.drew ?_) | (with_reducible refine Kept.setCell ?_ (.inl (by simp)) _))); (with_reducible exact hq2.mono (by simp)))) (fun hHeld => ?_); clear hK K)
            (try dsimp only [Act.put]); (try simp only [List.setIfInBounds_toArray, List.set_cons_zero, List.set_cons_succ])
            (refine wpAnyH_done (by kernel_rfl) ?_ _)
            have hev9 := HFG.out _ hHeld
            have hA9 := HA5.out
            generalize ((wq.setCell ⟨gT b, t * 31 + 22, none⟩ (.int .i64 2)).setCell ⟨gT b, t * 31 + 30, none⟩ (.int .i64 0)).drew = w9 at *
            have HD9 := Lib.hid (HDO.out _ hA9)
            clear HA5 hA9 c22 c30 cf cg hHeld hq hq2 hk1
            go_wp2_with fail
            refine (HD9.out).mono ?_
            rintro x w10 ⟨rfl, hA10⟩
            have HA10 := Lib.hid hA10
            clear hA10
            go_wp2_with fail
            go_ret
            exact ⟨rfl, HA10.out⟩
          · rw [ha1, if_neg h00]
            rw [hc] at HF
            have HMY2 := HMY
            rw [hmy] at HMY2
            have ho1 : ((a.th e.slot.toNat).deed.op != e.op) = false := by simp [ho]
            have hz1 : (e.code == 0) = false := beq_eq_false_iff_ne.2 h00
            clear hc ho hmy HMY h00 hth1 ht1 hpl1 hP1 ha1
            generalize (a.th e.slot.toNat).deed.op = o at *
            generalize e.slot.toNat = t at *
            clear h hw hd hs h0 hk hg hr v1 v2 hu hfit p0 p1 p2 p3 ht hx
            go_enter Try.func57, Try.ntmps57
            go_wp2_with fail
            try rw [hwb]
            go_wp2_with fail
            refine (HRU.out).mono ?_
            rintro x w1 ⟨rfl, hk1⟩
            go_wp2_with fail
            (refine wp_region_phases (n := 30) (listed := #[false, false, false, false, false, false, false, false, false, false, false, false, false, false, false, false, false, false, false, false, false, false, false, false, false, false, false, false, false, false]) (by kernel_rfl) (by rfl) (by rfl) ?_)
            (refine wpAny_phase (fun W => Kept [] wb W) [(0, false), (1, false), (2, false), (3, false), (4, false), (5, false), (6, false), (7, false), (8, false), (9, false), (10, false), (11, false), (12, false), (13, false), (14, false), (15, false), (16, false), (17, false), (18, false), (19, false), (20, false), (21, false), (22, false), (23, false), (24, false), (25, false), (26, false), (27, false), (28, false), (29, false)] (f := 0) (listed := #[false, false, false, false, false, false, false, false, false, false, false, false, false, false, false, false, false, false, false, false, false, false, false, false, false, false, false, false, false, false]) (listed' := #[true, true, true, true, true, true, true, true, true, true, true, true, true, true, true, true, true, true, true, true, true, true, true, true, true, true, true, true, true, true]) (by kernel_rfl) (by kernel_rfl) (by rfl) (hk1).drew (fun d _ _ _ _ h => by cases d <;> exact h) ?_)
            iterate 27 (first | (refine wpQL_take (v := ?_) rfl ?_ ?_ ?_; rotate_left; (focus (first | rfl | (go_simp; done))); (focus ((intro W hC; have hF := HF.out W hC; go_simp); try (with_reducible rfl))); (try dsimp only [Act.put]); (try simp only [List.setIfInBounds_toArray, List.set_cons_zero, List.set_cons_succ])) | (refine wpQL_not rfl ?_ ?_; (focus (go_simp; done)); (try dsimp only [Act.put]); (try simp only [List.setIfInBounds_toArray, List.set_cons_zero, List.set_cons_succ])))
            (first | (refine wpQL_call nth_27 ?_ ?_ (fun W hC => quiet_call hC (HMY2.out W hC)) ?_; (focus (go_simp; done)); (focus (intro W hC; go_simp; try (with_reducible rfl))); (try dsimp only [Act.put]); (try simp only [List.setIfInBounds_toArray, List.set_cons_zero, List.set_cons_succ])) | (refine wpQL_not nth_27 ?_ ?_; (focus (go_simp; done)); (try dsimp only [Act.put]); (try simp only [List.setIfInBounds_toArray, List.set_cons_zero, List.set_cons_succ])))
            iterate 2 (first | (refine wpQL_take (v := ?_) rfl ?_ ?_ ?_; rotate_left; (focus (first | rfl | (go_simp; done))); (focus ((intro W hC; go_simp); try (with_reducible rfl))); (try dsimp only [Act.put]); (try simp only [List.setIfInBounds_toArray, List.set_cons_zero, List.set_cons_succ])) | (refine wpQL_not rfl ?_ ?_; (focus (go_simp; done)); (try dsimp only [Act.put]); (try simp only [List.setIfInBounds_toArray, List.set_cons_zero, List.set_cons_succ])))
            (refine wpQL_nil ?_)
            (intro wq hq)
            (refine wpAny_done (by kernel_rfl) ?_ _)
            have hq2 := hq
            go_wp2_with fail
            obtain ⟨⟨⟨x22, c22⟩, ⟨x30, c30⟩, cf, cg⟩, hA5⟩ := HST.out _ hq
            have HA5 := Lib.hid hA5
            clear hA5
            (refine wp_region_held_drew (S := fun W => Kept [gT b] wb W) (by kernel_rfl) ((hq.mono (by simp))).drew (fun hHeld => ?_))
            (refine held_take (i := 0) (v := ?_) (listed := #[false, false, false, false, false, false, false, false, false, false]) nth_0 (by kernel_rfl) (by kernel_rfl) (by kernel_rfl) (fun _ _ _ h => h) (Or.inl ⟨by rfl, ?_⟩) (by assumption) ?_; rotate_left; (focus ((intro W hC; go_simp); try (with_reducible rfl))); (try dsimp only [Act.put]); (try simp only [List.setIfInBounds_toArray, List.set_cons_zero, List.set_cons_succ]))
            (refine held_take (i := 1) (v := ?_) (listed := #[true, false, false, false, false, false, false, false, false, false]) nth_1 (by kernel_rfl) (by kernel_rfl) (by kernel_rfl) (fun _ _ _ h => h) (Or.inl ⟨by rfl, ?_⟩) (by assumption) ?_; rotate_left; (focus ((intro W hC; go_simp); try (with_reducible rfl))); (try dsimp only [Act.put]); (try simp only [List.setIfInBounds_toArray, List.set_cons_zero, List.set_cons_succ]))
            (refine held_take (i := 2) (v := ?_) (listed := #[true, true, false, false, false, false, false, false, false, false]) nth_2 (by kernel_rfl) (by kernel_rfl) (by kernel_rfl) (fun _ _ _ h => h) (Or.inl ⟨by rfl, ?_⟩) (by assumption) ?_; rotate_left; (focus ((intro W hC; go_simp); try (with_reducible rfl))); (try dsimp only [Act.put]); (try simp only [List.setIfInBounds_toArray, List.set_cons_zero, List.set_cons_succ]))
            (refine held_take (i := 3) (v := ?_) (listed := #[true, true, true, false, false, false, false, false, false, false]) nth_3 (by kernel_rfl) (by kernel_rfl) (by kernel_rfl) (fun _ _ _ h => h) (Or.inl ⟨by rfl, ?_⟩) (by assumption) ?_; rotate_left; (focus ((intro W hC; have hF := HFG.out W hC; go_simp); try (with_reducible rfl))); (try dsimp only [Act.put]); (try simp only [List.setIfInBounds_toArray, List.set_cons_zero, List.set_cons_succ]))
            (refine held_take (i := 4) (v := ?_) (listed := #[true, true, true, true, false, false, false, false, false, false]) nth_4 (by kernel_rfl) (by kernel_rfl) (by kernel_rfl) (fun _ _ _ h => h) (Or.inl ⟨by rfl, ?_⟩) (by assumption) ?_; rotate_left; (focus ((intro W hC; go_simp); try (with_reducible rfl))); (try dsimp only [Act.put]); (try simp only [List.setIfInBounds_toArray, List.set_cons_zero, List.set_cons_succ]))
            (refine held_take (i := 5) (v := ?_) (listed := #[true, true, true, true, true, false, false, false, false, false]) nth_5 (by kernel_rfl) (by kernel_rfl) (by kernel_rfl) (fun _ _ _ h => h) (Or.inl ⟨by rfl, ?_⟩) (by assumption) ?_; rotate_left; (focus ((intro W hC; go_simp); try (with_reducible rfl))); (try dsimp only [Act.put]); (try simp only [List.setIfInBounds_toArray, List.set_cons_zero, List.set_cons_succ]))
            (refine wpAnyH_ready (rs := [6]) (by kernel_rfl) (by simp) ?_; refine held_cons nth_6 (fun K hK => ?_) AllReadyH.nil)
            go_simp
            (refine hK.out _ _ ((by show Kept _ _ _; (repeat (first | (with_reducible refine Kept.drew ?_) | (with_reducible refine Kept.setCell ?_ (.inl (by simp)) _))); (with_reducible exact hq2.mono (by simp)))) (fun hHeld => ?_); clear hK K)
            (try dsimp only [Act.put]); (try simp only [List.setIfInBounds_toArray, List.set_cons_zero, List.set_cons_succ])
            (refine held_take (i := 7) (v := ?_) (listed := #[true, true, true, true, true, true, true, false, false, false]) nth_7 (by kernel_rfl) (by kernel_rfl) (by kernel_rfl) (fun _ _ _ h => h) (Or.inl ⟨by rfl, ?_⟩) (by assumption) ?_; rotate_left; (focus ((intro W hC; go_simp); try (with_reducible rfl))); (try dsimp only [Act.put]); (try simp only [List.setIfInBounds_toArray, List.set_cons_zero, List.set_cons_succ]))
            (refine held_take (i := 8) (v := ?_) (listed := #[true, true, true, true, true, true, true, true, false, false]) nth_8 (by kernel_rfl) (by kernel_rfl) (by kernel_rfl) (fun _ _ _ h => h) (Or.inl ⟨by rfl, ?_⟩) (by assumption) ?_; rotate_left; (focus ((intro W hC; go_simp); try (with_reducible rfl))); (try dsimp only [Act.put]); (try simp only [List.setIfInBounds_toArray, List.set_cons_zero, List.set_cons_succ]))
            (refine wpAnyH_ready (rs := [9]) (by kernel_rfl) (by simp) ?_; refine held_cons nth_9 (fun K hK => ?_) AllReadyH.nil)
            go_simp
            (refine hK.out _ _ ((by show Kept _ _ _; (repeat (first | (with_reducible refine Kept.drew ?_) | (with_reducible refine Kept.setCell ?_ (.inl (by simp)) _))); (with_reducible exact hq2.mono (by simp)))) (fun hHeld => ?_); clear hK K)
            (try dsimp only [Act.put]); (try simp only [List.setIfInBounds_toArray, List.set_cons_zero, List.set_cons_succ])
            (refine wpAnyH_done (by kernel_rfl) ?_ _)
            have hev9 := HFG.out _ hHeld
            have hA9 := HA5.out
            generalize ((wq.setCell ⟨gT b, t * 31 + 22, none⟩ (.int .i64 2)).setCell ⟨gT b, t * 31 + 30, none⟩ (.int .i64 e.code)).drew = w9 at *
            have HA9 := Lib.hid hA9
            clear HA5 hA9 c22 c30 cf cg hHeld hq hq2 hk1
            go_wp2_with fail
            go_ret
            exact ⟨rfl, HA9.out⟩
      · rw [if_neg (by simp [ho])] at hs
        obtain ⟨v1, v2⟩ := step_no hs
        rw [v1, v2]
        rw [hc] at HF
        have ho1 : ((a.th e.slot.toNat).deed.op != e.op) = true := bne_iff_ne.2 ho
        clear hc ho
        generalize mayA d a e.slot.toNat e.code = my at *
        generalize (a.th e.slot.toNat).deed.op = o at *
        generalize e.slot.toNat = t at *
        clear h hw hd hs h0 hk hg hr v1 v2 hu hfit p0 p1 p2 p3 ht hx
        go_enter Try.func57, Try.ntmps57
        go_wp2_with fail
        try rw [hwb]
        go_wp2_with fail
        refine (HRU.out).mono ?_
        rintro x w1 ⟨rfl, hk1⟩
        go_wp2_with fail
        (refine wp_region_phases (n := 30) (listed := #[false, false, false, false, false, false, false, false, false, false, false, false, false, false, false, false, false, false, false, false, false, false, false, false, false, false, false, false, false, false]) (by kernel_rfl) (by rfl) (by rfl) ?_)
        (refine wpAny_phase (fun W => Kept [] wb W) [(0, false), (1, false), (2, false), (3, false), (4, false), (5, false), (6, false), (7, false), (8, false), (9, false), (10, false), (11, false), (12, false), (13, false), (14, false), (15, false), (16, false), (17, false), (18, false), (19, false), (20, false), (21, false), (22, false), (23, false), (24, false), (25, false), (26, false), (27, false), (28, false), (29, false)] (f := 0) (listed := #[false, false, false, false, false, false, false, false, false, false, false, false, false, false, false, false, false, false, false, false, false, false, false, false, false, false, false, false, false, false]) (listed' := #[true, true, true, true, true, true, true, true, true, true, true, true, true, true, true, true, true, true, true, true, true, true, true, true, true, true, true, true, true, true]) (by kernel_rfl) (by kernel_rfl) (by rfl) (hk1).drew (fun d _ _ _ _ h => by cases d <;> exact h) ?_)
        iterate 27 (first | (refine wpQL_take (v := ?_) rfl ?_ ?_ ?_; rotate_left; (focus (first | rfl | (go_simp; done))); (focus ((intro W hC; have hF := HF.out W hC; go_simp); try (with_reducible rfl))); (try dsimp only [Act.put]); (try simp only [List.setIfInBounds_toArray, List.set_cons_zero, List.set_cons_succ])) | (refine wpQL_not rfl ?_ ?_; (focus (go_simp; done)); (try dsimp only [Act.put]); (try simp only [List.setIfInBounds_toArray, List.set_cons_zero, List.set_cons_succ])))
        (first | (refine wpQL_call nth_27 ?_ ?_ (fun W hC => quiet_call hC (HMY.out W hC)) ?_; (focus (go_simp; done)); (focus (intro W hC; go_simp; try (with_reducible rfl))); (try dsimp only [Act.put]); (try simp only [List.setIfInBounds_toArray, List.set_cons_zero, List.set_cons_succ])) | (refine wpQL_not nth_27 ?_ ?_; (focus (go_simp; done)); (try dsimp only [Act.put]); (try simp only [List.setIfInBounds_toArray, List.set_cons_zero, List.set_cons_succ])))
        iterate 2 (first | (refine wpQL_take (v := ?_) rfl ?_ ?_ ?_; rotate_left; (focus (first | rfl | (go_simp; done))); (focus ((intro W hC; go_simp); try (with_reducible rfl))); (try dsimp only [Act.put]); (try simp only [List.setIfInBounds_toArray, List.set_cons_zero, List.set_cons_succ])) | (refine wpQL_not rfl ?_ ?_; (focus (go_simp; done)); (try dsimp only [Act.put]); (try simp only [List.setIfInBounds_toArray, List.set_cons_zero, List.set_cons_succ])))
        (refine wpQL_nil ?_)
        (intro wq hq)
        (refine wpAny_done (by kernel_rfl) ?_ _)
        go_wp2_with fail
        go_ret
        exact ⟨rfl, HFIN.out _ hq⟩
    · rw [if_neg (by simp [hc])] at hs
      obtain ⟨v1, v2⟩ := step_no hs
      rw [v1, v2]
      have hc1 : ((a.th e.slot.toNat).call != 1) = true := bne_iff_ne.2 hc
      clear hc
      generalize mayA d a e.slot.toNat e.code = my at *
      generalize (a.th e.slot.toNat).deed.op = o at *
      generalize (a.th e.slot.toNat).call = z at *
      generalize e.slot.toNat = t at *
      clear h hw hd hs h0 hk hg hr v1 v2 hu hfit p0 p1 p2 p3 ht hx
      go_enter Try.func57, Try.ntmps57
      go_wp2_with fail
      try rw [hwb]
      go_wp2_with fail
      refine (HRU.out).mono ?_
      rintro x w1 ⟨rfl, hk1⟩
      go_wp2_with fail
      (refine wp_region_phases (n := 30) (listed := #[false, false, false, false, false, false, false, false, false, false, false, false, false, false, false, false, false, false, false, false, false, false, false, false, false, false, false, false, false, false]) (by kernel_rfl) (by rfl) (by rfl) ?_)
      (refine wpAny_phase (fun W => Kept [] wb W) [(0, false), (1, false), (2, false), (3, false), (4, false), (5, false), (6, false), (7, false), (8, false), (9, false), (10, false), (11, false), (12, false), (13, false), (14, false), (15, false), (16, false), (17, false), (18, false), (19, false), (20, false), (21, false), (22, false), (23, false), (24, false), (25, false), (26, false), (27, false), (28, false), (29, false)] (f := 0) (listed := #[false, false, false, false, false, false, false, false, false, false, false, false, false, false, false, false, false, false, false, false, false, false, false, false, false, false, false, false, false, false]) (listed' := #[true, true, true, true, true, true, true, true, true, true, true, true, true, true, true, true, true, true, true, true, true, true, true, true, true, true, true, true, true, true]) (by kernel_rfl) (by kernel_rfl) (by rfl) (hk1).drew (fun d _ _ _ _ h => by cases d <;> exact h) ?_)
      iterate 27 (first | (refine wpQL_take (v := ?_) rfl ?_ ?_ ?_; rotate_left; (focus (first | rfl | (go_simp; done))); (focus ((intro W hC; have hF := HF.out W hC; go_simp); try (with_reducible rfl))); (try dsimp only [Act.put]); (try simp only [List.setIfInBounds_toArray, List.set_cons_zero, List.set_cons_succ])) | (refine wpQL_not rfl ?_ ?_; (focus (go_simp; done)); (try dsimp only [Act.put]); (try simp only [List.setIfInBounds_toArray, List.set_cons_zero, List.set_cons_succ])))
      (first | (refine wpQL_call nth_27 ?_ ?_ (fun W hC => quiet_call hC (HMY.out W hC)) ?_; (focus (go_simp; done)); (focus (intro W hC; go_simp; try (with_reducible rfl))); (try dsimp only [Act.put]); (try simp only [List.setIfInBounds_toArray, List.set_cons_zero, List.set_cons_succ])) | (refine wpQL_not nth_27 ?_ ?_; (focus (go_simp; done)); (try dsimp only [Act.put]); (try simp only [List.setIfInBounds_toArray, List.set_cons_zero, List.set_cons_succ])))
      iterate 2 (first | (refine wpQL_take (v := ?_) rfl ?_ ?_ ?_; rotate_left; (focus (first | rfl | (go_simp; done))); (focus ((intro W hC; go_simp); try (with_reducible rfl))); (try dsimp only [Act.put]); (try simp only [List.setIfInBounds_toArray, List.set_cons_zero, List.set_cons_succ])) | (refine wpQL_not rfl ?_ ?_; (focus (go_simp; done)); (try dsimp only [Act.put]); (try simp only [List.setIfInBounds_toArray, List.set_cons_zero, List.set_cons_succ])))
      (refine wpQL_nil ?_)
      (intro wq hq)
      (refine wpAny_done (by kernel_rfl) ?_ _)
      go_wp2_with fail
      go_ret
      exact ⟨rfl, HFIN.out _ hq⟩

end Go.Proofs.Ytccodklfplfleaa
