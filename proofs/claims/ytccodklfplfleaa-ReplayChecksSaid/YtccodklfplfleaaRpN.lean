/- Package replay: returns, walked. -/
import Derived.Test.YtccodklfplfleaaRpL
namespace Go.Proofs.Ytccodklfplfleaa
open Go.RowKit

theorem stepA_ret {d : Du} {a : Acc} {e : Ev} (hk : e.kind = 3) : stepA d a e = if runsA a e = false then none else if returnsA a e.slot.toNat e.code then some { a with T := a.T.set e.slot.toNat { a.th e.slot.toNat with call := 0 }, held := if ((a.th e.slot.toNat).deed.op = 9 ∨ (a.th e.slot.toNat).deed.op = 10) ∧ e.code = 0 then a.held.set (a.th e.slot.toNat).deed.a.toNat e.slot.toNat else a.held } else none := by
  unfold stepA stepB
  rw [if_neg (by omega), if_neg (by omega), if_neg (by omega), if_neg (by omega)]
  by_cases h : runsA a e = false
  · rw [if_pos h, if_pos h]
  · rw [if_neg h, if_neg h, if_neg (by omega), if_neg (by omega), if_neg (by omega), if_neg (by omega), if_neg (by omega)]

set_option maxHeartbeats 6400000 in
set_option maxRecDepth 100000 in
theorem rpreturns_h : HandlesU 58 3 := by
  intro w0 w b d a K h hw hd hu hfit e hk hg
  have hs := stepA_ret (d := d) (a := a) hk
  obtain ⟨wb, hwb⟩ : ∃ wb, w.alloc (.cells (eC e.step e.cpu e.kind e.slot e.gen e.op e.code e.n) 55) = wb := ⟨_, rfl⟩
  have h0 : Kept [] w wb := by rw [← hwb]; exact (Kept.refl _ _).alloc _
  have HRU := Lib.hid (rpruns_any (AccAt.old h.at' h0) hw e)
  have HEV := Lib.hid (ev_box hwb)
  have hev := HEV.out wb (Kept.refl _ _)
  have HFIN : Hid (∀ W, Kept [] wb W → AccIs w0 W b d a K) := fun W hk => h.old (h0.trans hk)
  cases hr : runsA a e with
  | false =>
    rw [hr, if_neg (by simp)] at HRU
    rw [hr, if_pos rfl] at hs
    obtain ⟨v1, v2⟩ := step_no hs
    rw [v1, v2]
    clear h hw hd hs h0 hk hg hr v1 v2 hu hfit
    go_enter Try.func58, Try.ntmps58
    go_wp2_with fail
    try rw [hwb]
    go_wp2_with fail
    refine (HRU.out).mono ?_
    rintro x w1 ⟨rfl, hk1⟩
    have HK1 := Lib.hid hk1
    clear hk1
    go_wp2_with fail
    go_ret
    exact ⟨rfl, HFIN.out _ HK1.out⟩
  | true =>
    rw [hr, if_pos rfl] at HRU
    rw [hr, if_neg (by simp)] at hs
    obtain ⟨p0, p1, p2, p3⟩ := hasA_lt (runsA_has hr)
    have ht : e.slot.toNat < a.T.length := by rw [hw.tl]; exact p1
    have hx := hw.at_ ht
    have HF : Hid (∀ W, Kept [] wb W → ((W.cell? ⟨b.g, 9, none⟩ = some (.pointer (some ⟨b.gr, 0, none⟩)) ∧ W.cell? ⟨b.g, 10, none⟩ = some (.slice b.AT a.T.length b.cT) ∧ W.cell? ⟨b.g, 11, none⟩ = some (.slice b.AH a.held.length b.cH) ∧ b.g < W.heap.size) ∧ (W.cell? ⟨w.heap.size, 0, none⟩ = some (.int .i64 e.step) ∧ W.cell? ⟨w.heap.size, 1, none⟩ = some (.int .i64 e.cpu) ∧ W.cell? ⟨w.heap.size, 2, none⟩ = some (.int .i64 e.kind) ∧ W.cell? ⟨w.heap.size, 3, none⟩ = some (.int .i64 e.slot) ∧ W.cell? ⟨w.heap.size, 4, none⟩ = some (.int .u32 e.gen) ∧ W.cell? ⟨w.heap.size, 5, none⟩ = some (.int .i64 e.op) ∧ W.cell? ⟨w.heap.size, 6, none⟩ = some (.int .i64 e.code) ∧ W.cell? ⟨w.heap.size, 7, none⟩ = some (.int .u64 e.n) ∧ w.heap.size < W.heap.size)) ∧ W.cell? ⟨gT b, e.slot.toNat * 31 + 22, none⟩ = some (.int .i64 (a.th e.slot.toNat).call) ∧ W.cell? ⟨gT b, e.slot.toNat * 31 + 23, none⟩ = some (.int .i64 (a.th e.slot.toNat).deed.op) ∧ W.cell? ⟨gT b, e.slot.toNat * 31 + 24, none⟩ = some (.int .i64 (a.th e.slot.toNat).deed.a) ∧ W.cell? ⟨gT b, e.slot.toNat * 31 + 30, none⟩ = some (.int .i64 (a.th e.slot.toNat).code) ∧ gT b < W.heap.size ∧ ∀ j, W.frozen? ⟨gT b, j, none⟩ = false) := fun W hk => by
      have h1 := AccAt.old h.at' (h0.trans hk)
      have k8 := AccAt.tf h1 ht
      have k9 := AccAt.df h1 ht
      exact ⟨⟨AccAt.fact h.at' W (h0.trans hk), HEV.out W hk⟩, k8.2.1, k9.1, k9.2.1, k8.2.2.1, k8.2.2.2, AccAt.frz h1 ht⟩
    have HNO : Hid (returnsA a e.slot.toNat e.code = false → (stepA d a e).isSome = false ∧ (stepA d a e).getD a = a) := fun hn => by
      rw [hn, if_neg (by simp)] at hs
      exact step_no hs
    -- the call's own code
    by_cases hc : (if (a.th e.slot.toNat).call = 3 then e.code == 0 || (decide ((a.th e.slot.toNat).deed.op = 10) && e.code == 13) else decide ((a.th e.slot.toNat).call = 2) && (a.th e.slot.toNat).code == e.code) = true
    · by_cases hlk : ((a.th e.slot.toNat).deed.op = 9 ∨ (a.th e.slot.toNat).deed.op = 10) ∧ e.code = 0
      · have hal : (a.th e.slot.toNat).deed.a < d.locks := by
          refine hx.lock ?_ hlk.1
          by_cases h3 : (a.th e.slot.toNat).call = 3
          · exact .inr h3
          · rw [if_neg h3] at hc
            simp at hc
            exact .inl ⟨hc.1, by rw [hc.2]; exact hlk.2⟩
        obtain ⟨hlk1, hlk2⟩ := hlk
        have ha0 := hx.deed.1
        have hal2 : (a.th e.slot.toNat).deed.a.toNat < a.held.length := by have := hw.hl; omega
        have hge := hfit.held _ hal2
        have hret : returnsA a e.slot.toNat e.code = decide (a.hl (a.th e.slot.toNat).deed.a.toNat < 0) := by
          unfold returnsA
          rw [hc, decide_eq_true hlk1, hlk2]
          rfl
        have hin : (a.th e.slot.toNat).deed.a < (a.held.length : Int) := by omega
        have HZ : Hid (((a.th e.slot.toNat).call = 3 ∨ ((a.th e.slot.toNat).call = 2 ∧ (a.th e.slot.toNat).code = 0))) := by
          by_cases h3 : (a.th e.slot.toNat).call = 3
          · exact .inl h3
          · rw [if_neg h3] at hc
            simp at hc
            exact .inr ⟨hc.1, by rw [hc.2]; exact hlk2⟩
        have HO := Lib.hid hlk1
        have HHD : Hid (∀ W, Kept [] wb W → ∃ g, b.AH = some ⟨g, 0, none⟩ ∧ W.cell? ⟨g, (a.th e.slot.toNat).deed.a.toNat, none⟩ = some (.int .i64 (a.hl (a.th e.slot.toNat).deed.a.toNat)) ∧ g < W.heap.size ∧ ∀ j, W.frozen? ⟨g, j, none⟩ = false) := fun W hk => AccAt.hld (AccAt.old h.at' (h0.trans hk)) _ hal2
        obtain ⟨g, hgA⟩ : ∃ g, b.AH = some ⟨g, 0, none⟩ := by obtain ⟨g, e, _⟩ := HHD.out wb (Kept.refl _ _); exact ⟨g, e⟩
        have HF2 : Hid (∀ W, Kept [] wb W → (((W.cell? ⟨b.g, 9, none⟩ = some (.pointer (some ⟨b.gr, 0, none⟩)) ∧ W.cell? ⟨b.g, 10, none⟩ = some (.slice b.AT a.T.length b.cT) ∧ W.cell? ⟨b.g, 11, none⟩ = some (.slice b.AH a.held.length b.cH) ∧ b.g < W.heap.size) ∧ (W.cell? ⟨w.heap.size, 0, none⟩ = some (.int .i64 e.step) ∧ W.cell? ⟨w.heap.size, 1, none⟩ = some (.int .i64 e.cpu) ∧ W.cell? ⟨w.heap.size, 2, none⟩ = some (.int .i64 e.kind) ∧ W.cell? ⟨w.heap.size, 3, none⟩ = some (.int .i64 e.slot) ∧ W.cell? ⟨w.heap.size, 4, none⟩ = some (.int .u32 e.gen) ∧ W.cell? ⟨w.heap.size, 5, none⟩ = some (.int .i64 e.op) ∧ W.cell? ⟨w.heap.size, 6, none⟩ = some (.int .i64 e.code) ∧ W.cell? ⟨w.heap.size, 7, none⟩ = some (.int .u64 e.n) ∧ w.heap.size < W.heap.size)) ∧ W.cell? ⟨gT b, e.slot.toNat * 31 + 22, none⟩ = some (.int .i64 (a.th e.slot.toNat).call) ∧ W.cell? ⟨gT b, e.slot.toNat * 31 + 23, none⟩ = some (.int .i64 (a.th e.slot.toNat).deed.op) ∧ W.cell? ⟨gT b, e.slot.toNat * 31 + 24, none⟩ = some (.int .i64 (a.th e.slot.toNat).deed.a) ∧ W.cell? ⟨gT b, e.slot.toNat * 31 + 30, none⟩ = some (.int .i64 (a.th e.slot.toNat).code) ∧ gT b < W.heap.size ∧ ∀ j, W.frozen? ⟨gT b, j, none⟩ = false) ∧ W.cell? ⟨g, (a.th e.slot.toNat).deed.a.toNat, none⟩ = some (.int .i64 (a.hl (a.th e.slot.toNat).deed.a.toNat)) ∧ g < W.heap.size ∧ ∀ j, W.frozen? ⟨g, j, none⟩ = false) := fun W hk => by
          obtain ⟨g', e1, e2, e3, e4⟩ := HHD.out W hk
          obtain rfl : g = g' := by rw [hgA] at e1; injection e1 with e1; injection e1
          exact ⟨HF.out W hk, e2, e3, e4⟩
        have hgne : g ≠ gT b := fun e1 => Holds.apart (AccIs.at_ h) (i := 3) (j := 4) (by decide) rfl rfl (gT b) (by rw [AccAt.gt h.at' ht]; simp [Piece.fp, fp_some]) (by rw [hgA]; simp [Piece.fp, fp_some, e1])
        by_cases hhl : a.hl (a.th e.slot.toNat).deed.a.toNat < 0
        · have hz1 : a.hl (a.th e.slot.toNat).deed.a.toNat = -1 := by omega
          rw [decide_eq_true hhl] at hret
          rw [hret, if_pos rfl, if_pos ⟨hlk1, hlk2⟩] at hs
          obtain ⟨v1, v2⟩ := step_yes hs
          rw [v1, v2]
          have HST : Hid (∀ W, Kept [] wb W → AccIs w0 ((W.setCell ⟨g, (a.th e.slot.toNat).deed.a.toNat, none⟩ (.int .i64 e.slot)).setCell ⟨gT b, e.slot.toNat * 31 + 22, none⟩ (.int .i64 0)) b d { a with T := a.T.set e.slot.toNat { a.th e.slot.toNat with call := 0 }, held := a.held.set (a.th e.slot.toNat).deed.a.toNat e.slot.toNat } K) := fun W hk => by
            have h1 := (HFIN.out W hk).setH hgA (a.th e.slot.toNat).deed.a.toNat e.slot
            have h2 := h1.setTh (AccAt.gt h.at' ht) _ (by exact ht) 22 { a.th e.slot.toNat with call := 0 } (.int .i64 0) (by omega) rfl
            rw [Int.toNat_of_nonneg p0]
            exact h2
          rw [hz1, hgA] at HF2
          generalize ({ a with T := a.T.set e.slot.toNat { a.th e.slot.toNat with call := 0 }, held := a.held.set (a.th e.slot.toNat).deed.a.toNat e.slot.toNat } : Acc) = a' at *
          unfold tA at HRU
          generalize (a.th e.slot.toNat).call = z at *
          generalize (a.th e.slot.toNat).deed.op = o at *
          generalize (a.th e.slot.toNat).code = zc at *
          generalize (a.th e.slot.toNat).deed.a = za at *
          generalize a.held.length = nh at *
          clear h hw hd hs h0 hk hg hr v1 v2 hu hfit p1 p2 p3 ht hx hlk1 hal hal2 hge hret HHD hhl hz1 hc HNO HF hgA
          have e0 : (e.code != 0) = false := by simp [hlk2]
          have HC := Lib.hid hlk2
          clear hlk2
          rcases HZ.out with rfl | ⟨rfl, rfl⟩
          · rcases HO.out with rfl | rfl
            all_goals
              clear HZ HO
              go_enter Try.func58, Try.ntmps58
              go_wp2_with fail
              try rw [hwb]
              go_wp2_with fail
              refine (HRU.out).mono ?_
              rintro x w1 ⟨rfl, hk1⟩
              have hf := HF2.out _ hk1
              rw [HC.out] at hf
              go_wp2_with fail
              (refine wp_region_phases (n := 12) (listed := #[false, false, false, false, false, false, false, false, false, false, false, false]) (by kernel_rfl) (by rfl) (by rfl) ?_)
              (refine wpAny_phase (fun W => Kept [] wb W) [(0, false), (1, false), (2, false), (3, false), (4, false), (5, false), (6, false), (7, false), (8, false), (9, false), (10, false), (11, false)] (f := 0) (listed := #[false, false, false, false, false, false, false, false, false, false, false, false]) (listed' := #[true, true, true, true, true, true, true, true, true, true, true, true]) (by kernel_rfl) (by kernel_rfl) (by rfl) (hk1).drew (fun d _ _ _ _ h => by cases d <;> exact h) ?_)
              iterate 12 (refine wpQL_take (v := ?_) rfl (by rfl) ?_ ?_; rotate_left; (focus ((intro W hC; have hF := HF2.out W hC; go_simp); try (with_reducible rfl))); (try dsimp only [Act.put]); (try simp only [List.setIfInBounds_toArray, List.set_cons_zero, List.set_cons_succ]))
              (refine wpQL_nil ?_)
              (intro wq hq)
              (refine wpAny_done (by kernel_rfl) ?_ _)
              have hf2 := HF2.out _ hq
              rw [HC.out] at hf2
              go_wp2_with fail
              (refine wp_region_phases (n := 14) (listed := #[false, false, false, false, false, false, false, false, false, false, false, false, false, false]) (by kernel_rfl) (by rfl) (by rfl) ?_)
              (refine wpAny_phase (fun W => Kept [] wb W) [(0, false), (1, false), (2, false), (3, false), (4, false), (5, false), (6, false), (7, false), (8, false), (9, false), (10, false), (11, false), (12, false)] (f := 1) (listed := #[false, false, false, false, false, false, false, false, false, false, false, false, false, false]) (listed' := #[true, true, true, true, true, true, true, true, true, true, true, true, true, false]) (by kernel_rfl) (by kernel_rfl) (by rfl) (hq).drew (fun d _ _ _ _ h => by cases d <;> exact h) ?_)
              iterate 13 (refine wpQL_take (v := ?_) rfl (by rfl) ?_ ?_; rotate_left; (focus ((intro W hC; have hF := HF2.out W hC; go_simp); try (with_reducible rfl))); (try dsimp only [Act.put]); (try simp only [List.setIfInBounds_toArray, List.set_cons_zero, List.set_cons_succ]))
              (refine wpQL_nil ?_)
              (intro wq hq)
              have hf5 := HF2.out _ hq
              have HS5 := Lib.hid (HST.out _ hq)
              rw [HC.out] at hf5
              obtain ⟨hf6, hf7, hf8, hf9⟩ := hf5
              (refine wpAny_loud 13 (fuel := 0) (listed := #[true, true, true, true, true, true, true, true, true, true, true, true, true, false]) (listed' := #[true, true, true, true, true, true, true, true, true, true, true, true, true, true]) (by kernel_rfl) (by rfl) nth_13 (fun K hK => ?_))
              go_simp
              (refine hK.out _ _ ?_; clear hK K)
              (try simp only [Act.put, List.setIfInBounds_toArray, List.set_cons_zero, List.set_cons_succ])
              (refine wpAny_done (by kernel_rfl) ?_ _)
              go_wp2_with fail
              go_ret
              exact ⟨rfl, HS5.out⟩
          · rcases HO.out with rfl | rfl
            all_goals
              clear HZ HO
              have HF2b := HF2
              rw [HC.out] at HF2b
              go_enter Try.func58, Try.ntmps58
              go_wp2_with fail
              try rw [hwb]
              go_wp2_with fail
              refine (HRU.out).mono ?_
              rintro x w1 ⟨rfl, hk1⟩
              have hf := HF2.out _ hk1
              rw [HC.out] at hf
              go_wp2_with fail
              (refine wp_region_phases (n := 7) (listed := #[false, false, false, false, false, false, false]) (by kernel_rfl) (by rfl) (by rfl) ?_)
              (refine wpAny_phase (fun W => Kept [] wb W) [(0, false), (1, false), (2, false), (3, false), (4, false), (5, false), (6, false)] (f := 0) (listed := #[false, false, false, false, false, false, false]) (listed' := #[true, true, true, true, true, true, true]) (by kernel_rfl) (by kernel_rfl) (by rfl) (hk1).drew (fun d _ _ _ _ h => by cases d <;> exact h) ?_)
              iterate 7 (refine wpQL_take (v := ?_) rfl (by rfl) ?_ ?_; rotate_left; (focus ((intro W hC; have hF := HF2b.out W hC; go_simp); try (with_reducible rfl))); (try dsimp only [Act.put]); (try simp only [List.setIfInBounds_toArray, List.set_cons_zero, List.set_cons_succ]))
              (refine wpQL_nil ?_)
              (intro wq hq)
              (refine wpAny_done (by kernel_rfl) ?_ _)
              have hf1 := HF2b.out _ hq
              have HQ1 := hq
              clear hq
              go_wp2_with fail
              (refine wp_region_phases (n := 12) (listed := #[false, false, false, false, false, false, false, false, false, false, false, false]) (by kernel_rfl) (by rfl) (by rfl) ?_)
              (refine wpAny_phase (fun W => Kept [] wb W) [(0, false), (1, false), (2, false), (3, false), (4, false), (5, false), (6, false), (7, false), (8, false), (9, false), (10, false), (11, false)] (f := 0) (listed := #[false, false, false, false, false, false, false, false, false, false, false, false]) (listed' := #[true, true, true, true, true, true, true, true, true, true, true, true]) (by kernel_rfl) (by kernel_rfl) (by rfl) (HQ1).drew (fun d _ _ _ _ h => by cases d <;> exact h) ?_)
              iterate 12 (refine wpQL_take (v := ?_) rfl (by rfl) ?_ ?_; rotate_left; (focus ((intro W hC; have hF := HF2.out W hC; go_simp); try (with_reducible rfl))); (try dsimp only [Act.put]); (try simp only [List.setIfInBounds_toArray, List.set_cons_zero, List.set_cons_succ]))
              (refine wpQL_nil ?_)
              (intro wq hq)
              (refine wpAny_done (by kernel_rfl) ?_ _)
              have hf2 := HF2b.out _ hq
              go_wp2_with fail
              (refine wp_region_phases (n := 14) (listed := #[false, false, false, false, false, false, false, false, false, false, false, false, false, false]) (by kernel_rfl) (by rfl) (by rfl) ?_)
              (refine wpAny_phase (fun W => Kept [] wb W) [(0, false), (1, false), (2, false), (3, false), (4, false), (5, false), (6, false), (7, false), (8, false), (9, false), (10, false), (11, false), (12, false)] (f := 1) (listed := #[false, false, false, false, false, false, false, false, false, false, false, false, false, false]) (listed' := #[true, true, true, true, true, true, true, true, true, true, true, true, true, false]) (by kernel_rfl) (by kernel_rfl) (by rfl) (hq).drew (fun d _ _ _ _ h => by cases d <;> exact h) ?_)
              iterate 13 (refine wpQL_take (v := ?_) rfl (by rfl) ?_ ?_; rotate_left; (focus ((intro W hC; have hF := HF2.out W hC; go_simp); try (with_reducible rfl))); (try dsimp only [Act.put]); (try simp only [List.setIfInBounds_toArray, List.set_cons_zero, List.set_cons_succ]))
              (refine wpQL_nil ?_)
              (intro wq hq)
              have hf5 := HF2.out _ hq
              have HS5 := Lib.hid (HST.out _ hq)
              rw [HC.out] at hf5
              obtain ⟨hf6, hf7, hf8, hf9⟩ := hf5
              (refine wpAny_loud 13 (fuel := 0) (listed := #[true, true, true, true, true, true, true, true, true, true, true, true, true, false]) (listed' := #[true, true, true, true, true, true, true, true, true, true, true, true, true, true]) (by kernel_rfl) (by rfl) nth_13 (fun K hK => ?_))
              go_simp
              (refine hK.out _ _ ?_; clear hK K)
              (try simp only [Act.put, List.setIfInBounds_toArray, List.set_cons_zero, List.set_cons_succ])
              (refine wpAny_done (by kernel_rfl) ?_ _)
              go_wp2_with fail
              go_ret
              exact ⟨rfl, HS5.out⟩
        · have hz1 : (a.hl (a.th e.slot.toNat).deed.a.toNat != -1) = true := bne_iff_ne.2 (by omega)
          rw [decide_eq_false hhl] at hret
          obtain ⟨v1, v2⟩ := HNO.out hret
          rw [v1, v2]
          rw [hgA] at HF2
          unfold tA at HRU
          generalize a.hl (a.th e.slot.toNat).deed.a.toNat = hv at *
          generalize (a.th e.slot.toNat).call = z at *
          generalize (a.th e.slot.toNat).deed.op = o at *
          generalize (a.th e.slot.toNat).code = zc at *
          generalize (a.th e.slot.toNat).deed.a = za at *
          generalize a.held.length = nh at *
          clear h hw hd hs h0 hk hg hr v1 v2 hu hfit p1 p2 p3 ht hx hlk1 hal hal2 hge hret HHD hhl hc HNO HF hgA
          have e0 : (e.code != 0) = false := by simp [hlk2]
          have HC := Lib.hid hlk2
          clear hlk2
          rcases HZ.out with rfl | ⟨rfl, rfl⟩
          · rcases HO.out with rfl | rfl
            all_goals
              clear HZ HO
              go_enter Try.func58, Try.ntmps58
              go_wp2_with fail
              try rw [hwb]
              go_wp2_with fail
              refine (HRU.out).mono ?_
              rintro x w1 ⟨rfl, hk1⟩
              have hf := HF2.out _ hk1
              rw [HC.out] at hf
              go_wp2_with fail
              (refine wp_region_phases (n := 12) (listed := #[false, false, false, false, false, false, false, false, false, false, false, false]) (by kernel_rfl) (by rfl) (by rfl) ?_)
              (refine wpAny_phase (fun W => Kept [] wb W) [(0, false), (1, false), (2, false), (3, false), (4, false), (5, false), (6, false), (7, false), (8, false), (9, false), (10, false), (11, false)] (f := 0) (listed := #[false, false, false, false, false, false, false, false, false, false, false, false]) (listed' := #[true, true, true, true, true, true, true, true, true, true, true, true]) (by kernel_rfl) (by kernel_rfl) (by rfl) (hk1).drew (fun d _ _ _ _ h => by cases d <;> exact h) ?_)
              iterate 12 (refine wpQL_take (v := ?_) rfl (by rfl) ?_ ?_; rotate_left; (focus ((intro W hC; have hF := HF2.out W hC; go_simp); try (with_reducible rfl))); (try dsimp only [Act.put]); (try simp only [List.setIfInBounds_toArray, List.set_cons_zero, List.set_cons_succ]))
              (refine wpQL_nil ?_)
              (intro wq hq)
              (refine wpAny_done (by kernel_rfl) ?_ _)
              go_wp2_with fail
              go_ret
              exact ⟨rfl, HFIN.out _ hq⟩
          · rcases HO.out with rfl | rfl
            all_goals
              clear HZ HO
              have HF2b := HF2
              rw [HC.out] at HF2b
              go_enter Try.func58, Try.ntmps58
              go_wp2_with fail
              try rw [hwb]
              go_wp2_with fail
              refine (HRU.out).mono ?_
              rintro x w1 ⟨rfl, hk1⟩
              have hf := HF2b.out _ hk1
              go_wp2_with fail
              (refine wp_region_phases (n := 7) (listed := #[false, false, false, false, false, false, false]) (by kernel_rfl) (by rfl) (by rfl) ?_)
              (refine wpAny_phase (fun W => Kept [] wb W) [(0, false), (1, false), (2, false), (3, false), (4, false), (5, false), (6, false)] (f := 0) (listed := #[false, false, false, false, false, false, false]) (listed' := #[true, true, true, true, true, true, true]) (by kernel_rfl) (by kernel_rfl) (by rfl) (hk1).drew (fun d _ _ _ _ h => by cases d <;> exact h) ?_)
              iterate 7 (refine wpQL_take (v := ?_) rfl (by rfl) ?_ ?_; rotate_left; (focus ((intro W hC; have hF := HF2b.out W hC; go_simp); try (with_reducible rfl))); (try dsimp only [Act.put]); (try simp only [List.setIfInBounds_toArray, List.set_cons_zero, List.set_cons_succ]))
              (refine wpQL_nil ?_)
              (intro wq hq)
              (refine wpAny_done (by kernel_rfl) ?_ _)
              have hf1 := HF2b.out _ hq
              have HQ1 := hq
              clear hq
              go_wp2_with fail
              (refine wp_region_phases (n := 12) (listed := #[false, false, false, false, false, false, false, false, false, false, false, false]) (by kernel_rfl) (by rfl) (by rfl) ?_)
              (refine wpAny_phase (fun W => Kept [] wb W) [(0, false), (1, false), (2, false), (3, false), (4, false), (5, false), (6, false), (7, false), (8, false), (9, false), (10, false), (11, false)] (f := 0) (listed := #[false, false, false, false, false, false, false, false, false, false, false, false]) (listed' := #[true, true, true, true, true, true, true, true, true, true, true, true]) (by kernel_rfl) (by kernel_rfl) (by rfl) (HQ1).drew (fun d _ _ _ _ h => by cases d <;> exact h) ?_)
              iterate 12 (refine wpQL_take (v := ?_) rfl (by rfl) ?_ ?_; rotate_left; (focus ((intro W hC; have hF := HF2.out W hC; go_simp); try (with_reducible rfl))); (try dsimp only [Act.put]); (try simp only [List.setIfInBounds_toArray, List.set_cons_zero, List.set_cons_succ]))
              (refine wpQL_nil ?_)
              (intro wq hq)
              (refine wpAny_done (by kernel_rfl) ?_ _)
              go_wp2_with fail
              go_ret
              exact ⟨rfl, HFIN.out _ hq⟩
      · have hret : returnsA a e.slot.toNat e.code = true := by
          unfold returnsA
          rw [hc, Bool.true_and]
          rcases Classical.not_and_iff_not_or_not.1 hlk with h1 | h1
          · rw [decide_eq_false h1]; rfl
          · rw [beq_eq_false_iff_ne.2 h1, Bool.and_false]; rfl
        rw [hret, if_pos rfl, if_neg hlk] at hs
        obtain ⟨v1, v2⟩ := step_yes hs
        rw [v1, v2]
        have HST : Hid (∀ W, Kept [] wb W → AccIs w0 (W.setCell ⟨gT b, e.slot.toNat * 31 + 22, none⟩ (.int .i64 0)) b d { a with T := a.T.set e.slot.toNat { a.th e.slot.toNat with call := 0 } } K) := fun W hk => (h.st h0 ht 22 (by omega) (.int .i64 0) { a.th e.slot.toNat with call := 0 } rfl W hk).2.2
        have HD : Hid (((a.th e.slot.toNat).call = 3 ∧ e.code = 0 ∧ (a.th e.slot.toNat).deed.op ≠ 9 ∧ (a.th e.slot.toNat).deed.op ≠ 10) ∨ ((a.th e.slot.toNat).call = 3 ∧ e.code = 13 ∧ (a.th e.slot.toNat).deed.op = 10) ∨ ((a.th e.slot.toNat).call = 2 ∧ (a.th e.slot.toNat).code = e.code ∧ (a.th e.slot.toNat).deed.op ≠ 9 ∧ (a.th e.slot.toNat).deed.op ≠ 10) ∨ ((a.th e.slot.toNat).call = 2 ∧ (a.th e.slot.toNat).code = e.code ∧ e.code ≠ 0 ∧ (a.th e.slot.toNat).deed.op = 9) ∨ ((a.th e.slot.toNat).call = 2 ∧ (a.th e.slot.toNat).code = e.code ∧ e.code ≠ 0 ∧ (a.th e.slot.toNat).deed.op = 10)) := by
          show _ ∨ _
          by_cases h3 : (a.th e.slot.toNat).call = 3
          · rw [if_pos h3] at hc
            simp only [Bool.or_eq_true, Bool.and_eq_true, beq_iff_eq, decide_eq_true_eq] at hc
            omega
          · rw [if_neg h3] at hc
            simp only [Bool.and_eq_true, beq_iff_eq, decide_eq_true_eq] at hc
            omega
        generalize ({ a with T := a.T.set e.slot.toNat { a.th e.slot.toNat with call := 0 } } : Acc) = a' at *
        unfold tA at HRU
        generalize (a.th e.slot.toNat).call = z at *
        generalize (a.th e.slot.toNat).deed.op = o at *
        generalize (a.th e.slot.toNat).code = zc at *
        generalize (a.th e.slot.toNat).deed.a = za at *
        clear h hw hd hs h0 hk hg hr v1 v2 hu hfit p1 p2 p3 ht hx hret hc HNO hlk
        rcases HD.out with ⟨rfl, c0, o9, o10⟩ | ⟨rfl, c0, rfl⟩ | ⟨rfl, rfl, o9, o10⟩ | ⟨rfl, rfl, c0, rfl⟩ | ⟨rfl, rfl, c0, rfl⟩
        · have e9 : (o == 9) = false := beq_eq_false_iff_ne.2 o9
          have e10 : (o == 10) = false := beq_eq_false_iff_ne.2 o10
          have e0 : (e.code != 0) = false := by simp [c0]
          clear c0 o9 o10 HD
          go_enter Try.func58, Try.ntmps58
          go_wp2_with fail
          try rw [hwb]
          go_wp2_with fail
          refine (HRU.out).mono ?_
          rintro x w1 ⟨rfl, hk1⟩
          have hf := HF.out _ hk1
          have HS5 := Lib.hid (HST.out _ hk1)
          go_wp2_with fail
          go_ret
          exact ⟨rfl, HS5.out⟩
        · have e0 : (e.code != 0) = true := bne_iff_ne.2 (by omega)
          have e1 : (e.code != 13) = false := by simp [c0]
          have e2 : (e.code == 0) = false := beq_eq_false_iff_ne.2 (by omega)
          clear c0 HD
          go_enter Try.func58, Try.ntmps58
          go_wp2_with fail
          try rw [hwb]
          go_wp2_with fail
          refine (HRU.out).mono ?_
          rintro x w1 ⟨rfl, hk1⟩
          have hf := HF.out _ hk1
          have HS5 := Lib.hid (HST.out _ hk1)
          go_wp2_with fail
          go_ret
          exact ⟨rfl, HS5.out⟩
        · have e9 : (o == 9) = false := beq_eq_false_iff_ne.2 o9
          have e10 : (o == 10) = false := beq_eq_false_iff_ne.2 o10
          clear o9 o10 HD
          go_enter Try.func58, Try.ntmps58
          go_wp2_with fail
          try rw [hwb]
          go_wp2_with fail
          refine (HRU.out).mono ?_
          rintro x w1 ⟨rfl, hk1⟩
          have hf := HF.out _ hk1
          go_wp2_with fail
          (refine wp_region_phases (n := 7) (listed := #[false, false, false, false, false, false, false]) (by kernel_rfl) (by rfl) (by rfl) ?_)
          (refine wpAny_phase (fun W => Kept [] wb W) [(0, false), (1, false), (2, false), (3, false), (4, false), (5, false), (6, false)] (f := 0) (listed := #[false, false, false, false, false, false, false]) (listed' := #[true, true, true, true, true, true, true]) (by kernel_rfl) (by kernel_rfl) (by rfl) (hk1).drew (fun d _ _ _ _ h => by cases d <;> exact h) ?_)
          iterate 7 (refine wpQL_take (v := ?_) rfl (by rfl) ?_ ?_; rotate_left; (focus ((intro W hC; have hF := HF.out W hC; go_simp); try (with_reducible rfl))); (try dsimp only [Act.put]); (try simp only [List.setIfInBounds_toArray, List.set_cons_zero, List.set_cons_succ]))
          (refine wpQL_nil ?_)
          (intro wq hq)
          (refine wpAny_done (by kernel_rfl) ?_ _)
          have hf1 := HF.out _ hq
          have HS5 := Lib.hid (HST.out _ hq)
          go_wp2_with fail
          go_ret
          exact ⟨rfl, HS5.out⟩
        · have e2 : (e.code == 0) = false := beq_eq_false_iff_ne.2 c0
          clear c0 HD
          go_enter Try.func58, Try.ntmps58
          go_wp2_with fail
          try rw [hwb]
          go_wp2_with fail
          refine (HRU.out).mono ?_
          rintro x w1 ⟨rfl, hk1⟩
          have hf := HF.out _ hk1
          go_wp2_with fail
          (refine wp_region_phases (n := 7) (listed := #[false, false, false, false, false, false, false]) (by kernel_rfl) (by rfl) (by rfl) ?_)
          (refine wpAny_phase (fun W => Kept [] wb W) [(0, false), (1, false), (2, false), (3, false), (4, false), (5, false), (6, false)] (f := 0) (listed := #[false, false, false, false, false, false, false]) (listed' := #[true, true, true, true, true, true, true]) (by kernel_rfl) (by kernel_rfl) (by rfl) (hk1).drew (fun d _ _ _ _ h => by cases d <;> exact h) ?_)
          iterate 7 (refine wpQL_take (v := ?_) rfl (by rfl) ?_ ?_; rotate_left; (focus ((intro W hC; have hF := HF.out W hC; go_simp); try (with_reducible rfl))); (try dsimp only [Act.put]); (try simp only [List.setIfInBounds_toArray, List.set_cons_zero, List.set_cons_succ]))
          (refine wpQL_nil ?_)
          (intro wq hq)
          (refine wpAny_done (by kernel_rfl) ?_ _)
          have hf1 := HF.out _ hq
          have HS5 := Lib.hid (HST.out _ hq)
          go_wp2_with fail
          go_ret
          exact ⟨rfl, HS5.out⟩
        · have e2 : (e.code == 0) = false := beq_eq_false_iff_ne.2 c0
          clear c0 HD
          go_enter Try.func58, Try.ntmps58
          go_wp2_with fail
          try rw [hwb]
          go_wp2_with fail
          refine (HRU.out).mono ?_
          rintro x w1 ⟨rfl, hk1⟩
          have hf := HF.out _ hk1
          go_wp2_with fail
          (refine wp_region_phases (n := 7) (listed := #[false, false, false, false, false, false, false]) (by kernel_rfl) (by rfl) (by rfl) ?_)
          (refine wpAny_phase (fun W => Kept [] wb W) [(0, false), (1, false), (2, false), (3, false), (4, false), (5, false), (6, false)] (f := 0) (listed := #[false, false, false, false, false, false, false]) (listed' := #[true, true, true, true, true, true, true]) (by kernel_rfl) (by kernel_rfl) (by rfl) (hk1).drew (fun d _ _ _ _ h => by cases d <;> exact h) ?_)
          iterate 7 (refine wpQL_take (v := ?_) rfl (by rfl) ?_ ?_; rotate_left; (focus ((intro W hC; have hF := HF.out W hC; go_simp); try (with_reducible rfl))); (try dsimp only [Act.put]); (try simp only [List.setIfInBounds_toArray, List.set_cons_zero, List.set_cons_succ]))
          (refine wpQL_nil ?_)
          (intro wq hq)
          (refine wpAny_done (by kernel_rfl) ?_ _)
          have hf1 := HF.out _ hq
          have HS5 := Lib.hid (HST.out _ hq)
          go_wp2_with fail
          go_ret
          exact ⟨rfl, HS5.out⟩
    · have hn : returnsA a e.slot.toNat e.code = false := by
        unfold returnsA
        rw [Bool.not_eq_true] at hc
        rw [hc, Bool.false_and]
      obtain ⟨v1, v2⟩ := HNO.out hn
      rw [v1, v2]
      rw [Bool.not_eq_true] at hc
      clear HNO hn
      unfold tA at HRU
      generalize (a.th e.slot.toNat).call = z at *
      generalize (a.th e.slot.toNat).deed.op = o at *
      generalize (a.th e.slot.toNat).code = zc at *
      generalize (a.th e.slot.toNat).deed.a = za at *
      clear h hw hd hs h0 hk hg hr v1 v2 hu hfit p1 p2 p3 ht hx
      by_cases h3 : z = 3
      · rw [if_pos h3] at hc
        simp only [Bool.or_eq_false_iff, Bool.and_eq_false_iff, beq_eq_false_iff_ne, decide_eq_false_iff_not] at hc
        obtain ⟨hc0, hc1⟩ := hc
        have e0 : (e.code != 0) = true := bne_iff_ne.2 hc0
        have HH := Lib.hid hc1
        subst h3
        clear hc0 hc1
        rcases HH.out with hh | hh
        · have e1 : (o != 10) = true := bne_iff_ne.2 hh
          clear HH hh
          go_enter Try.func58, Try.ntmps58
          go_wp2_with fail
          try rw [hwb]
          go_wp2_with fail
          refine (HRU.out).mono ?_
          rintro x w1 ⟨rfl, hk1⟩
          have HK1 := Lib.hid hk1
          have hf := HF.out _ hk1
          clear hk1
          go_wp2_with fail
          go_ret
          exact ⟨rfl, HFIN.out _ HK1.out⟩
        · have e1 : (e.code != 13) = true := bne_iff_ne.2 hh
          clear HH hh
          by_cases ho : o = 10
          · have e2 : (o != 10) = false := by simp [ho]
            clear ho
            go_enter Try.func58, Try.ntmps58
            go_wp2_with fail
            try rw [hwb]
            go_wp2_with fail
            refine (HRU.out).mono ?_
            rintro x w1 ⟨rfl, hk1⟩
            have HK1 := Lib.hid hk1
            have hf := HF.out _ hk1
            clear hk1
            go_wp2_with fail
            go_ret
            exact ⟨rfl, HFIN.out _ HK1.out⟩
          · have e2 : (o != 10) = true := bne_iff_ne.2 ho
            clear ho
            go_enter Try.func58, Try.ntmps58
            go_wp2_with fail
            try rw [hwb]
            go_wp2_with fail
            refine (HRU.out).mono ?_
            rintro x w1 ⟨rfl, hk1⟩
            have HK1 := Lib.hid hk1
            have hf := HF.out _ hk1
            clear hk1
            go_wp2_with fail
            go_ret
            exact ⟨rfl, HFIN.out _ HK1.out⟩
      · rw [if_neg h3] at hc
        have e3 : (z == 3) = false := beq_eq_false_iff_ne.2 h3
        clear h3
        by_cases h2 : z = 2
        · rw [decide_eq_true h2, Bool.true_and] at hc
          have e4 : (zc != e.code) = true := bne_iff_ne.2 (by simpa using hc)
          subst h2
          clear hc e3
          go_enter Try.func58, Try.ntmps58
          go_wp2_with fail
          try rw [hwb]
          go_wp2_with fail
          refine (HRU.out).mono ?_
          rintro x w1 ⟨rfl, hk1⟩
          have hf := HF.out _ hk1
          go_wp2_with fail
          (refine wp_region_phases (n := 7) (listed := #[false, false, false, false, false, false, false]) (by kernel_rfl) (by rfl) (by rfl) ?_)
          (refine wpAny_phase (fun W => Kept [] wb W) [(0, false), (1, false), (2, false), (3, false), (4, false), (5, false), (6, false)] (f := 0) (listed := #[false, false, false, false, false, false, false]) (listed' := #[true, true, true, true, true, true, true]) (by kernel_rfl) (by kernel_rfl) (by rfl) (hk1).drew (fun d _ _ _ _ h => by cases d <;> exact h) ?_)
          iterate 7 (refine wpQL_take (v := ?_) rfl (by rfl) ?_ ?_; rotate_left; (focus ((intro W hC; have hF := HF.out W hC; go_simp); try (with_reducible rfl))); (try dsimp only [Act.put]); (try simp only [List.setIfInBounds_toArray, List.set_cons_zero, List.set_cons_succ]))
          (refine wpQL_nil ?_)
          (intro wq hq)
          (refine wpAny_done (by kernel_rfl) ?_ _)
          go_wp2_with fail
          go_ret
          exact ⟨rfl, HFIN.out _ hq⟩
        · have e4 : (z == 2) = false := beq_eq_false_iff_ne.2 h2
          clear h2 hc
          go_enter Try.func58, Try.ntmps58
          go_wp2_with fail
          try rw [hwb]
          go_wp2_with fail
          refine (HRU.out).mono ?_
          rintro x w1 ⟨rfl, hk1⟩
          have HK1 := Lib.hid hk1
          have hf := HF.out _ hk1
          clear hk1
          go_wp2_with fail
          go_ret
          exact ⟨rfl, HFIN.out _ HK1.out⟩

end Go.Proofs.Ytccodklfplfleaa
