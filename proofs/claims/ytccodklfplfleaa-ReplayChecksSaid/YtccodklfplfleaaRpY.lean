/- Package replay: exits, walked. -/
import Derived.Test.YtccodklfplfleaaRpT
import Derived.Deep.DeepCutAuto
namespace Go.Proofs.Ytccodklfplfleaa
open Go.RowKit

theorem stepA_exit {d : Du} {a : Acc} {e : Ev} (hk : e.kind = 10) : stepA d a e = if runsA a e = false then none else if (a.th e.slot.toNat).call = 2 ∧ (a.th e.slot.toNat).code = 0 ∧ (a.th e.slot.toNat).deed.op = 3 ∧ (a.th e.slot.toNat).deed.n = e.n then some (exitsA a e.slot.toNat) else none := by
  unfold stepA stepB
  rw [if_neg (by omega), if_neg (by omega), if_neg (by omega), if_neg (by omega)]
  by_cases h : runsA a e = false
  · rw [if_pos h, if_pos h]
  · rw [if_neg h, if_neg h, if_neg (by omega), if_neg (by omega), if_neg (by omega), if_neg (by omega), if_pos hk]
/-- Does somebody of a list of ids wait for a thread's end? -/
def joinL (a : Acc) (s : Int) (g : Nat) (l : List (Int × Nat)) : Bool := l.any fun x => decide ((a.th x.1.toNat).call = 3) && (decide ((a.th x.1.toNat).deed.op = 4) && regA a x.1.toNat == (s, g))
theorem joinL_all (a : Acc) (s : Int) (g : Nat) : ∀ k, joinL a s g (allK a.P k) = joinK a s g k
  | 0 => rfl
  | k + 1 => by
    have ih := joinL_all a s g k
    rw [joinK, ← ih, show allK a.P (k + 1) = if (a.P.getD k Pl.zero).taken then allK a.P k ++ [((k : Int), (a.P.getD k Pl.zero).gen)] else allK a.P k from rfl]
    unfold joinB Acc.pl
    by_cases ht : (a.P.getD k Pl.zero).taken = true
    · rw [if_pos ht, ht, Bool.true_and]
      unfold joinL
      rw [List.any_append]
      simp
    · rw [if_neg ht]
      rw [Bool.not_eq_true] at ht
      rw [ht]; simp
/-- The first k holders, a thread's taken off. -/
def offK (l : List Int) (t : Int) (k : Nat) : List Int := (l.take k).map (fun x => if x = t then -1 else x) ++ l.drop k
theorem offK_len (l : List Int) (t : Int) (k : Nat) : (offK l t k).length = l.length := by unfold offK; simp; omega
theorem offK_zero (l : List Int) (t : Int) : offK l t 0 = l := by simp [offK]
theorem offK_end (l : List Int) (t : Int) : offK l t l.length = l.map (fun x => if x = t then -1 else x) := by simp [offK]
theorem offK_at {l : List Int} {t : Int} {k : Nat} (hk : k < l.length) : (offK l t k).getD k 0 = l.getD k 0 := by
  unfold offK
  rw [List.getD_eq_getElem?_getD, List.getElem?_append_right (by simp only [List.length_map, List.length_take]; omega), List.getD_eq_getElem?_getD]
  simp
  rw [Nat.min_eq_left (by omega)]
  simp
theorem offK_succ {l : List Int} {t : Int} {k : Nat} (hk : k < l.length) : offK l t (k + 1) = if l.getD k 0 = t then (offK l t k).set k (-1) else offK l t k := by
  have e : l.getD k 0 = l[k] := by rw [List.getD_eq_getElem?_getD, List.getElem?_eq_getElem hk]; rfl
  unfold offK
  rw [List.take_succ_eq_append_getElem hk, List.map_append, List.drop_eq_getElem_cons hk, e, List.append_assoc]
  split
  · rename_i h
    rw [List.set_append_right _ _ (by simp only [List.length_map, List.length_take]; omega), show k - (List.map (fun x => if x = t then -1 else x) (List.take k l)).length = 0 by simp; omega]
    simp [h]
  · rename_i h
    simp [h]

set_option maxHeartbeats 6400000 in
set_option maxRecDepth 100000 in
theorem rpexits_no {w0 w : World} {b : AcA} {d : Du} {a : Acc} {K : Array Value} (h : AccIs w0 w b d a K) (hw : AWhole d a) (e : Ev) (hr : runsA a e = true)
    (hn : ¬ ((a.th e.slot.toNat).call = 2 ∧ (a.th e.slot.toNat).code = 0 ∧ (a.th e.slot.toNat).deed.op = 3 ∧ (a.th e.slot.toNat).deed.n = e.n)) :
    Calls Try.prog 65 #[.pointer (some ⟨b.g, 0, none⟩), .agg (eC e.step e.cpu e.kind e.slot e.gen e.op e.code e.n)] w fun x w' => x = .returned (.bool false) ∧ AccIs w0 w' b d a K := by
  obtain ⟨wb, hwb⟩ : ∃ wb, w.alloc (.cells (eC e.step e.cpu e.kind e.slot e.gen e.op e.code e.n) 55) = wb := ⟨_, rfl⟩
  have h0 : Kept [] w wb := by rw [← hwb]; exact (Kept.refl _ _).alloc _
  have HRU := Lib.hid (rpruns_any (AccAt.old h.at' h0) hw e)
  have HEV := Lib.hid (ev_box hwb)
  have hev := HEV.out wb (Kept.refl _ _)
  have HFIN : Hid (∀ W, Kept [] wb W → AccIs w0 W b d a K) := fun W hk => h.old (h0.trans hk)
  rw [hr, if_pos rfl] at HRU
  obtain ⟨p0, p1, p2, p3⟩ := hasA_lt (runsA_has hr)
  have ht : e.slot.toNat < a.T.length := by rw [hw.tl]; exact p1
  have HF : Hid (∀ W, Kept [] wb W → (W.cell? ⟨w.heap.size, 7, none⟩ = some (.int .u64 e.n) ∧ w.heap.size < W.heap.size) ∧ W.cell? ⟨gT b, e.slot.toNat * 31 + 22, none⟩ = some (.int .i64 (a.th e.slot.toNat).call) ∧ W.cell? ⟨gT b, e.slot.toNat * 31 + 30, none⟩ = some (.int .i64 (a.th e.slot.toNat).code) ∧ W.cell? ⟨gT b, e.slot.toNat * 31 + 23, none⟩ = some (.int .i64 (a.th e.slot.toNat).deed.op) ∧ W.cell? ⟨gT b, e.slot.toNat * 31 + 27, none⟩ = some (.int .u64 (a.th e.slot.toNat).deed.n) ∧ gT b < W.heap.size) := fun W hk => by
    have h1 := AccAt.old h.at' (h0.trans hk)
    have k8 := AccAt.tf h1 ht
    obtain ⟨k1, k2, k3, k4, k5, k6, k7⟩ := AccAt.df h1 ht
    have k9 := HEV.out W hk
    exact ⟨⟨k9.2.2.2.2.2.2.2.1, k9.2.2.2.2.2.2.2.2⟩, k8.2.1, k8.2.2.1, k1, k5, k8.2.2.2⟩
  unfold tA at HRU
  generalize (a.th e.slot.toNat).call = z1 at *
  generalize (a.th e.slot.toNat).code = z2 at *
  generalize (a.th e.slot.toNat).deed.op = z3 at *
  generalize (a.th e.slot.toNat).deed.n = z4 at *
  generalize e.slot.toNat = t at *
  have HN := Lib.hid hn
  clear h hw h0 hr p0 p1 p2 p3 ht hn
  by_cases c1 : z1 = 2
  · by_cases c2 : z2 = 0
    · by_cases c3 : z3 = 3
      · have c4 : ((z4 : Int) != (e.n : Int)) = true := bne_iff_ne.2 (fun hh => HN.out ⟨c1, c2, c3, by omega⟩)
        have HC4 := Lib.hid c4
        rw [c1, c2, c3] at HF
        clear c4
        clear c1 c2 c3 HN
        go_enter Try.func65, Try.ntmps65
        go_wp2_with fail
        go_step3
        go_wp2_with fail
        try rw [hwb]
        go_wp2_with fail
        refine (HRU.out).mono ?_
        rintro x w1 ⟨rfl, hk1⟩
        have c4 := HC4.out
        go_wp2_with fail
        (refine wp_region_phases (n := 34) (listed := #[false, false, false, false, false, false, false, false, false, false, false, false, false, false, false, false, false, false, false, false, false, false, false, false, false, false, false, false, false, false, false, false, false, false]) (by kernel_rfl) (by rfl) (by rfl) ?_)
        (refine wpAny_phase (fun W => Kept [] wb W) [(0, false), (1, false), (2, false), (3, false), (4, false), (5, false), (6, false), (7, false), (8, false), (9, false), (10, false), (11, false), (12, false), (13, false), (14, false), (15, false), (16, false), (17, false), (18, false), (19, false), (20, false), (21, false), (22, false), (23, false), (24, false), (25, false), (26, false), (27, false), (28, false), (29, false), (30, false), (31, false), (32, false), (33, false)] (f := 0) (listed := #[false, false, false, false, false, false, false, false, false, false, false, false, false, false, false, false, false, false, false, false, false, false, false, false, false, false, false, false, false, false, false, false, false, false]) (listed' := #[true, true, true, true, true, true, true, true, true, true, true, true, true, true, true, true, true, true, true, true, true, true, true, true, true, true, true, true, true, true, true, true, true, true]) (by kernel_rfl) (by kernel_rfl) (by rfl) (hk1).drew (fun d _ _ _ _ h => by cases d <;> exact h) ?_)
        iterate 34 (first | (refine wpQL_take (v := ?_) rfl ?_ ?_ ?_; rotate_left; (focus (first | rfl | (go_simp; done))); (focus ((intro W hC; have hF := HF.out W hC; go_simp); try (with_reducible rfl))); (try dsimp only [Act.put]); (try simp only [List.setIfInBounds_toArray, List.set_cons_zero, List.set_cons_succ])) | (refine wpQL_not rfl ?_ ?_; (focus (go_simp; done)); (try dsimp only [Act.put]); (try simp only [List.setIfInBounds_toArray, List.set_cons_zero, List.set_cons_succ])))
        (refine wpQL_nil ?_)
        (intro wq hq)
        (refine wpAny_done (by kernel_rfl) ?_ _)
        go_wp2_with fail
        (try simp only [Exit.noGoto])
        go_ret
        exact ⟨rfl, HFIN.out _ hq⟩
      · have d3 : (z3 != 3) = true := bne_iff_ne.2 c3
        rw [c1, c2] at HF
        clear c1 c2 c3 HN
        go_enter Try.func65, Try.ntmps65
        go_wp2_with fail
        go_step3
        go_wp2_with fail
        try rw [hwb]
        go_wp2_with fail
        refine (HRU.out).mono ?_
        rintro x w1 ⟨rfl, hk1⟩
        go_wp2_with fail
        (refine wp_region_phases (n := 34) (listed := #[false, false, false, false, false, false, false, false, false, false, false, false, false, false, false, false, false, false, false, false, false, false, false, false, false, false, false, false, false, false, false, false, false, false]) (by kernel_rfl) (by rfl) (by rfl) ?_)
        (refine wpAny_phase (fun W => Kept [] wb W) [(0, false), (1, false), (2, false), (3, false), (4, false), (5, false), (6, false), (7, false), (8, false), (9, false), (10, false), (11, false), (12, false), (13, false), (14, false), (15, false), (16, false), (17, false), (18, false), (19, false), (20, false), (21, false), (22, false), (23, false), (24, false), (25, false), (26, false), (27, false), (28, false), (29, false), (30, false), (31, false), (32, false), (33, false)] (f := 0) (listed := #[false, false, false, false, false, false, false, false, false, false, false, false, false, false, false, false, false, false, false, false, false, false, false, false, false, false, false, false, false, false, false, false, false, false]) (listed' := #[true, true, true, true, true, true, true, true, true, true, true, true, true, true, true, true, true, true, true, true, true, true, true, true, true, true, true, true, true, true, true, true, true, true]) (by kernel_rfl) (by kernel_rfl) (by rfl) (hk1).drew (fun d _ _ _ _ h => by cases d <;> exact h) ?_)
        iterate 34 (first | (refine wpQL_take (v := ?_) rfl ?_ ?_ ?_; rotate_left; (focus (first | rfl | (go_simp; done))); (focus ((intro W hC; have hF := HF.out W hC; go_simp); try (with_reducible rfl))); (try dsimp only [Act.put]); (try simp only [List.setIfInBounds_toArray, List.set_cons_zero, List.set_cons_succ])) | (refine wpQL_not rfl ?_ ?_; (focus (go_simp; done)); (try dsimp only [Act.put]); (try simp only [List.setIfInBounds_toArray, List.set_cons_zero, List.set_cons_succ])))
        (refine wpQL_nil ?_)
        (intro wq hq)
        (refine wpAny_done (by kernel_rfl) ?_ _)
        go_wp2_with fail
        (try simp only [Exit.noGoto])
        go_ret
        exact ⟨rfl, HFIN.out _ hq⟩
    · have d2 : (z2 != 0) = true := bne_iff_ne.2 c2
      rw [c1] at HF
      clear c1 c2 HN
      go_enter Try.func65, Try.ntmps65
      go_wp2_with fail
      go_step3
      go_wp2_with fail
      try rw [hwb]
      go_wp2_with fail
      refine (HRU.out).mono ?_
      rintro x w1 ⟨rfl, hk1⟩
      go_wp2_with fail
      (refine wp_region_phases (n := 34) (listed := #[false, false, false, false, false, false, false, false, false, false, false, false, false, false, false, false, false, false, false, false, false, false, false, false, false, false, false, false, false, false, false, false, false, false]) (by kernel_rfl) (by rfl) (by rfl) ?_)
      (refine wpAny_phase (fun W => Kept [] wb W) [(0, false), (1, false), (2, false), (3, false), (4, false), (5, false), (6, false), (7, false), (8, false), (9, false), (10, false), (11, false), (12, false), (13, false), (14, false), (15, false), (16, false), (17, false), (18, false), (19, false), (20, false), (21, false), (22, false), (23, false), (24, false), (25, false), (26, false), (27, false), (28, false), (29, false), (30, false), (31, false), (32, false), (33, false)] (f := 0) (listed := #[false, false, false, false, false, false, false, false, false, false, false, false, false, false, false, false, false, false, false, false, false, false, false, false, false, false, false, false, false, false, false, false, false, false]) (listed' := #[true, true, true, true, true, true, true, true, true, true, true, true, true, true, true, true, true, true, true, true, true, true, true, true, true, true, true, true, true, true, true, true, true, true]) (by kernel_rfl) (by kernel_rfl) (by rfl) (hk1).drew (fun d _ _ _ _ h => by cases d <;> exact h) ?_)
      iterate 34 (first | (refine wpQL_take (v := ?_) rfl ?_ ?_ ?_; rotate_left; (focus (first | rfl | (go_simp; done))); (focus ((intro W hC; have hF := HF.out W hC; go_simp); try (with_reducible rfl))); (try dsimp only [Act.put]); (try simp only [List.setIfInBounds_toArray, List.set_cons_zero, List.set_cons_succ])) | (refine wpQL_not rfl ?_ ?_; (focus (go_simp; done)); (try dsimp only [Act.put]); (try simp only [List.setIfInBounds_toArray, List.set_cons_zero, List.set_cons_succ])))
      (refine wpQL_nil ?_)
      (intro wq hq)
      (refine wpAny_done (by kernel_rfl) ?_ _)
      go_wp2_with fail
      (try simp only [Exit.noGoto])
      go_ret
      exact ⟨rfl, HFIN.out _ hq⟩
  · have d1 : (z1 != 2) = true := bne_iff_ne.2 c1
    clear c1 HN
    go_enter Try.func65, Try.ntmps65
    go_wp2_with fail
    go_step3
    go_wp2_with fail
    try rw [hwb]
    go_wp2_with fail
    refine (HRU.out).mono ?_
    rintro x w1 ⟨rfl, hk1⟩
    go_wp2_with fail
    (refine wp_region_phases (n := 34) (listed := #[false, false, false, false, false, false, false, false, false, false, false, false, false, false, false, false, false, false, false, false, false, false, false, false, false, false, false, false, false, false, false, false, false, false]) (by kernel_rfl) (by rfl) (by rfl) ?_)
    (refine wpAny_phase (fun W => Kept [] wb W) [(0, false), (1, false), (2, false), (3, false), (4, false), (5, false), (6, false), (7, false), (8, false), (9, false), (10, false), (11, false), (12, false), (13, false), (14, false), (15, false), (16, false), (17, false), (18, false), (19, false), (20, false), (21, false), (22, false), (23, false), (24, false), (25, false), (26, false), (27, false), (28, false), (29, false), (30, false), (31, false), (32, false), (33, false)] (f := 0) (listed := #[false, false, false, false, false, false, false, false, false, false, false, false, false, false, false, false, false, false, false, false, false, false, false, false, false, false, false, false, false, false, false, false, false, false]) (listed' := #[true, true, true, true, true, true, true, true, true, true, true, true, true, true, true, true, true, true, true, true, true, true, true, true, true, true, true, true, true, true, true, true, true, true]) (by kernel_rfl) (by kernel_rfl) (by rfl) (hk1).drew (fun d _ _ _ _ h => by cases d <;> exact h) ?_)
    iterate 34 (first | (refine wpQL_take (v := ?_) rfl ?_ ?_ ?_; rotate_left; (focus (first | rfl | (go_simp; done))); (focus ((intro W hC; have hF := HF.out W hC; go_simp); try (with_reducible rfl))); (try dsimp only [Act.put]); (try simp only [List.setIfInBounds_toArray, List.set_cons_zero, List.set_cons_succ])) | (refine wpQL_not rfl ?_ ?_; (focus (go_simp; done)); (try dsimp only [Act.put]); (try simp only [List.setIfInBounds_toArray, List.set_cons_zero, List.set_cons_succ])))
    (refine wpQL_nil ?_)
    (intro wq hq)
    (refine wpAny_done (by kernel_rfl) ?_ _)
    go_wp2_with fail
    (try simp only [Exit.noGoto])
    go_ret
    exact ⟨rfl, HFIN.out _ hq⟩

end Go.Proofs.Ytccodklfplfleaa
