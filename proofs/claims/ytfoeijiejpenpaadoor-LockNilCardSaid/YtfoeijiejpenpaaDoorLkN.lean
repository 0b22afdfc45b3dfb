/- web.New, walked. -/
import Derived.Test.YtfoeijiejpenpaaDoorLkP
import Derived.Deep.DeepCutAuto
namespace Go.Proofs.YtfoeijiejpenpaaDoor
open Go.RowKit

/-- A number cut to 0 .. 64. -/
def clampM (x : Int) : Nat := if x < 0 then 0 else (min x 64).toNat
theorem clampM_le (x : Int) : clampM x ≤ 64 := by unfold clampM; split <;> omega
theorem clampM_id (n : Nat) (h : n ≤ 64) : clampM (n : Int) = n := by unfold clampM; rw [if_neg (by omega)]; omega
theorem clamp_any (x : Int) (w : World) : Calls Tryd.prog 27 #[.int .i64 x, .int .i64 0, .int .i64 64] w fun e w' => e = .returned (.int .i64 ((clampM x : Nat) : Int)) ∧ w = w' := by
  unfold clampM
  by_cases h : x < 0
  · rw [if_pos h]
    go_enter Tryd.func27, Tryd.ntmps27
    go_wp2
    go_ret
    exact ⟨rfl, rfl⟩
  · rw [if_neg h]
    have he : (((min x 64).toNat : Nat) : Int) = min x 64 := by omega
    rw [he]
    clear he
    go_enter Tryd.func27, Tryd.ntmps27
    go_wp2
    go_ret
    exact ⟨rfl, rfl⟩

/-- Two pieces, the other way round. -/
theorem Holds.swap2 {w : World} {p q : Piece} (h : Holds w [p, q]) : Holds w [q, p] := by
  refine ⟨fun r hr => h.1 r (by simp at hr ⊢; exact hr.symm), fun i j r t hij hr ht => ?_⟩
  have hj : j < 2 := (List.getElem?_eq_some_iff.1 ht).1
  obtain rfl : i = 0 := by omega
  obtain rfl : j = 1 := by omega
  simp at hr ht
  subst hr ht
  exact h.apart (i := 1) (j := 0) (by omega) rfl rfl

theorem made_own (t e : TypeId) (z : Value) (size bytes : Nat) (ht : Tryd.prog.underlying t = some (.slice e)) (hi : (Tryd.prog.info? e).map (fun i => (i.zero, i.size, i.bytes)) = some (some z, size, bytes)) (n : Nat) (hb : bytes * n ≤ 281474976710656) (hn : n ≤ maxLen) :
    ∃ (f : World → World) (xs : List Value), ∀ W, (Instr.makeSlice t (.int .i64 (n : Int)) (.int .i64 (n : Int))).run Tryd.prog W = .ok (.slice (some ⟨W.heap.size, 0, none⟩) n n) (f W) ∧ (f W).ownsRow 0 e size (.slice (some ⟨W.heap.size, 0, none⟩) n n) n xs ∧ Kept [] W (f W) := by
  obtain ⟨i, hi0, hz, hsize, hby⟩ := info_parts hi
  have h := fun W => run_make_full (P := Tryd.prog) W 0 t e i z size ht hi0 hz hsize .i64 .i64 n (by rw [hby]; exact hb) hn (Nat.zero_le _)
  exact ⟨fun W => (h W).choose, _, fun W => ⟨(h W).choose_spec.1, (h W).choose_spec.2.1, (Kept.refl _ _).grown (h W).choose_spec.2.2 (fun k hk => by cases hk)⟩⟩

set_option maxHeartbeats 6400000 in
set_option maxRecDepth 100000 in
theorem wbNew_any (t l : Int) (n m : Nat) (hn : clampM t = n) (hm : clampM l = m) (w : World) :
    Calls Tryd.prog 28 #[.int .i64 t, .int .i64 l] w fun e w' => ∃ g bo bw, e = .returned (.pointer (some ⟨g, 0, none⟩)) ∧ Holds w' [.row 3 1 (.slice (some ⟨bo, 0, none⟩) m m) m (List.replicate m (I64 (-1))), .row 78 2 (.slice (some ⟨bw, 0, none⟩) n n) n (List.replicate (n * 2) (I64 (-1))), .blk g 76 #[.slice (some ⟨bo, 0, none⟩) m m, .slice (some ⟨bw, 0, none⟩) n n]] ∧ Newer w [.row 3 1 (.slice (some ⟨bo, 0, none⟩) m m) m (List.replicate m (I64 (-1))), .row 78 2 (.slice (some ⟨bw, 0, none⟩) n n) n (List.replicate (n * 2) (I64 (-1))), .blk g 76 #[.slice (some ⟨bo, 0, none⟩) m m, .slice (some ⟨bw, 0, none⟩) n n]] ∧ Kept [] w w' := by
  have hn64 := clampM_le t
  have hm64 := clampM_le l
  rw [hn] at hn64
  rw [hm] at hm64
  obtain ⟨f1, xs1, hf1⟩ := made_own 29 3 (.int .i64 0) 1 8 Tryd.underlying29 Tryd.infoI m (by omega) (by simp [maxLen]; omega)
  obtain ⟨f2, xs2, hf2⟩ := made_own 74 78 (.agg #[.int .i64 0, .int .i64 0]) 2 16 Tryd.underlying74 (by kernel_rfl) n (by omega) (by simp [maxLen]; omega)
  have hmk1 := fun W => (hf1 W).1
  have hmk2 := fun W => (hf2 W).1
  have HF1 := Lib.hid (fun W => (hf1 W).2)
  have HF2 := Lib.hid (fun W => (hf2 W).2)
  have HC1 := Lib.hid (fun W => clamp_any l W)
  have HC2 := Lib.hid (fun W => clamp_any t W)
  rw [hm] at HC1
  rw [hn] at HC2
  have HPP : Hid (∀ (W : World) bo bw, Kept [] w W → W.ownsRow 0 3 1 (.slice (some ⟨bo, 0, none⟩) m m) m xs1 → W.ownsRow 0 78 2 (.slice (some ⟨bw, 0, none⟩) n n) n xs2 → w.heap.size ≤ bo → w.heap.size ≤ bw → Holds (W.alloc (.cells #[.slice (some ⟨bo, 0, none⟩) m m, .slice (some ⟨bw, 0, none⟩) n n] 76)) [.row 3 1 (.slice (some ⟨bo, 0, none⟩) m m) m xs1, .row 78 2 (.slice (some ⟨bw, 0, none⟩) n n) n xs2, .blk W.heap.size 76 #[.slice (some ⟨bo, 0, none⟩) m m, .slice (some ⟨bw, 0, none⟩) n n]] ∧ Newer w [.row 3 1 (.slice (some ⟨bo, 0, none⟩) m m) m xs1, .row 78 2 (.slice (some ⟨bw, 0, none⟩) n n) n xs2, .blk W.heap.size 76 #[.slice (some ⟨bo, 0, none⟩) m m, .slice (some ⟨bw, 0, none⟩) n n]]) := fun W bo bw hk ho1 ho2 hb1 hb2 => by
    have h2 : Holds W [.row 3 1 (.slice (some ⟨bo, 0, none⟩) m m) m xs1, .row 78 2 (.slice (some ⟨bw, 0, none⟩) n n) n xs2] := by
      refine ⟨fun p hp => ?_, fun i j p q hij hp hq k hk1 hk2 => ?_⟩
      · simp at hp
        rcases hp with rfl | rfl
        · exact ho1
        · exact ho2
      · have hj : j < 2 := (List.getElem?_eq_some_iff.1 hq).1
        obtain rfl : i = 0 := by omega
        obtain rfl : j = 1 := by omega
        simp at hp hq
        subst hp hq
        exact own_own_ne ho1 ho2 (by decide) k hk1 hk2
    refine ⟨h2.push ((Kept.refl _ _).alloc _) (p := .blk W.heap.size 76 #[.slice (some ⟨bo, 0, none⟩) m m, .slice (some ⟨bw, 0, none⟩) n n]) (Blk.new _ _ _) (fun k hk' => by simp [Piece.fp] at hk'; omega), fun p hp k hk' => ?_⟩
    have := hk.size
    simp at hp
    rcases hp with rfl | rfl | rfl <;> simp [Piece.fp, fp_some] at hk' <;> omega
  have HE1 : Hid (∀ W, Kept [] w W → ∃ g bo bw, Value.pointer (some ⟨(f2 (f1 W)).heap.size, 0, none⟩) = .pointer (some ⟨g, 0, none⟩) ∧ Hid (Holds ((f2 (f1 W)).alloc (.cells #[.slice (some ⟨W.heap.size, 0, none⟩) m m, .slice (some ⟨(f1 W).heap.size, 0, none⟩) n n] 76)) [.row 3 1 (.slice (some ⟨bo, 0, none⟩) m m) m xs1, .row 78 2 (.slice (some ⟨bw, 0, none⟩) n n) n xs2, .blk g 76 #[.slice (some ⟨bo, 0, none⟩) m m, .slice (some ⟨bw, 0, none⟩) n n]]) ∧ Hid (Newer w [.row 3 1 (.slice (some ⟨bo, 0, none⟩) m m) m xs1, .row 78 2 (.slice (some ⟨bw, 0, none⟩) n n) n xs2, .blk g 76 #[.slice (some ⟨bo, 0, none⟩) m m, .slice (some ⟨bw, 0, none⟩) n n]]) ∧ Hid (Kept [] w ((f2 (f1 W)).alloc (.cells #[.slice (some ⟨W.heap.size, 0, none⟩) m m, .slice (some ⟨(f1 W).heap.size, 0, none⟩) n n] 76)))) := fun W hk => by
    have a1 := HF1.out W
    have a2 := HF2.out (f1 W)
    have hk2 := (hk.trans a1.2).trans a2.2
    have hp := HPP.out (f2 (f1 W)) _ _ hk2 (own_kept a1.1 a2.2 (by simp)) a2.1 hk.size (hk.trans a1.2).size
    exact ⟨_, _, _, rfl, hp.1, hp.2, hk2.alloc _⟩
  have HE2 : Hid (∀ W, Kept [] w W → ∃ g bo bw, Value.pointer (some ⟨(f1 (f2 W)).heap.size, 0, none⟩) = .pointer (some ⟨g, 0, none⟩) ∧ Hid (Holds ((f1 (f2 W)).alloc (.cells #[.slice (some ⟨(f2 W).heap.size, 0, none⟩) m m, .slice (some ⟨W.heap.size, 0, none⟩) n n] 76)) [.row 3 1 (.slice (some ⟨bo, 0, none⟩) m m) m xs1, .row 78 2 (.slice (some ⟨bw, 0, none⟩) n n) n xs2, .blk g 76 #[.slice (some ⟨bo, 0, none⟩) m m, .slice (some ⟨bw, 0, none⟩) n n]]) ∧ Hid (Newer w [.row 3 1 (.slice (some ⟨bo, 0, none⟩) m m) m xs1, .row 78 2 (.slice (some ⟨bw, 0, none⟩) n n) n xs2, .blk g 76 #[.slice (some ⟨bo, 0, none⟩) m m, .slice (some ⟨bw, 0, none⟩) n n]]) ∧ Hid (Kept [] w ((f1 (f2 W)).alloc (.cells #[.slice (some ⟨(f2 W).heap.size, 0, none⟩) m m, .slice (some ⟨W.heap.size, 0, none⟩) n n] 76)))) := fun W hk => by
    have a1 := HF2.out W
    have a2 := HF1.out (f2 W)
    have hk2 := (hk.trans a1.2).trans a2.2
    have hp := HPP.out (f1 (f2 W)) _ _ hk2 a2.1 (own_kept a1.1 a2.2 (by simp)) (hk.trans a1.2).size hk.size
    exact ⟨_, _, _, rfl, hp.1, hp.2, hk2.alloc _⟩
  clear hf1 hf2 hn hm
  go_enter Tryd.func28, Tryd.ntmps28
  go_upto_region 1 with fail
  go_cut [5] (fun v wx => ∃ g bo bw, v = .pointer (some ⟨g, 0, none⟩) ∧ Hid (Holds wx [.row 3 1 (.slice (some ⟨bo, 0, none⟩) m m) m xs1, .row 78 2 (.slice (some ⟨bw, 0, none⟩) n n) n xs2, .blk g 76 #[.slice (some ⟨bo, 0, none⟩) m m, .slice (some ⟨bw, 0, none⟩) n n]]) ∧ Hid (Newer w [.row 3 1 (.slice (some ⟨bo, 0, none⟩) m m) m xs1, .row 78 2 (.slice (some ⟨bw, 0, none⟩) n n) n xs2, .blk g 76 #[.slice (some ⟨bo, 0, none⟩) m m, .slice (some ⟨bw, 0, none⟩) n n]]) ∧ Hid (Kept [] w wx))
  case first =>
    refine wp_region_held_drew (S := fun _ => True) (by kernel_rfl) trivial (fun hHeld => ?_)
    (refine rtake_0 (v := ?_) (by kernel_rfl) (by kernel_rfl) (by kernel_rfl) (fun _ _ _ h => h) (Or.inl ⟨by rfl, ?_⟩) (by assumption) ?_; rotate_left; focus ((intro w hSw; (try dsimp only at hSw); go_simp); try (with_reducible rfl)); (try simp only [Act.put, List.setIfInBounds_toArray, List.set_cons_zero, List.set_cons_succ]))
    (refine rtake_3 (v := ?_) (by kernel_rfl) (by kernel_rfl) (by kernel_rfl) (fun _ _ _ h => h) (Or.inl ⟨by rfl, ?_⟩) (by assumption) ?_; rotate_left; focus ((intro w hSw; (try dsimp only at hSw); go_simp); try (with_reducible rfl)); (try simp only [Act.put, List.setIfInBounds_toArray, List.set_cons_zero, List.set_cons_succ]))
    (refine wpAnyH_ready (rs := [1]) (by kernel_rfl) (by simp) ?_; refine rcons_1 (fun K hK => ?_) (AllReadyH.nil))
    go_simp
    (with_reducible refine (HC1.out _).mono ?_)
    rintro r w1 ⟨rfl, rfl⟩
    try go_simp
    refine hK.out _ _ trivial (fun hHeld => ?_)
    clear hK K
    (try simp only [Act.put, List.setIfInBounds_toArray, List.set_cons_zero, List.set_cons_succ])
    (refine wpAnyH_ready (rs := [2, 4]) (by kernel_rfl) (by simp) ?_; refine rcons_2 (fun K hK => ?_) (rcons_4 (fun K hK => ?_) (AllReadyH.nil)))
    · go_simp
      refine hK.out _ _ trivial (fun hHeld => ?_)
      clear hK K
      (try simp only [Act.put, List.setIfInBounds_toArray, List.set_cons_zero, List.set_cons_succ])
      (refine wpAnyH_ready (rs := [4]) (by kernel_rfl) (by simp) ?_; refine rcons_4 (fun K hK => ?_) (AllReadyH.nil))
      go_simp
      (with_reducible refine (HC2.out _).mono ?_)
      rintro r w1 ⟨rfl, rfl⟩
      try go_simp
      refine hK.out _ _ trivial (fun hHeld => ?_)
      clear hK K
      (try simp only [Act.put, List.setIfInBounds_toArray, List.set_cons_zero, List.set_cons_succ])
      (refine wpAnyH_ready (rs := [5]) (by kernel_rfl) (by simp) ?_; refine rcons_5 (fun K hK => ?_) (AllReadyH.nil))
      go_simp
      refine hK.out _ _ trivial (fun hHeld => ?_)
      clear hK K
      (try simp only [Act.put, List.setIfInBounds_toArray, List.set_cons_zero, List.set_cons_succ])
      (refine rtake_6 (v := ?_) (by kernel_rfl) (by kernel_rfl) (by kernel_rfl) (fun _ _ _ h => h) (Or.inl ⟨by rfl, ?_⟩) (by assumption) ?_; rotate_left; focus ((intro w hSw; (try dsimp only at hSw); go_simp); try (with_reducible rfl)); (try simp only [Act.put, List.setIfInBounds_toArray, List.set_cons_zero, List.set_cons_succ]))
      (refine wpAnyH_ready (rs := [7]) (by kernel_rfl) (by simp) ?_; refine rcons_7 (fun K hK => ?_) (AllReadyH.nil))
      go_simp
      refine hK.out _ _ trivial (fun hHeld => ?_)
      clear hK K
      (try simp only [Act.put, List.setIfInBounds_toArray, List.set_cons_zero, List.set_cons_succ])
      (refine rtake_8 (v := ?_) (by kernel_rfl) (by kernel_rfl) (by kernel_rfl) (fun _ _ _ h => h) (Or.inl ⟨by rfl, ?_⟩) (by assumption) ?_; rotate_left; focus ((intro w hSw; (try dsimp only at hSw); go_simp); try (with_reducible rfl)); (try simp only [Act.put, List.setIfInBounds_toArray, List.set_cons_zero, List.set_cons_succ]))
      refine wpAnyH_done (by kernel_rfl) ?_ _
      go_wp2_with fail
      go_meet
      exact HE1.out _ (by (repeat (first | (with_reducible exact Kept.refl _ _) | (with_reducible assumption) | (with_reducible refine Kept.alloc ?_ _) | (with_reducible refine Kept.drew ?_) | (with_reducible refine Kept.drewN ?_ _) | (with_reducible refine Kept.setCell ?_ ?_ _) | (exact .inr (Nat.le_refl _)) | (exact .inr (by simp only; omega)) | (exact .inr (by omega)))))
    · go_simp
      (with_reducible refine (HC2.out _).mono ?_)
      rintro r w1 ⟨rfl, rfl⟩
      try go_simp
      refine hK.out _ _ trivial (fun hHeld => ?_)
      clear hK K
      (try simp only [Act.put, List.setIfInBounds_toArray, List.set_cons_zero, List.set_cons_succ])
      (refine wpAnyH_ready (rs := [2, 5]) (by kernel_rfl) (by simp) ?_; refine rcons_2 (fun K hK => ?_) (rcons_5 (fun K hK => ?_) (AllReadyH.nil)))
      · go_simp
        refine hK.out _ _ trivial (fun hHeld => ?_)
        clear hK K
        (try simp only [Act.put, List.setIfInBounds_toArray, List.set_cons_zero, List.set_cons_succ])
        (refine wpAnyH_ready (rs := [5]) (by kernel_rfl) (by simp) ?_; refine rcons_5 (fun K hK => ?_) (AllReadyH.nil))
        go_simp
        refine hK.out _ _ trivial (fun hHeld => ?_)
        clear hK K
        (try simp only [Act.put, List.setIfInBounds_toArray, List.set_cons_zero, List.set_cons_succ])
        (refine rtake_6 (v := ?_) (by kernel_rfl) (by kernel_rfl) (by kernel_rfl) (fun _ _ _ h => h) (Or.inl ⟨by rfl, ?_⟩) (by assumption) ?_; rotate_left; focus ((intro w hSw; (try dsimp only at hSw); go_simp); try (with_reducible rfl)); (try simp only [Act.put, List.setIfInBounds_toArray, List.set_cons_zero, List.set_cons_succ]))
        (refine wpAnyH_ready (rs := [7]) (by kernel_rfl) (by simp) ?_; refine rcons_7 (fun K hK => ?_) (AllReadyH.nil))
        go_simp
        refine hK.out _ _ trivial (fun hHeld => ?_)
        clear hK K
        (try simp only [Act.put, List.setIfInBounds_toArray, List.set_cons_zero, List.set_cons_succ])
        (refine rtake_8 (v := ?_) (by kernel_rfl) (by kernel_rfl) (by kernel_rfl) (fun _ _ _ h => h) (Or.inl ⟨by rfl, ?_⟩) (by assumption) ?_; rotate_left; focus ((intro w hSw; (try dsimp only at hSw); go_simp); try (with_reducible rfl)); (try simp only [Act.put, List.setIfInBounds_toArray, List.set_cons_zero, List.set_cons_succ]))
        refine wpAnyH_done (by kernel_rfl) ?_ _
        go_wp2_with fail
        go_meet
        exact HE1.out _ (by (repeat (first | (with_reducible exact Kept.refl _ _) | (with_reducible assumption) | (with_reducible refine Kept.alloc ?_ _) | (with_reducible refine Kept.drew ?_) | (with_reducible refine Kept.drewN ?_ _) | (with_reducible refine Kept.setCell ?_ ?_ _) | (exact .inr (Nat.le_refl _)) | (exact .inr (by simp only; omega)) | (exact .inr (by omega)))))
      · go_simp
        refine hK.out _ _ trivial (fun hHeld => ?_)
        clear hK K
        (try simp only [Act.put, List.setIfInBounds_toArray, List.set_cons_zero, List.set_cons_succ])
        (refine wpAnyH_ready (rs := [2]) (by kernel_rfl) (by simp) ?_; refine rcons_2 (fun K hK => ?_) (AllReadyH.nil))
        go_simp
        refine hK.out _ _ trivial (fun hHeld => ?_)
        clear hK K
        (try simp only [Act.put, List.setIfInBounds_toArray, List.set_cons_zero, List.set_cons_succ])
        (refine rtake_6 (v := ?_) (by kernel_rfl) (by kernel_rfl) (by kernel_rfl) (fun _ _ _ h => h) (Or.inl ⟨by rfl, ?_⟩) (by assumption) ?_; rotate_left; focus ((intro w hSw; (try dsimp only at hSw); go_simp); try (with_reducible rfl)); (try simp only [Act.put, List.setIfInBounds_toArray, List.set_cons_zero, List.set_cons_succ]))
        (refine wpAnyH_ready (rs := [7]) (by kernel_rfl) (by simp) ?_; refine rcons_7 (fun K hK => ?_) (AllReadyH.nil))
        go_simp
        refine hK.out _ _ trivial (fun hHeld => ?_)
        clear hK K
        (try simp only [Act.put, List.setIfInBounds_toArray, List.set_cons_zero, List.set_cons_succ])
        (refine rtake_8 (v := ?_) (by kernel_rfl) (by kernel_rfl) (by kernel_rfl) (fun _ _ _ h => h) (Or.inl ⟨by rfl, ?_⟩) (by assumption) ?_; rotate_left; focus ((intro w hSw; (try dsimp only at hSw); go_simp); try (with_reducible rfl)); (try simp only [Act.put, List.setIfInBounds_toArray, List.set_cons_zero, List.set_cons_succ]))
        refine wpAnyH_done (by kernel_rfl) ?_ _
        go_wp2_with fail
        go_meet
        exact HE2.out _ (by (repeat (first | (with_reducible exact Kept.refl _ _) | (with_reducible assumption) | (with_reducible refine Kept.alloc ?_ _) | (with_reducible refine Kept.drew ?_) | (with_reducible refine Kept.drewN ?_ _) | (with_reducible refine Kept.setCell ?_ ?_ _) | (exact .inr (Nat.le_refl _)) | (exact .inr (by simp only; omega)) | (exact .inr (by omega)))))
  case rest =>
    obtain ⟨g, bo, bw, rfl, HH, HN, HK⟩ := hcut
    have hB0 : Blk wc g 76 #[.slice (some ⟨bo, 0, none⟩) m m, .slice (some ⟨bw, 0, none⟩) n n] := HH.out.get (i := 2) rfl
    have hc0 : wc.cell? ⟨g, 0, none⟩ = some (.slice (some ⟨bo, 0, none⟩) m m) := hB0.cell 0
    have hl0 := hB0.lt
    clear hB0
    go_wp2_with fail
    go_loopw [6, 21] (fun _ iv wr => ∃ (k : Nat) (xs : List Value), k ≤ m ∧ iv = .int .i64 k ∧ Hid (Holds wr [.row 3 1 (.slice (some ⟨bo, 0, none⟩) m m) m xs, .row 78 2 (.slice (some ⟨bw, 0, none⟩) n n) n xs2, .blk g 76 #[.slice (some ⟨bo, 0, none⟩) m m, .slice (some ⟨bw, 0, none⟩) n n]]) ∧ Hid (Newer w [.row 3 1 (.slice (some ⟨bo, 0, none⟩) m m) m xs, .row 78 2 (.slice (some ⟨bw, 0, none⟩) n n) n xs2, .blk g 76 #[.slice (some ⟨bo, 0, none⟩) m m, .slice (some ⟨bw, 0, none⟩) n n]]) ∧ Hid (Kept [] w wr) ∧ Hid (∀ j < k, xs[j]? = some (I64 (-1)))) (fun _ i _ => m - (intOf i).toNat)
    case atStart => exact ⟨0, xs1, by omega, rfl, HH.out, HN.out, HK.out, fun j hj => by omega⟩
    case round =>
      clear HH HN HK hc0 hl0
      obtain ⟨k, xs, hk, rfl, HH, HN, HK, HX⟩ := hrel
      have hr0 : wr.ownsRow 0 3 1 (.slice (some ⟨bo, 0, none⟩) m m) m xs := HH.out.get (i := 0) rfl
      have hxl : xs.length = m := by have := (Reads.of_own hr0).1; omega
      have hB0 : Blk wr g 76 #[.slice (some ⟨bo, 0, none⟩) m m, .slice (some ⟨bw, 0, none⟩) n n] := HH.out.get (i := 2) rfl
      have hc0 : wr.cell? ⟨g, 0, none⟩ = some (.slice (some ⟨bo, 0, none⟩) m m) := hB0.cell 0
      have hc1 : wr.cell? ⟨g, 1, none⟩ = some (.slice (some ⟨bw, 0, none⟩) n n) := hB0.cell 1
      have hl0 := hB0.lt
      by_cases hlt : k < m
      · have hck : wr.cell? ⟨bo, k, none⟩ = some xs[k] := by rw [hr0.cellAt k (by omega), List.getElem?_eq_getElem (by omega)]
        have hfk : wr.frozen? ⟨bo, k, none⟩ = false := hr0.frozenAt k
        have hlk := World.block_lt_of_cell? wr _ hck
        simp only at hlk
        have hi0 : (0 : Int) ≤ (k : Int) := by omega
        have hi1 : (k : Int) < (m : Int) := by omega
        have hset : Kept [bo] wr (wr.setCell ⟨bo, k, none⟩ (.int .i64 (-1))) := (Kept.refl [bo] wr).setCell (.inl (by simp)) _
        have HH2 : Hid (Holds (wr.setCell ⟨bo, k, none⟩ (.int .i64 (-1))) [.row 3 1 (.slice (some ⟨bo, 0, none⟩) m m) m (xs.set k (.int .i64 (-1))), .row 78 2 (.slice (some ⟨bw, 0, none⟩) n n) n xs2, .blk g 76 #[.slice (some ⟨bo, 0, none⟩) m m, .slice (some ⟨bw, 0, none⟩) n n]]) := HH.out.store (i := 0) rfl k (by omega) (.int .i64 (-1))
        have HN2 : Hid (Newer w [.row 3 1 (.slice (some ⟨bo, 0, none⟩) m m) m (xs.set k (.int .i64 (-1))), .row 78 2 (.slice (some ⟨bw, 0, none⟩) n n) n xs2, .blk g 76 #[.slice (some ⟨bo, 0, none⟩) m m, .slice (some ⟨bw, 0, none⟩) n n]]) := HN.out.turn (i := 0) rfl HK.out.size (p' := .row 3 1 (.slice (some ⟨bo, 0, none⟩) m m) m (xs.set k (.int .i64 (-1)))) (fun q hq => .inl hq)
        have HK2 := Lib.hid (HN.out.kept (i := 0) rfl HK.out hset)
        have HX2 : Hid (∀ j < k + 1, (xs.set k (.int .i64 (-1)))[j]? = some (I64 (-1))) := fun j hj => by
          by_cases he : j = k
          · subst he; rw [List.getElem?_set_self (by omega)]; rfl
          · rw [List.getElem?_set_ne (by omega)]; exact HX.out j (by omega)
        generalize xs[k] = y at *
        clear hset hr0 hB0
        go_wp2_with fail
        go_roundw
        case rel => exact ⟨k + 1, xs.set k (.int .i64 (-1)), by omega, by go_num, HH2, HN2, HK2, HX2⟩
        case measure => simp [intOf]; omega
      · obtain rfl : k = m := by omega
        have hxe : xs = List.replicate k (I64 (-1)) := List.ext_getElem? (fun j => by
          by_cases hj : j < k
          · rw [HX.out j hj, List.getElem?_replicate, if_pos hj]
          · rw [List.getElem?_eq_none (by omega), List.getElem?_eq_none (by simp; omega)])
        subst hxe
        clear hr0 hB0 hxl HX
        go_wp2_with fail
        go_loopw [7, 36] (fun _ iv wr => ∃ (j : Nat) (ys : List Value), j ≤ n ∧ iv = .int .i64 j ∧ Hid (Holds wr [.row 3 1 (.slice (some ⟨bo, 0, none⟩) k k) k (List.replicate k (I64 (-1))), .row 78 2 (.slice (some ⟨bw, 0, none⟩) n n) n ys, .blk g 76 #[.slice (some ⟨bo, 0, none⟩) k k, .slice (some ⟨bw, 0, none⟩) n n]]) ∧ Hid (Newer w [.row 3 1 (.slice (some ⟨bo, 0, none⟩) k k) k (List.replicate k (I64 (-1))), .row 78 2 (.slice (some ⟨bw, 0, none⟩) n n) n ys, .blk g 76 #[.slice (some ⟨bo, 0, none⟩) k k, .slice (some ⟨bw, 0, none⟩) n n]]) ∧ Hid (Kept [] w wr) ∧ Hid (∀ i < j * 2, ys[i]? = some (I64 (-1)))) (fun _ i _ => n - (intOf i).toNat)
        case atStart => exact ⟨0, xs2, by omega, rfl, HH.out, HN.out, HK.out, fun j hj => by omega⟩
        case round =>
          clear HH HN HK hc0 hc1 hl0
          obtain ⟨j, ys, hj, rfl, HH, HN, HK, HX⟩ := hrel
          have hr1 : wr.ownsRow 0 78 2 (.slice (some ⟨bw, 0, none⟩) n n) n ys := HH.out.get (i := 1) rfl
          have hyl : ys.length = n * 2 := (Reads.of_own hr1).1
          have hB0 : Blk wr g 76 #[.slice (some ⟨bo, 0, none⟩) k k, .slice (some ⟨bw, 0, none⟩) n n] := HH.out.get (i := 2) rfl
          have hc1 : wr.cell? ⟨g, 1, none⟩ = some (.slice (some ⟨bw, 0, none⟩) n n) := hB0.cell 1
          have hl0 := hB0.lt
          by_cases hlt : j < n
          · have hck0 : wr.cell? ⟨bw, j * 2, none⟩ = some ys[j * 2] := by rw [hr1.cellAt (j * 2) (by omega), List.getElem?_eq_getElem (by omega)]
            have hck1 : wr.cell? ⟨bw, j * 2 + 1, none⟩ = some ys[j * 2 + 1] := by rw [hr1.cellAt (j * 2 + 1) (by omega), List.getElem?_eq_getElem (by omega)]
            have hfk0 : wr.frozen? ⟨bw, j * 2, none⟩ = false := hr1.frozenAt (j * 2)
            have hfk1 : wr.frozen? ⟨bw, j * 2 + 1, none⟩ = false := hr1.frozenAt (j * 2 + 1)
            have hlk := World.block_lt_of_cell? wr _ hck0
            simp only at hlk
            have hi0 : (0 : Int) ≤ (j : Int) := by omega
            have hi1 : (j : Int) < (n : Int) := by omega
            have hset : Kept [bw] wr ((wr.setCell ⟨bw, j * 2, none⟩ (.int .i64 (-1))).setCell ⟨bw, j * 2 + 1, none⟩ (.int .i64 (-1))) := ((Kept.refl [bw] wr).setCell (.inl (by simp)) _).setCell (.inl (by simp)) _
            have hr3 := ((hr1.stored (j * 2) (.int .i64 (-1))).1.stored (j * 2 + 1) (.int .i64 (-1))).1
            have HH2 : Hid (Holds ((wr.setCell ⟨bw, j * 2, none⟩ (.int .i64 (-1))).setCell ⟨bw, j * 2 + 1, none⟩ (.int .i64 (-1))) [.row 3 1 (.slice (some ⟨bo, 0, none⟩) k k) k (List.replicate k (I64 (-1))), .row 78 2 (.slice (some ⟨bw, 0, none⟩) n n) n ((ys.set (j * 2) (.int .i64 (-1))).set (j * 2 + 1) (.int .i64 (-1))), .blk g 76 #[.slice (some ⟨bo, 0, none⟩) k k, .slice (some ⟨bw, 0, none⟩) n n]]) := HH.out.turn (i := 1) rfl hset (p' := .row 78 2 (.slice (some ⟨bw, 0, none⟩) n n) n ((ys.set (j * 2) (.int .i64 (-1))).set (j * 2 + 1) (.int .i64 (-1)))) hr3 (fun q hq => .inl hq)
            have HN2 : Hid (Newer w [.row 3 1 (.slice (some ⟨bo, 0, none⟩) k k) k (List.replicate k (I64 (-1))), .row 78 2 (.slice (some ⟨bw, 0, none⟩) n n) n ((ys.set (j * 2) (.int .i64 (-1))).set (j * 2 + 1) (.int .i64 (-1))), .blk g 76 #[.slice (some ⟨bo, 0, none⟩) k k, .slice (some ⟨bw, 0, none⟩) n n]]) := HN.out.turn (i := 1) rfl HK.out.size (p' := .row 78 2 (.slice (some ⟨bw, 0, none⟩) n n) n ((ys.set (j * 2) (.int .i64 (-1))).set (j * 2 + 1) (.int .i64 (-1)))) (fun q hq => .inl hq)
            have HK2 := Lib.hid (HN.out.kept (i := 1) rfl HK.out hset)
            have HX2 : Hid (∀ i < (j + 1) * 2, ((ys.set (j * 2) (.int .i64 (-1))).set (j * 2 + 1) (.int .i64 (-1)))[i]? = some (I64 (-1))) := fun i hi => by
              by_cases he : i = j * 2 + 1
              · subst he; rw [List.getElem?_set_self (by rw [List.length_set]; omega)]; rfl
              · rw [List.getElem?_set_ne (by omega)]
                by_cases he2 : i = j * 2
                · subst he2; rw [List.getElem?_set_self (by omega)]; rfl
                · rw [List.getElem?_set_ne (by omega)]; exact HX.out i (by omega)
            generalize ys[j * 2] = y0 at *
            generalize ys[j * 2 + 1] = y1 at *
            clear hset hr1 hB0 hr3
            go_wp2_with fail
            go_roundw
            case rel => exact ⟨j + 1, _, by omega, by go_num, HH2, HN2, HK2, HX2⟩
            case measure => simp [intOf]; omega
          · obtain rfl : j = n := by omega
            have hye : ys = List.replicate (j * 2) (I64 (-1)) := List.ext_getElem? (fun i => by
              by_cases hi : i < j * 2
              · rw [HX.out i hi, List.getElem?_replicate, if_pos hi]
              · rw [List.getElem?_eq_none (by omega), List.getElem?_eq_none (by simp; omega)])
            subst hye
            clear hr1 hB0 hyl HX
            go_wp2_with fail
            go_ret
            exact ⟨g, bo, bw, rfl, HH.out, HN.out, HK.out⟩

end Go.Proofs.YtfoeijiejpenpaaDoor
