/- web.New, walked; lock.New, walked. -/
import Derived.Test.YtfoeijiejpenpaaGreatDoorLkP
import Derived.Deep.DeepCutAuto

/- web.New, walked. -/
namespace Go.Proofs.YtfoeijiejpenpaaGreatDoor
open Go.RowKit

/-- A number cut to 0 .. 64. -/
def clampM (x : Int) : Nat := if x < 0 then 0 else (min x 64).toNat
theorem clampM_le (x : Int) : clampM x ≤ 64 := by unfold clampM; split <;> omega
theorem clampM_id (n : Nat) (h : n ≤ 64) : clampM (n : Int) = n := by unfold clampM; rw [if_neg (by omega)]; omega
theorem clamp_any (x : Int) (w : World) : Calls Tryz.prog 9 #[.int .i64 x, .int .i64 0, .int .i64 64] w fun e w' => e = .returned (.int .i64 ((clampM x : Nat) : Int)) ∧ w = w' := by
  unfold clampM
  by_cases h : x < 0
  · rw [if_pos h]
    go_enter Tryz.func9, Tryz.ntmps9
    go_wp2
    go_ret
    exact ⟨rfl, rfl⟩
  · rw [if_neg h]
    have he : (((min x 64).toNat : Nat) : Int) = min x 64 := by omega
    rw [he]
    clear he
    go_enter Tryz.func9, Tryz.ntmps9
    go_wp2
    go_ret
    exact ⟨rfl, rfl⟩

/-- Two pieces, the other way round. -/
theorem Holds.swap2 {w : World} {p q : Piece} (h : Holds w [p, q]) : Holds w [q, p] := by
  refine ⟨fun r hr => h.1 r (by simp at hr ⊢; exact hr.symm), fun i j r t hij hr ht => ?_⟩
  have hj : j < 2 := (List.getElem?_eq_some_iff.1 ht).1
  obtain rfl : i = 0 := by omega
  obtain rfl : j = 1 := by omega
  simp at hr ht
  subst hr ht
  exact h.apart (i := 1) (j := 0) (by omega) rfl rfl

theorem made_own (t e : TypeId) (z : Value) (size bytes : Nat) (ht : Tryz.prog.underlying t = some (.slice e)) (hi : (Tryz.prog.info? e).map (fun i => (i.zero, i.size, i.bytes)) = some (some z, size, bytes)) (n : Nat) (hb : bytes * n ≤ 281474976710656) (hn : n ≤ maxLen) :
    ∃ (f : World → World) (xs : List Value), ∀ W, (Instr.makeSlice t (.int .i64 (n : Int)) (.int .i64 (n : Int))).run Tryz.prog W = .ok (.slice (some ⟨W.heap.size, 0, none⟩) n n) (f W) ∧ (f W).ownsRow 0 e size (.slice (some ⟨W.heap.size, 0, none⟩) n n) n xs ∧ Kept [] W (f W) := by
  obtain ⟨i, hi0, hz, hsize, hby⟩ := info_parts hi
  have h := fun W => run_make_full (P := Tryz.prog) W 0 t e i z size ht hi0 hz hsize .i64 .i64 n (by rw [hby]; exact hb) hn (Nat.zero_le _)
  exact ⟨fun W => (h W).choose, _, fun W => ⟨(h W).choose_spec.1, (h W).choose_spec.2.1, (Kept.refl _ _).grown (h W).choose_spec.2.2 (fun k hk => by cases hk)⟩⟩

set_option maxHeartbeats 6400000 in
set_option maxRecDepth 100000 in
theorem wbNew_any (t l : Int) (n m : Nat) (hn : clampM t = n) (hm : clampM l = m) (w : World) :
    Calls Tryz.prog 10 #[.int .i64 t, .int .i64 l] w fun e w' => ∃ g bo bw, e = .returned (.pointer (some ⟨g, 0, none⟩)) ∧ Holds w' [.row 3 1 (.slice (some ⟨bo, 0, none⟩) m m) m (List.replicate m (I64 (-1))), .row 85 2 (.slice (some ⟨bw, 0, none⟩) n n) n (List.replicate (n * 2) (I64 (-1))), .blk g 83 #[.slice (some ⟨bo, 0, none⟩) m m, .slice (some ⟨bw, 0, none⟩) n n]] ∧ Newer w [.row 3 1 (.slice (some ⟨bo, 0, none⟩) m m) m (List.replicate m (I64 (-1))), .row 85 2 (.slice (some ⟨bw, 0, none⟩) n n) n (List.replicate (n * 2) (I64 (-1))), .blk g 83 #[.slice (some ⟨bo, 0, none⟩) m m, .slice (some ⟨bw, 0, none⟩) n n]] ∧ Kept [] w w' := by
  have hn64 := clampM_le t
  have hm64 := clampM_le l
  rw [hn] at hn64
  rw [hm] at hm64
  obtain ⟨f1, xs1, hf1⟩ := made_own 27 3 (.int .i64 0) 1 8 Tryz.underlying27 Tryz.infoI m (by omega) (by simp [maxLen]; omega)
  obtain ⟨f2, xs2, hf2⟩ := made_own 81 85 (.agg #[.int .i64 0, .int .i64 0]) 2 16 Tryz.underlying81 (by kernel_rfl) n (by omega) (by simp [maxLen]; omega)
  have hmk1 := fun W => (hf1 W).1
  have hmk2 := fun W => (hf2 W).1
  have HF1 := Lib.hid (fun W => (hf1 W).2)
  have HF2 := Lib.hid (fun W => (hf2 W).2)
  have HC1 := Lib.hid (fun W => clamp_any l W)
  have HC2 := Lib.hid (fun W => clamp_any t W)
  rw [hm] at HC1
  rw [hn] at HC2
  have HPP : Hid (∀ (W : World) bo bw, Kept [] w W → W.ownsRow 0 3 1 (.slice (some ⟨bo, 0, none⟩) m m) m xs1 → W.ownsRow 0 85 2 (.slice (some ⟨bw, 0, none⟩) n n) n xs2 → w.heap.size ≤ bo → w.heap.size ≤ bw → Holds (W.alloc (.cells #[.slice (some ⟨bo, 0, none⟩) m m, .slice (some ⟨bw, 0, none⟩) n n] 83)) [.row 3 1 (.slice (some ⟨bo, 0, none⟩) m m) m xs1, .row 85 2 (.slice (some ⟨bw, 0, none⟩) n n) n xs2, .blk W.heap.size 83 #[.slice (some ⟨bo, 0, none⟩) m m, .slice (some ⟨bw, 0, none⟩) n n]] ∧ Newer w [.row 3 1 (.slice (some ⟨bo, 0, none⟩) m m) m xs1, .row 85 2 (.slice (some ⟨bw, 0, none⟩) n n) n xs2, .blk W.heap.size 83 #[.slice (some ⟨bo, 0, none⟩) m m, .slice (some ⟨bw, 0, none⟩) n n]]) := fun W bo bw hk ho1 ho2 hb1 hb2 => by
    have h2 : Holds W [.row 3 1 (.slice (some ⟨bo, 0, none⟩) m m) m xs1, .row 85 2 (.slice (some ⟨bw, 0, none⟩) n n) n xs2] := by
      refine ⟨fun p hp => ?_, fun i j p q hij hp hq k hk1 hk2 => ?_⟩
      · simp at hp
        rcases hp with rfl | rfl
        · exact ho1
        · exact ho2
      · have hj : j < 2 := (List.getElem?_eq_some_iff.1 hq).1
        obtain rfl : i = 0 := by omega
        obtain rfl : j = 1 := by omega
        simp at hp hq
        subst hp hq
        exact own_own_ne ho1 ho2 (by decide) k hk1 hk2
    refine ⟨h2.push ((Kept.refl _ _).alloc _) (p := .blk W.heap.size 83 #[.slice (some ⟨bo, 0, none⟩) m m, .slice (some ⟨bw, 0, none⟩) n n]) (Blk.new _ _ _) (fun k hk' => by simp [Piece.fp] at hk'; omega), fun p hp k hk' => ?_⟩
    have := hk.size
    simp at hp
    rcases hp with rfl | rfl | rfl <;> simp [Piece.fp, fp_some] at hk' <;> omega
  have HE1 : Hid (∀ W, Kept [] w W → ∃ g bo bw, Value.pointer (some ⟨(f2 (f1 W)).heap.size, 0, none⟩) = .pointer (some ⟨g, 0, none⟩) ∧ Hid (Holds ((f2 (f1 W)).alloc (.cells #[.slice (some ⟨W.heap.size, 0, none⟩) m m, .slice (some ⟨(f1 W).heap.size, 0, none⟩) n n] 83)) [.row 3 1 (.slice (some ⟨bo, 0, none⟩) m m) m xs1, .row 85 2 (.slice (some ⟨bw, 0, none⟩) n n) n xs2, .blk g 83 #[.slice (some ⟨bo, 0, none⟩) m m, .slice (some ⟨bw, 0, none⟩) n n]]) ∧ Hid (Newer w [.row 3 1 (.slice (some ⟨bo, 0, none⟩) m m) m xs1, .row 85 2 (.slice (some ⟨bw, 0, none⟩) n n) n xs2, .blk g 83 #[.slice (some ⟨bo, 0, none⟩) m m, .slice (some ⟨bw, 0, none⟩) n n]]) ∧ Hid (Kept [] w ((f2 (f1 W)).alloc (.cells #[.slice (some ⟨W.heap.size, 0, none⟩) m m, .slice (some ⟨(f1 W).heap.size, 0, none⟩) n n] 83)))) := fun W hk => by
    have a1 := HF1.out W
    have a2 := HF2.out (f1 W)
    have hk2 := (hk.trans a1.2).trans a2.2
    have hp := HPP.out (f2 (f1 W)) _ _ hk2 (own_kept a1.1 a2.2 (by simp)) a2.1 hk.size (hk.trans a1.2).size
    exact ⟨_, _, _, rfl, hp.1, hp.2, hk2.alloc _⟩
  have HE2 : Hid (∀ W, Kept [] w W → ∃ g bo bw, Value.pointer (some ⟨(f1 (f2 W)).heap.size, 0, none⟩) = .pointer (some ⟨g, 0, none⟩) ∧ Hid (Holds ((f1 (f2 W)).alloc (.cells #[.slice (some ⟨(f2 W).heap.size, 0, none⟩) m m, .slice (some ⟨W.heap.size, 0, none⟩) n n] 83)) [.row 3 1 (.slice (some ⟨bo, 0, none⟩) m m) m xs1, .row 85 2 (.slice (some ⟨bw, 0, none⟩) n n) n xs2, .blk g 83 #[.slice (some ⟨bo, 0, none⟩) m m, .slice (some ⟨bw, 0, none⟩) n n]]) ∧ Hid (Newer w [.row 3 1 (.slice (some ⟨bo, 0, none⟩) m m) m xs1, .row 85 2 (.slice (some ⟨bw, 0, none⟩) n n) n xs2, .blk g 83 #[.slice (some ⟨bo, 0, none⟩) m m, .slice (some ⟨bw, 0, none⟩) n n]]) ∧ Hid (Kept [] w ((f1 (f2 W)).alloc (.cells #[.slice (some ⟨(f2 W).heap.size, 0, none⟩) m m, .slice (some ⟨W.heap.size, 0, none⟩) n n] 83)))) := fun W hk => by
    have a1 := HF2.out W
    have a2 := HF1.out (f2 W)
    have hk2 := (hk.trans a1.2).trans a2.2
    have hp := HPP.out (f1 (f2 W)) _ _ hk2 a2.1 (own_kept a1.1 a2.2 (by simp)) (hk.trans a1.2).size hk.size
    exact ⟨_, _, _, rfl, hp.1, hp.2, hk2.alloc _⟩
  clear hf1 hf2 hn hm
  go_enter Tryz.func10, Tryz.ntmps10
  go_upto_region 1 with fail
  go_cut [5] (fun v wx => ∃ g bo bw, v = .pointer (some ⟨g, 0, none⟩) ∧ Hid (Holds wx [.row 3 1 (.slice (some ⟨bo, 0, none⟩) m m) m xs1, .row 85 2 (.slice (some ⟨bw, 0, none⟩) n n) n xs2, .blk g 83 #[.slice (some ⟨bo, 0, none⟩) m m, .slice (some ⟨bw, 0, none⟩) n n]]) ∧ Hid (Newer w [.row 3 1 (.slice (some ⟨bo, 0, none⟩) m m) m xs1, .row 85 2 (.slice (some ⟨bw, 0, none⟩) n n) n xs2, .blk g 83 #[.slice (some ⟨bo, 0, none⟩) m m, .slice (some ⟨bw, 0, none⟩) n n]]) ∧ Hid (Kept [] w wx))
  case first =>
    refine wp_region_held_drew (S := fun _ => True) (by kernel_rfl) trivial (fun hHeld => ?_)
    (refine rtake_0 (v := ?_) (by kernel_rfl) (by kernel_rfl) (by kernel_rfl) (fun _ _ _ h => h) (Or.inl ⟨by rfl, ?_⟩) (by assumption) ?_; rotate_left; focus ((intro w hSw; (try dsimp only at hSw); go_simp); try (with_reducible rfl)); (try simp only [Act.put, List.setIfInBounds_toArray, List.set_cons_zero, List.set_cons_succ]))
    (refine rtake_3 (v := ?_) (by kernel_rfl) (by kernel_rfl) (by kernel_rfl) (fun _ _ _ h => h) (Or.inl ⟨by rfl, ?_⟩) (by assumption) ?_; rotate_left; focus ((intro w hSw; (try dsimp only at hSw); go_simp); try (with_reducible rfl)); (try simp only [Act.put, List.setIfInBounds_toArray, List.set_cons_zero, List.set_cons_succ]))
    (refine wpAnyH_ready (rs := [1]) (by kernel_rfl) (by simp) ?_; refine rcons_1 (fun K hK => ?_) (AllReadyH.nil))
    go_simp
    (with_reducible refine (HC1.out _).mono ?_)
    rintro r w1 ⟨rfl, rfl⟩
    try go_simp
    refine hK.out _ _ trivial (fun hHeld => ?_)
    clear hK K
    (try simp only [Act.put, List.setIfInBounds_toArray, List.set_cons_zero, List.set_cons_succ])
    (refine wpAnyH_ready (rs := [2, 4]) (by kernel_rfl) (by simp) ?_; refine rcons_2 (fun K hK => ?_) (rcons_4 (fun K hK => ?_) (AllReadyH.nil)))
    · go_simp
      refine hK.out _ _ trivial (fun hHeld => ?_)
      clear hK K
      (try simp only [Act.put, List.setIfInBounds_toArray, List.set_cons_zero, List.set_cons_succ])
      (refine wpAnyH_ready (rs := [4]) (by kernel_rfl) (by simp) ?_; refine rcons_4 (fun K hK => ?_) (AllReadyH.nil))
      go_simp
      (with_reducible refine (HC2.out _).mono ?_)
      rintro r w1 ⟨rfl, rfl⟩
      try go_simp
      refine hK.out _ _ trivial (fun hHeld => ?_)
      clear hK K
      (try simp only [Act.put, List.setIfInBounds_toArray, List.set_cons_zero, List.set_cons_succ])
      (refine wpAnyH_ready (rs := [5]) (by kernel_rfl) (by simp) ?_; refine rcons_5 (fun K hK => ?_) (AllReadyH.nil))
      go_simp
      refine hK.out _ _ trivial (fun hHeld => ?_)
      clear hK K
      (try simp only [Act.put, List.setIfInBounds_toArray, List.set_cons_zero, List.set_cons_succ])
      (refine rtake_6 (v := ?_) (by kernel_rfl) (by kernel_rfl) (by kernel_rfl) (fun _ _ _ h => h) (Or.inl ⟨by rfl, ?_⟩) (by assumption) ?_; rotate_left; focus ((intro w hSw; (try dsimp only at hSw); go_simp); try (with_reducible rfl)); (try simp only [Act.put, List.setIfInBounds_toArray, List.set_cons_zero, List.set_cons_succ]))
      (refine wpAnyH_ready (rs := [7]) (by kernel_rfl) (by simp) ?_; refine rcons_7 (fun K hK => ?_) (AllReadyH.nil))
      go_simp
      refine hK.out _ _ trivial (fun hHeld => ?_)
      clear hK K
      (try simp only [Act.put, List.setIfInBounds_toArray, List.set_cons_zero, List.set_cons_succ])
      (refine rtake_8 (v := ?_) (by kernel_rfl) (by kernel_rfl) (by kernel_rfl) (fun _ _ _ h => h) (Or.inl ⟨by rfl, ?_⟩) (by assumption) ?_; rotate_left; focus ((intro w hSw; (try dsimp only at hSw); go_simp); try (with_reducible rfl)); (try simp only [Act.put, List.setIfInBounds_toArray, List.set_cons_zero, List.set_cons_succ]))
      refine wpAnyH_done (by kernel_rfl) ?_ _
      go_wp2_with fail
      go_meet
      exact HE1.out _ (by (repeat (first | (with_reducible exact Kept.refl _ _) | (with_reducible assumption) | (with_reducible refine Kept.alloc ?_ _) | (with_reducible refine Kept.drew ?_) | (with_reducible refine Kept.drewN ?_ _) | (with_reducible refine Kept.setCell ?_ ?_ _) | (exact .inr (Nat.le_refl _)) | (exact .inr (by simp only; omega)) | (exact .inr (by omega)))))
    · go_simp
      (with_reducible refine (HC2.out _).mono ?_)
      rintro r w1 ⟨rfl, rfl⟩
      try go_simp
      refine hK.out _ _ trivial (fun hHeld => ?_)
      clear hK K
      (try simp only [Act.put, List.setIfInBounds_toArray, List.set_cons_zero, List.set_cons_succ])
      (refine wpAnyH_ready (rs := [2, 5]) (by kernel_rfl) (by simp) ?_; refine rcons_2 (fun K hK => ?_) (rcons_5 (fun K hK => ?_) (AllReadyH.nil)))
      · go_simp
        refine hK.out _ _ trivial (fun hHeld => ?_)
        clear hK K
        (try simp only [Act.put, List.setIfInBounds_toArray, List.set_cons_zero, List.set_cons_succ])
        (refine wpAnyH_ready (rs := [5]) (by kernel_rfl) (by simp) ?_; refine rcons_5 (fun K hK => ?_) (AllReadyH.nil))
        go_simp
        refine hK.out _ _ trivial (fun hHeld => ?_)
        clear hK K
        (try simp only [Act.put, List.setIfInBounds_toArray, List.set_cons_zero, List.set_cons_succ])
        (refine rtake_6 (v := ?_) (by kernel_rfl) (by kernel_rfl) (by kernel_rfl) (fun _ _ _ h => h) (Or.inl ⟨by rfl, ?_⟩) (by assumption) ?_; rotate_left; focus ((intro w hSw; (try dsimp only at hSw); go_simp); try (with_reducible rfl)); (try simp only [Act.put, List.setIfInBounds_toArray, List.set_cons_zero, List.set_cons_succ]))
        (refine wpAnyH_ready (rs := [7]) (by kernel_rfl) (by simp) ?_; refine rcons_7 (fun K hK => ?_) (AllReadyH.nil))
        go_simp
        refine hK.out _ _ trivial (fun hHeld => ?_)
        clear hK K
        (try simp only [Act.put, List.setIfInBounds_toArray, List.set_cons_zero, List.set_cons_succ])
        (refine rtake_8 (v := ?_) (by kernel_rfl) (by kernel_rfl) (by kernel_rfl) (fun _ _ _ h => h) (Or.inl ⟨by rfl, ?_⟩) (by assumption) ?_; rotate_left; focus ((intro w hSw; (try dsimp only at hSw); go_simp); try (with_reducible rfl)); (try simp only [Act.put, List.setIfInBounds_toArray, List.set_cons_zero, List.set_cons_succ]))
        refine wpAnyH_done (by kernel_rfl) ?_ _
        go_wp2_with fail
        go_meet
        exact HE1.out _ (by (repeat (first | (with_reducible exact Kept.refl _ _) | (with_reducible assumption) | (with_reducible refine Kept.alloc ?_ _) | (with_reducible refine Kept.drew ?_) | (with_reducible refine Kept.drewN ?_ _) | (with_reducible refine Kept.setCell ?_ ?_ _) | (exact .inr (Nat.le_refl _)) | (exact .inr (by simp only; omega)) | (exact .inr (by omega)))))
      · go_simp
        refine hK.out _ _ trivial (fun hHeld => ?_)
        clear hK K
        (try simp only [Act.put, List.setIfInBounds_toArray, List.set_cons_zero, List.set_cons_succ])
        (refine wpAnyH_ready (rs := [2]) (by kernel_rfl) (by simp) ?_; refine rcons_2 (fun K hK => ?_) (AllReadyH.nil))
        go_simp
        refine hK.out _ _ trivial (fun hHeld => ?_)
        clear hK K
        (try simp only [Act.put, List.setIfInBounds_toArray, List.set_cons_zero, List.set_cons_succ])
        (refine rtake_6 (v := ?_) (by kernel_rfl) (by kernel_rfl) (by kernel_rfl) (fun _ _ _ h => h) (Or.inl ⟨by rfl, ?_⟩) (by assumption) ?_; rotate_left; focus ((intro w hSw; (try dsimp only at hSw); go_simp); try (with_reducible rfl)); (try simp only [Act.put, List.setIfInBounds_toArray, List.set_cons_zero, List.set_cons_succ]))
        (refine wpAnyH_ready (rs := [7]) (by kernel_rfl) (by simp) ?_; refine rcons_7 (fun K hK => ?_) (AllReadyH.nil))
        go_simp
        refine hK.out _ _ trivial (fun hHeld => ?_)
        clear hK K
        (try simp only [Act.put, List.setIfInBounds_toArray, List.set_cons_zero, List.set_cons_succ])
        (refine rtake_8 (v := ?_) (by kernel_rfl) (by kernel_rfl) (by kernel_rfl) (fun _ _ _ h => h) (Or.inl ⟨by rfl, ?_⟩) (by assumption) ?_; rotate_left; focus ((intro w hSw; (try dsimp only at hSw); go_simp); try (with_reducible rfl)); (try simp only [Act.put, List.setIfInBounds_toArray, List.set_cons_zero, List.set_cons_succ]))
        refine wpAnyH_done (by kernel_rfl) ?_ _
        go_wp2_with fail
        go_meet
        exact HE2.out _ (by (repeat (first | (with_reducible exact Kept.refl _ _) | (with_reducible assumption) | (with_reducible refine Kept.alloc ?_ _) | (with_reducible refine Kept.drew ?_) | (with_reducible refine Kept.drewN ?_ _) | (with_reducible refine Kept.setCell ?_ ?_ _) | (exact .inr (Nat.le_refl _)) | (exact .inr (by simp only; omega)) | (exact .inr (by omega)))))
  case rest =>
    obtain ⟨g, bo, bw, rfl, HH, HN, HK⟩ := hcut
    have hB0 : Blk wc g 83 #[.slice (some ⟨bo, 0, none⟩) m m, .slice (some ⟨bw, 0, none⟩) n n] := HH.out.get (i := 2) rfl
    have hc0 : wc.cell? ⟨g, 0, none⟩ = some (.slice (some ⟨bo, 0, none⟩) m m) := hB0.cell 0
    have hl0 := hB0.lt
    clear hB0
    go_wp2_with fail
    go_loopw [6, 21] (fun _ iv wr => ∃ (k : Nat) (xs : List Value), k ≤ m ∧ iv = .int .i64 k ∧ Hid (Holds wr [.row 3 1 (.slice (some ⟨bo, 0, none⟩) m m) m xs, .row 85 2 (.slice (some ⟨bw, 0, none⟩) n n) n xs2, .blk g 83 #[.slice (some ⟨bo, 0, none⟩) m m, .slice (some ⟨bw, 0, none⟩) n n]]) ∧ Hid (Newer w [.row 3 1 (.slice (some ⟨bo, 0, none⟩) m m) m xs, .row 85 2 (.slice (some ⟨bw, 0, none⟩) n n) n xs2, .blk g 83 #[.slice (some ⟨bo, 0, none⟩) m m, .slice (some ⟨bw, 0, none⟩) n n]]) ∧ Hid (Kept [] w wr) ∧ Hid (∀ j < k, xs[j]? = some (I64 (-1)))) (fun _ i _ => m - (intOf i).toNat)
    case atStart => exact ⟨0, xs1, by omega, rfl, HH.out, HN.out, HK.out, fun j hj => by omega⟩
    case round =>
      clear HH HN HK hc0 hl0
      obtain ⟨k, xs, hk, rfl, HH, HN, HK, HX⟩ := hrel
      have hr0 : wr.ownsRow 0 3 1 (.slice (some ⟨bo, 0, none⟩) m m) m xs := HH.out.get (i := 0) rfl
      have hxl : xs.length = m := by have := (Reads.of_own hr0).1; omega
      have hB0 : Blk wr g 83 #[.slice (some ⟨bo, 0, none⟩) m m, .slice (some ⟨bw, 0, none⟩) n n] := HH.out.get (i := 2) rfl
      have hc0 : wr.cell? ⟨g, 0, none⟩ = some (.slice (some ⟨bo, 0, none⟩) m m) := hB0.cell 0
      have hc1 : wr.cell? ⟨g, 1, none⟩ = some (.slice (some ⟨bw, 0, none⟩) n n) := hB0.cell 1
      have hl0 := hB0.lt
      by_cases hlt : k < m
      · have hck : wr.cell? ⟨bo, k, none⟩ = some xs[k] := by rw [hr0.cellAt k (by omega), List.getElem?_eq_getElem (by omega)]
        have hfk : wr.frozen? ⟨bo, k, none⟩ = false := hr0.frozenAt k
        have hlk := World.block_lt_of_cell? wr _ hck
        simp only at hlk
        have hi0 : (0 : Int) ≤ (k : Int) := by omega
        have hi1 : (k : Int) < (m : Int) := by omega
        have hset : Kept [bo] wr (wr.setCell ⟨bo, k, none⟩ (.int .i64 (-1))) := (Kept.refl [bo] wr).setCell (.inl (by simp)) _
        have HH2 : Hid (Holds (wr.setCell ⟨bo, k, none⟩ (.int .i64 (-1))) [.row 3 1 (.slice (some ⟨bo, 0, none⟩) m m) m (xs.set k (.int .i64 (-1))), .row 85 2 (.slice (some ⟨bw, 0, none⟩) n n) n xs2, .blk g 83 #[.slice (some ⟨bo, 0, none⟩) m m, .slice (some ⟨bw, 0, none⟩) n n]]) := HH.out.store (i := 0) rfl k (by omega) (.int .i64 (-1))
        have HN2 : Hid (Newer w [.row 3 1 (.slice (some ⟨bo, 0, none⟩) m m) m (xs.set k (.int .i64 (-1))), .row 85 2 (.slice (some ⟨bw, 0, none⟩) n n) n xs2, .blk g 83 #[.slice (some ⟨bo, 0, none⟩) m m, .slice (some ⟨bw, 0, none⟩) n n]]) := HN.out.turn (i := 0) rfl HK.out.size (p' := .row 3 1 (.slice (some ⟨bo, 0, none⟩) m m) m (xs.set k (.int .i64 (-1)))) (fun q hq => .inl hq)
        have HK2 := Lib.hid (HN.out.kept (i := 0) rfl HK.out hset)
        have HX2 : Hid (∀ j < k + 1, (xs.set k (.int .i64 (-1)))[j]? = some (I64 (-1))) := fun j hj => by
          by_cases he : j = k
          · subst he; rw [List.getElem?_set_self (by omega)]; rfl
          · rw [List.getElem?_set_ne (by omega)]; exact HX.out j (by omega)
        generalize xs[k] = y at *
        clear hset hr0 hB0
        go_wp2_with fail
        go_roundw
        case rel => exact ⟨k + 1, xs.set k (.int .i64 (-1)), by omega, by go_num, HH2, HN2, HK2, HX2⟩
        case measure => simp [intOf]; omega
      · obtain rfl : k = m := by omega
        have hxe : xs = List.replicate k (I64 (-1)) := List.ext_getElem? (fun j => by
          by_cases hj : j < k
          · rw [HX.out j hj, List.getElem?_replicate, if_pos hj]
          · rw [List.getElem?_eq_none (by omega), List.getElem?_eq_none (by simp; omega)])
        subst hxe
        clear hr0 hB0 hxl HX
        go_wp2_with fail
        go_loopw [7, 36] (fun _ iv wr => ∃ (j : Nat) (ys : List Value), j ≤ n ∧ iv = .int .i64 j ∧ Hid (Holds wr [.row 3 1 (.slice (some ⟨bo, 0, none⟩) k k) k (List.replicate k (I64 (-1))), .row 85 2 (.slice (some ⟨bw, 0, none⟩) n n) n ys, .blk g 83 #[.slice (some ⟨bo, 0, none⟩) k k, .slice (some ⟨bw, 0, none⟩) n n]]) ∧ Hid (Newer w [.row 3 1 (.slice (some ⟨bo, 0, none⟩) k k) k (List.replicate k (I64 (-1))), .row 85 2 (.slice (some ⟨bw, 0, none⟩) n n) n ys, .blk g 83 #[.slice (some ⟨bo, 0, none⟩) k k, .slice (some ⟨bw, 0, none⟩) n n]]) ∧ Hid (Kept [] w wr) ∧ Hid (∀ i < j * 2, ys[i]? = some (I64 (-1)))) (fun _ i _ => n - (intOf i).toNat)
        case atStart => exact ⟨0, xs2, by omega, rfl, HH.out, HN.out, HK.out, fun j hj => by omega⟩
        case round =>
          clear HH HN HK hc0 hc1 hl0
          obtain ⟨j, ys, hj, rfl, HH, HN, HK, HX⟩ := hrel
          have hr1 : wr.ownsRow 0 85 2 (.slice (some ⟨bw, 0, none⟩) n n) n ys := HH.out.get (i := 1) rfl
          have hyl : ys.length = n * 2 := (Reads.of_own hr1).1
          have hB0 : Blk wr g 83 #[.slice (some ⟨bo, 0, none⟩) k k, .slice (some ⟨bw, 0, none⟩) n n] := HH.out.get (i := 2) rfl
          have hc1 : wr.cell? ⟨g, 1, none⟩ = some (.slice (some ⟨bw, 0, none⟩) n n) := hB0.cell 1
          have hl0 := hB0.lt
          by_cases hlt : j < n
          · have hck0 : wr.cell? ⟨bw, j * 2, none⟩ = some ys[j * 2] := by rw [hr1.cellAt (j * 2) (by omega), List.getElem?_eq_getElem (by omega)]
            have hck1 : wr.cell? ⟨bw, j * 2 + 1, none⟩ = some ys[j * 2 + 1] := by rw [hr1.cellAt (j * 2 + 1) (by omega), List.getElem?_eq_getElem (by omega)]
            have hfk0 : wr.frozen? ⟨bw, j * 2, none⟩ = false := hr1.frozenAt (j * 2)
            have hfk1 : wr.frozen? ⟨bw, j * 2 + 1, none⟩ = false := hr1.frozenAt (j * 2 + 1)
            have hlk := World.block_lt_of_cell? wr _ hck0
            simp only at hlk
            have hi0 : (0 : Int) ≤ (j : Int) := by omega
            have hi1 : (j : Int) < (n : Int) := by omega
            have hset : Kept [bw] wr ((wr.setCell ⟨bw, j * 2, none⟩ (.int .i64 (-1))).setCell ⟨bw, j * 2 + 1, none⟩ (.int .i64 (-1))) := ((Kept.refl [bw] wr).setCell (.inl (by simp)) _).setCell (.inl (by simp)) _
            have hr3 := ((hr1.stored (j * 2) (.int .i64 (-1))).1.stored (j * 2 + 1) (.int .i64 (-1))).1
            have HH2 : Hid (Holds ((wr.setCell ⟨bw, j * 2, none⟩ (.int .i64 (-1))).setCell ⟨bw, j * 2 + 1, none⟩ (.int .i64 (-1))) [.row 3 1 (.slice (some ⟨bo, 0, none⟩) k k) k (List.replicate k (I64 (-1))), .row 85 2 (.slice (some ⟨bw, 0, none⟩) n n) n ((ys.set (j * 2) (.int .i64 (-1))).set (j * 2 + 1) (.int .i64 (-1))), .blk g 83 #[.slice (some ⟨bo, 0, none⟩) k k, .slice (some ⟨bw, 0, none⟩) n n]]) := HH.out.turn (i := 1) rfl hset (p' := .row 85 2 (.slice (some ⟨bw, 0, none⟩) n n) n ((ys.set (j * 2) (.int .i64 (-1))).set (j * 2 + 1) (.int .i64 (-1)))) hr3 (fun q hq => .inl hq)
            have HN2 : Hid (Newer w [.row 3 1 (.slice (some ⟨bo, 0, none⟩) k k) k (List.replicate k (I64 (-1))), .row 85 2 (.slice (some ⟨bw, 0, none⟩) n n) n ((ys.set (j * 2) (.int .i64 (-1))).set (j * 2 + 1) (.int .i64 (-1))), .blk g 83 #[.slice (some ⟨bo, 0, none⟩) k k, .slice (some ⟨bw, 0, none⟩) n n]]) := HN.out.turn (i := 1) rfl HK.out.size (p' := .row 85 2 (.slice (some ⟨bw, 0, none⟩) n n) n ((ys.set (j * 2) (.int .i64 (-1))).set (j * 2 + 1) (.int .i64 (-1)))) (fun q hq => .inl hq)
            have HK2 := Lib.hid (HN.out.kept (i := 1) rfl HK.out hset)
            have HX2 : Hid (∀ i < (j + 1) * 2, ((ys.set (j * 2) (.int .i64 (-1))).set (j * 2 + 1) (.int .i64 (-1)))[i]? = some (I64 (-1))) := fun i hi => by
              by_cases he : i = j * 2 + 1
              · subst he; rw [List.getElem?_set_self (by rw [List.length_set]; omega)]; rfl
              · rw [List.getElem?_set_ne (by omega)]
                by_cases he2 : i = j * 2
                · subst he2; rw [List.getElem?_set_self (by omega)]; rfl
                · rw [List.getElem?_set_ne (by omega)]; exact HX.out i (by omega)
            generalize ys[j * 2] = y0 at *
            generalize ys[j * 2 + 1] = y1 at *
            clear hset hr1 hB0 hr3
            go_wp2_with fail
            go_roundw
            case rel => exact ⟨j + 1, _, by omega, by go_num, HH2, HN2, HK2, HX2⟩
            case measure => simp [intOf]; omega
          · obtain rfl : j = n := by omega
            have hye : ys = List.replicate (j * 2) (I64 (-1)) := List.ext_getElem? (fun i => by
              by_cases hi : i < j * 2
              · rw [HX.out i hi, List.getElem?_replicate, if_pos hi]
              · rw [List.getElem?_eq_none (by omega), List.getElem?_eq_none (by simp; omega)])
            subst hye
            clear hr1 hB0 hyl HX
            go_wp2_with fail
            go_ret
            exact ⟨g, bo, bw, rfl, HH.out, HN.out, HK.out⟩

end Go.Proofs.YtfoeijiejpenpaaGreatDoor

/- lock.New, walked. -/
namespace Go.Proofs.YtfoeijiejpenpaaGreatDoor
open Go.RowKit

theorem Holds.of_pairwise {w : World} {ps : List Piece} (h : ∀ p ∈ ps, p.holds w) (h2 : ps.Pairwise (fun p q => ∀ k, k ∈ p.fp → k ∉ q.fp)) : Holds w ps := by
  refine ⟨h, fun i j p q hij hp hq => ?_⟩
  obtain ⟨hi, rfl⟩ := List.getElem?_eq_some_iff.1 hp
  obtain ⟨hj, rfl⟩ := List.getElem?_eq_some_iff.1 hq
  exact List.pairwise_iff_getElem.1 h2 i j hi hj hij
/-- A row grows by one. -/
theorem grow_row {w0 w w1 w3 : World} {ps : List Piece} {i : Nat} {e : TypeId} {A A2 : Option Addr} {n c c2 : Nat} {xs ys : List Value} (h : Holds w ps) (hN : Newer w0 ps) (hK : Kept [] w0 w) (hp : ps[i]? = some (.row e 1 (.slice A n c) n xs)) (hk : Kept [] w w1) (ha : Appended w1 w3 e 1 (.slice A n c) (.slice A2 (n + 1) c2) (n + 1) ys) :
    Holds w3 (ps.set i (.row e 1 (.slice A2 (n + 1) c2) (n + 1) ys)) ∧ Newer w0 (ps.set i (.row e 1 (.slice A2 (n + 1) c2) (n + 1) ys)) ∧ Kept [] w0 w3 :=
  ⟨(h.old hk).turn hp ha.2.1 ha.1 ha.2.2, hN.turn hp (hK.trans hk).size ha.2.2, hN.kept hp (hK.trans hk) ha.2.1⟩
/-- A cell of a block is stored. -/
theorem put_cell {w0 w : World} {ps : List Piece} {i : Nat} {g : Nat} {t : TypeId} {cs : Array Value} (h : Holds w ps) (hN : Newer w0 ps) (hK : Kept [] w0 w) (hp : ps[i]? = some (.blk g t cs)) (k : Nat) (u : Value) :
    Holds (w.setCell ⟨g, k, none⟩ u) (ps.set i (.blk g t (cs.setIfInBounds k u))) ∧ Newer w0 (ps.set i (.blk g t (cs.setIfInBounds k u))) ∧ Kept [] w0 (w.setCell ⟨g, k, none⟩ u) :=
  ⟨h.put hp k u, hN.turn hp hK.size (fun q hq => .inl hq), hN.kept hp hK ((Kept.refl _ _).setCell (.inl (by simp [Piece.fp])) u)⟩

theorem Holds.pairwise {w : World} {ps : List Piece} (h : Holds w ps) : ps.Pairwise (fun p q => ∀ k, k ∈ p.fp → k ∉ q.fp) := List.pairwise_iff_getElem.2 fun i j hi hj hij => h.2 i j _ _ hij (List.getElem?_eq_getElem hi) (List.getElem?_eq_getElem hj)
theorem Holds.perm {w : World} {ps qs : List Piece} (h : Holds w ps) (hp : ps.Perm qs) : Holds w qs :=
  Holds.of_pairwise (fun p hq => h.1 p (hp.mem_iff.2 hq)) ((hp.pairwise_iff (fun {p q} hpq k h1 h2 => hpq k h2 h1)).1 h.pairwise)
theorem Newer.perm {w : World} {ps qs : List Piece} (h : Newer w ps) (hp : ps.Perm qs) : Newer w qs := fun p hq => h p (hp.mem_iff.2 hq)
/-- Pieces without memory. -/
theorem Holds.empties {w : World} {ps qs : List Piece} (h : Holds w ps) (hq : ∀ q ∈ qs, q.holds w ∧ q.fp = []) : Holds w (ps ++ qs) := by
  refine Holds.of_pairwise (fun p hp => ?_) (List.pairwise_append.2 ⟨h.pairwise, List.pairwise_iff_getElem.2 fun i j hi hj hij k hk => ?_, fun p hp q hq' k _ hk => ?_⟩)
  · rcases List.mem_append.1 hp with hp | hp
    · exact h.1 p hp
    · exact (hq p hp).1
  · rw [(hq _ (List.getElem_mem hi)).2] at hk; simp at hk
  · rw [(hq _ hq').2] at hk; simp at hk
theorem Newer.empties {w : World} {ps qs : List Piece} (h : Newer w ps) (hq : ∀ q ∈ qs, q.fp = []) : Newer w (ps ++ qs) := fun p hp k hk => by
  rcases List.mem_append.1 hp with hp | hp
  · exact h p hp k hk
  · rw [hq p hp] at hk; simp at hk
theorem Newer.push {w : World} {ps : List Piece} (h : Newer w ps) {p : Piece} (hp : ∀ k, k ∈ p.fp → w.heap.size ≤ k) : Newer w (ps ++ [p]) := fun q hq k hk => by
  rcases List.mem_append.1 hq with hq | hq
  · exact h q hq k hk
  · obtain rfl := List.mem_singleton.1 hq; exact hp k hk

/-- The pieces of locks that are being made. -/
def nP (g gw bo bw n m : Nat) (AV : Option Addr) (cV : Nat) (VS : List Value) (AW : Option Addr) (cW : Nat) (WS : List Value) (AO : Option Addr) (cO : Nat) (OS : List Value) (AE : Option Addr) (cE : Nat) (ES : List Value) (AL : Option Addr) (cL : Nat) (LS : List Value) (J : Value) (gls : List Nat) (X : List Piece) : List Piece :=
  .blk g 47 #[.pointer (some ⟨gw, 0, none⟩), .slice AL LS.length cL, .slice AV VS.length cV, .slice AW WS.length cW, .slice AO OS.length cO, .slice AE ES.length cE, J] ::
  .blk gw 83 #[.slice (some ⟨bo, 0, none⟩) m m, .slice (some ⟨bw, 0, none⟩) n n] ::
  .row 3 1 (.slice (some ⟨bo, 0, none⟩) m m) m (List.replicate m (I64 (-1))) ::
  .row 85 2 (.slice (some ⟨bw, 0, none⟩) n n) n (List.replicate (n * 2) (I64 (-1))) ::
  .row 3 1 (.slice AV VS.length cV) VS.length VS ::
  .row 3 1 (.slice AW WS.length cW) WS.length WS ::
  .row 3 1 (.slice AO OS.length cO) OS.length OS ::
  .row 3 1 (.slice AE ES.length cE) ES.length ES ::
  .row 48 1 (.slice AL LS.length cL) LS.length LS ::
  (gls.flatMap (fun b => [.blk b 91 #[.func (.func 41) #[] #[], .slice none 0 0, .int .u64 0], .row 108 3 (.slice none 0 0) 0 []]) ++ X)
/-- A row of none. -/
def nilRow : Piece := .row 3 1 (.slice none 0 0) 0 []
theorem nilRow_fp : nilRow.fp = [] := by simp [nilRow, Piece.fp, fp, Value.ownBlock]
/-- The pieces of a new map of joins. -/
def newJ (jb n : Nat) : List Piece := .obj jb (.map #[] 0) :: List.replicate n nilRow

theorem perm_tail (A B X : List Piece) (p q : Piece) : (A ++ (B ++ X) ++ [p] ++ [q]).Perm (A ++ (B ++ [p, q] ++ X)) := by
  simp only [List.append_assoc]
  refine (List.perm_append_left_iff A).2 ((List.perm_append_left_iff B).2 ?_)
  exact List.perm_append_comm
theorem flat_replicate_wL (n : Nat) : (List.replicate n ((-1 : Int), (-1 : Int))).flatMap wL = List.replicate (n * 2) (I64 (-1)) := by
  induction n with
  | zero => rfl
  | succ n ih => rw [List.replicate_succ, List.flatMap_cons, ih, show (n + 1) * 2 = n * 2 + 1 + 1 by omega, List.replicate_succ, List.replicate_succ]; rfl
theorem flat_lineP : ∀ (gls : List Nat), (List.zip (gls.map fun b => (b, Value.slice none 0 0)) (List.replicate gls.length (([] : List WO), 0))).flatMap lineP = gls.flatMap (fun b => [.blk b 91 #[.func (.func 41) #[] #[], .slice none 0 0, .int .u64 0], .row 108 3 (.slice none 0 0) 0 []])
  | [] => rfl
  | b :: t => by
    rw [List.length_cons, List.replicate_succ, List.map_cons, List.zip_cons_cons, List.flatMap_cons, List.flatMap_cons, flat_lineP t]; rfl
theorem nP_lkP (g gw bo bw n m : Nat) (AV : Option Addr) (cV : Nat) (AW : Option Addr) (cW : Nat) (AO : Option Addr) (cO : Nat) (AE : Option Addr) (cE : Nat) (AL : Option Addr) (cL : Nat) (J : Value) (gls : List Nat) (X : List Piece) (hg : gls.length = m) :
    nP g gw bo bw n m AV cV (List.replicate n (I64 7)) AW cW (List.replicate n (I64 (-1))) AO cO (List.replicate m (I64 (-1))) AE cE (List.replicate n (I64 7)) AL cL (gls.map fun b => Value.pointer (some ⟨b, 0, none⟩)) J gls X = lkP ⟨g, gw, some ⟨bo, 0, none⟩, m, some ⟨bw, 0, none⟩, n, AL, cL, AV, cV, AW, cW, AO, cO, AE, cE, J, gls.map fun b => (b, .slice none 0 0), X⟩ ⟨List.replicate m (-1), List.replicate n (-1, -1), List.replicate n 7, List.replicate n 7, List.replicate m ([], 0)⟩ := by
  subst hg
  unfold nP lkP
  simp only [List.length_replicate, List.length_map, List.map_replicate, List.map_map, flat_replicate_wL, flat_lineP]
  rfl

set_option maxHeartbeats 6400000 in
set_option maxRecDepth 100000 in
theorem lkNew_any (t l : Int) (n m : Nat) (hn : clampM t = n) (hm : clampM l = m) (w : World) :
    Calls Tryz.prog 4 #[.int .i64 t, .int .i64 l] w fun e w' => ∃ a jb, e = .returned (.pointer (some ⟨a.g, 0, none⟩)) ∧ a.J = .map (some jb) ∧ a.ex = newJ jb n ∧ LkIs w w' a ⟨List.replicate m (-1), List.replicate n (-1, -1), List.replicate n 7, List.replicate n 7, List.replicate m ([], 0)⟩ := by
  have hn64 := clampM_le t
  have hm64 := clampM_le l
  rw [hn] at hn64
  rw [hm] at hm64
  have HC1 := Lib.hid (fun W => clamp_any t W)
  have HC2 := Lib.hid (fun W => clamp_any l W)
  rw [hn] at HC1
  rw [hm] at HC2
  have HW := Lib.hid (fun W => wbNew_any n m n m (clampM_id n hn64) (clampM_id m hm64) W)
  have hmm := @run_makeMap Tryz.prog
  clear hn hm
  go_enter Tryz.func4, Tryz.ntmps4
  go_wp2_with fail
  refine (HC1.out _).mono ?_
  rintro e w1 ⟨rfl, rfl⟩
  go_wp2_with fail
  refine (HC2.out _).mono ?_
  rintro e w1 ⟨rfl, rfl⟩
  go_wp2_with fail
  refine (HW.out _).mono ?_
  rintro e w1 ⟨gw, bo, bw, rfl, hh, hnn, hk1⟩
  have HH0 : Hid (Holds ((w1.alloc (.map #[] 0)).alloc (.cells #[.pointer (some ⟨gw, 0, none⟩), .slice none 0 0, .slice none 0 0, .slice none 0 0, .slice none 0 0, .slice none 0 0, .map (some w1.heap.size)] 47)) (nP (w1.heap.size + 1) gw bo bw n m none 0 [] none 0 [] none 0 [] none 0 [] none 0 [] (.map (some w1.heap.size)) [] (newJ w1.heap.size n))) := by
    have hk2 : Kept [] w1 ((w1.alloc (.map #[] 0)).alloc (.cells #[.pointer (some ⟨gw, 0, none⟩), .slice none 0 0, .slice none 0 0, .slice none 0 0, .slice none 0 0, .slice none 0 0, .map (some w1.heap.size)] 47)) := ((Kept.refl _ _).alloc _).alloc _
    have h1 := hh.old hk2
    have hlt : ∀ (i : Nat) (p : Piece), [Piece.row 3 1 (.slice (some ⟨bo, 0, none⟩) m m) m (List.replicate m (I64 (-1))), .row 85 2 (.slice (some ⟨bw, 0, none⟩) n n) n (List.replicate (n * 2) (I64 (-1))), .blk gw 83 #[.slice (some ⟨bo, 0, none⟩) m m, .slice (some ⟨bw, 0, none⟩) n n]][i]? = some p → ∀ k, k ∈ p.fp → k < w1.heap.size := fun i p hp => Piece.lt (hh.get hp)
    have h0 : Blk ((w1.alloc (.map #[] 0)).alloc (.cells #[.pointer (some ⟨gw, 0, none⟩), .slice none 0 0, .slice none 0 0, .slice none 0 0, .slice none 0 0, .slice none 0 0, .map (some w1.heap.size)] 47)) (w1.heap.size + 1) 47 #[.pointer (some ⟨gw, 0, none⟩), .slice none 0 0, .slice none 0 0, .slice none 0 0, .slice none 0 0, .slice none 0 0, .map (some w1.heap.size)] := Blk.newAt (by simp) _ _
    have e0 := hlt 0 _ rfl
    have e1 := hlt 1 _ rfl
    have e2 := hlt 2 _ rfl
    have a01 := hh.apart (i := 0) (j := 1) (by omega) rfl rfl
    have a02 := hh.apart (i := 0) (j := 2) (by omega) rfl rfl
    have a12 := hh.apart (i := 1) (j := 2) (by omega) rfl rfl
    simp only [Piece.fp, fp_some, List.mem_singleton, forall_eq] at e0 e1 e2 a01 a02 a12
    have hob : ((w1.alloc (.map #[] 0)).alloc (.cells #[.pointer (some ⟨gw, 0, none⟩), .slice none 0 0, .slice none 0 0, .slice none 0 0, .slice none 0 0, .slice none 0 0, .map (some w1.heap.size)] 47)).heap[w1.heap.size]? = some (.map #[] 0) := (Below.heap_alloc _ _ _ (by simp)).trans (heap_alloc_new w1 _)
    have hnr : ∀ q ∈ List.replicate n nilRow, q.holds ((w1.alloc (.map #[] 0)).alloc (.cells #[.pointer (some ⟨gw, 0, none⟩), .slice none 0 0, .slice none 0 0, .slice none 0 0, .slice none 0 0, .slice none 0 0, .map (some w1.heap.size)] 47)) ∧ q.fp = [] := fun q hq => by
      obtain rfl := List.eq_of_mem_replicate hq
      exact ⟨World.ownsRow_nil _ _ _ _, nilRow_fp⟩
    have hgoal := Holds.empties (ps := nP (w1.heap.size + 1) gw bo bw n m none 0 [] none 0 [] none 0 [] none 0 [] none 0 [] (.map (some w1.heap.size)) [] [.obj w1.heap.size (.map #[] 0)]) (Holds.of_pairwise (fun p hp => ?_) ?_) hnr
    · exact hgoal
    · simp only [nP, List.flatMap_nil, List.nil_append, List.mem_cons, List.not_mem_nil, or_false] at hp
      rcases hp with rfl | rfl | rfl | rfl | rfl | rfl | rfl | rfl | rfl | rfl
      · exact h0
      · exact h1.get (i := 2) rfl
      · exact h1.get (i := 0) rfl
      · exact h1.get (i := 1) rfl
      · exact World.ownsRow_nil _ _ _ _
      · exact World.ownsRow_nil _ _ _ _
      · exact World.ownsRow_nil _ _ _ _
      · exact World.ownsRow_nil _ _ _ _
      · exact World.ownsRow_nil _ _ _ _
      · exact hob
    · have en : ∀ c, fp (.slice none 0 c) = [] := fun c => by simp [fp, Value.ownBlock]
      simp only [nP, List.flatMap_nil, List.nil_append, List.length_nil, List.pairwise_cons, List.mem_cons, List.not_mem_nil, or_false, forall_eq_or_imp, forall_eq, Piece.fp, fp_some, en, List.mem_singleton, false_implies, implies_true, and_true, List.Pairwise.nil, not_false_eq_true]
      (repeat' apply And.intro)
      all_goals first | trivial | omega
  have HN0 : Hid (Newer w (nP (w1.heap.size + 1) gw bo bw n m none 0 [] none 0 [] none 0 [] none 0 [] none 0 [] (.map (some w1.heap.size)) [] (newJ w1.heap.size n))) := by
    have hs := hk1.size
    have e0 : ∀ k, k ∈ _ → _ := hnn _ (List.mem_cons_self ..)
    have e1 : ∀ k, k ∈ _ → _ := hnn _ (List.mem_cons_of_mem _ (List.mem_cons_self ..))
    have e2 : ∀ k, k ∈ _ → _ := hnn _ (List.mem_cons_of_mem _ (List.mem_cons_of_mem _ (List.mem_cons_self ..)))
    simp only [Piece.fp, fp_some, List.mem_singleton, forall_eq] at e0 e1 e2
    have hgoal := Newer.empties (w := w) (ps := nP (w1.heap.size + 1) gw bo bw n m none 0 [] none 0 [] none 0 [] none 0 [] none 0 [] (.map (some w1.heap.size)) [] [.obj w1.heap.size (.map #[] 0)]) (qs := List.replicate n nilRow) ?_ (fun q hq => by obtain rfl := List.eq_of_mem_replicate hq; exact nilRow_fp)
    · exact hgoal
    intro p hp k hk
    have en : ∀ c, fp (.slice none 0 c) = [] := fun c => by simp [fp, Value.ownBlock]
    simp only [nP, List.flatMap_nil, List.nil_append, List.mem_cons, List.not_mem_nil, or_false] at hp
    rcases hp with rfl | rfl | rfl | rfl | rfl | rfl | rfl | rfl | rfl | rfl <;> simp only [List.length_nil, Piece.fp, fp_some, en, List.mem_singleton, List.not_mem_nil] at hk <;> omega
  have HK0 : Hid (Kept [] w ((w1.alloc (.map #[] 0)).alloc (.cells #[.pointer (some ⟨gw, 0, none⟩), .slice none 0 0, .slice none 0 0, .slice none 0 0, .slice none 0 0, .slice none 0 0, .map (some w1.heap.size)] 47))) := (hk1.alloc _).alloc _
  clear hh hnn hk1
  go_upto_region 3 with fail
  generalize ((w1.alloc (.map #[] 0)).alloc (.cells #[.pointer (some ⟨gw, 0, none⟩), .slice none 0 0, .slice none 0 0, .slice none 0 0, .slice none 0 0, .slice none 0 0, .map (some w1.heap.size)] 47)) = w2 at *
  generalize w1.heap.size + 1 = g at *
  obtain ⟨X, J, jb, hX, hJ, hXJ⟩ : ∃ X J jb, newJ w1.heap.size n = X ∧ Value.map (some w1.heap.size) = J ∧ (J = .map (some jb) ∧ X = newJ jb n) := ⟨_, _, w1.heap.size, rfl, rfl, rfl, rfl⟩
  rw [hX, hJ] at HH0 HN0
  rw [hJ]
  have HJB := Lib.hid hXJ
  clear hX hJ hXJ
  clear hmm
  go_wp2_with fail
  go_loopw [17] (fun iv wr => ∃ (k : Nat) (AV : Option Addr) (cV : Nat) (VS : List Value) (AW : Option Addr) (cW : Nat) (WS : List Value) (AE : Option Addr) (cE : Nat) (ES : List Value), k ≤ n ∧ iv = .int .i64 k ∧ Hid (VS = List.replicate k (I64 7) ∧ WS = List.replicate k (I64 (-1)) ∧ ES = List.replicate k (I64 7)) ∧ Hid (Holds wr (nP g gw bo bw n m AV cV VS AW cW WS none 0 [] AE cE ES none 0 [] J [] X)) ∧ Hid (Newer w (nP g gw bo bw n m AV cV VS AW cW WS none 0 [] AE cE ES none 0 [] J [] X)) ∧ Hid (Kept [] w wr)) (fun i _ => n - (intOf i).toNat)
  case atStart => exact ⟨0, none, 0, [], none, 0, [], none, 0, [], by omega, rfl, ⟨rfl, rfl, rfl⟩, HH0.out, HN0.out, HK0.out⟩
  case round =>
    clear HH0 HN0 HK0
    obtain ⟨k, AV, cV, VS, AW, cW, WS, AE, cE, ES, hk, rfl, HE, HH, HN, HK⟩ := hrel
    have hb0 : Blk wr g 47 _ := HH.out.get (i := 0) rfl
    by_cases hlt : k < n
    · have hv64 : VS.length ≤ 64 ∧ WS.length ≤ 64 ∧ ES.length ≤ 64 := by obtain ⟨rfl, rfl, rfl⟩ := HE.out; simp; omega
      have hc0 : wr.cell? ⟨g, 2, none⟩ = some (.slice AV VS.length cV) := hb0.cell 2
      have hl0 := hb0.lt
      have HR0 : Hid (∀ W, Kept [] wr W → W.ownsRow 0 3 1 (.slice AV VS.length cV) VS.length VS) := fun W hk => (HH.out.old hk).get (i := 4) rfl
      have HG0 := Lib.hid (fun w1 w3 A2 c2 ys hk ha => grow_row (w1 := w1) (w3 := w3) (i := 4) (e := 3) (A := AV) (A2 := A2) (n := VS.length) (c := cV) (c2 := c2) (xs := VS) (ys := ys) HH.out HN.out HK.out rfl hk ha)
      go_upto_region 6 with (at_builtin; refine wpList_append_any _ rfl _ _ 27 rfl 3 (.int .i64 0) 1 8 Tryz.underlying27 Tryz.infoI rfl (by decide) (.slice AV VS.length cV) VS.length VS rfl (HR0.out _ (by (repeat (first | (with_reducible exact Kept.refl _ _) | (with_reducible assumption) | (with_reducible refine Kept.alloc ?_ _) | (with_reducible refine Kept.drew ?_) | (with_reducible refine Kept.drewN ?_ _) | (with_reducible refine Kept.setCell ?_ ?_ _) | (exact .inr (Nat.le_refl _)) | (exact .inr (by simp only; omega)) | (exact .inr (by omega)))))) _ 1 1 [.int .i64 7] rfl (reads_one _ _ _) (by simp [Value.oneCell']) (by simp only [maxLen]; omega) (by omega) ?_; rintro AV2 cV2 w3 happ; have HA := Lib.hid (HG0.out _ _ _ _ _ (by (repeat (first | (with_reducible exact Kept.refl _ _) | (with_reducible assumption) | (with_reducible refine Kept.alloc ?_ _) | (with_reducible refine Kept.drew ?_) | (with_reducible refine Kept.drewN ?_ _) | (with_reducible refine Kept.setCell ?_ ?_ _) | (exact .inr (Nat.le_refl _)) | (exact .inr (by simp only; omega)) | (exact .inr (by omega))))) happ); have hbx : Blk w3 g 47 _ := HA.out.1.get (i := 0) rfl; have hfx0 := hbx.frozen 2; have hlx0 := hbx.lt; have hcx0 : w3.cell? ⟨g, 2, none⟩ = some (.slice AV VS.length cV) := hbx.cell 2; clear happ hbx)
      have hp0 := put_cell HA.out.1 HA.out.2.1 HA.out.2.2 (i := 0) rfl 2 (.slice AV2 (VS.length + 1) cV2)
      have hlen0 : (VS ++ [I64 7]).length = VS.length + 1 := by simp
      have HH0 : Hid (Holds (w3.setCell ⟨g, 2, none⟩ (.slice AV2 (VS.length + 1) cV2)) (nP g gw bo bw n m AV2 cV2 (VS ++ [I64 7]) AW cW WS none 0 [] AE cE ES none 0 [] J [] X)) := by
        show Holds _ _
        have := hp0.1
        unfold nP
        rw [hlen0]
        exact this
      have HN0 : Hid (Newer w (nP g gw bo bw n m AV2 cV2 (VS ++ [I64 7]) AW cW WS none 0 [] AE cE ES none 0 [] J [] X)) := by
        show Newer _ _
        have := hp0.2.1
        unfold nP
        rw [hlen0]
        exact this
      have HK0 := Lib.hid hp0.2.2
      clear hc0 hl0 hb0 HR0 HG0 HA hfx0 hlx0 hcx0 hp0 hlen0
      generalize w3.setCell ⟨g, 2, none⟩ (.slice AV2 (VS.length + 1) cV2) = v0 at *
      have hb1 : Blk v0 g 47 _ := HH0.out.get (i := 0) rfl
      have hc1 : v0.cell? ⟨g, 3, none⟩ = some (.slice AW WS.length cW) := hb1.cell 3
      have hl1 := hb1.lt
      have HR1 : Hid (∀ W, Kept [] v0 W → W.ownsRow 0 3 1 (.slice AW WS.length cW) WS.length WS) := fun W hk => (HH0.out.old hk).get (i := 5) rfl
      have HG1 := Lib.hid (fun w1 w3 A2 c2 ys hk ha => grow_row (w1 := w1) (w3 := w3) (i := 5) (e := 3) (A := AW) (A2 := A2) (n := WS.length) (c := cW) (c2 := c2) (xs := WS) (ys := ys) HH0.out HN0.out HK0.out rfl hk ha)
      go_upto_region 7 with (at_builtin; refine wpList_append_any _ rfl _ _ 27 rfl 3 (.int .i64 0) 1 8 Tryz.underlying27 Tryz.infoI rfl (by decide) (.slice AW WS.length cW) WS.length WS rfl (HR1.out _ (by (repeat (first | (with_reducible exact Kept.refl _ _) | (with_reducible assumption) | (with_reducible refine Kept.alloc ?_ _) | (with_reducible refine Kept.drew ?_) | (with_reducible refine Kept.drewN ?_ _) | (with_reducible refine Kept.setCell ?_ ?_ _) | (exact .inr (Nat.le_refl _)) | (exact .inr (by simp only; omega)) | (exact .inr (by omega)))))) _ 1 1 [.int .i64 (-1)] rfl (reads_one _ _ _) (by simp [Value.oneCell']) (by simp only [maxLen]; omega) (by omega) ?_; rintro AW2 cW2 w4 happ; have HA := Lib.hid (HG1.out _ _ _ _ _ (by (repeat (first | (with_reducible exact Kept.refl _ _) | (with_reducible assumption) | (with_reducible refine Kept.alloc ?_ _) | (with_reducible refine Kept.drew ?_) | (with_reducible refine Kept.drewN ?_ _) | (with_reducible refine Kept.setCell ?_ ?_ _) | (exact .inr (Nat.le_refl _)) | (exact .inr (by simp only; omega)) | (exact .inr (by omega))))) happ); have hbx : Blk w4 g 47 _ := HA.out.1.get (i := 0) rfl; have hfx1 := hbx.frozen 3; have hlx1 := hbx.lt; have hcx1 : w4.cell? ⟨g, 3, none⟩ = some (.slice AW WS.length cW) := hbx.cell 3; clear happ hbx)
      have hp1 := put_cell HA.out.1 HA.out.2.1 HA.out.2.2 (i := 0) rfl 3 (.slice AW2 (WS.length + 1) cW2)
      have hlen1 : (WS ++ [I64 (-1)]).length = WS.length + 1 := by simp
      have HH1 : Hid (Holds (w4.setCell ⟨g, 3, none⟩ (.slice AW2 (WS.length + 1) cW2)) (nP g gw bo bw n m AV2 cV2 (VS ++ [I64 7]) AW2 cW2 (WS ++ [I64 (-1)]) none 0 [] AE cE ES none 0 [] J [] X)) := by
        show Holds _ _
        have := hp1.1
        unfold nP
        rw [hlen1]
        exact this
      have HN1 : Hid (Newer w (nP g gw bo bw n m AV2 cV2 (VS ++ [I64 7]) AW2 cW2 (WS ++ [I64 (-1)]) none 0 [] AE cE ES none 0 [] J [] X)) := by
        show Newer _ _
        have := hp1.2.1
        unfold nP
        rw [hlen1]
        exact this
      have HK1 := Lib.hid hp1.2.2
      clear hc1 hl1 hb1 HR1 HG1 HA hfx1 hlx1 hcx1 hp1 hlen1
      generalize w4.setCell ⟨g, 3, none⟩ (.slice AW2 (WS.length + 1) cW2) = v1 at *
      have hb2 : Blk v1 g 47 _ := HH1.out.get (i := 0) rfl
      have hc2 : v1.cell? ⟨g, 5, none⟩ = some (.slice AE ES.length cE) := hb2.cell 5
      have hl2 := hb2.lt
      have HR2 : Hid (∀ W, Kept [] v1 W → W.ownsRow 0 3 1 (.slice AE ES.length cE) ES.length ES) := fun W hk => (HH1.out.old hk).get (i := 7) rfl
      have HG2 := Lib.hid (fun w1 w3 A2 c2 ys hk ha => grow_row (w1 := w1) (w3 := w3) (i := 7) (e := 3) (A := AE) (A2 := A2) (n := ES.length) (c := cE) (c2 := c2) (xs := ES) (ys := ys) HH1.out HN1.out HK1.out rfl hk ha)
      go_upto_region 8 with (at_builtin; refine wpList_append_any _ rfl _ _ 27 rfl 3 (.int .i64 0) 1 8 Tryz.underlying27 Tryz.infoI rfl (by decide) (.slice AE ES.length cE) ES.length ES rfl (HR2.out _ (by (repeat (first | (with_reducible exact Kept.refl _ _) | (with_reducible assumption) | (with_reducible refine Kept.alloc ?_ _) | (with_reducible refine Kept.drew ?_) | (with_reducible refine Kept.drewN ?_ _) | (with_reducible refine Kept.setCell ?_ ?_ _) | (exact .inr (Nat.le_refl _)) | (exact .inr (by simp only; omega)) | (exact .inr (by omega)))))) _ 1 1 [.int .i64 7] rfl (reads_one _ _ _) (by simp [Value.oneCell']) (by simp only [maxLen]; omega) (by omega) ?_; rintro AE2 cE2 w5 happ; have HA := Lib.hid (HG2.out _ _ _ _ _ (by (repeat (first | (with_reducible exact Kept.refl _ _) | (with_reducible assumption) | (with_reducible refine Kept.alloc ?_ _) | (with_reducible refine Kept.drew ?_) | (with_reducible refine Kept.drewN ?_ _) | (with_reducible refine Kept.setCell ?_ ?_ _) | (exact .inr (Nat.le_refl _)) | (exact .inr (by simp only; omega)) | (exact .inr (by omega))))) happ); have hbx : Blk w5 g 47 _ := HA.out.1.get (i := 0) rfl; have hfx2 := hbx.frozen 5; have hlx2 := hbx.lt; have hcx2 : w5.cell? ⟨g, 5, none⟩ = some (.slice AE ES.length cE) := hbx.cell 5; clear happ hbx)
      have hp2 := put_cell HA.out.1 HA.out.2.1 HA.out.2.2 (i := 0) rfl 5 (.slice AE2 (ES.length + 1) cE2)
      have hlen2 : (ES ++ [I64 7]).length = ES.length + 1 := by simp
      have HH2 : Hid (Holds (w5.setCell ⟨g, 5, none⟩ (.slice AE2 (ES.length + 1) cE2)) (nP g gw bo bw n m AV2 cV2 (VS ++ [I64 7]) AW2 cW2 (WS ++ [I64 (-1)]) none 0 [] AE2 cE2 (ES ++ [I64 7]) none 0 [] J [] X)) := by
        show Holds _ _
        have := hp2.1
        unfold nP
        rw [hlen2]
        exact this
      have HN2 : Hid (Newer w (nP g gw bo bw n m AV2 cV2 (VS ++ [I64 7]) AW2 cW2 (WS ++ [I64 (-1)]) none 0 [] AE2 cE2 (ES ++ [I64 7]) none 0 [] J [] X)) := by
        show Newer _ _
        have := hp2.2.1
        unfold nP
        rw [hlen2]
        exact this
      have HK2 := Lib.hid hp2.2.2
      clear hc2 hl2 hb2 HR2 HG2 HA hfx2 hlx2 hcx2 hp2 hlen2
      generalize w5.setCell ⟨g, 5, none⟩ (.slice AE2 (ES.length + 1) cE2) = v2 at *
      have HE2 : Hid (VS ++ [I64 7] = List.replicate (k + 1) (I64 7) ∧ WS ++ [I64 (-1)] = List.replicate (k + 1) (I64 (-1)) ∧ ES ++ [I64 7] = List.replicate (k + 1) (I64 7)) := by
        obtain ⟨rfl, rfl, rfl⟩ := HE.out
        exact ⟨by rw [List.replicate_succ'], by rw [List.replicate_succ'], by rw [List.replicate_succ']⟩
      go_wp2_with fail
      go_roundw
      case rel => exact ⟨k + 1, _, _, _, _, _, _, _, _, _, by omega, by go_num, HE2, HH2, HN2, HK2⟩
      case measure => simp [intOf]; omega
    · obtain rfl : k = n := by omega
      go_wp2_with fail
      go_loopw [52] (fun iv wr => ∃ (j : Nat) (AO : Option Addr) (cO : Nat) (OS : List Value) (AL : Option Addr) (cL : Nat) (LS : List Value) (gls : List Nat), j ≤ m ∧ iv = .int .i64 j ∧ Hid (OS = List.replicate j (I64 (-1)) ∧ gls.length = j ∧ LS = gls.map fun b => Value.pointer (some ⟨b, 0, none⟩)) ∧ Hid (Holds wr (nP g gw bo bw k m AV cV VS AW cW WS AO cO OS AE cE ES AL cL LS J gls X)) ∧ Hid (Newer w (nP g gw bo bw k m AV cV VS AW cW WS AO cO OS AE cE ES AL cL LS J gls X)) ∧ Hid (Kept [] w wr)) (fun i _ => m - (intOf i).toNat)
      case atStart => exact ⟨0, none, 0, [], none, 0, [], [], by omega, rfl, ⟨rfl, rfl, rfl⟩, HH.out, HN.out, HK.out⟩
      case round =>
        clear HH HN HK hb0
        obtain ⟨j, AO, cO, OS, AL, cL, LS, gls, hj, rfl, HE3, HH, HN, HK⟩ := hrel
        have hb0 : Blk wr g 47 _ := HH.out.get (i := 0) rfl
        by_cases hlt : j < m
        · have hv64 : OS.length ≤ 64 ∧ LS.length ≤ 64 := by obtain ⟨rfl, h1, rfl⟩ := HE3.out; simp; omega
          have hc : wr.cell? ⟨g, 4, none⟩ = some (.slice AO OS.length cO) := hb0.cell 4
          have hl := hb0.lt
          have HR : Hid (∀ W, Kept [] wr W → W.ownsRow 0 3 1 (.slice AO OS.length cO) OS.length OS) := fun W hk => (HH.out.old hk).get (i := 6) rfl
          have HG := Lib.hid (fun w1 w3 A2 c2 ys hk ha => grow_row (w1 := w1) (w3 := w3) (i := 6) (e := 3) (A := AO) (A2 := A2) (n := OS.length) (c := cO) (c2 := c2) (xs := OS) (ys := ys) HH.out HN.out HK.out rfl hk ha)
          go_upto_region 12 with (at_builtin; refine wpList_append_any _ rfl _ _ 27 rfl 3 (.int .i64 0) 1 8 Tryz.underlying27 Tryz.infoI rfl (by decide) (.slice AO OS.length cO) OS.length OS rfl (HR.out _ (by (repeat (first | (with_reducible exact Kept.refl _ _) | (with_reducible assumption) | (with_reducible refine Kept.alloc ?_ _) | (with_reducible refine Kept.drew ?_) | (with_reducible refine Kept.drewN ?_ _) | (with_reducible refine Kept.setCell ?_ ?_ _) | (exact .inr (Nat.le_refl _)) | (exact .inr (by simp only; omega)) | (exact .inr (by omega)))))) _ 1 1 [.int .i64 (-1)] rfl (reads_one _ _ _) (by simp [Value.oneCell']) (by simp only [maxLen]; omega) (by omega) ?_; rintro AO2 cO2 w3 happ; have HA := Lib.hid (HG.out _ _ _ _ _ (by (repeat (first | (with_reducible exact Kept.refl _ _) | (with_reducible assumption) | (with_reducible refine Kept.alloc ?_ _) | (with_reducible refine Kept.drew ?_) | (with_reducible refine Kept.drewN ?_ _) | (with_reducible refine Kept.setCell ?_ ?_ _) | (exact .inr (Nat.le_refl _)) | (exact .inr (by simp only; omega)) | (exact .inr (by omega))))) happ); have hbx : Blk w3 g 47 _ := HA.out.1.get (i := 0) rfl; have hfx := hbx.frozen 4; have hlx := hbx.lt; have hcx : w3.cell? ⟨g, 4, none⟩ = some (.slice AO OS.length cO) := hbx.cell 4; clear happ hbx)
          have hp := put_cell HA.out.1 HA.out.2.1 HA.out.2.2 (i := 0) rfl 4 (.slice AO2 (OS.length + 1) cO2)
          have hlen : (OS ++ [I64 (-1)]).length = OS.length + 1 := by simp
          have HH1 : Hid (Holds (w3.setCell ⟨g, 4, none⟩ (.slice AO2 (OS.length + 1) cO2)) (nP g gw bo bw k m AV cV VS AW cW WS AO2 cO2 (OS ++ [I64 (-1)]) AE cE ES AL cL LS J gls X)) := by
            show Holds _ _
            have := hp.1
            unfold nP
            rw [hlen]
            exact this
          have HN1 : Hid (Newer w (nP g gw bo bw k m AV cV VS AW cW WS AO2 cO2 (OS ++ [I64 (-1)]) AE cE ES AL cL LS J gls X)) := by
            show Newer _ _
            have := hp.2.1
            unfold nP
            rw [hlen]
            exact this
          have HK1 := Lib.hid hp.2.2
          clear hc hl hb0 HR HG HA hfx hlx hcx hp hlen HH HN HK
          generalize w3.setCell ⟨g, 4, none⟩ (.slice AO2 (OS.length + 1) cO2) = v1 at *
          have hb1 : Blk v1 g 47 _ := HH1.out.get (i := 0) rfl
          have hc1 : v1.cell? ⟨g, 1, none⟩ = some (.slice AL LS.length cL) := hb1.cell 1
          have hl1 := hb1.lt
          refine wp_region_held_drew (S := fun _ => True) (by kernel_rfl) trivial (fun hHeld => ?_)
          (refine rtake_0 (v := ?_) (by kernel_rfl) (by kernel_rfl) (by kernel_rfl) (fun _ _ _ h => h) (Or.inl ⟨by rfl, ?_⟩) (by assumption) ?_; rotate_left; focus ((intro w hSw; (try dsimp only at hSw); go_simp); try (with_reducible rfl)); (try simp only [Act.put, List.setIfInBounds_toArray, List.set_cons_zero, List.set_cons_succ]))
          (refine rtake_1 (v := ?_) (by kernel_rfl) (by kernel_rfl) (by kernel_rfl) (fun _ _ _ h => h) (Or.inl ⟨by rfl, ?_⟩) (by assumption) ?_; rotate_left; focus ((intro w hSw; (try dsimp only at hSw); go_simp); try (with_reducible rfl)); (try simp only [Act.put, List.setIfInBounds_toArray, List.set_cons_zero, List.set_cons_succ]))
          (refine rtake_2 (v := ?_) (by kernel_rfl) (by kernel_rfl) (by kernel_rfl) (fun _ _ _ h => h) (Or.inl ⟨by rfl, ?_⟩) (by assumption) ?_; rotate_left; focus ((intro w hSw; (try dsimp only at hSw); go_simp); try (with_reducible rfl)); (try simp only [Act.put, List.setIfInBounds_toArray, List.set_cons_zero, List.set_cons_succ]))
          (refine rtake_3 (v := ?_) (by kernel_rfl) (by kernel_rfl) (by kernel_rfl) (fun _ _ _ h => h) (Or.inl ⟨by rfl, ?_⟩) (by assumption) ?_; rotate_left; focus ((intro w hSw; (try dsimp only at hSw); go_simp); try (with_reducible rfl)); (try simp only [Act.put, List.setIfInBounds_toArray, List.set_cons_zero, List.set_cons_succ]))
          (refine wpAnyH_ready (rs := [4, 5]) (by kernel_rfl) (by simp) ?_; refine rcons_4 (fun K hK => ?_) (rcons_5 (fun K hK => ?_) (AllReadyH.nil)))
          · go_simp
            refine hK.out _ _ trivial (fun hHeld => ?_)
            clear hK K
            (try simp only [Act.put, List.setIfInBounds_toArray, List.set_cons_zero, List.set_cons_succ])
            (refine wpAnyH_ready (rs := [5]) (by kernel_rfl) (by simp) ?_; refine rcons_5 (fun K hK => ?_) (AllReadyH.nil))
            go_simp
            (with_reducible refine (new_any _).mono ?_)
            rintro r w4 ⟨rfl, hI, hk4⟩
            have hb4 : ∀ k, k ∈ [v1.heap.size] → v1.heap.size ≤ k := fun k hk => by simp at hk; omega
            have HH2 : Hid (Holds w4 (nP g gw bo bw k m AV cV VS AW cW WS AO2 cO2 (OS ++ [I64 (-1)]) AE cE ES AL cL LS J (gls ++ [v1.heap.size]) X)) := by
              have hk5 : Kept [] v1 w4 := ((Kept.refl [] v1).drew).trans hk4
              have h1 := (HH1.out.push hk5 (p := .blk v1.heap.size 91 #[.func (.func 41) #[] #[], .slice none 0 0, .int .u64 0]) hI.blk (fun k hk => by simp [Piece.fp] at hk; omega)).push (Kept.refl [] w4) (p := .row 108 3 (.slice none 0 0) 0 []) (World.ownsRow_nil _ _ _ _) (fun k hk => by simp [Piece.fp, fp, Value.ownBlock] at hk)
              show Holds _ _
              refine Holds.perm h1 ?_
              unfold nP
              rw [List.flatMap_append]
              exact perm_tail (A := [_, _, _, _, _, _, _, _, _]) _ _ _ _
            have HN2 : Hid (Newer w (nP g gw bo bw k m AV cV VS AW cW WS AO2 cO2 (OS ++ [I64 (-1)]) AE cE ES AL cL LS J (gls ++ [v1.heap.size]) X)) := by
              have hs := HK1.out.size
              have h1 := (HN1.out.push (p := .blk v1.heap.size 91 #[.func (.func 41) #[] #[], .slice none 0 0, .int .u64 0]) (fun k hk => by simp [Piece.fp] at hk; omega)).push (p := .row 108 3 (.slice none 0 0) 0 []) (fun k hk => by simp [Piece.fp, fp, Value.ownBlock] at hk)
              show Newer _ _
              refine Newer.perm h1 ?_
              unfold nP
              rw [List.flatMap_append]
              exact perm_tail (A := [_, _, _, _, _, _, _, _, _]) _ _ _ _
            have HK2 := Lib.hid ((HK1.out.drew).trans hk4)
            clear hI hk4 hb4 hb1 hc1 hl1
            have hb2 : Blk w4 g 47 _ := HH2.out.get (i := 0) rfl
            have hc2 : w4.cell? ⟨g, 1, none⟩ = some (.slice AL LS.length cL) := hb2.cell 1
            have hl2 := hb2.lt
            have HR2 : Hid (∀ W, Kept [] w4 W → W.ownsRow 0 48 1 (.slice AL LS.length cL) LS.length LS) := fun W hk => (HH2.out.old hk).get (i := 8) rfl
            have HG2 := Lib.hid (fun w1 w3 A2 c2 ys hk ha => grow_row (w1 := w1) (w3 := w3) (i := 8) (e := 48) (A := AL) (A2 := A2) (n := LS.length) (c := cL) (c2 := c2) (xs := LS) (ys := ys) HH2.out HN2.out HK2.out rfl hk ha)
            (try go_simp)
            refine hK.out _ _ trivial (fun hHeld => ?_)
            clear hK K
            (try simp only [Act.put, List.setIfInBounds_toArray, List.set_cons_zero, List.set_cons_succ])
            (refine wpAnyH_ready (rs := [6]) (by kernel_rfl) (by simp) ?_; refine rcons_6 (fun K hK => ?_) (AllReadyH.nil))
            go_simp
            refine hK.out _ _ trivial (fun hHeld => ?_)
            clear hK K
            (try simp only [Act.put, List.setIfInBounds_toArray, List.set_cons_zero, List.set_cons_succ])
            (refine wpAnyH_ready (rs := [7]) (by kernel_rfl) (by simp) ?_; refine rcons_7 (fun K hK => ?_) (AllReadyH.nil))
            refine step_append_any _ rfl (.tmp 69) (.tmp 71) 43 rfl 48 (.pointer none) 1 8 Tryz.underlying43 (by kernel_rfl) rfl (by decide) (.slice AL LS.length cL) LS.length LS (by simp [Act.eval, Act.put]) (HR2.out _ (by (repeat (first | (with_reducible exact Kept.refl _ _) | (with_reducible assumption) | (with_reducible refine Kept.alloc ?_ _) | (with_reducible refine Kept.drew ?_) | (with_reducible refine Kept.drewN ?_ _) | (with_reducible refine Kept.setCell ?_ ?_ _) | (exact .inr (Nat.le_refl _)) | (exact .inr (by simp only; omega)) | (exact .inr (by omega)))))) _ 1 1 [.pointer (some ⟨v1.heap.size, 0, none⟩)] (by simp [Act.eval, Act.put]) (reads_one _ _ _) (by simp [Value.oneCell']) (by simp only [maxLen]; omega) (by omega) ?_
            rintro AL2 cL2 w5 happ
            have HA := Lib.hid (HG2.out _ _ _ _ _ (by (repeat (first | (with_reducible exact Kept.refl _ _) | (with_reducible assumption) | (with_reducible refine Kept.alloc ?_ _) | (with_reducible refine Kept.drew ?_) | (with_reducible refine Kept.drewN ?_ _) | (with_reducible refine Kept.setCell ?_ ?_ _) | (exact .inr (Nat.le_refl _)) | (exact .inr (by simp only; omega)) | (exact .inr (by omega))))) happ)
            have hb5 : Blk w5 g 47 _ := HA.out.1.get (i := 0) rfl
            have hc5 : w5.cell? ⟨g, 1, none⟩ = some (.slice AL LS.length cL) := hb5.cell 1
            have hf5 := hb5.frozen 1
            have hl5 := hb5.lt
            have hp := put_cell HA.out.1 HA.out.2.1 HA.out.2.2 (i := 0) rfl 1 (.slice AL2 (LS.length + 1) cL2)
            clear happ
            refine hK.out _ _ trivial (fun hHeld => ?_)
            clear hK K
            (try simp only [Act.put, List.setIfInBounds_toArray, List.set_cons_zero, List.set_cons_succ])
            (refine rtake_8 (v := ?_) (by kernel_rfl) (by kernel_rfl) (by kernel_rfl) (fun _ _ _ h => h) (Or.inl ⟨by rfl, ?_⟩) (by assumption) ?_; rotate_left; focus ((intro w hSw; (try dsimp only at hSw); go_simp); try (with_reducible rfl)); (try simp only [Act.put, List.setIfInBounds_toArray, List.set_cons_zero, List.set_cons_succ]))
            (refine rtake_9 (v := ?_) (by kernel_rfl) (by kernel_rfl) (by kernel_rfl) (fun _ _ _ h => h) (Or.inl ⟨by rfl, ?_⟩) (by assumption) ?_; rotate_left; focus ((intro w hSw; (try dsimp only at hSw); go_simp); try (with_reducible rfl)); (try simp only [Act.put, List.setIfInBounds_toArray, List.set_cons_zero, List.set_cons_succ]))
            (refine wpAnyH_ready (rs := [10]) (by kernel_rfl) (by simp) ?_; refine rcons_10 (fun K hK => ?_) (AllReadyH.nil))
            go_simp
            refine hK.out _ _ trivial (fun hHeld => ?_)
            clear hK K
            have hlen2 : (LS ++ [Value.pointer (some ⟨v1.heap.size, 0, none⟩)]).length = LS.length + 1 := by simp
            have HH3 : Hid (Holds (w5.setCell ⟨g, 1, none⟩ (.slice AL2 (LS.length + 1) cL2)) (nP g gw bo bw k m AV cV VS AW cW WS AO2 cO2 (OS ++ [I64 (-1)]) AE cE ES AL2 cL2 (LS ++ [.pointer (some ⟨v1.heap.size, 0, none⟩)]) J (gls ++ [v1.heap.size]) X)) := by
              show Holds _ _
              have := hp.1
              unfold nP
              rw [hlen2]
              exact this
            have HN3 : Hid (Newer w (nP g gw bo bw k m AV cV VS AW cW WS AO2 cO2 (OS ++ [I64 (-1)]) AE cE ES AL2 cL2 (LS ++ [.pointer (some ⟨v1.heap.size, 0, none⟩)]) J (gls ++ [v1.heap.size]) X)) := by
              show Newer _ _
              have := hp.2.1
              unfold nP
              rw [hlen2]
              exact this
            have HK3 := Lib.hid hp.2.2
            have HE4 : Hid (OS ++ [I64 (-1)] = List.replicate (j + 1) (I64 (-1)) ∧ (gls ++ [v1.heap.size]).length = j + 1 ∧ LS ++ [Value.pointer (some ⟨v1.heap.size, 0, none⟩)] = (gls ++ [v1.heap.size]).map fun b => Value.pointer (some ⟨b, 0, none⟩)) := by
              obtain ⟨rfl, h1, rfl⟩ := HE3.out
              exact ⟨by rw [List.replicate_succ'], by simp [h1], by simp⟩
            refine wpAnyH_done (by kernel_rfl) ?_ _
            clear hb5 hc5 hf5 hl5 hp hlen2
            generalize w5.setCell ⟨g, 1, none⟩ (.slice AL2 (LS.length + 1) cL2) = v2 at *
            go_wp2_with fail
            go_roundw
            case rel => exact ⟨j + 1, _, _, _, _, _, _, _, by omega, by go_num, HE4, HH3, HN3, HK3⟩
            case measure => simp [intOf]; omega
          · go_simp
            (with_reducible refine (new_any _).mono ?_)
            rintro r w4 ⟨rfl, hI, hk4⟩
            have hb4 : ∀ k, k ∈ [v1.heap.size] → v1.heap.size ≤ k := fun k hk => by simp at hk; omega
            have HH2 : Hid (Holds w4 (nP g gw bo bw k m AV cV VS AW cW WS AO2 cO2 (OS ++ [I64 (-1)]) AE cE ES AL cL LS J (gls ++ [v1.heap.size]) X)) := by
              have hk5 : Kept [] v1 w4 := ((Kept.refl [] v1).drew).trans hk4
              have h1 := (HH1.out.push hk5 (p := .blk v1.heap.size 91 #[.func (.func 41) #[] #[], .slice none 0 0, .int .u64 0]) hI.blk (fun k hk => by simp [Piece.fp] at hk; omega)).push (Kept.refl [] w4) (p := .row 108 3 (.slice none 0 0) 0 []) (World.ownsRow_nil _ _ _ _) (fun k hk => by simp [Piece.fp, fp, Value.ownBlock] at hk)
              show Holds _ _
              refine Holds.perm h1 ?_
              unfold nP
              rw [List.flatMap_append]
              exact perm_tail (A := [_, _, _, _, _, _, _, _, _]) _ _ _ _
            have HN2 : Hid (Newer w (nP g gw bo bw k m AV cV VS AW cW WS AO2 cO2 (OS ++ [I64 (-1)]) AE cE ES AL cL LS J (gls ++ [v1.heap.size]) X)) := by
              have hs := HK1.out.size
              have h1 := (HN1.out.push (p := .blk v1.heap.size 91 #[.func (.func 41) #[] #[], .slice none 0 0, .int .u64 0]) (fun k hk => by simp [Piece.fp] at hk; omega)).push (p := .row 108 3 (.slice none 0 0) 0 []) (fun k hk => by simp [Piece.fp, fp, Value.ownBlock] at hk)
              show Newer _ _
              refine Newer.perm h1 ?_
              unfold nP
              rw [List.flatMap_append]
              exact perm_tail (A := [_, _, _, _, _, _, _, _, _]) _ _ _ _
            have HK2 := Lib.hid ((HK1.out.drew).trans hk4)
            clear hI hk4 hb4 hb1 hc1 hl1
            have hb2 : Blk w4 g 47 _ := HH2.out.get (i := 0) rfl
            have hc2 : w4.cell? ⟨g, 1, none⟩ = some (.slice AL LS.length cL) := hb2.cell 1
            have hl2 := hb2.lt
            have HR2 : Hid (∀ W, Kept [] w4 W → W.ownsRow 0 48 1 (.slice AL LS.length cL) LS.length LS) := fun W hk => (HH2.out.old hk).get (i := 8) rfl
            have HG2 := Lib.hid (fun w1 w3 A2 c2 ys hk ha => grow_row (w1 := w1) (w3 := w3) (i := 8) (e := 48) (A := AL) (A2 := A2) (n := LS.length) (c := cL) (c2 := c2) (xs := LS) (ys := ys) HH2.out HN2.out HK2.out rfl hk ha)
            (try go_simp)
            refine hK.out _ _ trivial (fun hHeld => ?_)
            clear hK K
            (try simp only [Act.put, List.setIfInBounds_toArray, List.set_cons_zero, List.set_cons_succ])
            (refine wpAnyH_ready (rs := [4, 6]) (by kernel_rfl) (by simp) ?_; refine rcons_4 (fun K hK => ?_) (rcons_6 (fun K hK => ?_) (AllReadyH.nil)))
            · go_simp
              refine hK.out _ _ trivial (fun hHeld => ?_)
              clear hK K
              (try simp only [Act.put, List.setIfInBounds_toArray, List.set_cons_zero, List.set_cons_succ])
              (refine wpAnyH_ready (rs := [6]) (by kernel_rfl) (by simp) ?_; refine rcons_6 (fun K hK => ?_) (AllReadyH.nil))
              go_simp
              refine hK.out _ _ trivial (fun hHeld => ?_)
              clear hK K
              (try simp only [Act.put, List.setIfInBounds_toArray, List.set_cons_zero, List.set_cons_succ])
              (refine wpAnyH_ready (rs := [7]) (by kernel_rfl) (by simp) ?_; refine rcons_7 (fun K hK => ?_) (AllReadyH.nil))
              refine step_append_any _ rfl (.tmp 69) (.tmp 71) 43 rfl 48 (.pointer none) 1 8 Tryz.underlying43 (by kernel_rfl) rfl (by decide) (.slice AL LS.length cL) LS.length LS (by simp [Act.eval, Act.put]) (HR2.out _ (by (repeat (first | (with_reducible exact Kept.refl _ _) | (with_reducible assumption) | (with_reducible refine Kept.alloc ?_ _) | (with_reducible refine Kept.drew ?_) | (with_reducible refine Kept.drewN ?_ _) | (with_reducible refine Kept.setCell ?_ ?_ _) | (exact .inr (Nat.le_refl _)) | (exact .inr (by simp only; omega)) | (exact .inr (by omega)))))) _ 1 1 [.pointer (some ⟨v1.heap.size, 0, none⟩)] (by simp [Act.eval, Act.put]) (reads_one _ _ _) (by simp [Value.oneCell']) (by simp only [maxLen]; omega) (by omega) ?_
              rintro AL2 cL2 w5 happ
              have HA := Lib.hid (HG2.out _ _ _ _ _ (by (repeat (first | (with_reducible exact Kept.refl _ _) | (with_reducible assumption) | (with_reducible refine Kept.alloc ?_ _) | (with_reducible refine Kept.drew ?_) | (with_reducible refine Kept.drewN ?_ _) | (with_reducible refine Kept.setCell ?_ ?_ _) | (exact .inr (Nat.le_refl _)) | (exact .inr (by simp only; omega)) | (exact .inr (by omega))))) happ)
              have hb5 : Blk w5 g 47 _ := HA.out.1.get (i := 0) rfl
              have hc5 : w5.cell? ⟨g, 1, none⟩ = some (.slice AL LS.length cL) := hb5.cell 1
              have hf5 := hb5.frozen 1
              have hl5 := hb5.lt
              have hp := put_cell HA.out.1 HA.out.2.1 HA.out.2.2 (i := 0) rfl 1 (.slice AL2 (LS.length + 1) cL2)
              clear happ
              refine hK.out _ _ trivial (fun hHeld => ?_)
              clear hK K
              (try simp only [Act.put, List.setIfInBounds_toArray, List.set_cons_zero, List.set_cons_succ])
              (refine rtake_8 (v := ?_) (by kernel_rfl) (by kernel_rfl) (by kernel_rfl) (fun _ _ _ h => h) (Or.inl ⟨by rfl, ?_⟩) (by assumption) ?_; rotate_left; focus ((intro w hSw; (try dsimp only at hSw); go_simp); try (with_reducible rfl)); (try simp only [Act.put, List.setIfInBounds_toArray, List.set_cons_zero, List.set_cons_succ]))
              (refine rtake_9 (v := ?_) (by kernel_rfl) (by kernel_rfl) (by kernel_rfl) (fun _ _ _ h => h) (Or.inl ⟨by rfl, ?_⟩) (by assumption) ?_; rotate_left; focus ((intro w hSw; (try dsimp only at hSw); go_simp); try (with_reducible rfl)); (try simp only [Act.put, List.setIfInBounds_toArray, List.set_cons_zero, List.set_cons_succ]))
              (refine wpAnyH_ready (rs := [10]) (by kernel_rfl) (by simp) ?_; refine rcons_10 (fun K hK => ?_) (AllReadyH.nil))
              go_simp
              refine hK.out _ _ trivial (fun hHeld => ?_)
              clear hK K
              have hlen2 : (LS ++ [Value.pointer (some ⟨v1.heap.size, 0, none⟩)]).length = LS.length + 1 := by simp
              have HH3 : Hid (Holds (w5.setCell ⟨g, 1, none⟩ (.slice AL2 (LS.length + 1) cL2)) (nP g gw bo bw k m AV cV VS AW cW WS AO2 cO2 (OS ++ [I64 (-1)]) AE cE ES AL2 cL2 (LS ++ [.pointer (some ⟨v1.heap.size, 0, none⟩)]) J (gls ++ [v1.heap.size]) X)) := by
                show Holds _ _
                have := hp.1
                unfold nP
                rw [hlen2]
                exact this
              have HN3 : Hid (Newer w (nP g gw bo bw k m AV cV VS AW cW WS AO2 cO2 (OS ++ [I64 (-1)]) AE cE ES AL2 cL2 (LS ++ [.pointer (some ⟨v1.heap.size, 0, none⟩)]) J (gls ++ [v1.heap.size]) X)) := by
                show Newer _ _
                have := hp.2.1
                unfold nP
                rw [hlen2]
                exact this
              have HK3 := Lib.hid hp.2.2
              have HE4 : Hid (OS ++ [I64 (-1)] = List.replicate (j + 1) (I64 (-1)) ∧ (gls ++ [v1.heap.size]).length = j + 1 ∧ LS ++ [Value.pointer (some ⟨v1.heap.size, 0, none⟩)] = (gls ++ [v1.heap.size]).map fun b => Value.pointer (some ⟨b, 0, none⟩)) := by
                obtain ⟨rfl, h1, rfl⟩ := HE3.out
                exact ⟨by rw [List.replicate_succ'], by simp [h1], by simp⟩
              refine wpAnyH_done (by kernel_rfl) ?_ _
              clear hb5 hc5 hf5 hl5 hp hlen2
              generalize w5.setCell ⟨g, 1, none⟩ (.slice AL2 (LS.length + 1) cL2) = v2 at *
              go_wp2_with fail
              go_roundw
              case rel => exact ⟨j + 1, _, _, _, _, _, _, _, by omega, by go_num, HE4, HH3, HN3, HK3⟩
              case measure => simp [intOf]; omega
            · go_simp
              refine hK.out _ _ trivial (fun hHeld => ?_)
              clear hK K
              (try simp only [Act.put, List.setIfInBounds_toArray, List.set_cons_zero, List.set_cons_succ])
              (refine wpAnyH_ready (rs := [4]) (by kernel_rfl) (by simp) ?_; refine rcons_4 (fun K hK => ?_) (AllReadyH.nil))
              go_simp
              refine hK.out _ _ trivial (fun hHeld => ?_)
              clear hK K
              (try simp only [Act.put, List.setIfInBounds_toArray, List.set_cons_zero, List.set_cons_succ])
              (refine wpAnyH_ready (rs := [7]) (by kernel_rfl) (by simp) ?_; refine rcons_7 (fun K hK => ?_) (AllReadyH.nil))
              refine step_append_any _ rfl (.tmp 69) (.tmp 71) 43 rfl 48 (.pointer none) 1 8 Tryz.underlying43 (by kernel_rfl) rfl (by decide) (.slice AL LS.length cL) LS.length LS (by simp [Act.eval, Act.put]) (HR2.out _ (by (repeat (first | (with_reducible exact Kept.refl _ _) | (with_reducible assumption) | (with_reducible refine Kept.alloc ?_ _) | (with_reducible refine Kept.drew ?_) | (with_reducible refine Kept.drewN ?_ _) | (with_reducible refine Kept.setCell ?_ ?_ _) | (exact .inr (Nat.le_refl _)) | (exact .inr (by simp only; omega)) | (exact .inr (by omega)))))) _ 1 1 [.pointer (some ⟨v1.heap.size, 0, none⟩)] (by simp [Act.eval, Act.put]) (reads_one _ _ _) (by simp [Value.oneCell']) (by simp only [maxLen]; omega) (by omega) ?_
              rintro AL2 cL2 w5 happ
              have HA := Lib.hid (HG2.out _ _ _ _ _ (by (repeat (first | (with_reducible exact Kept.refl _ _) | (with_reducible assumption) | (with_reducible refine Kept.alloc ?_ _) | (with_reducible refine Kept.drew ?_) | (with_reducible refine Kept.drewN ?_ _) | (with_reducible refine Kept.setCell ?_ ?_ _) | (exact .inr (Nat.le_refl _)) | (exact .inr (by simp only; omega)) | (exact .inr (by omega))))) happ)
              have hb5 : Blk w5 g 47 _ := HA.out.1.get (i := 0) rfl
              have hc5 : w5.cell? ⟨g, 1, none⟩ = some (.slice AL LS.length cL) := hb5.cell 1
              have hf5 := hb5.frozen 1
              have hl5 := hb5.lt
              have hp := put_cell HA.out.1 HA.out.2.1 HA.out.2.2 (i := 0) rfl 1 (.slice AL2 (LS.length + 1) cL2)
              clear happ
              refine hK.out _ _ trivial (fun hHeld => ?_)
              clear hK K
              (try simp only [Act.put, List.setIfInBounds_toArray, List.set_cons_zero, List.set_cons_succ])
              (refine rtake_8 (v := ?_) (by kernel_rfl) (by kernel_rfl) (by kernel_rfl) (fun _ _ _ h => h) (Or.inl ⟨by rfl, ?_⟩) (by assumption) ?_; rotate_left; focus ((intro w hSw; (try dsimp only at hSw); go_simp); try (with_reducible rfl)); (try simp only [Act.put, List.setIfInBounds_toArray, List.set_cons_zero, List.set_cons_succ]))
              (refine rtake_9 (v := ?_) (by kernel_rfl) (by kernel_rfl) (by kernel_rfl) (fun _ _ _ h => h) (Or.inl ⟨by rfl, ?_⟩) (by assumption) ?_; rotate_left; focus ((intro w hSw; (try dsimp only at hSw); go_simp); try (with_reducible rfl)); (try simp only [Act.put, List.setIfInBounds_toArray, List.set_cons_zero, List.set_cons_succ]))
              (refine wpAnyH_ready (rs := [10]) (by kernel_rfl) (by simp) ?_; refine rcons_10 (fun K hK => ?_) (AllReadyH.nil))
              go_simp
              refine hK.out _ _ trivial (fun hHeld => ?_)
              clear hK K
              have hlen2 : (LS ++ [Value.pointer (some ⟨v1.heap.size, 0, none⟩)]).length = LS.length + 1 := by simp
              have HH3 : Hid (Holds (w5.setCell ⟨g, 1, none⟩ (.slice AL2 (LS.length + 1) cL2)) (nP g gw bo bw k m AV cV VS AW cW WS AO2 cO2 (OS ++ [I64 (-1)]) AE cE ES AL2 cL2 (LS ++ [.pointer (some ⟨v1.heap.size, 0, none⟩)]) J (gls ++ [v1.heap.size]) X)) := by
                show Holds _ _
                have := hp.1
                unfold nP
                rw [hlen2]
                exact this
              have HN3 : Hid (Newer w (nP g gw bo bw k m AV cV VS AW cW WS AO2 cO2 (OS ++ [I64 (-1)]) AE cE ES AL2 cL2 (LS ++ [.pointer (some ⟨v1.heap.size, 0, none⟩)]) J (gls ++ [v1.heap.size]) X)) := by
                show Newer _ _
                have := hp.2.1
                unfold nP
                rw [hlen2]
                exact this
              have HK3 := Lib.hid hp.2.2
              have HE4 : Hid (OS ++ [I64 (-1)] = List.replicate (j + 1) (I64 (-1)) ∧ (gls ++ [v1.heap.size]).length = j + 1 ∧ LS ++ [Value.pointer (some ⟨v1.heap.size, 0, none⟩)] = (gls ++ [v1.heap.size]).map fun b => Value.pointer (some ⟨b, 0, none⟩)) := by
                obtain ⟨rfl, h1, rfl⟩ := HE3.out
                exact ⟨by rw [List.replicate_succ'], by simp [h1], by simp⟩
              refine wpAnyH_done (by kernel_rfl) ?_ _
              clear hb5 hc5 hf5 hl5 hp hlen2
              generalize w5.setCell ⟨g, 1, none⟩ (.slice AL2 (LS.length + 1) cL2) = v2 at *
              go_wp2_with fail
              go_roundw
              case rel => exact ⟨j + 1, _, _, _, _, _, _, _, by omega, by go_num, HE4, HH3, HN3, HK3⟩
              case measure => simp [intOf]; omega
        · obtain rfl : j = m := by omega
          have HFIN := Lib.hid (nP_lkP g gw bo bw k j AV cV AW cW AO cO AE cE AL cL J gls X HE3.out.2.1)
          have hE := HE.out
          have hE3 := HE3.out
          rw [hE.1, hE.2.1, hE.2.2, hE3.1, hE3.2.2] at HH HN
          have HLK : Hid (LkIs w wr ⟨g, gw, some ⟨bo, 0, none⟩, j, some ⟨bw, 0, none⟩, k, AL, cL, AV, cV, AW, cW, AO, cO, AE, cE, J, gls.map fun b => (b, .slice none 0 0), X⟩ ⟨List.replicate j (-1), List.replicate k (-1, -1), List.replicate k 7, List.replicate k 7, List.replicate j ([], 0)⟩) := by
            refine ⟨⟨by simp [HE3.out.2.1], ?_⟩, ?_, HK.out⟩
            · rw [← HFIN.out]; exact HH.out
            · rw [← HFIN.out]; exact Newer.toB HN.out
          clear HH HN HK HE HE3 hE hE3 HFIN hb0
          go_wp2_with fail
          go_ret
          exact ⟨_, jb, rfl, HJB.out.1, HJB.out.2, HLK.out⟩

end Go.Proofs.YtfoeijiejpenpaaGreatDoor

