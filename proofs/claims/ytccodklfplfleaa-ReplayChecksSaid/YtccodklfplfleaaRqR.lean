/- The document's roll (layer 20), of an account: what it tells, walked. -/
import Derived.Test.YtccodklfplfleaaRqM
import Derived.Test.YtccodklfplfleaaQp
import Derived.Test.YtccodklfplfleaaRpR
namespace Go.Proofs.Ytccodklfplfleaa
open Go.RowKit

section
variable {w : World} {b : RqA} {d : Du} {a : Acc}
theorem R20Is_any (h : RqAt w b d a) (s : Int) : Calls Try.prog 42 #[.pointer (some ⟨b.gr, 0, none⟩), .int .i64 s] w fun x w' => x = .returned (.bool (decide (0 ≤ s ∧ s < a.P.length))) ∧ w = w' := by
  obtain ⟨c0, _, hl⟩ := RqAt.rolc h
  generalize a.P.length = n at *
  clear h
  by_cases h1 : 0 ≤ s
  · have b1 : decide (0 ≤ s) = true := by simpa using h1
    by_cases h2 : s < n
    · have b2 : decide (s < (n : Int)) = true := by simpa using h2
      rw [decide_eq_true ⟨h1, h2⟩]
      clear h1 h2
      go_enter Try.func42, Try.ntmps42
      go_wp2_with fail
      go_ret
      exact ⟨rfl, rfl⟩
    · have b2 : decide (s < (n : Int)) = false := by simpa using h2
      rw [decide_eq_false (by omega)]
      clear h1 h2
      go_enter Try.func42, Try.ntmps42
      go_wp2_with fail
      go_ret
      exact ⟨rfl, rfl⟩
  · have b1 : decide (0 ≤ s) = false := by simpa using h1
    rw [decide_eq_false (by omega)]
    clear h1
    go_enter Try.func42, Try.ntmps42
    go_wp2_with fail
    go_ret
    exact ⟨rfl, rfl⟩
theorem R20open_any (h : RqAt w b d a) (k : Nat) (hk : k < a.P.length) : Calls Try.prog 70 #[.pointer (some ⟨b.gr, 0, none⟩), .int .i64 k] w fun x w' => x = .returned (.bool (a.pl k).free) ∧ w = w' := by
  obtain ⟨c0, c1, hl⟩ := RqAt.rolc h
  obtain ⟨p0, p1, l0, l1, _⟩ := RqAt.pl h hk
  have i0 : (0 : Int) ≤ (k : Int) := by omega
  have i1 : (k : Int) < (a.P.length : Int) := by omega
  unfold Pl.free
  generalize a.pl k = p at *
  obtain ⟨t, g⟩ := p
  simp only at p0 p1 ⊢
  generalize a.P.length = n at *
  clear h hk
  cases t
  · by_cases hg : g < 4294967295
    · have hd : decide (g < 4294967295) = true := by simpa using hg
      have h1 : decide ((g : Int) < 4294967295) = true := by simp; omega
      rw [hd]
      clear hd hg
      go_enter Try.func70, Try.ntmps70
      go_wp2_with fail
      go_ret
      exact ⟨rfl, rfl⟩
    · have hd : decide (g < 4294967295) = false := by simpa using hg
      have h1 : decide ((g : Int) < 4294967295) = false := by simp; omega
      rw [hd]
      clear hd hg
      go_enter Try.func70, Try.ntmps70
      go_wp2_with fail
      go_ret
      exact ⟨rfl, rfl⟩
  · go_enter Try.func70, Try.ntmps70
    go_wp2_with fail
    go_ret
    exact ⟨rfl, rfl⟩
set_option maxHeartbeats 3200000 in
theorem R20Has_any (h : RqAt w b d a) (s : Int) (gn : Nat) : Calls Try.prog 27 #[.pointer (some ⟨b.gr, 0, none⟩), .agg #[.int .i64 s, .int .u32 gn]] w fun x w' => x = .returned (.bool (hasA a s gn)) ∧ Kept [] w w' := by
  obtain ⟨wb, hwb⟩ : ∃ wb, w.alloc (.cells #[.int .i64 s, .int .u32 gn] 53) = wb := ⟨_, rfl⟩
  have h0 : Kept [] w wb := by rw [← hwb]; exact (Kept.refl _ _).alloc _
  have HK0 := Lib.hid h0
  have hB : Blk wb w.heap.size 53 #[.int .i64 s, .int .u32 gn] := by rw [← hwb]; exact Blk.new w _ _
  have HIS : Hid (∀ W, Kept [] wb W → Calls Try.prog 42 #[.pointer (some ⟨b.gr, 0, none⟩), .int .i64 s] W fun x w' => x = .returned (.bool (decide (0 ≤ s ∧ s < a.P.length))) ∧ Kept [] W w') := fun W hk => (R20Is_any (RqAt.old h (h0.trans hk)) s).mono fun _ _ h => ⟨h.1, by rw [h.2]; exact Kept.refl _ _⟩
  have HB : Hid (∀ W, Kept [] wb W → W.cell? ⟨w.heap.size, 0, none⟩ = some (.int .i64 s) ∧ W.cell? ⟨w.heap.size, 1, none⟩ = some (.int .u32 gn) ∧ w.heap.size < W.heap.size) := fun W hk => by
    have h2 := hB.kept hk (by simp)
    exact ⟨h2.cell 0, h2.cell 1, h2.lt⟩
  unfold hasA hasP
  by_cases hr : 0 ≤ s ∧ s < a.P.length
  · rw [decide_eq_true hr] at HIS ⊢
    obtain ⟨k, rfl⟩ : ∃ k : Nat, s = k := ⟨s.toNat, by omega⟩
    have hk : k < a.P.length := by omega
    have i0 : (0 : Int) ≤ (k : Int) := by omega
    have i1 : (k : Int) < (a.P.length : Int) := by omega
    have hpl : a.P.getD k Pl.zero = a.pl k := rfl
    rw [Int.toNat_natCast, hpl]
    have HF : Hid (∀ W, Kept [] wb W → (W.cell? ⟨w.heap.size, 0, none⟩ = some (.int .i64 k) ∧ W.cell? ⟨w.heap.size, 1, none⟩ = some (.int .u32 gn) ∧ w.heap.size < W.heap.size) ∧ W.cell? ⟨b.gr, 0, none⟩ = some (.slice (some ⟨b.gP, 0, none⟩) a.P.length a.P.length) ∧ W.cell? ⟨b.gr, 1, none⟩ = some (.slice (some ⟨b.gG, 0, none⟩) a.P.length a.P.length) ∧ W.cell? ⟨b.gP, k, none⟩ = some (.bool (a.pl k).taken) ∧ W.cell? ⟨b.gG, k, none⟩ = some (.int .u32 (a.pl k).gen)) := fun W hk2 => by
      have h1 := RqAt.old h (h0.trans hk2)
      obtain ⟨c0, c1, _⟩ := RqAt.rolc h1
      obtain ⟨p0, p1, _⟩ := RqAt.pl h1 hk
      exact ⟨HB.out W hk2, c0, c1, p0, p1⟩
    generalize a.pl k = p at *
    obtain ⟨t, g⟩ := p
    generalize a.P.length = n at *
    clear h hB h0 hpl hr hk
    simp only at HF ⊢
    cases t with
    | false =>
      go_enter Try.func27, Try.ntmps27
      go_wp2_with fail
      try rw [hwb]
      (refine wp_region_phases (n := 28) (listed := #[false, false, false, false, false, false, false, false, false, false, false, false, false, false, false, false, false, false, false, false, false, false, false, false, false, false, false, false]) (by kernel_rfl) (by rfl) (by rfl) ?_)
      (refine wpAny_phase (fun W => Kept [] wb W) [(0, false), (1, false), (2, false), (3, false), (4, false), (5, false), (6, false), (7, false), (8, false), (9, false), (10, false), (11, false), (12, false), (13, false), (14, false), (15, false), (16, false), (17, false), (18, false), (19, false), (20, false), (21, false), (22, false), (23, false), (24, false), (25, false), (26, false), (27, false)] (f := 0) (listed := #[false, false, false, false, false, false, false, false, false, false, false, false, false, false, false, false, false, false, false, false, false, false, false, false, false, false, false, false]) (listed' := #[true, true, true, true, true, true, true, true, true, true, true, true, true, true, true, true, true, true, true, true, true, true, true, true, true, true, true, true]) (by kernel_rfl) (by kernel_rfl) (by rfl) (Kept.refl [] _).drew (fun d _ _ _ _ h => by cases d <;> exact h) ?_)
      iterate 3 (refine wpQL_take (v := ?_) rfl (by rfl) ?_ ?_; rotate_left; (focus ((intro W hC; have hF := HF.out W hC; go_simp); try (with_reducible rfl))); (try dsimp only [Act.put]); (try simp only [List.setIfInBounds_toArray, List.set_cons_zero, List.set_cons_succ]))
      (refine wpQL_call nth_3 (by rfl) ?_ (fun W hC => quiet_call hC (HIS.out W hC)) ?_; (focus (intro W hC; go_simp; try (with_reducible rfl))); (try dsimp only [Act.put]); (try simp only [List.setIfInBounds_toArray, List.set_cons_zero, List.set_cons_succ]))
      iterate 24 (first | (refine wpQL_take (v := ?_) rfl ?_ ?_ ?_; rotate_left; (focus (first | rfl | (go_simp; done))); (focus ((intro W hC; have hF := HF.out W hC; go_simp); try (with_reducible rfl))); (try dsimp only [Act.put]); (try simp only [List.setIfInBounds_toArray, List.set_cons_zero, List.set_cons_succ])) | (refine wpQL_not rfl ?_ ?_; (focus (go_simp; done)); (try dsimp only [Act.put]); (try simp only [List.setIfInBounds_toArray, List.set_cons_zero, List.set_cons_succ])))
      (refine wpQL_nil ?_)
      (intro wq hq)
      (refine wpAny_done (by kernel_rfl) ?_ _)
      go_wp2_with fail
      go_ret
      exact ⟨rfl, HK0.out.trans hq⟩
    | true =>
      have hb : (g == gn) = ((g : Int) == (gn : Int)) := by rw [Bool.eq_iff_iff]; simp; omega
      rw [hb]
      clear hb
      go_enter Try.func27, Try.ntmps27
      go_wp2_with fail
      try rw [hwb]
      (refine wp_region_phases (n := 28) (listed := #[false, false, false, false, false, false, false, false, false, false, false, false, false, false, false, false, false, false, false, false, false, false, false, false, false, false, false, false]) (by kernel_rfl) (by rfl) (by rfl) ?_)
      (refine wpAny_phase (fun W => Kept [] wb W) [(0, false), (1, false), (2, false), (3, false), (4, false), (5, false), (6, false), (7, false), (8, false), (9, false), (10, false), (11, false), (12, false), (13, false), (14, false), (15, false), (16, false), (17, false), (18, false), (19, false), (20, false), (21, false), (22, false), (23, false), (24, false), (25, false), (26, false), (27, false)] (f := 0) (listed := #[false, false, false, false, false, false, false, false, false, false, false, false, false, false, false, false, false, false, false, false, false, false, false, false, false, false, false, false]) (listed' := #[true, true, true, true, true, true, true, true, true, true, true, true, true, true, true, true, true, true, true, true, true, true, true, true, true, true, true, true]) (by kernel_rfl) (by kernel_rfl) (by rfl) (Kept.refl [] _).drew (fun d _ _ _ _ h => by cases d <;> exact h) ?_)
      iterate 3 (refine wpQL_take (v := ?_) rfl (by rfl) ?_ ?_; rotate_left; (focus ((intro W hC; have hF := HF.out W hC; go_simp); try (with_reducible rfl))); (try dsimp only [Act.put]); (try simp only [List.setIfInBounds_toArray, List.set_cons_zero, List.set_cons_succ]))
      (refine wpQL_call nth_3 (by rfl) ?_ (fun W hC => quiet_call hC (HIS.out W hC)) ?_; (focus (intro W hC; go_simp; try (with_reducible rfl))); (try dsimp only [Act.put]); (try simp only [List.setIfInBounds_toArray, List.set_cons_zero, List.set_cons_succ]))
      iterate 24 (first | (refine wpQL_take (v := ?_) rfl ?_ ?_ ?_; rotate_left; (focus (first | rfl | (go_simp; done))); (focus ((intro W hC; have hF := HF.out W hC; go_simp); try (with_reducible rfl))); (try dsimp only [Act.put]); (try simp only [List.setIfInBounds_toArray, List.set_cons_zero, List.set_cons_succ])) | (refine wpQL_not rfl ?_ ?_; (focus (go_simp; done)); (try dsimp only [Act.put]); (try simp only [List.setIfInBounds_toArray, List.set_cons_zero, List.set_cons_succ])))
      (refine wpQL_nil ?_)
      (intro wq hq)
      (refine wpAny_done (by kernel_rfl) ?_ _)
      go_wp2_with fail
      go_ret
      exact ⟨rfl, HK0.out.trans hq⟩
  · rw [decide_eq_false hr] at HIS ⊢
    clear h hB h0 hr
    go_enter Try.func27, Try.ntmps27
    go_wp2_with fail
    try rw [hwb]
    (refine wp_region_phases (n := 28) (listed := #[false, false, false, false, false, false, false, false, false, false, false, false, false, false, false, false, false, false, false, false, false, false, false, false, false, false, false, false]) (by kernel_rfl) (by rfl) (by rfl) ?_)
    (refine wpAny_phase (fun W => Kept [] wb W) [(0, false), (1, false), (2, false), (3, false), (4, false), (5, false), (6, false), (7, false), (8, false), (9, false), (10, false), (11, false), (12, false), (13, false), (14, false), (15, false), (16, false), (17, false), (18, false), (19, false), (20, false), (21, false), (22, false), (23, false), (24, false), (25, false), (26, false), (27, false)] (f := 0) (listed := #[false, false, false, false, false, false, false, false, false, false, false, false, false, false, false, false, false, false, false, false, false, false, false, false, false, false, false, false]) (listed' := #[true, true, true, true, true, true, true, true, true, true, true, true, true, true, true, true, true, true, true, true, true, true, true, true, true, true, true, true]) (by kernel_rfl) (by kernel_rfl) (by rfl) (Kept.refl [] _).drew (fun d _ _ _ _ h => by cases d <;> exact h) ?_)
    iterate 3 (refine wpQL_take (v := ?_) rfl (by rfl) ?_ ?_; rotate_left; (focus ((intro W hC; have hF := HB.out W hC; go_simp); try (with_reducible rfl))); (try dsimp only [Act.put]); (try simp only [List.setIfInBounds_toArray, List.set_cons_zero, List.set_cons_succ]))
    (refine wpQL_call nth_3 (by rfl) ?_ (fun W hC => quiet_call hC (HIS.out W hC)) ?_; (focus (intro W hC; go_simp; try (with_reducible rfl))); (try dsimp only [Act.put]); (try simp only [List.setIfInBounds_toArray, List.set_cons_zero, List.set_cons_succ]))
    iterate 24 (first | (refine wpQL_take (v := ?_) rfl ?_ ?_ ?_; rotate_left; (focus (first | rfl | (go_simp; done))); (focus ((intro W hC; have hF := HB.out W hC; go_simp); try (with_reducible rfl))); (try dsimp only [Act.put]); (try simp only [List.setIfInBounds_toArray, List.set_cons_zero, List.set_cons_succ])) | (refine wpQL_not rfl ?_ ?_; (focus (go_simp; done)); (try dsimp only [Act.put]); (try simp only [List.setIfInBounds_toArray, List.set_cons_zero, List.set_cons_succ])))
    (refine wpQL_nil ?_)
    (intro wq hq)
    (refine wpAny_done (by kernel_rfl) ?_ _)
    go_wp2_with fail
    go_ret
    exact ⟨rfl, HK0.out.trans hq⟩
set_option maxHeartbeats 3200000 in
theorem R20At_any (h : RqAt w b d a) (s : Int) : Calls Try.prog 46 #[.pointer (some ⟨b.gr, 0, none⟩), .int .i64 s] w fun x w' => x = .returned (.tuple #[.agg #[.int .i64 (atV a.P s).1, .int .u32 (atV a.P s).2], .bool (takenP a.P s)]) ∧ Kept [] w w' := by
  obtain ⟨wb, hwb⟩ : ∃ wb, w.alloc (.cells #[.int .i64 0, .int .u32 0] 53) = wb := ⟨_, rfl⟩
  have h0 : Kept [] w wb := by rw [← hwb]; exact (Kept.refl _ _).alloc _
  have HK0 := Lib.hid h0
  have hB : Blk wb w.heap.size 53 #[.int .i64 0, .int .u32 0] := by rw [← hwb]; exact Blk.new w _ _
  have HIS := Lib.hid (R20Is_any (RqAt.old h h0) s)
  have hb0 := hB.lt
  have hbc := hB.cell
  have hbf := hB.frozen
  unfold atV takenP
  by_cases hr : 0 ≤ s ∧ s < a.P.length
  · rw [decide_eq_true hr] at HIS ⊢
    obtain ⟨k, rfl⟩ : ∃ k : Nat, s = k := ⟨s.toNat, by omega⟩
    have hk : k < a.P.length := by omega
    have i0 : (0 : Int) ≤ (k : Int) := by omega
    have i1 : (k : Int) < (a.P.length : Int) := by omega
    have hpl : a.P.getD k Pl.zero = a.pl k := rfl
    rw [Int.toNat_natCast, hpl]
    have h1 := RqAt.old h h0
    obtain ⟨c0, c1, l2⟩ := RqAt.rolc h1
    obtain ⟨p0, p1, l0, l1, _⟩ := RqAt.pl h1 hk
    generalize a.pl k = p at *
    obtain ⟨t, g⟩ := p
    generalize a.P.length = n at *
    clear h h0 hpl hr hk h1
    simp only at p0 p1 ⊢
    cases t with
    | false =>
      go_enter Try.func46, Try.ntmps46
      go_wp2_with fail
      try rw [hwb]
      refine (HIS.out).mono ?_
      rintro x w1 ⟨rfl, rfl⟩
      go_wp2_with fail
      (try simp only [Exit.inBlock, Exit.then])
      refine bodyPost_ret (v := .tuple #[.agg #[.int .i64 (0 : Int), .int .u32 (0 : Nat)], .bool false]) (by rw [results_cell_tmp rfl]; go_simp) rfl ⟨rfl, HK0.out.trans' ((Kept.refl [w.heap.size] _).setCell (.inl (by simp)) _ |>.setCell (.inl (by simp)) _) (by simp)⟩
    | true =>
      go_enter Try.func46, Try.ntmps46
      go_wp2_with fail
      try rw [hwb]
      refine (HIS.out).mono ?_
      rintro x w1 ⟨rfl, rfl⟩
      go_wp2_with fail
      (try simp only [Exit.inBlock, Exit.then])
      refine bodyPost_ret (v := .tuple #[.agg #[.int .i64 (k : Int), .int .u32 (g : Nat)], .bool true]) (by rw [results_cell_tmp rfl]; go_simp) rfl ⟨rfl, HK0.out.trans' ((Kept.refl [w.heap.size] _).setCell (.inl (by simp)) _ |>.setCell (.inl (by simp)) _) (by simp)⟩
  · rw [decide_eq_false hr] at HIS ⊢
    clear h h0 hr
    go_enter Try.func46, Try.ntmps46
    go_wp2_with fail
    try rw [hwb]
    refine (HIS.out).mono ?_
    rintro x w1 ⟨rfl, rfl⟩
    go_wp2_with fail
    (try simp only [Exit.inBlock, Exit.then])
    refine bodyPost_ret (v := .tuple #[.agg #[.int .i64 (0 : Int), .int .u32 (0 : Nat)], .bool false]) (by rw [results_cell_tmp rfl]; go_simp) rfl ⟨rfl, HK0.out.trans' ((Kept.refl [w.heap.size] _).setCell (.inl (by simp)) _ |>.setCell (.inl (by simp)) _) (by simp)⟩
set_option maxHeartbeats 3200000 in
theorem R20Room_any (h : RqAt w b d a) (hw : a.P.length ≤ 64) : Calls Try.prog 45 #[.pointer (some ⟨b.gr, 0, none⟩)] w fun x w' => x = .returned (.int .i64 (roomA a)) ∧ w = w' := by
  obtain ⟨c0, _, hl⟩ := RqAt.rolc h
  have HOP := Lib.hid (fun k hk => R20open_any h k hk)
  have HRK : Hid (∀ k, roomK a.P (k + 1) = roomK a.P k + (if (a.pl k).free then 1 else 0)) := fun _ => rfl
  have hle : ∀ k, roomK a.P k ≤ k := fun k => by
    induction k with
    | zero => exact Nat.le_refl _
    | succ k ih => rw [roomK]; split <;> omega
  have HLE := Lib.hid hle
  unfold roomA
  have HR0 : Hid (roomK a.P 0 = 0) := rfl
  generalize roomK a.P = f at *
  generalize a.P.length = n at *
  clear h hle
  go_enter Try.func45, Try.ntmps45
  go_wp2_with fail
  go_loopw [3, 4] (fun rv iv wr => wr = w ∧ ∃ i : Nat, i ≤ n ∧ iv = .int .i64 i ∧ rv = .int .i64 (f i)) (fun _ iv _ => n - (intOf iv).toNat)
  case atStart => exact ⟨rfl, 0, by omega, rfl, by rw [HR0.out]; rfl⟩
  case round =>
    obtain ⟨rfl, i, hi, rfl, rfl⟩ := hrel
    by_cases hlt : i < n
    · have hin : (i : Int) < (n : Int) := by omega
      have HO := Lib.hid (HOP.out i hlt)
      have hs := HRK.out i
      have hle := HLE.out i
      cases hf : (a.pl i).free with
      | false =>
        rw [hf] at HO hs
        have HS := Lib.hid (show f (i + 1) = f i by simpa using hs)
        generalize f i = z at *
        clear hs hf
        go_wp2_with fail
        refine (HO.out).mono ?_
        rintro x w1 ⟨rfl, rfl⟩
        go_wp2_with fail
        go_roundw
        case rel => exact ⟨trivial, i + 1, by omega, by go_num, by rw [HS.out]⟩
        case measure => simp [intOf]; omega
      | true =>
        rw [hf] at HO hs
        have HS := Lib.hid (show f (i + 1) = f i + 1 by simpa using hs)
        generalize f i = z at *
        clear hs hf
        go_wp2_with fail
        refine (HO.out).mono ?_
        rintro x w1 ⟨rfl, rfl⟩
        go_wp2_with fail
        go_roundw
        case rel => exact ⟨trivial, i + 1, by omega, by go_num, by rw [HS.out]; go_num⟩
        case measure => simp [intOf]; omega
    · obtain rfl : i = n := by omega
      go_wp2_with fail
      go_ret
      exact ⟨rfl, rfl⟩
end

end Go.Proofs.Ytccodklfplfleaa
