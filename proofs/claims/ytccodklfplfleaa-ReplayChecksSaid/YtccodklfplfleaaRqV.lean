/- The document's account (layer 35): a place taken, a place freed; walked. -/
import Derived.Test.YtccodklfplfleaaRqR
import Derived.Deep.MidRow
import Derived.Deep.WholeRow
import Derived.Deep.DeepCutAuto
namespace Go.Proofs.Ytccodklfplfleaa
open Go.RowKit

theorem IsP.far {w0 : Base} {w w' : World} {ps : List Piece} (h : IsP w0 w ps) {G : List Nat} (hG : ∀ k, k ∈ G → (∀ p ∈ ps, k ∉ p.fp) ∧ w0.w.heap.size ≤ k) (hk : Kept G w w') : IsP w0 w' ps :=
  ⟨⟨fun p hp => Piece.kept (h.at_.1 p hp) hk (fun k hk1 hk2 => (hG k hk2).1 p hp hk1), h.at_.2⟩, h.new, h.kept.trans' hk (fun k hk1 => .inr (hG k hk1).2)⟩
section
variable {w0 : Base} {w w' : World} {b : RqA} {d : Du} {a : Acc}
theorem RqAt.bl (h : RqAt w b d a) : b.g < w.heap.size ∧ b.gr < w.heap.size ∧ b.gP < w.heap.size ∧ b.gG < w.heap.size ∧ b.gT < w.heap.size := by
  have h0 := fun (i : Nat) (p : Piece) (hp : (rqP b d a)[i]? = some p) => Piece.lt (Holds.get h hp)
  exact ⟨h0 0 _ rfl b.g (by simp [Piece.fp]), h0 1 _ rfl b.gr (by simp [Piece.fp]), h0 2 _ rfl b.gP (by simp [Piece.fp, fp_some]), h0 3 _ rfl b.gG (by simp [Piece.fp, fp_some]), h0 4 _ rfl b.gT (by simp [Piece.fp, fp_some])⟩
theorem RqAt.fps (h : RqAt w b d a) (d' : Du) (a' : Acc) : ∀ p ∈ rqP b d' a', ∀ k ∈ p.fp, k < w.heap.size := by
  have h0 := fun (i : Nat) (p : Piece) (hp : (rqP b d a)[i]? = some p) => Piece.lt (Holds.get h hp)
  have e0 := h0 0 _ rfl b.g (by simp [Piece.fp])
  have e1 := h0 1 _ rfl b.gr (by simp [Piece.fp])
  have e2 := h0 2 _ rfl b.gP (by simp [Piece.fp, fp_some])
  have e3 := h0 3 _ rfl b.gG (by simp [Piece.fp, fp_some])
  have e4 := h0 4 _ rfl b.gT (by simp [Piece.fp, fp_some])
  have e5 := h0 5 _ rfl
  intro p hp k hk
  simp only [rqP, List.mem_cons, List.not_mem_nil, or_false] at hp
  rcases hp with rfl | rfl | rfl | rfl | rfl | rfl
  · obtain rfl := List.mem_singleton.1 hk; exact e0
  · obtain rfl := List.mem_singleton.1 hk; exact e1
  · simp only [Piece.fp, fp_some, List.mem_singleton] at hk; subst hk; exact e2
  · simp only [Piece.fp, fp_some, List.mem_singleton] at hk; subst hk; exact e3
  · simp only [Piece.fp, fp_some, List.mem_singleton] at hk; subst hk; exact e4
  · refine e5 k ?_
    simp only [Piece.fp, fp_slice] at hk ⊢
    exact hk
theorem RqIs.le (h : RqIs w0 w b d a) : w0.w.heap.size ≤ w.heap.size := h.kept.size
set_option maxHeartbeats 6400000 in
set_option maxRecDepth 100000 in
theorem R20Take_no (h : RqIs w0 w b d a) (hn : a.P.length ≤ 64) (hf : freeA a = none) : Calls Try.prog 41 #[.pointer (some ⟨b.gr, 0, none⟩)] w fun x w' => x = .returned (.tuple #[.agg #[.int .i64 0, .int .u32 0], .bool false]) ∧ RqIs w0 w' b d a := by
  have hf1 : firstK a.P a.P.length = -1 := by
    unfold freeA at hf
    split at hf
    · assumption
    · cases hf
  obtain ⟨wb, hwb⟩ : ∃ wb, w.alloc (.cells #[.int .i64 0, .int .u32 0] 53) = wb := ⟨_, rfl⟩
  have h0 : Kept [] w wb := by rw [← hwb]; exact (Kept.refl _ _).alloc _
  have hB : Blk wb w.heap.size 53 #[.int .i64 0, .int .u32 0] := by rw [← hwb]; exact Blk.new w _ _
  have h1 := h.old h0
  obtain ⟨c0, c1, l2⟩ := RqAt.rolc h1.at_
  have hb0 := hB.lt
  have hbc := hB.cell
  have hbf := hB.frozen
  have HOP := Lib.hid (fun k hk => R20open_any h1.at_ k hk)
  have HFR : Hid (∀ k, k < a.P.length → (a.pl k).free = false) := fun k hk => by
    cases e : (a.pl k).free with
    | false => rfl
    | true =>
      exfalso
      rcases Decidable.em (firstK a.P k = -1) with h2 | h2
      · have := firstP_at h2 hk e
        unfold firstP at this; omega
      · have := firstK_stay a.P h2 a.P.length (by omega); omega
  have HE : Hid (RqIs w0 ((wb.setCell ⟨w.heap.size, 0, none⟩ (.int .i64 0)).setCell ⟨w.heap.size, 1, none⟩ (.int .u32 0)) b d a) := by
    refine IsP.far h1 (G := [w.heap.size]) (fun k hk => ?_) (((Kept.refl _ _).setCell (.inl (by simp)) _).setCell (.inl (by simp)) _)
    obtain rfl := List.mem_singleton.1 hk
    exact ⟨fun p hp hk => by have := RqAt.fps h.at_ d a p hp _ hk; omega, h.le⟩
  generalize a.P.length = n at *
  clear h hf hf1 h1 h0 hB
  go_enter Try.func41, Try.ntmps41
  go_wp2_with fail
  try rw [hwb]
  clear hwb
  go_loopw [4] (fun iv wr => wr = wb ∧ ∃ i : Nat, i ≤ n ∧ iv = .int .i64 i) (fun iv _ => n - (intOf iv).toNat)
  case atStart => exact ⟨rfl, 0, by omega, rfl⟩
  case round =>
    obtain ⟨rfl, i, hi, rfl⟩ := hrel
    by_cases hlt : i < n
    · have hin : (i : Int) < (n : Int) := by omega
      have hi0 : (0 : Int) ≤ (i : Int) := by omega
      have HO := Lib.hid (HOP.out i hlt)
      rw [HFR.out i hlt] at HO
      go_wp2_with fail
      refine (HO.out).mono ?_
      rintro x w1 ⟨rfl, rfl⟩
      go_wp2_with fail
      go_roundw
      case rel => exact ⟨trivial, i + 1, by omega, by go_num⟩
      case measure => simp [intOf]; omega
    · obtain rfl : i = n := by omega
      go_wp2_with fail
      (try simp only [Exit.inBlock, Exit.then])
      refine bodyPost_ret (v := .tuple #[.agg #[.int .i64 (0 : Int), .int .u32 (0 : Nat)], .bool false]) (by rw [results_cell_tmp rfl]; go_simp) rfl ⟨rfl, HE.out⟩
set_option maxHeartbeats 6400000 in
set_option maxRecDepth 100000 in
theorem R20Take_yes (h : RqIs w0 w b d a) (hn : a.P.length ≤ 64) {i : Nat} (hf : freeA a = some i) : Calls Try.prog 41 #[.pointer (some ⟨b.gr, 0, none⟩)] w fun x w' => x = .returned (.tuple #[.agg #[.int .i64 i, .int .u32 ((a.pl i).gen + 1 : Nat)], .bool true]) ∧ RqIs w0 w' b d { a with P := a.P.set i ⟨true, (a.pl i).gen + 1⟩ } := by
  have hf1 : firstP a.P = i ∧ i < a.P.length ∧ (a.pl i).free = true := by
    unfold freeA at hf
    rcases firstP_rng a.P with h2 | ⟨k, h2, h3, h4⟩
    · rw [if_pos h2] at hf; cases hf
    · rw [h2, if_neg (by omega)] at hf
      have : k = i := by simpa using hf
      subst this
      exact ⟨h2, h3, h4⟩
  obtain ⟨hfi, hil, hfr⟩ := hf1
  have hgen : (a.pl i).gen < 4294967295 := by unfold Pl.free at hfr; simp at hfr; exact hfr.2
  obtain ⟨wb, hwb⟩ : ∃ wb, w.alloc (.cells #[.int .i64 0, .int .u32 0] 53) = wb := ⟨_, rfl⟩
  have h0 : Kept [] w wb := by rw [← hwb]; exact (Kept.refl _ _).alloc _
  have hB : Blk wb w.heap.size 53 #[.int .i64 0, .int .u32 0] := by rw [← hwb]; exact Blk.new w _ _
  have h1 := h.old h0
  have HB := Lib.hid hB
  obtain ⟨c0, c1, l2⟩ := RqAt.rolc h1.at_
  obtain ⟨p0, p1, lP, lG, fP, fG⟩ := RqAt.pl h1.at_ hil
  have HOP := Lib.hid (fun k hk => R20open_any h1.at_ k hk)
  have HFR : Hid (∀ k, k < i → (a.pl k).free = false) := fun k hk => by
    cases e : (a.pl k).free with
    | false => rfl
    | true =>
      exfalso
      rcases Decidable.em (firstK a.P k = -1) with h2 | h2
      · have := firstP_at h2 (by omega) e
        omega
      · have h3 := firstK_stay a.P h2 a.P.length (by omega)
        unfold firstP at hfi
        rcases firstK_rng a.P k with h4 | ⟨q, h4, h5, _⟩
        · exact h2 h4
        · omega
  have hq := RqIs.setT1 h1 i true ((a.pl i).gen + 1)
  have HNE := Lib.hid (And.intro (RqAt.bl h.at_).2.2.1 (RqAt.bl h.at_).2.2.2.1)
  have hgr := (RqAt.bl h.at_).2.1
  have HPG : Hid (b.gP ≠ b.gG ∧ b.gr ≠ b.gP ∧ b.gr ≠ b.gG) := ⟨fun e => Holds.apart h.at_ (i := 2) (j := 3) (by decide) rfl rfl b.gP (by simp [Piece.fp, fp_some]) (by rw [e]; simp [Piece.fp, fp_some]), fun e => Holds.apart h.at_ (i := 1) (j := 2) (by decide) rfl rfl b.gr (by simp [Piece.fp]) (by rw [e]; simp [Piece.fp, fp_some]), fun e => Holds.apart h.at_ (i := 1) (j := 3) (by decide) rfl rfl b.gr (by simp [Piece.fp]) (by rw [e]; simp [Piece.fp, fp_some])⟩
  obtain ⟨w2, hw2⟩ : ∃ w2, (wb.setCell ⟨b.gP, i, none⟩ (.bool true)).setCell ⟨b.gG, i, none⟩ (.int .u32 ((a.pl i).gen + 1 : Nat)) = w2 := ⟨_, rfl⟩
  rw [hw2] at hq
  have hB2 : Blk w2 w.heap.size 53 #[.int .i64 0, .int .u32 0] := by
    rw [← hw2]
    exact (hB.far (by have := HNE.out.1; simp only; omega) _).far (by have := HNE.out.2; simp only; omega) _
  have g1 : w2.cell? ⟨b.gr, 1, none⟩ = some (.slice (some ⟨b.gG, 0, none⟩) a.P.length a.P.length) := by have := (RqAt.rolc hq.at_).2.1; simpa using this
  have g2 : w2.cell? ⟨b.gG, i, none⟩ = some (.int .u32 ((a.pl i).gen + 1 : Nat)) := by
    have h2 := (RqAt.pl hq.at_ (k := i) (by simpa using hil)).2.1
    have e : ({ a with P := a.P.set i ⟨true, (a.pl i).gen + 1⟩ } : Acc).pl i = ⟨true, (a.pl i).gen + 1⟩ := by unfold Acc.pl; rw [getD_set, if_pos ⟨rfl, hil⟩]
    rw [e] at h2; exact h2
  have HE : Hid (RqIs w0 ((w2.setCell ⟨w.heap.size, 0, none⟩ (.int .i64 i)).setCell ⟨w.heap.size, 1, none⟩ (.int .u32 ((a.pl i).gen + 1 : Nat))) b d { a with P := a.P.set i ⟨true, (a.pl i).gen + 1⟩ }) := by
    refine IsP.far hq (G := [w.heap.size]) (fun k hk => ?_) (((Kept.refl _ _).setCell (.inl (by simp)) _).setCell (.inl (by simp)) _)
    obtain rfl := List.mem_singleton.1 hk
    exact ⟨fun p hp hk => by have := RqAt.fps h.at_ d _ p hp _ hk; omega, h.le⟩
  have HC2 : Hid (w2.cell? ⟨b.gr, 1, none⟩ = some (.slice (some ⟨b.gG, 0, none⟩) a.P.length a.P.length) ∧ w2.cell? ⟨b.gG, i, none⟩ = some (.int .u32 ((a.pl i).gen + 1 : Nat)) ∧ b.gr < w2.heap.size ∧ b.gG < w2.heap.size) := ⟨g1, g2, (RqAt.rolc hq.at_).2.2, (RqAt.pl hq.at_ (k := i) (by simpa using hil)).2.2.2.1⟩
  have HB2 := Lib.hid hB2
  have HW2 := Lib.hid hw2
  have HFI := Lib.hid hfr
  generalize a.P.length = n at *
  generalize hgg : (a.pl i).gen + 1 = gg at *
  generalize hgn : (a.pl i).gen = g at *
  have HGG : Hid (((g : Int) + 1) = (gg : Int)) := by show _ = _; rw [← hgg]; simp
  clear h hf h1 h0 hB hq hw2 hB2 g1 g2 hfi hfr hgn hgg
  go_enter Try.func41, Try.ntmps41
  go_wp2_with fail
  try rw [hwb]
  clear hwb
  go_loopw [4] (fun iv wr => wr = wb ∧ ∃ k : Nat, k ≤ i ∧ iv = .int .i64 k) (fun iv _ => n - (intOf iv).toNat)
  case atStart => exact ⟨rfl, 0, by omega, rfl⟩
  case round =>
    obtain ⟨rfl, k, hi, rfl⟩ := hrel
    have hin : (k : Int) < (n : Int) := by omega
    have hi0 : (0 : Int) ≤ (k : Int) := by omega
    by_cases hlt : k < i
    · have HO := Lib.hid (HOP.out k (by omega))
      rw [HFR.out k hlt] at HO
      go_wp2_with fail
      refine (HO.out).mono ?_
      rintro x w1 ⟨rfl, rfl⟩
      go_wp2_with fail
      go_roundw
      case rel => exact ⟨trivial, k + 1, by omega, by go_num⟩
      case measure => simp [intOf]; omega
    · obtain rfl : k = i := by omega
      have HO := Lib.hid (HOP.out k (by omega))
      rw [HFI.out] at HO
      obtain ⟨n1, n2, n3⟩ := HPG.out
      have hbl := HB.out.lt
      go_wp2_with fail
      refine (HO.out).mono ?_
      rintro x w1 ⟨rfl, rfl⟩
      go_upto_region 7 with fail
      rw [HGG.out]
      rw [HW2.out]
      obtain ⟨q1, q2, q3, q4⟩ := HC2.out
      have hb0 := HB2.out.lt
      have hbc := HB2.out.cell
      have hbf := HB2.out.frozen
      clear c0 c1 l2 p0 p1 lP lG fP fG hbl
      go_wp2_with fail
      (try simp only [Exit.inBlock, Exit.then])
      refine bodyPost_ret (v := .tuple #[.agg #[.int .i64 (k : Int), .int .u32 (gg : Int)], .bool true]) (by rw [results_cell_tmp rfl]; go_simp) rfl ⟨rfl, HE.out⟩
set_option maxHeartbeats 3200000 in
set_option maxRecDepth 100000 in
theorem R20Free_any (h : RqIs w0 w b d a) (s : Int) (gn : Nat) (hh : hasA a s gn = true) : Calls Try.prog 47 #[.pointer (some ⟨b.gr, 0, none⟩), .agg #[.int .i64 s, .int .u32 gn]] w fun x w' => x = .returned (.bool true) ∧ RqIs w0 w' b d { a with P := a.P.set s.toNat ⟨false, (a.pl s.toNat).gen⟩ } := by
  obtain ⟨p0, p1, _⟩ := hasA_lt hh
  obtain ⟨k, rfl⟩ : ∃ k : Nat, s = k := ⟨s.toNat, by omega⟩
  rw [Int.toNat_natCast] at p1 ⊢
  obtain ⟨wb, hwb⟩ : ∃ wb, w.alloc (.cells #[.int .i64 k, .int .u32 gn] 53) = wb := ⟨_, rfl⟩
  have h0 : Kept [] w wb := by rw [← hwb]; exact (Kept.refl _ _).alloc _
  have hB : Blk wb w.heap.size 53 #[.int .i64 k, .int .u32 gn] := by rw [← hwb]; exact Blk.new w _ _
  have HHS : Hid (∀ W, Kept [] wb W → Calls Try.prog 27 #[.pointer (some ⟨b.gr, 0, none⟩), .agg #[.int .i64 k, .int .u32 gn]] W fun x w' => x = .returned (.bool true) ∧ Kept [] W w') := fun W hk => by
    have := R20Has_any (RqAt.old (h.old h0).at_ hk) k gn
    rwa [hh] at this
  have HF : Hid (∀ W, Kept [] wb W → (W.cell? ⟨w.heap.size, 0, none⟩ = some (.int .i64 k) ∧ W.cell? ⟨w.heap.size, 1, none⟩ = some (.int .u32 gn) ∧ w.heap.size < W.heap.size) ∧ W.cell? ⟨b.gr, 0, none⟩ = some (.slice (some ⟨b.gP, 0, none⟩) a.P.length a.P.length) ∧ b.gr < W.heap.size ∧ W.cell? ⟨b.gP, k, none⟩ = some (.bool (a.pl k).taken) ∧ b.gP < W.heap.size ∧ W.frozen? ⟨b.gP, k, none⟩ = false) := fun W hk => by
    have h1 := hB.kept hk (by simp)
    have h2 := RqAt.old (h.old h0).at_ hk
    have h3 := RqAt.rolc h2
    have h4 := RqAt.pl h2 p1
    exact ⟨⟨h1.cell 0, h1.cell 1, h1.lt⟩, h3.1, h3.2.2, h4.1, h4.2.2.1, h4.2.2.2.2.1 k⟩
  have HE : Hid (∀ W, Kept [] wb W → RqIs w0 (W.setCell ⟨b.gP, k, none⟩ (.bool false)) b d { a with P := a.P.set k ⟨false, (a.pl k).gen⟩ }) := fun W hk => RqIs.setTaken ((h.old h0).old hk) p1 false
  have i0 : (0 : Int) ≤ (k : Int) := by omega
  have i1 : (k : Int) < (a.P.length : Int) := by omega
  generalize a.P.length = n at *
  generalize (a.pl k).taken = tk at *
  generalize { a with P := a.P.set k ⟨false, (a.pl k).gen⟩ } = a' at *
  clear h h0 hB hh p1
  have HKc := Lib.hid (Kept.refl [] wb)
  have hf := HF.out _ HKc.out
  go_enter Try.func47, Try.ntmps47
  (try (go_wp2_with fail))
  (try rw [hwb])
  clear hf
  refine (HHS.out _ HKc.out).mono ?_
  rintro x wc1 ⟨rfl, hkc⟩
  have HKn := Lib.hid (HKc.out.trans hkc)
  clear hkc HKc
  have HKc := HKn
  clear HKn
  have hf := HF.out _ HKc.out
  (try (go_wp2_with fail))
  (refine wp_region_phases (n := 8) (listed := #[false, false, false, false, false, false, false, false]) (by kernel_rfl) (by rfl) (by rfl) ?_)
  (refine wpAny_phase (fun W => Kept [] wb W) [(0, false), (1, false), (2, false), (3, false), (4, false), (5, false), (6, false)] (f := 1) (listed := #[false, false, false, false, false, false, false, false]) (listed' := #[true, true, true, true, true, true, true, false]) (by kernel_rfl) (by kernel_rfl) (by rfl) (HKc.out).drew (fun d _ _ _ _ h => by cases d <;> exact h) ?_)
  iterate 7 (refine wpQL_take (v := ?_) rfl (by rfl) ?_ ?_; rotate_left; (focus ((intro W hC; have hF := HF.out W hC; go_simp); try (with_reducible rfl))); (try dsimp only [Act.put]); (try simp only [List.setIfInBounds_toArray, List.set_cons_zero, List.set_cons_succ]))
  (refine wpQL_nil ?_)
  (intro wq hq)
  have hf2 := HF.out _ hq
  (refine wpAny_loud 7 (fuel := 0) (listed := #[true, true, true, true, true, true, true, false]) (listed' := #[true, true, true, true, true, true, true, true]) (by kernel_rfl) (by rfl) nth_7 (fun K hK => ?_))
  go_simp
  (refine hK.out _ _ ?_; clear hK K)
  (try simp only [Act.put, List.setIfInBounds_toArray, List.set_cons_zero, List.set_cons_succ])
  (refine wpAny_done (by kernel_rfl) ?_ _)
  go_wp2_with fail
  go_ret
  exact ⟨rfl, HE.out _ hq⟩
end

end Go.Proofs.Ytccodklfplfleaa
