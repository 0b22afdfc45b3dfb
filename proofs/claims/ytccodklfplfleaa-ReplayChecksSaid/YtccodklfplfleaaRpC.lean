/- Package replay: open, walked. -/
import Derived.Test.YtccodklfplfleaaP37
import Derived.Test.YtccodklfplfleaaRpS
import Derived.Deep.CutBlock
namespace Go.Proofs.Ytccodklfplfleaa
open Go.RowKit

theorem infoR_I : (Try.prog.info? 3).map (fun i => (i.zero, i.size, i.bytes)) = some (some (.int .i64 0), 1, 8) := by kernel_rfl
theorem reads_oneR (w : World) (t : TypeId) (v : Value) : Reads (w.alloc (.cells #[v] t)) 1 (some ⟨w.heap.size, 0, none⟩) 1 [v] := by
  refine ⟨rfl, fun _ => ⟨_, rfl, fun j u hu => ?_⟩⟩
  rw [add_mk, Nat.zero_add, (Blk.new w t _).cell]
  simpa using hu

theorem AccIs.blkH {w0 : Base} {w w' : World} {b : AcA} {d : Du} {a : Acc} {K : Array Value} (h : AccIs w0 w b d a K) (hk : Kept (fp (.slice b.AH a.held.length b.cH)) w w') : Blk w' b.g 68 (accC b d a K) :=
  (AccAt.blk h.at').kept hk (fun hin => Holds.apart h.at_ (i := 0) (j := 4) (by decide) rfl rfl b.g (by simp [Piece.fp]) hin)

theorem AccIs.base {w0 w : World} {W : World} {b : AcA} {d : Du} {a : Acc} {K : Array Value} (h : AccIs w W b d a K) (h0 : Kept [] w0 w) : AccIs w0 W b d a K := by
  refine ⟨h.at_, fun p hp k hk => ?_, ?_⟩
  · have hs := h0.size
    rcases h.new p hp k hk with h1 | h1
    · cases h1
    · right
      have h2 : w.heap.size ≤ k := h1
      show w0.heap.size ≤ k
      omega
  · have h1 : Kept [] w W := h.kept
    exact h0.trans h1
theorem accC_kinds (b : AcA) (d : Du) (a : Acc) (g : Nat) : (((((((((((accC b d a nilKinds).setIfInBounds 12 .nilFunc).setIfInBounds 13 ((kindsA g).getD 1 .nilFunc)).setIfInBounds 14 ((kindsA g).getD 2 .nilFunc)).setIfInBounds 15 ((kindsA g).getD 3 .nilFunc)).setIfInBounds 16 ((kindsA g).getD 4 .nilFunc)).setIfInBounds 17 ((kindsA g).getD 5 .nilFunc)).setIfInBounds 18 ((kindsA g).getD 6 .nilFunc)).setIfInBounds 19 ((kindsA g).getD 7 .nilFunc)).setIfInBounds 20 ((kindsA g).getD 8 .nilFunc)).setIfInBounds 21 ((kindsA g).getD 9 .nilFunc)).setIfInBounds 22 ((kindsA g).getD 10 .nilFunc) = accC b d a (kindsA g) := by
  apply Array.ext'
  simp [accC, uC, nilKinds, kindsA]
theorem AccIs.kinds {w0 : Base} {w : World} {b : AcA} {d : Du} {a : Acc} (h : AccIs w0 w b d a nilKinds) : AccIs w0 (w.setCells b.g 12 (kindsA b.g).toList) b d a (kindsA b.g) := by
  refine AccIs.setK h (kept_setCells _ _ _ _) ?_
  have hB := AccAt.blk h.at'
  have h1 := ((((((((((hB.set 12 .nilFunc).set 13 ((kindsA b.g).getD 1 .nilFunc)).set 14 ((kindsA b.g).getD 2 .nilFunc)).set 15 ((kindsA b.g).getD 3 .nilFunc)).set 16 ((kindsA b.g).getD 4 .nilFunc)).set 17 ((kindsA b.g).getD 5 .nilFunc)).set 18 ((kindsA b.g).getD 6 .nilFunc)).set 19 ((kindsA b.g).getD 7 .nilFunc)).set 20 ((kindsA b.g).getD 8 .nilFunc)).set 21 ((kindsA b.g).getD 9 .nilFunc)).set 22 ((kindsA b.g).getD 10 .nilFunc)
  rw [accC_kinds] at h1
  exact h1

set_option maxHeartbeats 6400000 in
set_option maxRecDepth 100000 in
theorem rpopen_any {w : World} {d : Du} {A B : Option Addr} {n c m e : Nat} (hu : IsU w d A n B m) (hd : checkU d = 0) :
    Calls Try.prog 37 #[.agg (uC d A n c B m e)] w fun x w' => ∃ b : AcA, x = .returned (.pointer (some ⟨b.g, 0, none⟩)) ∧ AccIs w w' b d (openA d) (kindsA b.g) ∧ b.A = A ∧ b.n = n ∧ b.B = B ∧ b.m = m := by
  obtain ⟨nT, hnT⟩ : ∃ nT : Nat, d.threads = nT := ⟨d.threads.toNat, by have := (checkU_parts hd).2.1; omega⟩
  have hn64 : nT ≤ 64 := by have := (checkU_parts hd).2.1; omega
  obtain ⟨wb, hwb⟩ : ∃ wb, w.alloc (.cells (uC d A n c B m e) 27) = wb := ⟨_, rfl⟩
  have h0 : Kept [] w wb := by rw [← hwb]; exact (Kept.refl _ _).alloc _
  have HK0 := Lib.hid h0
  have hB : Blk wb w.heap.size 27 (uC d A n c B m e) := by rw [← hwb]; exact Blk.new w _ _
  have HF : Hid (∀ W, Kept [] wb W → W.cell? ⟨w.heap.size, 0, none⟩ = some (.int .i64 d.cpus) ∧ W.cell? ⟨w.heap.size, 1, none⟩ = some (.int .i64 nT) ∧ W.cell? ⟨w.heap.size, 2, none⟩ = some (.int .i64 d.locks) ∧ W.cell? ⟨w.heap.size, 3, none⟩ = some (.int .i64 d.cap) ∧ W.cell? ⟨w.heap.size, 4, none⟩ = some (.int .u64 d.boost) ∧ W.cell? ⟨w.heap.size, 5, none⟩ = some (.float .f64 d.keep) ∧ W.cell? ⟨w.heap.size, 6, none⟩ = some (.float .f64 d.ratio) ∧ W.cell? ⟨w.heap.size, 7, none⟩ = some (.slice A n c) ∧ W.cell? ⟨w.heap.size, 8, none⟩ = some (.slice B m e) ∧ w.heap.size < W.heap.size) := fun W hk => by
    have h1 := hB.kept hk (by simp)
    refine ⟨h1.cell 0, ?_, h1.cell 2, h1.cell 3, h1.cell 4, h1.cell 5, h1.cell 6, h1.cell 7, h1.cell 8, h1.lt⟩
    rw [← hnT]; exact h1.cell 1
  obtain ⟨f1, hf1⟩ := made_ownR 65 71 (.agg (thL Th.zero).toArray) 31 248 Try.underlying65 (by kernel_rfl) nT (by omega) (by simp [maxLen]; omega) _ (made_flat (.agg (thL Th.zero).toArray) (thL Th.zero) rfl (by simp [thL]) nT Th.zero thL rfl)
  have hmk1 := fun W => (hf1 W).1
  have HF1 := Lib.hid (fun W => (hf1 W).2)
  have HRN := Lib.hid (fun W => rlNew_any nT hn64 W)
  have hUC : uC d A n c B m e = #[.int .i64 d.cpus, .int .i64 nT, .int .i64 d.locks, .int .i64 d.cap, .int .u64 d.boost, .float .f64 d.keep, .float .f64 d.ratio, .slice A n c, .slice B m e] := by unfold uC; rw [hnT]
  rw [hUC] at hwb
  have HEND : Hid (∀ (W : World) (gr AP AT : Nat), Kept [] wb W → RlAt W gr (some ⟨AP, 0, none⟩) nT (List.replicate nT Pl.zero) → wb.heap.size ≤ gr → wb.heap.size ≤ AP → AP ≠ gr → W.ownsRow 0 71 31 (.slice (some ⟨AT, 0, none⟩) nT nT) nT ((List.replicate nT Th.zero).flatMap thL) → wb.heap.size ≤ AT → AT ≠ gr → AT ≠ AP → ∃ b : AcA, Value.pointer (some ⟨W.heap.size, 0, none⟩) = .pointer (some ⟨b.g, 0, none⟩) ∧ Hid (AccIs wb (W.alloc (.cells #[.int .i64 d.cpus, .int .i64 nT, .int .i64 d.locks, .int .i64 d.cap, .int .u64 d.boost, .float .f64 d.keep, .float .f64 d.ratio, .slice A n c, .slice B m e, .pointer (some ⟨gr, 0, none⟩), .slice (some ⟨AT, 0, none⟩) nT nT, .slice none 0 0, .nilFunc, .nilFunc, .nilFunc, .nilFunc, .nilFunc, .nilFunc, .nilFunc, .nilFunc, .nilFunc, .nilFunc, .nilFunc] 68)) b d (acc0 nT) nilKinds) ∧ b.A = A ∧ b.n = n ∧ b.B = B ∧ b.m = m) := fun W gr AP AT hk h1 h2 h3 h4 h5 h6 h7 h8 => by
    have q := open_acc (d := d) (A := A) (B := B) (n := n) (c := c) (m := m) (e := e) hk h1 h2 h3 h4 h5 h6 h7 h8
    have e1 : uC d A n c B m e ++ #[.pointer (some ⟨gr, 0, none⟩), .slice (some ⟨AT, 0, none⟩) nT nT, .slice none 0 0] ++ nilKinds = #[.int .i64 d.cpus, .int .i64 nT, .int .i64 d.locks, .int .i64 d.cap, .int .u64 d.boost, .float .f64 d.keep, .float .f64 d.ratio, .slice A n c, .slice B m e, .pointer (some ⟨gr, 0, none⟩), .slice (some ⟨AT, 0, none⟩) nT nT, .slice none 0 0, .nilFunc, .nilFunc, .nilFunc, .nilFunc, .nilFunc, .nilFunc, .nilFunc, .nilFunc, .nilFunc, .nilFunc, .nilFunc] := by
      rw [hUC]; simp [nilKinds]
    rw [e1] at q
    exact ⟨_, rfl, q, rfl, rfl, rfl, rfl⟩
  rw [hUC]
  clear hf1 hB h0 hUC
  go_enter Try.func37, Try.ntmps37
  go_upto_region 1 with fail
  go_cut [3] from 8 (fun s3 wx => ∃ b : AcA, s3 = .pointer (some ⟨b.g, 0, none⟩) ∧ Hid (AccIs wb wx b d (acc0 nT) nilKinds) ∧ b.A = A ∧ b.n = n ∧ b.B = B ∧ b.m = m)
  case first =>
    try rw [hwb]
    (refine wp_region_held_drew (S := fun W => Kept [] wb W) (by kernel_rfl) (Kept.refl _ _).drew (fun hHeld => ?_))
    (refine held_take (i := 0) (v := ?_) (listed := #[false, false, false, false, false, false, false, false, false, false]) nth_0 (by kernel_rfl) (by kernel_rfl) (by kernel_rfl) (fun _ _ _ h => h) (Or.inl ⟨by rfl, ?_⟩) (by assumption) ?_; rotate_left; (focus ((intro W hC; have hF := HF.out W hC; go_simp); try (with_reducible rfl))); (try dsimp only [Act.put]); (try simp only [List.setIfInBounds_toArray, List.set_cons_zero, List.set_cons_succ]))
    (refine held_take (i := 1) (v := ?_) (listed := #[true, false, false, false, false, false, false, false, false, false]) nth_1 (by kernel_rfl) (by kernel_rfl) (by kernel_rfl) (fun _ _ _ h => h) (Or.inl ⟨by rfl, ?_⟩) (by assumption) ?_; rotate_left; (focus ((intro W hC; go_simp); try (with_reducible rfl))); (try dsimp only [Act.put]); (try simp only [List.setIfInBounds_toArray, List.set_cons_zero, List.set_cons_succ]))
    (refine held_take (i := 2) (v := ?_) (listed := #[true, true, false, false, false, false, false, false, false, false]) nth_2 (by kernel_rfl) (by kernel_rfl) (by kernel_rfl) (fun _ _ _ h => h) (Or.inl ⟨by rfl, ?_⟩) (by assumption) ?_; rotate_left; (focus ((intro W hC; have hF := HF.out W hC; go_simp); try (with_reducible rfl))); (try dsimp only [Act.put]); (try simp only [List.setIfInBounds_toArray, List.set_cons_zero, List.set_cons_succ]))
    (refine held_take (i := 4) (v := ?_) (listed := #[true, true, true, false, false, false, false, false, false, false]) nth_4 (by kernel_rfl) (by kernel_rfl) (by kernel_rfl) (fun _ _ _ h => h) (Or.inl ⟨by rfl, ?_⟩) (by assumption) ?_; rotate_left; (focus ((intro W hC; go_simp); try (with_reducible rfl))); (try dsimp only [Act.put]); (try simp only [List.setIfInBounds_toArray, List.set_cons_zero, List.set_cons_succ]))
    (refine held_take (i := 5) (v := ?_) (listed := #[true, true, true, false, true, false, false, false, false, false]) nth_5 (by kernel_rfl) (by kernel_rfl) (by kernel_rfl) (fun _ _ _ h => h) (Or.inl ⟨by rfl, ?_⟩) (by assumption) ?_; rotate_left; (focus ((intro W hC; have hF := HF.out W hC; go_simp); try (with_reducible rfl))); (try dsimp only [Act.put]); (try simp only [List.setIfInBounds_toArray, List.set_cons_zero, List.set_cons_succ]))
    (refine wpAnyH_ready (rs := [3, 6]) (by kernel_rfl) (by simp) ?_; refine held_cons nth_3 (fun K hK => ?_) (held_cons nth_6 (fun K hK => ?_) AllReadyH.nil))
    · skip
      go_simp
      refine (HRN.out _).mono ?_
      rintro y w6 ⟨g, AP, rfl, hR, l1, l2, l3, hk6⟩
      have hk7 := hHeld.trans hk6
      have a1 := HF1.out w6
      have hg := hR.blk.lt
      have hA := own_lt hR.row AP (by simp [fp_some])
      have hR2 := hR.old a1.2
      have hsz := hHeld.size
      have HE := Lib.hid (HEND.out (f1 w6) g AP w6.heap.size (hk7.trans a1.2) hR2 (by omega) (by omega) l3 a1.1 hk7.size (by omega) (by omega))
      have HK8 := Lib.hid (hk7.trans a1.2)
      clear hR hR2 hA hg
      (refine hK.out _ _ ((by exact hk7)) (fun hHeld => ?_); clear hK K)
      (try dsimp only [Act.put]); (try simp only [List.setIfInBounds_toArray, List.set_cons_zero, List.set_cons_succ])
      (refine wpAnyH_ready (rs := [6]) (by kernel_rfl) (by simp) ?_; refine held_cons nth_6 (fun K hK => ?_) AllReadyH.nil)
      go_simp
      (refine hK.out _ _ ((by exact HK8.out)) (fun hHeld => ?_); clear hK K)
      (try dsimp only [Act.put]); (try simp only [List.setIfInBounds_toArray, List.set_cons_zero, List.set_cons_succ])
      (refine held_take (i := 7) (v := ?_) (listed := #[true, true, true, true, true, true, true, false, false, false]) nth_7 (by kernel_rfl) (by kernel_rfl) (by kernel_rfl) (fun _ _ _ h => h) (Or.inl ⟨by rfl, ?_⟩) (by assumption) ?_; rotate_left; (focus ((intro W hC; go_simp); try (with_reducible rfl))); (try dsimp only [Act.put]); (try simp only [List.setIfInBounds_toArray, List.set_cons_zero, List.set_cons_succ]))
      (refine wpAnyH_ready (rs := [8]) (by kernel_rfl) (by simp) ?_; refine held_cons nth_8 (fun K hK => ?_) AllReadyH.nil)
      go_simp
      (refine hK.out _ _ ((by exact HK8.out.alloc _)) (fun hHeld => ?_); clear hK K)
      (try dsimp only [Act.put]); (try simp only [List.setIfInBounds_toArray, List.set_cons_zero, List.set_cons_succ])
      (refine held_take (i := 9) (v := ?_) (listed := #[true, true, true, true, true, true, true, true, true, false]) nth_9 (by kernel_rfl) (by kernel_rfl) (by kernel_rfl) (fun _ _ _ h => h) (Or.inl ⟨by rfl, ?_⟩) (by assumption) ?_; rotate_left; (focus ((intro W hC; go_simp); try (with_reducible rfl))); (try dsimp only [Act.put]); (try simp only [List.setIfInBounds_toArray, List.set_cons_zero, List.set_cons_succ]))
      (refine wpAnyH_done (by kernel_rfl) ?_ _)
      go_wp2_with fail
      go_meet
      exact HE.out
    · skip
      have a1 := HF1.out wb.drew
      have hsz := hHeld.size
      have HAW := Lib.hid a1
      have HK8 := Lib.hid (hHeld.trans a1.2)
      have hlA := own_lt a1.1 wb.drew.heap.size (by simp [fp_some])
      clear a1
      go_simp
      (refine hK.out _ _ ((by exact HK8.out)) (fun hHeld => ?_); clear hK K)
      (try dsimp only [Act.put]); (try simp only [List.setIfInBounds_toArray, List.set_cons_zero, List.set_cons_succ])
      (refine wpAnyH_ready (rs := [3]) (by kernel_rfl) (by simp) ?_; refine held_cons nth_3 (fun K hK => ?_) AllReadyH.nil)
      go_simp
      refine (HRN.out _).mono ?_
      rintro y w6 ⟨g, AP, rfl, hR, l1, l2, l3, hk6⟩
      have HK9 := Lib.hid (HK8.out.trans hk6)
      have hsz2 := HK8.out.size
      have HE := Lib.hid (HEND.out w6 g AP wb.drew.heap.size HK9.out hR (by omega) (by omega) l3 (own_kept HAW.out.1 hk6 (by simp)) hsz (by omega) (by omega))
      clear hR
      (refine hK.out _ _ ((by exact HK9.out)) (fun hHeld => ?_); clear hK K)
      (try dsimp only [Act.put]); (try simp only [List.setIfInBounds_toArray, List.set_cons_zero, List.set_cons_succ])
      (refine held_take (i := 7) (v := ?_) (listed := #[true, true, true, true, true, true, true, false, false, false]) nth_7 (by kernel_rfl) (by kernel_rfl) (by kernel_rfl) (fun _ _ _ h => h) (Or.inl ⟨by rfl, ?_⟩) (by assumption) ?_; rotate_left; (focus ((intro W hC; go_simp); try (with_reducible rfl))); (try dsimp only [Act.put]); (try simp only [List.setIfInBounds_toArray, List.set_cons_zero, List.set_cons_succ]))
      (refine wpAnyH_ready (rs := [8]) (by kernel_rfl) (by simp) ?_; refine held_cons nth_8 (fun K hK => ?_) AllReadyH.nil)
      go_simp
      (refine hK.out _ _ ((by exact HK9.out.alloc _)) (fun hHeld => ?_); clear hK K)
      (try dsimp only [Act.put]); (try simp only [List.setIfInBounds_toArray, List.set_cons_zero, List.set_cons_succ])
      (refine held_take (i := 9) (v := ?_) (listed := #[true, true, true, true, true, true, true, true, true, false]) nth_9 (by kernel_rfl) (by kernel_rfl) (by kernel_rfl) (fun _ _ _ h => h) (Or.inl ⟨by rfl, ?_⟩) (by assumption) ?_; rotate_left; (focus ((intro W hC; go_simp); try (with_reducible rfl))); (try dsimp only [Act.put]); (try simp only [List.setIfInBounds_toArray, List.set_cons_zero, List.set_cons_succ]))
      (refine wpAnyH_done (by kernel_rfl) ?_ _)
      go_wp2_with fail
      go_meet
      exact HE.out
  case rest =>
    obtain ⟨b, rfl, HA, hbA, hbn, hbB, hbm⟩ := hcut
    have HBG : Hid (∀ (W : World) (AH : Option Addr) (cH : Nat) (l : List Int), AccIs wb W { b with AH := AH, cH := cH } d { acc0 nT with held := l } nilKinds → (W.cell? ⟨b.g, 11, none⟩ = some (.slice AH l.length cH) ∧ b.g < W.heap.size) ∧ W.ownsRow 0 3 1 (.slice AH l.length cH) l.length (l.map (Value.int .i64)) ∧ Kept [] wb W) := fun W AH cH l h => by
      have h1 := AccAt.fact h.at' W (Kept.refl _ _)
      have h2 : W.ownsRow 0 3 1 (.slice AH l.length cH) l.length (l.map (Value.int .i64)) := Holds.get h.at_ (i := 4) rfl
      exact ⟨⟨h1.2.2.1, h1.2.2.2⟩, h2, h.kept⟩
    have hf0 := HF.out wc HA.out.kept
    obtain ⟨-, -, hlk, -, -, -, -, -, -, hlt⟩ := hf0
    obtain ⟨nl, hnl⟩ : ∃ nl : Nat, d.locks = nl := ⟨d.locks.toNat, by have := (checkU_parts hd).2.2.1; omega⟩
    have hl64 : nl ≤ 64 := by have := (checkU_parts hd).2.2.1; omega
    rw [hnl] at hlk ⊢
    go_wp2_with fail
    go_loopw [19] (fun kv wr => ∃ (k : Nat) (AH : Option Addr) (cH : Nat), k ≤ nl ∧ kv = .int .i64 k ∧ Hid (AccIs wb wr { b with AH := AH, cH := cH } d { acc0 nT with held := List.replicate k (-1) } nilKinds)) (fun k _ => nl - (intOf k).toNat)
    case atStart =>
      refine ⟨0, b.AH, b.cH, by omega, rfl, ?_⟩
      exact HA
    case round =>
      obtain ⟨k, AH, cH, hk, rfl, HA2⟩ := hrel
      by_cases hlt2 : k < nl
      · obtain ⟨⟨q1, q2⟩, q3, q4⟩ := HBG.out _ _ _ _ HA2.out
        have HOW := Lib.hid q3
        rw [List.length_replicate] at q1
        have hin : (k : Int) < (nl : Int) := by omega
        have HRD := Lib.hid (reads_oneR wr 3 (.int .i64 (-1)))
        have HW1 : Hid (AccIs wb (wr.alloc (.cells #[.int .i64 (-1)] 3)) { b with AH := AH, cH := cH } d { acc0 nT with held := List.replicate k (-1) } nilKinds) := HA2.out.old ((Kept.refl _ _).alloc _)
        have HOX : Hid ((wr.alloc (.cells #[.int .i64 (-1)] 3)).ownsRow 0 3 1 (.slice AH k cH) k ((List.replicate k (-1)).map (Value.int .i64))) := by
          have h1 := own_kept HOW.out ((Kept.refl [] wr).alloc (.cells #[.int .i64 (-1)] 3)) (by simp)
          rw [List.length_replicate] at h1
          exact h1
        clear q3 q4
        go_wp2_with (at_builtin; go_must (refine wpList_append_any _ rfl _ _ _ rfl 3 (.int .i64 0) 1 8 Try.underlying37 infoR_I rfl (by omega) (.slice AH k cH) k _ rfl HOX.out (some ⟨_, 0, none⟩) 1 1 [.int .i64 (-1)] rfl HRD.out (by simp [Value.oneCell']) (by simp only [maxLen]; omega) (by omega) ?_); intro A2 c2 w3 happ; have hA3 := AccIs.addH HW1.out (AH := A2) (cH := c2) (x := -1) (by show Appended _ _ _ _ (.slice AH (List.replicate k (-1 : Int)).length cH) (.slice A2 ((List.replicate k (-1 : Int)).length + 1) c2) ((List.replicate k (-1 : Int)).length + 1) _; rw [List.length_replicate]; exact happ); have hB3 := AccIs.blkH HW1.out (by show Kept (fp (.slice AH (List.replicate k (-1 : Int)).length cH)) _ _; rw [List.length_replicate]; exact happ.2.1); have q5 : ∃ v, w3.cell? ⟨b.g, 11, none⟩ = some v := ⟨_, (hB3.cell 11).trans (by simp [accC, uC, Array.getElem?_append]; rfl)⟩; have q6 : ∀ j, w3.frozen? ⟨b.g, j, none⟩ = false := hB3.frozen; have q7 := hB3.lt; have HA3 := Lib.hid hA3; clear happ hA3 hB3; obtain ⟨v5, q5⟩ := q5)
        go_roundw
        case rel =>
          refine ⟨k + 1, A2, c2, by omega, by go_num, ?_⟩
          have h1 := HA3.out
          rw [List.replicate_succ']
          simp only [List.length_replicate] at h1
          exact h1
        case measure => simp [intOf]; omega
      · obtain rfl : k = nl := by omega
        have hf1 := HF.out wr HA2.out.kept
        obtain ⟨-, -, -, -, -, -, -, -, hst, hlt3⟩ := hf1
        obtain ⟨a1, ha1⟩ : ∃ a1 : Acc, { acc0 nT with held := List.replicate k (-1) } = a1 := ⟨_, rfl⟩
        obtain ⟨b1, hb1⟩ : ∃ b1 : AcA, { b with AH := AH, cH := cH } = b1 := ⟨_, rfl⟩
        rw [ha1, hb1] at HA2
        have ha2 : a1 = emptyA d := by rw [← ha1]; simp [acc0, emptyA, hnl, hnT]
        have hbg : b.g = b1.g := by rw [← hb1]
        have hml : m = d.starts.length := hu.2.len
        have hm64 : m ≤ 64 := by have := (checkU_parts hd).2.2.2.2.1; omega
        have HBS := Lib.hid (badS_zero (checkU_parts hd).2.2.2.2.2)
        have HWH : Hid (∀ i, AWhole d ((d.starts.take i).foldl startA a1)) := fun i => by
          rw [ha2]
          exact (fold_whole _ _ (emptyA_whole hd) (fun x hx => HBS.out x (List.mem_of_mem_take hx))).1
        have HSU := Lib.hid (hu.2.old HK0.out)
        have HPL : Hid (∀ i, ((d.starts.take i).foldl startA a1).P.length = nT) := fun i => by
          rw [ha2, (fold_whole _ _ (emptyA_whole hd) (fun x hx => HBS.out x (List.mem_of_mem_take hx))).2]
          simp [emptyA, hnT]
        obtain ⟨L, hL⟩ : ∃ L, d.starts = L := ⟨_, rfl⟩
        rw [hL] at hml HWH HSU HPL
        go_wp2_with fail
        go_loopw [34] (fun kv wr => ∃ i : Nat, i ≤ m ∧ kv = .int .i64 i ∧ Hid (AccIs wb wr b1 d ((L.take i).foldl startA a1) nilKinds)) (fun i _ => m - (intOf i).toNat)
        case atStart => exact ⟨0, by omega, rfl, HA2⟩
        case round =>
          obtain ⟨i, hi, rfl, HA3⟩ := hrel
          by_cases hlt4 : i < m
          · obtain ⟨s, sb, so, hBa, hx, hsb, d0, d1, d2⟩ := (HSU.out.old HA3.out.kept).at_ (k := i) (by omega)
            have hwh := HWH.out i
            have hpl := HPL.out i
            have HST : Hid ((L.take (i + 1)).foldl startA a1 = startA ((L.take i).foldl startA a1) s) := by
              obtain ⟨hi2, hx2⟩ := List.getElem?_eq_some_iff.1 hx
              refine Lib.hid ?_
              rw [List.take_succ_eq_append_getElem hi2, List.foldl_append, hx2]; rfl
            generalize (L.take i).foldl startA a1 = ai at *
            subst hBa
            have hin : (i : Int) < (m : Int) := by omega
            have hi0 : (0 : Int) ≤ (i : Int) := by omega
            obtain ⟨wc2, hwc2⟩ : ∃ wc2, wr.alloc (.cells #[.int .i64 s.prog, .int .i64 s.grade, .int .u64 s.mask] 50) = wc2 := ⟨_, rfl⟩
            have hk2 : Kept [] wr wc2 := by rw [← hwc2]; exact (Kept.refl _ _).alloc _
            have hBs : Blk wc2 wr.heap.size 50 #[.int .i64 s.prog, .int .i64 s.grade, .int .u64 s.mask] := by rw [← hwc2]; exact Blk.new _ _ _
            have s0 : wc2.cell? ⟨wr.heap.size, 0, none⟩ = some (.int .i64 s.prog) := hBs.cell 0
            have s2 : wc2.cell? ⟨wr.heap.size, 2, none⟩ = some (.int .u64 s.mask) := hBs.cell 2
            have sl := hBs.lt
            have HBN := Lib.hid (rpborn_any (HA3.out.old hk2) hwh s.prog s.mask false)
            cases hf : freeA ai with
            | none =>
              have hfp : firstP ai.P = -1 := by
                unfold freeA at hf
                split at hf
                · assumption
                · cases hf
              have hTV : takeV ai.P = ((0, 0), false) := by unfold takeV; rw [if_pos hfp]
              have hbn : bornA ai s.prog s.mask false = ai := by unfold bornA; rw [hf]
              have HS2 : Hid (startA ai s = ai) := Lib.hid (by unfold startA; rw [hf])
              rw [hTV, hbn] at HBN
              go_wp2_with fail
              try rw [hwc2]
              go_wp2_with fail
              refine (HBN.out).mono ?_
              rintro y w6 ⟨rfl, hA6, hk6⟩
              have HA6 := Lib.hid hA6
              clear hA6
              go_wp2_with fail
              go_roundw
              case rel => exact ⟨i + 1, by omega, by go_num, by rw [HST.out, HS2.out]; exact HA6.out.old ((Kept.refl _ _).alloc _)⟩
              case measure => simp [intOf]; omega
            | some ix =>
              obtain ⟨hil, hint, hign, hfp⟩ := freeA_some hf
              have hilT : ix < ai.T.length := by rw [hwh.tl]; exact hil
              have hixn : ix < nT := by omega
              obtain ⟨gn, hgn⟩ : ∃ gn, (ai.pl ix).gen + 1 = gn := ⟨_, rfl⟩
              have hTV : takeV ai.P = (((ix : Int), gn), true) := by
                unfold takeV
                rw [if_neg (by rw [hfp]; omega), hfp, Int.toNat_natCast, ← hgn]
                rfl
              have hbn : bornA ai s.prog s.mask false = { ai with P := ai.P.set ix ⟨true, gn⟩, T := ai.T.set ix (newT s.prog s.mask false ix gn) } := by unfold bornA; rw [hf, ← hgn]
              have hsa : startA ai s = ({ ai with P := ai.P.set ix ⟨true, gn⟩, T := ai.T.set ix (newT s.prog s.mask false ix gn) } : Acc).setT ix { newT s.prog s.mask false ix gn with state := 2 } := by unfold startA; rw [hf, ← hgn]; simp [Acc.setT]
              have HSA := Lib.hid hsa
              rw [hTV, hbn] at HBN
              obtain ⟨a2, ha2x⟩ : ∃ a2 : Acc, { ai with P := ai.P.set ix ⟨true, gn⟩, T := ai.T.set ix (newT s.prog s.mask false ix gn) } = a2 := ⟨_, rfl⟩
              have hth2 : a2.th ix = newT s.prog s.mask false ix gn := by rw [← ha2x]; show (ai.T.set ix _).getD ix Th.zero = _; rw [getD_set, if_pos ⟨rfl, hilT⟩]
              have hl2 : a2.T.length = nT := by rw [← ha2x]; simp [hwh.tl, hpl]
              rw [ha2x] at HBN HSA
              have hix0 : (0 : Int) ≤ (ix : Int) := by omega
              have hix1 : (ix : Int) < (nT : Int) := by omega
              go_wp2_with fail
              try rw [hwc2]
              go_wp2_with fail
              refine (HBN.out).mono ?_
              rintro y w6 ⟨rfl, hA6, hk6⟩
              obtain ⟨w7, hw7⟩ : ∃ w7, w6.alloc (.cells #[.int .i64 ix, .int .u32 gn] 53) = w7 := ⟨_, rfl⟩
              have hk7 : Kept [] w6 w7 := by rw [← hw7]; exact (Kept.refl _ _).alloc _
              have hB7 : Blk w7 w6.heap.size 53 #[.int .i64 ix, .int .u32 gn] := by rw [← hw7]; exact Blk.new _ _ _
              have hA7 := hA6.old hk7
              have HST2 := Lib.hid (hA7.st (Kept.refl _ _) (t := ix) (by rw [hl2]; exact hixn) 2 (by omega) (.int .i64 2) { newT s.prog s.mask false ix gn with state := 2 } (by rw [hth2]; rfl))
              have HF11 : Hid (∀ W, Kept [] w7 W → (W.cell? ⟨b1.g, 10, none⟩ = some (.slice (some ⟨gT b1, 0, none⟩) nT b1.cT) ∧ b1.g < W.heap.size) ∧ W.cell? ⟨w6.heap.size, 0, none⟩ = some (.int .i64 ix) ∧ w6.heap.size < W.heap.size ∧ gT b1 < W.heap.size) := fun W hk => by
                have h1 := hB7.kept hk (by simp)
                have h2 := AccAt.fact hA7.at' W hk
                have h3 := (AccAt.gT_ne (hA7.old hk).at' (k := ix) (by rw [hl2]; exact hixn)).2
                have h4 := AccAt.gt hA7.at' (k := ix) (by rw [hl2]; exact hixn)
                rw [h4, hl2] at h2
                exact ⟨⟨h2.2.1, h2.2.2.2⟩, h1.cell 0, h1.lt, h3⟩
              clear hA6 hA7 hB7 hk6
              go_wp2_with fail
              try rw [hw7]
              (refine wp_region_phases (n := 9) (listed := #[false, false, false, false, false, false, false, false, false]) (by kernel_rfl) (by rfl) (by rfl) ?_)
              (refine wpAny_phase (fun W => Kept [] w7 W) [(0, false), (1, false), (2, false), (3, false), (4, false), (5, false), (6, false), (7, false)] (f := 1) (listed := #[false, false, false, false, false, false, false, false, false]) (listed' := #[true, true, true, true, true, true, true, true, false]) (by kernel_rfl) (by kernel_rfl) (by rfl) (Kept.refl [] _).drew (fun d _ _ _ _ h => by cases d <;> exact h) ?_)
              iterate 8 (refine wpQL_take (v := ?_) rfl (by rfl) ?_ ?_; rotate_left; (focus ((intro W hC; have hF := HF11.out W hC; go_simp); try (with_reducible rfl))); (try dsimp only [Act.put]); (try simp only [List.setIfInBounds_toArray, List.set_cons_zero, List.set_cons_succ]))
              (refine wpQL_nil ?_)
              (intro wq hq)
              obtain ⟨⟨v9, c9⟩, c10, hA9⟩ := HST2.out _ hq
              have c11 := (HF11.out _ hq).2.2.2
              have HA9 := Lib.hid hA9
              clear hA9
              (refine wpAny_loud 8 (fuel := 0) (listed := #[true, true, true, true, true, true, true, true, false]) (listed' := #[true, true, true, true, true, true, true, true, true]) (by kernel_rfl) (by rfl) nth_8 (fun K hK => ?_))
              go_simp
              (refine hK.out _ _ ?_; clear hK K)
              (try simp only [Act.put, List.setIfInBounds_toArray, List.set_cons_zero, List.set_cons_succ])
              (refine wpAny_done (by kernel_rfl) ?_ _)
              go_wp2_with fail
              go_roundw
              case rel => exact ⟨i + 1, by omega, by go_num, by rw [HST.out, HSA.out]; exact HA9.out⟩
              case measure => simp [intOf]; omega
          · obtain rfl : i = m := by omega
            have hB := AccAt.blk HA3.out.at'
            have hfz : ∀ j, wr.frozen? ⟨b1.g, j, none⟩ = false := hB.frozen
            have hlB := hB.lt
            have hc : ∀ j : Nat, j < 11 → wr.cell? ⟨b1.g, 12 + j, none⟩ = some .nilFunc := fun j hj => (hB.cell (12 + j)).trans (by
              rcases (by omega : j = 0 ∨ j = 1 ∨ j = 2 ∨ j = 3 ∨ j = 4 ∨ j = 5 ∨ j = 6 ∨ j = 7 ∨ j = 8 ∨ j = 9 ∨ j = 10) with rfl | rfl | rfl | rfl | rfl | rfl | rfl | rfl | rfl | rfl | rfl <;> simp [accC, uC, nilKinds])
            have hth : wr.there b1.g 12 (kindsA b1.g).size := fun j hj => by
              have hj' : j < 11 := hj
              exact ⟨by rw [hc j hj']; rfl, hfz _⟩
            have HKE := Lib.hid (HA3.out.kinds)
            have HVE : Hid ((L.take i).foldl startA a1 = openA d) := Lib.hid (by rw [hml, List.take_length, ha2, ← hL]; rfl)
            clear hB hc
            go_wp2_with (refine wpList_store_mid rfl _ (.tmp 80) (.tmp 78) rfl b1.g 12 (kindsA b1.g) rfl rfl hth (by kernel_rfl) (by simp [kindsA, Value.oneCell']) ?_)
            go_ret
            refine ⟨b1, rfl, ?_, ?_, ?_, ?_, ?_⟩
            · have h1 := HKE.out
              rw [HVE.out] at h1
              exact h1.base HK0.out
            · rw [← hb1]; exact hbA
            · rw [← hb1]; exact hbn
            · rw [← hb1]; exact hbB
            · rw [← hb1]; exact hbm

end Go.Proofs.Ytccodklfplfleaa
