/- The document's account (layer 35): New, walked. -/
import Derived.Test.YtccodklfplfleaaRqX
import Derived.Test.YtccodklfplfleaaRpC
namespace Go.Proofs.Ytccodklfplfleaa
open Go.RowKit

/-- A roll made anew. -/
structure NewR (w w' : World) (n g gP gG : Nat) : Prop where
  blk : Blk w' g 77 #[.slice (some ⟨gP, 0, none⟩) n n, .slice (some ⟨gG, 0, none⟩) n n]
  tk : w'.ownsRow 0 4 1 (.slice (some ⟨gP, 0, none⟩) n n) n ((List.replicate n Pl.zero).map tkV)
  gn : w'.ownsRow 0 51 1 (.slice (some ⟨gG, 0, none⟩) n n) n ((List.replicate n Pl.zero).map gnV)
  new : w.heap.size ≤ g ∧ w.heap.size ≤ gP ∧ w.heap.size ≤ gG ∧ gP ≠ gG ∧ gP ≠ g ∧ gG ≠ g
  kept : Kept [] w w'
inductive NewRP (w : World) (n : Nat) : Ending → World → Prop
  | mk (w' : World) (g gP gG : Nat) : NewR w w' n g gP gG → NewRP w n (.returned (.pointer (some ⟨g, 0, none⟩))) w'
theorem made_one {α : Type} (z : Value) (hz : z.cells.toList = [z]) (n : Nat) (x : α) (g : α → Value) (hg : g x = z) : (madeCells z.cells (n * 1)).toList = (List.replicate n x).map g := by
  have h := made_flat z [z] hz (by simp) n x (fun y => [g y]) (by rw [hg])
  simp only [List.length_singleton] at h
  rw [h]
  simp [List.flatMap_replicate]
set_option maxHeartbeats 3200000 in
set_option maxRecDepth 100000 in
theorem R20New_any (n : Nat) (hn : n ≤ 64) (w : World) : Calls Try.prog 24 #[.int .i64 n] w (NewRP w n) := by
  obtain ⟨f1, hf1⟩ := made_ownR 74 4 (.bool false) 1 1 Try.underlying74 (by kernel_rfl) n (by omega) (by simp [maxLen]; omega) _ (made_one (.bool false) rfl n Pl.zero tkV rfl)
  obtain ⟨f2, hf2⟩ := made_ownR 75 51 (.int .u32 0) 1 4 Try.underlying75 (by kernel_rfl) n (by omega) (by simp [maxLen]; omega) _ (made_one (.int .u32 0) rfl n Pl.zero gnV rfl)
  have hmk1 := fun W => (hf1 W).1
  have hmk2 := fun W => (hf2 W).1
  have HF1 := Lib.hid (fun W => (hf1 W).2)
  have HF2 := Lib.hid (fun W => (hf2 W).2)
  have hmx : max (n : Int) 0 = n := by omega
  have hmn : min (n : Int) 64 = n := by omega
  clear hf1 hf2
  go_enter Try.func24, Try.ntmps24
  go_wp2_with fail
  (refine wp_region_held_drew (S := fun W => Kept [] w W) (by kernel_rfl) (Kept.refl _ _).drew (fun hHeld => ?_))
  (refine held_take (i := 0) (v := ?_) (listed := #[false, false, false, false, false, false, false]) nth_0 (by kernel_rfl) (by kernel_rfl) (by kernel_rfl) (fun _ _ _ h => h) (Or.inl ⟨by rfl, ?_⟩) (by assumption) ?_; rotate_left; (focus ((intro W hC; go_simp); try (with_reducible rfl))); (try dsimp only [Act.put]); (try simp only [List.setIfInBounds_toArray, List.set_cons_zero, List.set_cons_succ]))
  (refine held_take (i := 2) (v := ?_) (listed := #[true, false, false, false, false, false, false]) nth_2 (by kernel_rfl) (by kernel_rfl) (by kernel_rfl) (fun _ _ _ h => h) (Or.inl ⟨by rfl, ?_⟩) (by assumption) ?_; rotate_left; (focus ((intro W hC; go_simp); try (with_reducible rfl))); (try dsimp only [Act.put]); (try simp only [List.setIfInBounds_toArray, List.set_cons_zero, List.set_cons_succ]))
  (refine wpAnyH_ready (rs := [1, 3]) (by kernel_rfl) (by simp) ?_; refine held_cons nth_1 (fun K hK => ?_) (held_cons nth_3 (fun K hK => ?_) AllReadyH.nil))
  · skip
    have a1 := HF1.out w.drew
    have HA1 := Lib.hid a1
    have HK1 := Lib.hid (hHeld.trans a1.2)
    clear a1
    go_simp
    (refine hK.out _ _ ((by exact HK1.out)) (fun hHeld => ?_); clear hK K)
    (try dsimp only [Act.put]); (try simp only [List.setIfInBounds_toArray, List.set_cons_zero, List.set_cons_succ])
    have a2 := HF2.out (f1 w.drew)
    have HA2 := Lib.hid a2
    have HK2 := Lib.hid (HK1.out.trans a2.2)
    clear a2
    (refine wpAnyH_ready (rs := [3]) (by kernel_rfl) (by simp) ?_; refine held_cons nth_3 (fun K hK => ?_) AllReadyH.nil)
    go_simp
    (refine hK.out _ _ ((by exact HK2.out)) (fun hHeld => ?_); clear hK K)
    (try dsimp only [Act.put]); (try simp only [List.setIfInBounds_toArray, List.set_cons_zero, List.set_cons_succ])
    (refine held_take (i := 4) (v := ?_) (listed := #[true, true, true, true, false, false, false]) nth_4 (by kernel_rfl) (by kernel_rfl) (by kernel_rfl) (fun _ _ _ h => h) (Or.inl ⟨by rfl, ?_⟩) (by assumption) ?_; rotate_left; (focus ((intro W hC; go_simp); try (with_reducible rfl))); (try dsimp only [Act.put]); (try simp only [List.setIfInBounds_toArray, List.set_cons_zero, List.set_cons_succ]))
    (refine wpAnyH_ready (rs := [5]) (by kernel_rfl) (by simp) ?_; refine held_cons nth_5 (fun K hK => ?_) AllReadyH.nil)
    go_simp
    (refine hK.out _ _ ((by exact HK2.out.alloc _)) (fun hHeld => ?_); clear hK K)
    (try dsimp only [Act.put]); (try simp only [List.setIfInBounds_toArray, List.set_cons_zero, List.set_cons_succ])
    (refine held_take (i := 6) (v := ?_) (listed := #[true, true, true, true, true, true, false]) nth_6 (by kernel_rfl) (by kernel_rfl) (by kernel_rfl) (fun _ _ _ h => h) (Or.inl ⟨by rfl, ?_⟩) (by assumption) ?_; rotate_left; (focus ((intro W hC; go_simp); try (with_reducible rfl))); (try dsimp only [Act.put]); (try simp only [List.setIfInBounds_toArray, List.set_cons_zero, List.set_cons_succ]))
    (refine wpAnyH_done (by kernel_rfl) ?_ _)
    go_wp2_with fail
    go_ret
    have l1 := own_lt HA1.out.1 _ (by simp [fp_some]; rfl)
    have l2 := own_lt HA2.out.1 _ (by simp [fp_some]; rfl)
    have s1 := HK1.out.size
    have s2 := HK2.out.size
    have hk : Kept [] (f2 (f1 w.drew)) ((f2 (f1 w.drew)).alloc (.cells #[.slice (some ⟨w.heap.size, 0, none⟩) n n, .slice (some ⟨(f1 w.drew).heap.size, 0, none⟩) n n] 77)) := (Kept.refl _ _).alloc _
    simp only [show w.drew.heap.size = w.heap.size from rfl] at *
    exact .mk _ _ _ _ ⟨Blk.new _ _ _, own_kept (own_kept HA1.out.1 HA2.out.2 (by simp)) hk (by simp), own_kept HA2.out.1 hk (by simp), ⟨by omega, by omega, by omega, by omega, by omega, by omega⟩, HK2.out.trans hk⟩
  · skip
    have a1 := HF2.out w.drew
    have HA1 := Lib.hid a1
    have HK1 := Lib.hid (hHeld.trans a1.2)
    clear a1
    go_simp
    (refine hK.out _ _ ((by exact HK1.out)) (fun hHeld => ?_); clear hK K)
    (try dsimp only [Act.put]); (try simp only [List.setIfInBounds_toArray, List.set_cons_zero, List.set_cons_succ])
    have a2 := HF1.out (f2 w.drew)
    have HA2 := Lib.hid a2
    have HK2 := Lib.hid (HK1.out.trans a2.2)
    clear a2
    (refine wpAnyH_ready (rs := [1]) (by kernel_rfl) (by simp) ?_; refine held_cons nth_1 (fun K hK => ?_) AllReadyH.nil)
    go_simp
    (refine hK.out _ _ ((by exact HK2.out)) (fun hHeld => ?_); clear hK K)
    (try dsimp only [Act.put]); (try simp only [List.setIfInBounds_toArray, List.set_cons_zero, List.set_cons_succ])
    (refine held_take (i := 4) (v := ?_) (listed := #[true, true, true, true, false, false, false]) nth_4 (by kernel_rfl) (by kernel_rfl) (by kernel_rfl) (fun _ _ _ h => h) (Or.inl ⟨by rfl, ?_⟩) (by assumption) ?_; rotate_left; (focus ((intro W hC; go_simp); try (with_reducible rfl))); (try dsimp only [Act.put]); (try simp only [List.setIfInBounds_toArray, List.set_cons_zero, List.set_cons_succ]))
    (refine wpAnyH_ready (rs := [5]) (by kernel_rfl) (by simp) ?_; refine held_cons nth_5 (fun K hK => ?_) AllReadyH.nil)
    go_simp
    (refine hK.out _ _ ((by exact HK2.out.alloc _)) (fun hHeld => ?_); clear hK K)
    (try dsimp only [Act.put]); (try simp only [List.setIfInBounds_toArray, List.set_cons_zero, List.set_cons_succ])
    (refine held_take (i := 6) (v := ?_) (listed := #[true, true, true, true, true, true, false]) nth_6 (by kernel_rfl) (by kernel_rfl) (by kernel_rfl) (fun _ _ _ h => h) (Or.inl ⟨by rfl, ?_⟩) (by assumption) ?_; rotate_left; (focus ((intro W hC; go_simp); try (with_reducible rfl))); (try dsimp only [Act.put]); (try simp only [List.setIfInBounds_toArray, List.set_cons_zero, List.set_cons_succ]))
    (refine wpAnyH_done (by kernel_rfl) ?_ _)
    go_wp2_with fail
    go_ret
    have l1 := own_lt HA1.out.1 _ (by simp [fp_some]; rfl)
    have l2 := own_lt HA2.out.1 _ (by simp [fp_some]; rfl)
    have s1 := HK1.out.size
    have s2 := HK2.out.size
    have hk : Kept [] (f1 (f2 w.drew)) ((f1 (f2 w.drew)).alloc (.cells #[.slice (some ⟨(f2 w.drew).heap.size, 0, none⟩) n n, .slice (some ⟨w.heap.size, 0, none⟩) n n] 77)) := (Kept.refl _ _).alloc _
    simp only [show w.drew.heap.size = w.heap.size from rfl] at *
    exact .mk _ _ _ _ ⟨Blk.new _ _ _, own_kept HA2.out.1 hk (by simp), own_kept (own_kept HA1.out.1 HA2.out.2 (by simp)) hk (by simp), ⟨by omega, by omega, by omega, by omega, by omega, by omega⟩, HK2.out.trans hk⟩

set_option maxHeartbeats 1600000 in
theorem rq_open {w W : World} {d : Du} {A B : Option Addr} {n c m e nT gr gP gG gT : Nat} (hk : Kept [] w W) (hR : NewR w W nT gr gP gG)
    (hO : W.ownsRow 0 79 31 (.slice (some ⟨gT, 0, none⟩) nT nT) nT ((List.replicate nT Th.zero).flatMap oneL)) (h4 : w.heap.size ≤ gT) (h5 : gT ≠ gr) (h6 : gT ≠ gP) (h7 : gT ≠ gG) :
    RqIs w (W.alloc (.cells (uC d A n c B m e ++ #[.pointer (some ⟨gr, 0, none⟩), .slice (some ⟨gT, 0, none⟩) nT nT, .slice none 0 0]) 43)) ⟨W.heap.size, gr, gP, gG, gT, none, 0, A, n, c, B, m, e⟩ d (acc0 nT) := by
  have hk2 : Kept [] W (W.alloc (.cells (uC d A n c B m e ++ #[.pointer (some ⟨gr, 0, none⟩), .slice (some ⟨gT, 0, none⟩) nT nT, .slice none 0 0]) 43)) := (Kept.refl _ _).alloc _
  have r1 := hR.blk.kept hk2 (by simp)
  have r2 := own_kept hR.tk hk2 (by simp)
  have r3 := own_kept hR.gn hk2 (by simp)
  have r4 := own_kept hO hk2 (by simp)
  have l1 := hR.blk.lt
  have l2 := own_lt hR.tk gP (by simp [fp_some])
  have l3 := own_lt hR.gn gG (by simp [fp_some])
  have l4 := own_lt hO gT (by simp [fp_some])
  obtain ⟨n1, n2, n3, n4, n5, n6⟩ := hR.new
  have hs := hk.size
  have hB := Blk.new W 43 (uC d A n c B m e ++ #[.pointer (some ⟨gr, 0, none⟩), .slice (some ⟨gT, 0, none⟩) nT nT, .slice none 0 0])
  obtain ⟨b, hb⟩ : ∃ b : RqA, (⟨W.heap.size, gr, gP, gG, gT, none, 0, A, n, c, B, m, e⟩ : RqA) = b := ⟨_, rfl⟩
  have hP : rqP b d (acc0 nT) = [.blk W.heap.size 43 (uC d A n c B m e ++ #[.pointer (some ⟨gr, 0, none⟩), .slice (some ⟨gT, 0, none⟩) nT nT, .slice none 0 0]), .blk gr 77 #[.slice (some ⟨gP, 0, none⟩) nT nT, .slice (some ⟨gG, 0, none⟩) nT nT], .row 4 1 (.slice (some ⟨gP, 0, none⟩) nT nT) nT ((List.replicate nT Pl.zero).map tkV), .row 51 1 (.slice (some ⟨gG, 0, none⟩) nT nT) nT ((List.replicate nT Pl.zero).map gnV), .row 79 31 (.slice (some ⟨gT, 0, none⟩) nT nT) nT ((List.replicate nT Th.zero).flatMap oneL), .row 3 1 (.slice none 0 0) 0 []] := by
    rw [← hb]; simp [rqP, rqC, acc0]
  rw [hb]
  obtain ⟨cs, hcs⟩ : ∃ cs, uC d A n c B m e ++ #[.pointer (some ⟨gr, 0, none⟩), .slice (some ⟨gT, 0, none⟩) nT nT, .slice none 0 0] = cs := ⟨_, rfl⟩
  rw [hcs] at hP hB hk2 r1 r2 r3 r4 ⊢
  clear hcs hb
  refine ⟨?_, fun p hp k hk' => ?_, (hk.trans hk2).mono (by simp)⟩
  · show Holds _ (rqP b d (acc0 nT))
    rw [hP]
    refine ⟨fun p hp => ?_, fun i j p q hij hp hq k hk1 hk2 => ?_⟩
    · simp only [List.mem_cons, List.not_mem_nil, or_false] at hp
      rcases hp with rfl | rfl | rfl | rfl | rfl | rfl
      · exact hB
      · exact r1
      · exact r2
      · exact r3
      · exact r4
      · exact World.ownsRow_nil _ _ _ _
    · have hj : j < 6 := (List.getElem?_eq_some_iff.1 hq).1
      rcases (by omega : j = 1 ∨ j = 2 ∨ j = 3 ∨ j = 4 ∨ j = 5) with rfl | rfl | rfl | rfl | rfl
      · obtain rfl : i = 0 := by omega
        simp at hp hq; subst hp hq
        simp [Piece.fp, fp_some] at hk1 hk2; omega
      · rcases (by omega : i = 0 ∨ i = 1) with rfl | rfl
        all_goals
          simp at hp hq; subst hp hq
          simp [Piece.fp, fp_some] at hk1 hk2; omega
      · rcases (by omega : i = 0 ∨ i = 1 ∨ i = 2) with rfl | rfl | rfl
        all_goals
          simp at hp hq; subst hp hq
          simp [Piece.fp, fp_some] at hk1 hk2; omega
      · rcases (by omega : i = 0 ∨ i = 1 ∨ i = 2 ∨ i = 3) with rfl | rfl | rfl | rfl
        all_goals
          simp at hp hq; subst hp hq
          simp [Piece.fp, fp_some] at hk1 hk2; omega
      · simp at hq; subst hq
        simp [Piece.fp, fp, Value.ownBlock] at hk2
  · right
    show w.heap.size ≤ k
    rw [hP] at hp
    simp only [List.mem_cons, List.not_mem_nil, or_false] at hp
    rcases hp with rfl | rfl | rfl | rfl | rfl | rfl
    all_goals (simp [Piece.fp, fp, Value.ownBlock] at hk')
    all_goals omega
theorem rqC_set (b : RqA) (d : Du) (a : Acc) (AH : Option Addr) (cH : Nat) (l : List Int) : (rqC b d a).setIfInBounds 11 (.slice AH l.length cH) = rqC { b with AH := AH, cH := cH } d { a with held := l } := by
  apply Array.ext'
  simp [rqC, uC]
theorem RqIs.addH {w0 : Base} {w w' : World} {b : RqA} {d : Du} {a : Acc} (h : RqIs w0 w b d a) {AH : Option Addr} {cH : Nat} {x : Int} (happ : Appended w w' 3 1 (.slice b.AH a.held.length b.cH) (.slice AH (a.held.length + 1) cH) (a.held.length + 1) (a.held.map (Value.int .i64) ++ [.int .i64 x])) :
    RqIs w0 (w'.setCell ⟨b.g, 11, none⟩ (.slice AH (a.held.length + 1) cH)) { b with AH := AH, cH := cH } d { a with held := a.held ++ [x] } := by
  obtain ⟨h1, h2, h3⟩ := happ
  have h1' : (Piece.row 3 1 (.slice AH (a.held.length + 1) cH) (a.held.length + 1) (a.held.map (Value.int .i64) ++ [.int .i64 x])).holds w' := h1
  have t1 := IsP.turn h (i := 5) (p' := .row 3 1 (.slice AH (a.held.length + 1) cH) (a.held.length + 1) (a.held.map (Value.int .i64) ++ [.int .i64 x])) rfl h2 h1' h3
  have hp0 : ((rqP b d a).set 5 (.row 3 1 (.slice AH (a.held.length + 1) cH) (a.held.length + 1) (a.held.map (Value.int .i64) ++ [.int .i64 x])))[0]? = some (.blk b.g 43 (rqC b d a)) := rfl
  have t2 := IsP.turn t1 (i := 0) (p' := .blk b.g 43 ((rqC b d a).setIfInBounds 11 (.slice AH (a.held.length + 1) cH))) hp0 ((Kept.refl _ _).setCell (.inl (by simp [Piece.fp])) _) (Blk.set (Holds.get t1.at_ hp0) 11 _) (fun k hk => .inl hk)
  have he : ((rqP b d a).set 5 (.row 3 1 (.slice AH (a.held.length + 1) cH) (a.held.length + 1) (a.held.map (Value.int .i64) ++ [.int .i64 x]))).set 0 (.blk b.g 43 ((rqC b d a).setIfInBounds 11 (.slice AH (a.held.length + 1) cH))) = rqP { b with AH := AH, cH := cH } d { a with held := a.held ++ [x] } := by
    have e1 := rqC_set b d a AH cH (a.held ++ [x])
    rw [List.length_append, List.length_singleton] at e1
    rw [e1]
    simp [rqP]
  rw [he] at t2
  exact t2
theorem RqIs.blkH {w0 : Base} {w w' : World} {b : RqA} {d : Du} {a : Acc} (h : RqIs w0 w b d a) (hk : Kept (fp (.slice b.AH a.held.length b.cH)) w w') : Blk w' b.g 43 (rqC b d a) :=
  (RqAt.blk h.at_).kept hk (fun hin => Holds.apart h.at_ (i := 0) (j := 5) (by decide) rfl rfl b.g (by simp [Piece.fp]) hin)

set_option maxHeartbeats 6400000 in
set_option maxRecDepth 100000 in
theorem R35New_any {w : World} {d : Du} {A B : Option Addr} {n c m e : Nat} (hu : IsU w d A n B m) (hd : checkU d = 0) :
    Calls Try.prog 14 #[.agg (uC d A n c B m e)] w fun x w' => ∃ b : RqA, x = .returned (.pointer (some ⟨b.g, 0, none⟩)) ∧ RqIs w w' b d (openA d) ∧ b.A = A ∧ b.n = n ∧ b.B = B ∧ b.m = m := by
  obtain ⟨nT, hnT⟩ : ∃ nT : Nat, d.threads = nT := ⟨d.threads.toNat, by have := (checkU_parts hd).2.1; omega⟩
  have hn64 : nT ≤ 64 := by have := (checkU_parts hd).2.1; omega
  obtain ⟨wb, hwb⟩ : ∃ wb, w.alloc (.cells (uC d A n c B m e) 27) = wb := ⟨_, rfl⟩
  have h0 : Kept [] w wb := by rw [← hwb]; exact (Kept.refl _ _).alloc _
  have HK0 := Lib.hid h0
  have hB : Blk wb w.heap.size 27 (uC d A n c B m e) := by rw [← hwb]; exact Blk.new w _ _
  have HF : Hid (∀ W, Kept [] wb W → W.cell? ⟨w.heap.size, 0, none⟩ = some (.int .i64 d.cpus) ∧ W.cell? ⟨w.heap.size, 1, none⟩ = some (.int .i64 nT) ∧ W.cell? ⟨w.heap.size, 2, none⟩ = some (.int .i64 d.locks) ∧ W.cell? ⟨w.heap.size, 3, none⟩ = some (.int .i64 d.cap) ∧ W.cell? ⟨w.heap.size, 4, none⟩ = some (.int .u64 d.boost) ∧ W.cell? ⟨w.heap.size, 5, none⟩ = some (.float .f64 d.keep) ∧ W.cell? ⟨w.heap.size, 6, none⟩ = some (.float .f64 d.ratio) ∧ W.cell? ⟨w.heap.size, 7, none⟩ = some (.slice A n c) ∧ W.cell? ⟨w.heap.size, 8, none⟩ = some (.slice B m e) ∧ w.heap.size < W.heap.size) := fun W hk => by
    have h1 := hB.kept hk (by simp)
    refine ⟨h1.cell 0, ?_, h1.cell 2, h1.cell 3, h1.cell 4, h1.cell 5, h1.cell 6, h1.cell 7, h1.cell 8, h1.lt⟩
    rw [← hnT]; exact h1.cell 1
  obtain ⟨f1, hf1⟩ := made_ownR 41 79 (.agg (oneL Th.zero).toArray) 31 248 Try.underlying41 (by kernel_rfl) nT (by omega) (by simp [maxLen]; omega) _ (made_flat (.agg (oneL Th.zero).toArray) (oneL Th.zero) rfl (by simp [oneL]) nT Th.zero oneL rfl)
  have hmk1 := fun W => (hf1 W).1
  have HF1 := Lib.hid (fun W => (hf1 W).2)
  have HRN := Lib.hid (fun W => R20New_any nT hn64 W)
  have hUC : uC d A n c B m e = #[.int .i64 d.cpus, .int .i64 nT, .int .i64 d.locks, .int .i64 d.cap, .int .u64 d.boost, .float .f64 d.keep, .float .f64 d.ratio, .slice A n c, .slice B m e] := by unfold uC; rw [hnT]
  rw [hUC] at hwb
  have HEND : Hid (∀ (W : World) (gr gP gG gT : Nat), Kept [] wb W → NewR wb W nT gr gP gG → W.ownsRow 0 79 31 (.slice (some ⟨gT, 0, none⟩) nT nT) nT ((List.replicate nT Th.zero).flatMap oneL) → wb.heap.size ≤ gT → gT ≠ gr → gT ≠ gP → gT ≠ gG → ∃ b : RqA, Value.pointer (some ⟨W.heap.size, 0, none⟩) = .pointer (some ⟨b.g, 0, none⟩) ∧ Hid (RqIs wb (W.alloc (.cells #[.int .i64 d.cpus, .int .i64 nT, .int .i64 d.locks, .int .i64 d.cap, .int .u64 d.boost, .float .f64 d.keep, .float .f64 d.ratio, .slice A n c, .slice B m e, .pointer (some ⟨gr, 0, none⟩), .slice (some ⟨gT, 0, none⟩) nT nT, .slice none 0 0] 43)) b d (acc0 nT)) ∧ b.A = A ∧ b.n = n ∧ b.B = B ∧ b.m = m) := fun W gr gP gG gT hk h1 h2 h3 h4 h5 h6 => by
    have q := rq_open (d := d) (A := A) (B := B) (n := n) (c := c) (m := m) (e := e) hk h1 h2 h3 h4 h5 h6
    have e1 : uC d A n c B m e ++ #[.pointer (some ⟨gr, 0, none⟩), .slice (some ⟨gT, 0, none⟩) nT nT, .slice none 0 0] = #[.int .i64 d.cpus, .int .i64 nT, .int .i64 d.locks, .int .i64 d.cap, .int .u64 d.boost, .float .f64 d.keep, .float .f64 d.ratio, .slice A n c, .slice B m e, .pointer (some ⟨gr, 0, none⟩), .slice (some ⟨gT, 0, none⟩) nT nT, .slice none 0 0] := by
      rw [hUC]; simp
    rw [e1] at q
    exact ⟨_, rfl, q, rfl, rfl, rfl, rfl⟩
  have HNW : Hid (∀ {W0 W W' : World} {g gP gG : Nat}, Kept [] wb W0 → NewR W0 W nT g gP gG → Kept [] W W' → NewR wb W' nT g gP gG) := fun {W0 W W' g gP gG} hk0 h hk => ⟨h.blk.kept hk (by simp), own_kept h.tk hk (by simp), own_kept h.gn hk (by simp), by have := h.new; have := hk0.size; omega, (hk0.trans h.kept).trans hk⟩
  rw [hUC]
  clear hf1 hB h0 hUC
  go_enter Try.func14, Try.ntmps14
  go_upto_region 1 with fail
  go_cut [3] from 8 (fun s3 wx => ∃ b : RqA, s3 = .pointer (some ⟨b.g, 0, none⟩) ∧ Hid (RqIs wb wx b d (acc0 nT)) ∧ b.A = A ∧ b.n = n ∧ b.B = B ∧ b.m = m)
  case first =>
    try rw [hwb]
    (refine wp_region_held_drew (S := fun W => Kept [] wb W) (by kernel_rfl) (Kept.refl _ _).drew (fun hHeld => ?_))
    (refine held_take (i := 0) (v := ?_) (listed := #[false, false, false, false, false, false, false, false, false, false]) nth_0 (by kernel_rfl) (by kernel_rfl) (by kernel_rfl) (fun _ _ _ h => h) (Or.inl ⟨by rfl, ?_⟩) (by assumption) ?_; rotate_left; (focus ((intro W hC; have hF := HF.out W hC; go_simp); try (with_reducible rfl))); (try dsimp only [Act.put]); (try simp only [List.setIfInBounds_toArray, List.set_cons_zero, List.set_cons_succ]))
    (refine held_take (i := 1) (v := ?_) (listed := #[true, false, false, false, false, false, false, false, false, false]) nth_1 (by kernel_rfl) (by kernel_rfl) (by kernel_rfl) (fun _ _ _ h => h) (Or.inl ⟨by rfl, ?_⟩) (by assumption) ?_; rotate_left; (focus ((intro W hC; go_simp); try (with_reducible rfl))); (try dsimp only [Act.put]); (try simp only [List.setIfInBounds_toArray, List.set_cons_zero, List.set_cons_succ]))
    (refine held_take (i := 2) (v := ?_) (listed := #[true, true, false, false, false, false, false, false, false, false]) nth_2 (by kernel_rfl) (by kernel_rfl) (by kernel_rfl) (fun _ _ _ h => h) (Or.inl ⟨by rfl, ?_⟩) (by assumption) ?_; rotate_left; (focus ((intro W hC; have hF := HF.out W hC; go_simp); try (with_reducible rfl))); (try dsimp only [Act.put]); (try simp only [List.setIfInBounds_toArray, List.set_cons_zero, List.set_cons_succ]))
    (refine held_take (i := 4) (v := ?_) (listed := #[true, true, true, false, false, false, false, false, false, false]) nth_4 (by kernel_rfl) (by kernel_rfl) (by kernel_rfl) (fun _ _ _ h => h) (Or.inl ⟨by rfl, ?_⟩) (by assumption) ?_; rotate_left; (focus ((intro W hC; go_simp); try (with_reducible rfl))); (try dsimp only [Act.put]); (try simp only [List.setIfInBounds_toArray, List.set_cons_zero, List.set_cons_succ]))
    (refine held_take (i := 5) (v := ?_) (listed := #[true, true, true, false, true, false, false, false, false, false]) nth_5 (by kernel_rfl) (by kernel_rfl) (by kernel_rfl) (fun _ _ _ h => h) (Or.inl ⟨by rfl, ?_⟩) (by assumption) ?_; rotate_left; (focus ((intro W hC; have hF := HF.out W hC; go_simp); try (with_reducible rfl))); (try dsimp only [Act.put]); (try simp only [List.setIfInBounds_toArray, List.set_cons_zero, List.set_cons_succ]))
    (refine wpAnyH_ready (rs := [3, 6]) (by kernel_rfl) (by simp) ?_; refine held_cons nth_3 (fun K hK => ?_) (held_cons nth_6 (fun K hK => ?_) AllReadyH.nil))
    · skip
      go_simp
      refine (HRN.out _).mono ?_
      rintro y w6 ⟨_, g, gP, gG, hR⟩
      have hk7 := hHeld.trans hR.kept
      have a1 := HF1.out w6
      have hR2 := HNW.out hHeld hR a1.2
      have hg := hR.blk.lt
      have hA := own_lt hR.tk gP (by simp [fp_some])
      have hA2 := own_lt hR.gn gG (by simp [fp_some])
      have hsz := hHeld.size
      have HE := Lib.hid (HEND.out (f1 w6) g gP gG w6.heap.size (hk7.trans a1.2) hR2 a1.1 hk7.size (by omega) (by omega) (by omega))
      have HK8 := Lib.hid (hk7.trans a1.2)
      clear hR hR2 hA hA2 hg
      (refine hK.out _ _ ((by exact hk7)) (fun hHeld => ?_); clear hK K)
      (try dsimp only [Act.put]); (try simp only [List.setIfInBounds_toArray, List.set_cons_zero, List.set_cons_succ])
      (refine wpAnyH_ready (rs := [6]) (by kernel_rfl) (by simp) ?_; refine held_cons nth_6 (fun K hK => ?_) AllReadyH.nil)
      go_simp
      (refine hK.out _ _ ((by exact HK8.out)) (fun hHeld => ?_); clear hK K)
      (try dsimp only [Act.put]); (try simp only [List.setIfInBounds_toArray, List.set_cons_zero, List.set_cons_succ])
      (refine held_take (i := 7) (v := ?_) (listed := #[true, true, true, true, true, true, true, false, false, false]) nth_7 (by kernel_rfl) (by kernel_rfl) (by kernel_rfl) (fun _ _ _ h => h) (Or.inl ⟨by rfl, ?_⟩) (by assumption) ?_; rotate_left; (focus ((intro W hC; go_simp); try (with_reducible rfl))); (try dsimp only [Act.put]); (try simp only [List.setIfInBounds_toArray, List.set_cons_zero, List.set_cons_succ]))
      (refine wpAnyH_ready (rs := [8]) (by kernel_rfl) (by simp) ?_; refine held_cons nth_8 (fun K hK => ?_) AllReadyH.nil)
      go_simp
      (refine hK.out _ _ ((by exact HK8.out.alloc _)) (fun hHeld => ?_); clear hK K)
      (try dsimp only [Act.put]); (try simp only [List.setIfInBounds_toArray, List.set_cons_zero, List.set_cons_succ])
      (refine held_take (i := 9) (v := ?_) (listed := #[true, true, true, true, true, true, true, true, true, false]) nth_9 (by kernel_rfl) (by kernel_rfl) (by kernel_rfl) (fun _ _ _ h => h) (Or.inl ⟨by rfl, ?_⟩) (by assumption) ?_; rotate_left; (focus ((intro W hC; go_simp); try (with_reducible rfl))); (try dsimp only [Act.put]); (try simp only [List.setIfInBounds_toArray, List.set_cons_zero, List.set_cons_succ]))
      (refine wpAnyH_done (by kernel_rfl) ?_ _)
      go_wp2_with fail
      go_meet
      exact HE.out
    · skip
      have a1 := HF1.out wb.drew
      have hsz := hHeld.size
      have HAW := Lib.hid a1
      have HK8 := Lib.hid (hHeld.trans a1.2)
      have hlA := own_lt a1.1 wb.drew.heap.size (by simp [fp_some])
      clear a1
      go_simp
      (refine hK.out _ _ ((by exact HK8.out)) (fun hHeld => ?_); clear hK K)
      (try dsimp only [Act.put]); (try simp only [List.setIfInBounds_toArray, List.set_cons_zero, List.set_cons_succ])
      (refine wpAnyH_ready (rs := [3]) (by kernel_rfl) (by simp) ?_; refine held_cons nth_3 (fun K hK => ?_) AllReadyH.nil)
      go_simp
      refine (HRN.out _).mono ?_
      rintro y w6 ⟨_, g, gP, gG, hR⟩
      have HK9 := Lib.hid (HK8.out.trans hR.kept)
      have hsz2 := HK8.out.size
      have hR2 := HNW.out HK8.out hR (Kept.refl _ _)
      have hne := hR.new
      have HE := Lib.hid (HEND.out w6 g gP gG wb.drew.heap.size HK9.out hR2 (own_kept HAW.out.1 hR.kept (by simp)) hsz (by omega) (by omega) (by omega))
      clear hR hR2 hne
      (refine hK.out _ _ ((by exact HK9.out)) (fun hHeld => ?_); clear hK K)
      (try dsimp only [Act.put]); (try simp only [List.setIfInBounds_toArray, List.set_cons_zero, List.set_cons_succ])
      (refine held_take (i := 7) (v := ?_) (listed := #[true, true, true, true, true, true, true, false, false, false]) nth_7 (by kernel_rfl) (by kernel_rfl) (by kernel_rfl) (fun _ _ _ h => h) (Or.inl ⟨by rfl, ?_⟩) (by assumption) ?_; rotate_left; (focus ((intro W hC; go_simp); try (with_reducible rfl))); (try dsimp only [Act.put]); (try simp only [List.setIfInBounds_toArray, List.set_cons_zero, List.set_cons_succ]))
      (refine wpAnyH_ready (rs := [8]) (by kernel_rfl) (by simp) ?_; refine held_cons nth_8 (fun K hK => ?_) AllReadyH.nil)
      go_simp
      (refine hK.out _ _ ((by exact HK9.out.alloc _)) (fun hHeld => ?_); clear hK K)
      (try dsimp only [Act.put]); (try simp only [List.setIfInBounds_toArray, List.set_cons_zero, List.set_cons_succ])
      (refine held_take (i := 9) (v := ?_) (listed := #[true, true, true, true, true, true, true, true, true, false]) nth_9 (by kernel_rfl) (by kernel_rfl) (by kernel_rfl) (fun _ _ _ h => h) (Or.inl ⟨by rfl, ?_⟩) (by assumption) ?_; rotate_left; (focus ((intro W hC; go_simp); try (with_reducible rfl))); (try dsimp only [Act.put]); (try simp only [List.setIfInBounds_toArray, List.set_cons_zero, List.set_cons_succ]))
      (refine wpAnyH_done (by kernel_rfl) ?_ _)
      go_wp2_with fail
      go_meet
      exact HE.out
  case rest =>
    obtain ⟨b, rfl, HA, hbA, hbn, hbB, hbm⟩ := hcut
    have HBG : Hid (∀ (W : World) (AH : Option Addr) (cH : Nat) (l : List Int), RqIs wb W { b with AH := AH, cH := cH } d { acc0 nT with held := l } → (W.cell? ⟨b.g, 11, none⟩ = some (.slice AH l.length cH) ∧ b.g < W.heap.size) ∧ W.ownsRow 0 3 1 (.slice AH l.length cH) l.length (l.map (Value.int .i64)) ∧ Kept [] wb W) := fun W AH cH l h => by
      have h1 := RqAt.cells h.at_
      have h2 : W.ownsRow 0 3 1 (.slice AH l.length cH) l.length (l.map (Value.int .i64)) := Holds.get h.at_ (i := 5) rfl
      exact ⟨⟨h1.2.2.2.2.2.1, h1.2.2.2.2.2.2⟩, h2, h.kept⟩
    have hf0 := HF.out wc HA.out.kept
    obtain ⟨nl, hnl⟩ : ∃ nl : Nat, d.locks = nl := ⟨d.locks.toNat, by have := (checkU_parts hd).2.2.1; omega⟩
    have hl64 : nl ≤ 64 := by have := (checkU_parts hd).2.2.1; omega
    obtain ⟨-, -, hlk, -, -, -, -, -, -, hlt⟩ := hf0
    rw [hnl] at hlk
    go_wp2_with fail
    go_loopw [4] (fun kv wr => ∃ (k : Nat) (AH : Option Addr) (cH : Nat), k ≤ nl ∧ kv = .int .i64 k ∧ Hid (RqIs wb wr { b with AH := AH, cH := cH } d { acc0 nT with held := List.replicate k (-1) })) (fun k _ => nl - (intOf k).toNat)
    case atStart =>
      refine ⟨0, b.AH, b.cH, by omega, rfl, ?_⟩
      exact HA
    case round =>
      clear hlk hlt
      obtain ⟨k, AH, cH, hk, rfl, HA2⟩ := hrel
      have hf1 := HF.out wr HA2.out.kept
      obtain ⟨-, -, hlk, -, -, -, -, -, hst, hlt3⟩ := hf1
      rw [hnl] at hlk
      by_cases hlt2 : k < nl
      · obtain ⟨⟨q1, q2⟩, q3, q4⟩ := HBG.out _ _ _ _ HA2.out
        have HOW := Lib.hid q3
        rw [List.length_replicate] at q1
        have hin : (k : Int) < (nl : Int) := by omega
        have HRD := Lib.hid (reads_oneR wr 3 (.int .i64 (-1)))
        have HW1 : Hid (RqIs wb (wr.alloc (.cells #[.int .i64 (-1)] 3)) { b with AH := AH, cH := cH } d { acc0 nT with held := List.replicate k (-1) }) := HA2.out.old ((Kept.refl _ _).alloc _)
        have HOX : Hid ((wr.alloc (.cells #[.int .i64 (-1)] 3)).ownsRow 0 3 1 (.slice AH k cH) k ((List.replicate k (-1)).map (Value.int .i64))) := by
          have h1 := own_kept HOW.out ((Kept.refl [] wr).alloc (.cells #[.int .i64 (-1)] 3)) (by simp)
          rw [List.length_replicate] at h1
          exact h1
        clear q3 q4
        go_wp2_with (at_builtin; go_must (refine wpList_append_any _ rfl _ _ _ rfl 3 (.int .i64 0) 1 8 Try.underlying37 infoR_I rfl (by omega) (.slice AH k cH) k _ rfl HOX.out (some ⟨_, 0, none⟩) 1 1 [.int .i64 (-1)] rfl HRD.out (by simp [Value.oneCell']) (by simp only [maxLen]; omega) (by omega) ?_); intro A2 c2 w3 happ; have hA3 := RqIs.addH HW1.out (AH := A2) (cH := c2) (x := -1) (by show Appended _ _ _ _ (.slice AH (List.replicate k (-1 : Int)).length cH) (.slice A2 ((List.replicate k (-1 : Int)).length + 1) c2) ((List.replicate k (-1 : Int)).length + 1) _; rw [List.length_replicate]; exact happ); have hB3 := RqIs.blkH HW1.out (by show Kept (fp (.slice AH (List.replicate k (-1 : Int)).length cH)) _ _; rw [List.length_replicate]; exact happ.2.1); have q5 : ∃ v, w3.cell? ⟨b.g, 11, none⟩ = some v := ⟨_, (hB3.cell 11).trans (by simp [rqC, uC]; rfl)⟩; have q6 : ∀ j, w3.frozen? ⟨b.g, j, none⟩ = false := hB3.frozen; have q7 := hB3.lt; have HA3 := Lib.hid hA3; clear happ hA3 hB3; obtain ⟨v5, q5⟩ := q5)
        go_roundw
        case rel =>
          refine ⟨k + 1, A2, c2, by omega, by go_num, ?_⟩
          have h1 := HA3.out
          rw [List.replicate_succ']
          simp only [List.length_replicate] at h1
          exact h1
        case measure => simp [intOf]; omega
      · obtain rfl : k = nl := by omega
        obtain ⟨a1, ha1⟩ : ∃ a1 : Acc, { acc0 nT with held := List.replicate k (-1) } = a1 := ⟨_, rfl⟩
        obtain ⟨b1, hb1⟩ : ∃ b1 : RqA, { b with AH := AH, cH := cH } = b1 := ⟨_, rfl⟩
        rw [ha1, hb1] at HA2
        have ha2 : a1 = emptyA d := by rw [← ha1]; simp [acc0, emptyA, hnl, hnT]
        have hbg : b.g = b1.g := by rw [← hb1]
        have hml : m = d.starts.length := hu.2.len
        have hm64 : m ≤ 64 := by have := (checkU_parts hd).2.2.2.2.1; omega
        have HBS := Lib.hid (badS_zero (checkU_parts hd).2.2.2.2.2)
        have HWH : Hid (∀ i, AWhole d ((d.starts.take i).foldl startA a1)) := fun i => by
          rw [ha2]
          exact (fold_whole _ _ (emptyA_whole hd) (fun x hx => HBS.out x (List.mem_of_mem_take hx))).1
        have HSU := Lib.hid (hu.2.old HK0.out)
        have HPL : Hid (∀ i, ((d.starts.take i).foldl startA a1).P.length = nT) := fun i => by
          rw [ha2, (fold_whole _ _ (emptyA_whole hd) (fun x hx => HBS.out x (List.mem_of_mem_take hx))).2]
          simp [emptyA, hnT]
        obtain ⟨L, hL⟩ : ∃ L, d.starts = L := ⟨_, rfl⟩
        rw [hL] at hml HWH HSU HPL
        have HML := Lib.hid hml
        have HNB : Hid (∀ k, k < wb.heap.size → k ∉ rqF b1) := fun k hk hm => by
          obtain ⟨p, hp, hkp⟩ := fp_rq d a1 hm
          rcases HA2.out.new p hp k hkp with h1 | h1
          · cases h1
          · have h2 : wb.heap.size ≤ k := h1
            omega
        have HWB : Hid (w.heap.size < wb.heap.size) := by show _ < _; rw [← hwb]; simp
        rw [hbg]
        clear hml
        go_wp2_with fail
        clear hst hlt3 hlk
        go_loopw [5] (fun kv wr => ∃ i : Nat, i ≤ m ∧ kv = .int .i64 i ∧ Hid (RqIs wb wr b1 d ((L.take i).foldl startA a1))) (fun i _ => m - (intOf i).toNat)
        case atStart => exact ⟨0, by omega, rfl, HA2⟩
        case round =>
          obtain ⟨i, hi, rfl, HA3⟩ := hrel
          have hf2 := HF.out wr HA3.out.kept
          obtain ⟨-, -, -, -, -, -, -, -, hst, hlt3⟩ := hf2
          by_cases hlt4 : i < m
          · have hiL : i < L.length := by rw [← HML.out]; exact hlt4
            obtain ⟨s, sb, so, hBa, hx, hsb, d0, d1, d2⟩ := HSU.out.at_ (k := i) hiL
            have hwh := HWH.out i
            have hpl := HPL.out i
            have HST : Hid ((L.take (i + 1)).foldl startA a1 = startA ((L.take i).foldl startA a1) s) := by
              obtain ⟨hi2, hx2⟩ := List.getElem?_eq_some_iff.1 hx
              refine Lib.hid ?_
              rw [List.take_succ_eq_append_getElem hi2, List.foldl_append, hx2]; rfl
            have HF9 : Hid (∀ W, Kept (rqF b1) wr W → W.cell? ⟨w.heap.size, 8, none⟩ = some (.slice (some ⟨sb, so, none⟩) m e) ∧ w.heap.size < W.heap.size ∧ sb < W.heap.size ∧ W.cell? ⟨sb, so + i * 3, none⟩ = some (.int .i64 s.prog) ∧ W.cell? ⟨sb, so + i * 3 + 2, none⟩ = some (.int .u64 s.mask)) := fun W hk => by
              have h1 := HF.out wr HA3.out.kept
              rw [hBa] at h1
              have hk0 := HA3.out.kept
              have c0 := hk0.cell_some d0 (by simp)
              have c2 := hk0.cell_some d2 (by simp)
              exact ⟨hk.cell_some h1.2.2.2.2.2.2.2.2.1 (HNB.out _ HWB.out), Nat.lt_of_lt_of_le h1.2.2.2.2.2.2.2.2.2 hk.size, Nat.lt_of_lt_of_le (Nat.lt_of_lt_of_le hsb hk0.size) hk.size, hk.cell_some c0 (HNB.out _ hsb), hk.cell_some c2 (HNB.out _ hsb)⟩
            generalize (L.take i).foldl startA a1 = ai at *
            have hin : (i : Int) < (m : Int) := by omega
            have hi0 : (0 : Int) ≤ (i : Int) := by omega
            obtain ⟨rs, rg, ok, ab, HBN, HOK⟩ : ∃ (rs : Int) (rg : Nat) (ok : Bool) (ab : Acc), Hid (∀ W, RqAt W b1 d ai → Calls Try.prog 25 #[.pointer (some ⟨b1.g, 0, none⟩), .int .i64 s.prog, .int .u64 s.mask, .bool false] W fun x w' => x = .returned (.tuple #[.agg #[.int .i64 rs, .int .u32 rg], .bool ok]) ∧ RqIs ⟨W, rqF b1⟩ w' b1 d ab) ∧
                Hid ((ok = false ∧ ab = startA ai s) ∨ (ok = true ∧ ∃ ix : Nat, rs = ix ∧ ix < nT ∧ ab.T.length = nT ∧ ab.setT ix { ab.th ix with state := 2 } = startA ai s)) := by
              cases hf : freeA ai with
              | none => exact ⟨0, 0, false, ai, fun W hA => R35born_no (RqAt.self hA) hwh hf s.prog s.mask false, .inl ⟨rfl, by unfold startA; rw [hf]⟩⟩
              | some ix =>
                obtain ⟨hfp, hil, hifr⟩ := freeA_someR hf
                have hilT : ix < ai.T.length := by rw [hwh.tl]; exact hil
                have hbn : bornA ai s.prog s.mask false = { ai with P := ai.P.set ix ⟨true, (ai.pl ix).gen + 1⟩, T := ai.T.set ix (newT s.prog s.mask false ix ((ai.pl ix).gen + 1)) } := by unfold bornA; rw [hf]
                refine ⟨ix, (ai.pl ix).gen + 1, true, bornA ai s.prog s.mask false, fun W hA => R35born_yes (RqAt.self hA) hwh hf s.prog s.mask false, .inr ⟨rfl, ix, rfl, by omega, ?_, ?_⟩⟩
                · rw [hbn]; simp [hwh.tl, hpl]
                · have hth : (bornA ai s.prog s.mask false).th ix = newT s.prog s.mask false ix ((ai.pl ix).gen + 1) := by
                    rw [hbn]; show (ai.T.set ix _).getD ix Th.zero = _; rw [getD_set, if_pos ⟨rfl, hilT⟩]
                  rw [hth, hbn]
                  unfold startA; rw [hf]; simp [Acc.setT]
            have HRA : Hid (∀ W, Kept [] wr W → RqAt W b1 d ai) := fun W hk => (HA3.out.old hk).at_
            have HBK : Hid (∀ W W' a', Kept [] wr W → RqIs ⟨W, rqF b1⟩ W' b1 d a' → RqIs wb W' b1 d a') := fun W W' a' hk h => RqIs.back (HA3.out.old hk) h
            have HLT : Hid (∀ k, k ∈ rqF b1 → k < wr.heap.size) := fun k hk => RqAt.lt HA3.out.at_ hk
            have hf9 := HF9.out wr (Kept.refl _ _)
            clear hst hlt3 d0 d1 d2 hsb hwh hpl hx hBa
            go_upto_region 9 with fail
            go_cut [6, 7] from 32 to 64 (fun s6 s7 wx => ∃ g, s6 = .pointer (some ⟨g, 0, none⟩) ∧ s7 = .bool ok ∧ Hid (Blk wx g 53 #[.int .i64 rs, .int .u32 rg]) ∧ Hid (RqIs wb wx b1 d ab) ∧ Hid (wr.heap.size ≤ g))
            case first =>
              (refine wp_region_held_drew (S := fun W => Kept (rqF b1) wr W) (by kernel_rfl) (Kept.refl _ _).drew (fun hHeld => ?_))
              (refine held_take (i := 0) (v := ?_) (listed := #[false, false, false, false, false, false, false, false, false, false, false, false, false, false, false, false, false, false, false, false]) nth_0 (by kernel_rfl) (by kernel_rfl) (by kernel_rfl) (fun _ _ _ h => h) (Or.inl ⟨by rfl, ?_⟩) (by assumption) ?_; rotate_left; (focus ((intro W hC; go_simp); try (with_reducible rfl))); (try dsimp only [Act.put]); (try simp only [List.setIfInBounds_toArray, List.set_cons_zero, List.set_cons_succ]))
              (refine held_take (i := 1) (v := ?_) (listed := #[true, false, false, false, false, false, false, false, false, false, false, false, false, false, false, false, false, false, false, false]) nth_1 (by kernel_rfl) (by kernel_rfl) (by kernel_rfl) (fun _ _ _ h => h) (Or.inl ⟨by rfl, ?_⟩) (by assumption) ?_; rotate_left; (focus ((intro W hC; go_simp); try (with_reducible rfl))); (try dsimp only [Act.put]); (try simp only [List.setIfInBounds_toArray, List.set_cons_zero, List.set_cons_succ]))
              (refine held_take (i := 2) (v := ?_) (listed := #[true, true, false, false, false, false, false, false, false, false, false, false, false, false, false, false, false, false, false, false]) nth_2 (by kernel_rfl) (by kernel_rfl) (by kernel_rfl) (fun _ _ _ h => h) (Or.inl ⟨by rfl, ?_⟩) (by assumption) ?_; rotate_left; (focus ((intro W hC; have hF := HF9.out W hC; go_simp); try (with_reducible rfl))); (try dsimp only [Act.put]); (try simp only [List.setIfInBounds_toArray, List.set_cons_zero, List.set_cons_succ]))
              (refine held_take (i := 3) (v := ?_) (listed := #[true, true, true, false, false, false, false, false, false, false, false, false, false, false, false, false, false, false, false, false]) nth_3 (by kernel_rfl) (by kernel_rfl) (by kernel_rfl) (fun _ _ _ h => h) (Or.inl ⟨by rfl, ?_⟩) (by assumption) ?_; rotate_left; (focus ((intro W hC; go_simp); try (with_reducible rfl))); (try dsimp only [Act.put]); (try simp only [List.setIfInBounds_toArray, List.set_cons_zero, List.set_cons_succ]))
              (refine held_take (i := 4) (v := ?_) (listed := #[true, true, true, true, false, false, false, false, false, false, false, false, false, false, false, false, false, false, false, false]) nth_4 (by kernel_rfl) (by kernel_rfl) (by kernel_rfl) (fun _ _ _ h => h) (Or.inl ⟨by rfl, ?_⟩) (by assumption) ?_; rotate_left; (focus ((intro W hC; go_simp); try (with_reducible rfl))); (try dsimp only [Act.put]); (try simp only [List.setIfInBounds_toArray, List.set_cons_zero, List.set_cons_succ]))
              (refine held_take (i := 5) (v := ?_) (listed := #[true, true, true, true, true, false, false, false, false, false, false, false, false, false, false, false, false, false, false, false]) nth_5 (by kernel_rfl) (by kernel_rfl) (by kernel_rfl) (fun _ _ _ h => h) (Or.inl ⟨by rfl, ?_⟩) (by assumption) ?_; rotate_left; (focus ((intro W hC; go_simp); try (with_reducible rfl))); (try dsimp only [Act.put]); (try simp only [List.setIfInBounds_toArray, List.set_cons_zero, List.set_cons_succ]))
              (refine held_take (i := 6) (v := ?_) (listed := #[true, true, true, true, true, true, false, false, false, false, false, false, false, false, false, false, false, false, false, false]) nth_6 (by kernel_rfl) (by kernel_rfl) (by kernel_rfl) (fun _ _ _ h => h) (Or.inl ⟨by rfl, ?_⟩) (by assumption) ?_; rotate_left; (focus ((intro W hC; have hF := HF9.out W hC; go_simp); try (with_reducible rfl))); (try dsimp only [Act.put]); (try simp only [List.setIfInBounds_toArray, List.set_cons_zero, List.set_cons_succ]))
              (refine held_take (i := 7) (v := ?_) (listed := #[true, true, true, true, true, true, true, false, false, false, false, false, false, false, false, false, false, false, false, false]) nth_7 (by kernel_rfl) (by kernel_rfl) (by kernel_rfl) (fun _ _ _ h => h) (Or.inl ⟨by rfl, ?_⟩) (by assumption) ?_; rotate_left; (focus ((intro W hC; go_simp); try (with_reducible rfl))); (try dsimp only [Act.put]); (try simp only [List.setIfInBounds_toArray, List.set_cons_zero, List.set_cons_succ]))
              (refine held_take (i := 8) (v := ?_) (listed := #[true, true, true, true, true, true, true, true, false, false, false, false, false, false, false, false, false, false, false, false]) nth_8 (by kernel_rfl) (by kernel_rfl) (by kernel_rfl) (fun _ _ _ h => h) (Or.inl ⟨by rfl, ?_⟩) (by assumption) ?_; rotate_left; (focus ((intro W hC; have hF := HF9.out W hC; go_simp); try (with_reducible rfl))); (try dsimp only [Act.put]); (try simp only [List.setIfInBounds_toArray, List.set_cons_zero, List.set_cons_succ]))
              (refine held_take (i := 9) (v := ?_) (listed := #[true, true, true, true, true, true, true, true, true, false, false, false, false, false, false, false, false, false, false, false]) nth_9 (by kernel_rfl) (by kernel_rfl) (by kernel_rfl) (fun _ _ _ h => h) (Or.inl ⟨by rfl, ?_⟩) (by assumption) ?_; rotate_left; (focus ((intro W hC; go_simp); try (with_reducible rfl))); (try dsimp only [Act.put]); (try simp only [List.setIfInBounds_toArray, List.set_cons_zero, List.set_cons_succ]))
              (refine held_take (i := 10) (v := ?_) (listed := #[true, true, true, true, true, true, true, true, true, true, false, false, false, false, false, false, false, false, false, false]) nth_10 (by kernel_rfl) (by kernel_rfl) (by kernel_rfl) (fun _ _ _ h => h) (Or.inl ⟨by rfl, ?_⟩) (by assumption) ?_; rotate_left; (focus ((intro W hC; go_simp); try (with_reducible rfl))); (try dsimp only [Act.put]); (try simp only [List.setIfInBounds_toArray, List.set_cons_zero, List.set_cons_succ]))
              (refine held_take (i := 11) (v := ?_) (listed := #[true, true, true, true, true, true, true, true, true, true, true, false, false, false, false, false, false, false, false, false]) nth_11 (by kernel_rfl) (by kernel_rfl) (by kernel_rfl) (fun _ _ _ h => h) (Or.inl ⟨by rfl, ?_⟩) (by assumption) ?_; rotate_left; (focus ((intro W hC; go_simp); try (with_reducible rfl))); (try dsimp only [Act.put]); (try simp only [List.setIfInBounds_toArray, List.set_cons_zero, List.set_cons_succ]))
              (refine held_take (i := 12) (v := ?_) (listed := #[true, true, true, true, true, true, true, true, true, true, true, true, false, false, false, false, false, false, false, false]) nth_12 (by kernel_rfl) (by kernel_rfl) (by kernel_rfl) (fun _ _ _ h => h) (Or.inl ⟨by rfl, ?_⟩) (by assumption) ?_; rotate_left; (focus ((intro W hC; have hF := HF9.out W hC; go_simp); try (with_reducible rfl))); (try dsimp only [Act.put]); (try simp only [List.setIfInBounds_toArray, List.set_cons_zero, List.set_cons_succ]))
              (refine wpAnyH_ready (rs := [13, 17]) (by kernel_rfl) (by simp) ?_; refine held_cons nth_13 (fun K hK => ?_) (held_cons nth_17 (fun K hK => ?_) AllReadyH.nil))
              · skip
                go_simp
                refine (HBN.out _ (HRA.out wr.drew ((Kept.refl [] wr).drew))).mono ?_
                rintro y w6 ⟨rfl, hA6⟩
                have hk6 : Kept (rqF b1) wr w6 := (((Kept.refl [] wr).drew).mono (by simp)).trans hA6.kept
                have HA6 := Lib.hid (HBK.out _ _ _ ((Kept.refl [] wr).drew) hA6)
                have HK6 := Lib.hid hk6
                have HB6 := Lib.hid (Blk.new w6 53 #[.int .i64 rs, .int .u32 rg])
                have HS6 := Lib.hid hk6.size
                clear hA6 hk6
                (refine hK.out _ _ ((by exact HK6.out)) (fun hHeld => ?_); clear hK K)
                (try dsimp only [Act.put]); (try simp only [List.setIfInBounds_toArray, List.set_cons_zero, List.set_cons_succ])
                (refine held_take (i := 14) (v := ?_) (listed := #[true, true, true, true, true, true, true, true, true, true, true, true, true, true, false, false, false, false, false, false]) nth_14 (by kernel_rfl) (by kernel_rfl) (by kernel_rfl) (fun _ _ _ h => h) (Or.inl ⟨by rfl, ?_⟩) (by assumption) ?_; rotate_left; (focus ((intro W hC; go_simp); try (with_reducible rfl))); (try dsimp only [Act.put]); (try simp only [List.setIfInBounds_toArray, List.set_cons_zero, List.set_cons_succ]))
                (refine held_take (i := 15) (v := ?_) (listed := #[true, true, true, true, true, true, true, true, true, true, true, true, true, true, true, false, false, false, false, false]) nth_15 (by kernel_rfl) (by kernel_rfl) (by kernel_rfl) (fun _ _ _ h => h) (Or.inl ⟨by rfl, ?_⟩) (by assumption) ?_; rotate_left; (focus ((intro W hC; go_simp); try (with_reducible rfl))); (try dsimp only [Act.put]); (try simp only [List.setIfInBounds_toArray, List.set_cons_zero, List.set_cons_succ]))
                (refine held_take (i := 16) (v := ?_) (listed := #[true, true, true, true, true, true, true, true, true, true, true, true, true, true, true, true, false, false, false, false]) nth_16 (by kernel_rfl) (by kernel_rfl) (by kernel_rfl) (fun _ _ _ h => h) (Or.inl ⟨by rfl, ?_⟩) (by assumption) ?_; rotate_left; (focus ((intro W hC; go_simp); try (with_reducible rfl))); (try dsimp only [Act.put]); (try simp only [List.setIfInBounds_toArray, List.set_cons_zero, List.set_cons_succ]))
                (refine wpAnyH_ready (rs := [17]) (by kernel_rfl) (by simp) ?_; refine held_cons nth_17 (fun K hK => ?_) AllReadyH.nil)
                go_simp
                (refine hK.out _ _ ((by exact HK6.out.alloc _)) (fun hHeld => ?_); clear hK K)
                (try dsimp only [Act.put]); (try simp only [List.setIfInBounds_toArray, List.set_cons_zero, List.set_cons_succ])
                (refine wpAnyH_ready (rs := [18]) (by kernel_rfl) (by simp) ?_; refine held_cons nth_18 (fun K hK => ?_) AllReadyH.nil)
                go_simp
                (refine hK.out _ _ ((by exact HK6.out.alloc _)) (fun hHeld => ?_); clear hK K)
                (try dsimp only [Act.put]); (try simp only [List.setIfInBounds_toArray, List.set_cons_zero, List.set_cons_succ])
                (refine held_take (i := 19) (v := ?_) (listed := #[true, true, true, true, true, true, true, true, true, true, true, true, true, true, true, true, true, true, true, false]) nth_19 (by kernel_rfl) (by kernel_rfl) (by kernel_rfl) (fun _ _ _ h => h) (Or.inl ⟨by rfl, ?_⟩) (by assumption) ?_; rotate_left; (focus ((intro W hC; go_simp); try (with_reducible rfl))); (try dsimp only [Act.put]); (try simp only [List.setIfInBounds_toArray, List.set_cons_zero, List.set_cons_succ]))
                (refine wpAnyH_done (by kernel_rfl) ?_ _)
                go_wp2_with fail
                go_meet
                exact ⟨_, rfl, rfl, HB6, Lib.hid (HA6.out.old ((Kept.refl _ _).alloc _)), HS6⟩
              · skip
                go_simp
                obtain ⟨wd, hwd⟩ : ∃ wd, (wr.alloc (.cells #[.int .i64 0, .int .u32 0] 53)).drew = wd := ⟨_, rfl⟩
                have hkd : Kept [] wr wd := by rw [← hwd]; exact ((Kept.refl [] wr).alloc _).drew
                have hBd : Blk wd wr.heap.size 53 #[.int .i64 0, .int .u32 0] := by rw [← hwd]; exact (Blk.new wr _ _).drew
                rw [hwd]
                have HKD := Lib.hid hkd
                have HBD := Lib.hid hBd
                clear hwd hkd hBd
                (refine hK.out _ _ ((by exact HKD.out.mono (by simp))) (fun hHeld => ?_); clear hK K)
                (try dsimp only [Act.put]); (try simp only [List.setIfInBounds_toArray, List.set_cons_zero, List.set_cons_succ])
                (refine wpAnyH_ready (rs := [13]) (by kernel_rfl) (by simp) ?_; refine held_cons nth_13 (fun K hK => ?_) AllReadyH.nil)
                go_simp
                refine (HBN.out _ (HRA.out wd HKD.out)).mono ?_
                rintro y w6 ⟨rfl, hA6⟩
                have hk6 : Kept (rqF b1) wr w6 := (HKD.out.mono (by simp)).trans hA6.kept
                have hB6 := HBD.out.kept hA6.kept (fun hm => by have := HLT.out _ hm; omega)
                have HA6 := Lib.hid (HBK.out _ _ _ HKD.out hA6)
                have HK6 := Lib.hid hk6
                have HB6 := Lib.hid hB6
                have b0 := hB6.cell
                have bf := hB6.frozen
                have bl := hB6.lt
                clear hA6 hk6 hB6
                (refine hK.out _ _ ((by exact HK6.out)) (fun hHeld => ?_); clear hK K)
                (try dsimp only [Act.put]); (try simp only [List.setIfInBounds_toArray, List.set_cons_zero, List.set_cons_succ])
                (refine held_take (i := 14) (v := ?_) (listed := #[true, true, true, true, true, true, true, true, true, true, true, true, true, true, false, false, false, true, false, false]) nth_14 (by kernel_rfl) (by kernel_rfl) (by kernel_rfl) (fun _ _ _ h => h) (Or.inl ⟨by rfl, ?_⟩) (by assumption) ?_; rotate_left; (focus ((intro W hC; go_simp); try (with_reducible rfl))); (try dsimp only [Act.put]); (try simp only [List.setIfInBounds_toArray, List.set_cons_zero, List.set_cons_succ]))
                (refine held_take (i := 15) (v := ?_) (listed := #[true, true, true, true, true, true, true, true, true, true, true, true, true, true, true, false, false, true, false, false]) nth_15 (by kernel_rfl) (by kernel_rfl) (by kernel_rfl) (fun _ _ _ h => h) (Or.inl ⟨by rfl, ?_⟩) (by assumption) ?_; rotate_left; (focus ((intro W hC; go_simp); try (with_reducible rfl))); (try dsimp only [Act.put]); (try simp only [List.setIfInBounds_toArray, List.set_cons_zero, List.set_cons_succ]))
                (refine held_take (i := 16) (v := ?_) (listed := #[true, true, true, true, true, true, true, true, true, true, true, true, true, true, true, true, false, true, false, false]) nth_16 (by kernel_rfl) (by kernel_rfl) (by kernel_rfl) (fun _ _ _ h => h) (Or.inl ⟨by rfl, ?_⟩) (by assumption) ?_; rotate_left; (focus ((intro W hC; go_simp); try (with_reducible rfl))); (try dsimp only [Act.put]); (try simp only [List.setIfInBounds_toArray, List.set_cons_zero, List.set_cons_succ]))
                (refine wpAnyH_ready (rs := [18]) (by kernel_rfl) (by simp) ?_; refine held_cons nth_18 (fun K hK => ?_) AllReadyH.nil)
                go_simp
                (refine hK.out _ _ ((by exact (HK6.out.setCell (.inr (Nat.le_refl _)) _).setCell (.inr (Nat.le_refl _)) _)) (fun hHeld => ?_); clear hK K)
                (try dsimp only [Act.put]); (try simp only [List.setIfInBounds_toArray, List.set_cons_zero, List.set_cons_succ])
                (refine held_take (i := 19) (v := ?_) (listed := #[true, true, true, true, true, true, true, true, true, true, true, true, true, true, true, true, true, true, true, false]) nth_19 (by kernel_rfl) (by kernel_rfl) (by kernel_rfl) (fun _ _ _ h => h) (Or.inl ⟨by rfl, ?_⟩) (by assumption) ?_; rotate_left; (focus ((intro W hC; go_simp); try (with_reducible rfl))); (try dsimp only [Act.put]); (try simp only [List.setIfInBounds_toArray, List.set_cons_zero, List.set_cons_succ]))
                (refine wpAnyH_done (by kernel_rfl) ?_ _)
                go_wp2_with fail
                go_meet
                exact ⟨_, rfl, rfl, Lib.hid ((HB6.out.set 0 _).set 1 _), Lib.hid (IsP.far HA6.out (G := [wr.heap.size]) (fun k hk => by obtain rfl := List.mem_singleton.1 hk; exact ⟨fun p hp hm => by have := HLT.out _ (rq_fp p hp _ hm); omega, HA3.out.kept.size⟩) (((Kept.refl _ _).setCell (.inl (by simp)) _).setCell (.inl (by simp)) _)), Lib.hid (Nat.le_refl _)⟩
            case rest =>
              obtain ⟨g, rfl, rfl, HB, HA7, HGL⟩ := hcut
              rcases HOK.out with ⟨rfl, hab⟩ | ⟨rfl, ix, rfl, hix, hlab, hab⟩
              · have HE := Lib.hid (hab.trans HST.out.symm)
                clear hab hf9
                go_wp2_with fail
                go_roundw
                case rel => exact ⟨i + 1, by omega, by go_num, by rw [← HE.out]; exact HA7⟩
                case measure => simp [intOf]; omega
              · have HE := Lib.hid (hab.trans HST.out.symm)
                have HST2 : Hid (∀ W, Kept [] wc W → (∃ v, W.cell? ⟨b1.gT, ix * 31 + 2, none⟩ = some v) ∧ (∀ j, W.frozen? ⟨b1.gT, j, none⟩ = false) ∧ b1.gT < W.heap.size ∧ RqIs wb (W.setCell ⟨b1.gT, ix * 31 + 2, none⟩ (.int .i64 2)) b1 d (ab.setT ix { ab.th ix with state := 2 })) := fun W hk => by
                  have e0 := HA7.out.old hk
                  obtain ⟨hc, hl, hff⟩ := RqAt.th e0.at_ (k := ix) (by rw [hlab]; exact hix)
                  exact ⟨⟨_, hc 2 _ rfl⟩, hff, hl, RqIs.sts e0 (by rw [hlab]; exact hix) [(2, .int .i64 2)] (by simp) _ (by rfl)⟩
                have HF11 : Hid (∀ W, Kept [] wc W → (W.cell? ⟨b1.g, 10, none⟩ = some (.slice (some ⟨b1.gT, 0, none⟩) nT nT) ∧ b1.g < W.heap.size ∧ b1.gT < W.heap.size) ∧ W.cell? ⟨g, 0, none⟩ = some (.int .i64 ix) ∧ g < W.heap.size) := fun W hk => by
                  have e0 := HA7.out.old hk
                  have c := RqAt.cells e0.at_
                  rw [hlab] at c
                  have h1 := HB.out.kept hk (by simp)
                  exact ⟨⟨c.2.2.2.2.1, c.2.2.2.2.2.2, (HST2.out W hk).2.2.1⟩, h1.cell 0, h1.lt⟩
                have hix0 : (0 : Int) ≤ (ix : Int) := by omega
                have hix1 : (ix : Int) < (nT : Int) := by omega
                generalize ab.setT ix { ab.th ix with state := 2 } = aS at *
                clear hab hf9 hlab hix
                go_wp2_with fail
                (refine wp_region_phases (n := 9) (listed := #[false, false, false, false, false, false, false, false, false]) (by kernel_rfl) (by rfl) (by rfl) ?_)
                (refine wpAny_phase (fun W => Kept [] wc W) [(0, false), (1, false), (2, false), (3, false), (4, false), (5, false), (6, false), (7, false)] (f := 1) (listed := #[false, false, false, false, false, false, false, false, false]) (listed' := #[true, true, true, true, true, true, true, true, false]) (by kernel_rfl) (by kernel_rfl) (by rfl) (Kept.refl [] _).drew (fun d _ _ _ _ h => by cases d <;> exact h) ?_)
                iterate 8 (refine wpQL_take (v := ?_) rfl (by rfl) ?_ ?_; rotate_left; (focus ((intro W hC; have hF := HF11.out W hC; go_simp); try (with_reducible rfl))); (try dsimp only [Act.put]); (try simp only [List.setIfInBounds_toArray, List.set_cons_zero, List.set_cons_succ]))
                (refine wpQL_nil ?_)
                (intro wq hq)
                obtain ⟨⟨v9, c9⟩, c10, c11, hA9⟩ := HST2.out _ hq
                have HA9 := Lib.hid hA9
                clear hA9
                (refine wpAny_loud 8 (fuel := 0) (listed := #[true, true, true, true, true, true, true, true, false]) (listed' := #[true, true, true, true, true, true, true, true, true]) (by kernel_rfl) (by rfl) nth_8 (fun K hK => ?_))
                go_simp
                (refine hK.out _ _ ?_; clear hK K)
                (try simp only [Act.put, List.setIfInBounds_toArray, List.set_cons_zero, List.set_cons_succ])
                (refine wpAny_done (by kernel_rfl) ?_ _)
                go_wp2_with fail
                go_roundw
                case rel => exact ⟨i + 1, by omega, by go_num, by rw [← HE.out]; exact HA9⟩
                case measure => simp [intOf]; omega
          · obtain rfl : i = m := by omega
            have HVE : Hid ((L.take i).foldl startA a1 = openA d) := Lib.hid (by rw [HML.out, List.take_length, ha2, ← hL]; rfl)
            go_wp2_with fail
            go_ret
            refine ⟨b1, rfl, ?_, ?_, ?_, ?_, ?_⟩
            · have h1 := HA3.out
              rw [HVE.out] at h1
              exact h1.base HK0.out
            · rw [← hb1]; exact hbA
            · rw [← hb1]; exact hbn
            · rw [← hb1]; exact hbB
            · rw [← hb1]; exact hbm

end Go.Proofs.Ytccodklfplfleaa
