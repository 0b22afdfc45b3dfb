/- Package replay: a thread's cells stored, many at once; calls, walked. -/
import Derived.Test.YtccodklfplfleaaRpK
import Derived.Test.YtccodklfplfleaaRpI
namespace Go.Proofs.Ytccodklfplfleaa
open Go.RowKit

/-- All threads' cells, with other ones in place of one thread's. -/
def flatR (T : List Th) (t : Nat) (L : List Value) : List Value := (T.take t).flatMap thL ++ L ++ (T.drop (t + 1)).flatMap thL
theorem flatR_at {T : List Th} {t : Nat} (ht : t < T.length) (x : Th) : flatR T t (thL x) = (T.set t x).flatMap thL := by
  unfold flatR
  rw [List.set_eq_take_append_cons_drop, if_pos ht, List.flatMap_append, List.flatMap_cons, List.append_assoc]
theorem flatR_self {T : List Th} {t : Nat} (ht : t < T.length) : flatR T t (thL (T.getD t Th.zero)) = T.flatMap thL := by
  rw [flatR_at ht]
  congr 1
  rw [List.getD_eq_getElem?_getD, List.getElem?_eq_getElem ht]
  simp
theorem flatR_set {T : List Th} {t : Nat} (ht : t < T.length) {L : List Value} (hL : L.length = 31) {j : Nat} (hj : j < 31) (u : Value) : (flatR T t L).set (t * 31 + j) u = flatR T t (L.set j u) := by
  have hl : ((T.take t).flatMap thL).length = t * 31 := by rw [flatK_len thL 31 thL_len, List.length_take, Nat.min_eq_left (by omega)]
  unfold flatR
  rw [List.append_assoc, List.set_append_right _ _ (by omega), hl, show t * 31 + j - t * 31 = j by omega, List.set_append_left _ _ (by omega), List.append_assoc]
theorem flatR_sets {T : List Th} {t : Nat} (ht : t < T.length) : ∀ (l : List (Nat × Value)) (L : List Value), L.length = 31 → (∀ p ∈ l, p.1 < 31) → l.foldl (fun X p => X.set (t * 31 + p.1) p.2) (flatR T t L) = flatR T t (l.foldl (fun X p => X.set p.1 p.2) L)
  | [], _, _, _ => rfl
  | p :: l, L, hL, h => by
    rw [List.foldl_cons, List.foldl_cons, flatR_set ht hL (h p (by simp))]
    exact flatR_sets ht l _ (by simp [hL]) (fun q hq => h q (by simp [hq]))
theorem own_sets {g n c : Nat} {o : Nat} : ∀ (l : List (Nat × Value)) (w : World) (xs : List Value), w.ownsRow 0 71 31 (.slice (some ⟨g, 0, none⟩) n c) n xs →
    (l.foldl (fun (W : World) p => W.setCell ⟨g, o + p.1, none⟩ p.2) w).ownsRow 0 71 31 (.slice (some ⟨g, 0, none⟩) n c) n (l.foldl (fun X p => X.set (o + p.1) p.2) xs)
  | [], _, _, h => h
  | p :: l, w, xs, h => own_sets l _ _ (h.stored (o + p.1) p.2).1
theorem kept_sets {g o : Nat} : ∀ (l : List (Nat × Value)) (w : World), Kept [g] w (l.foldl (fun (W : World) p => W.setCell ⟨g, o + p.1, none⟩ p.2) w)
  | [], w => Kept.refl _ _
  | p :: l, w => ((Kept.refl [g] w).setCell (.inl (by simp)) _).trans (kept_sets l _)
/-- Cells of a thread are stored. -/
theorem AccIs.sts {w0 : Base} {w : World} {b : AcA} {d : Du} {a : Acc} {K : Array Value} (h : AccIs w0 w b d a K) {t : Nat} (ht : t < a.T.length) (l : List (Nat × Value)) (hl : ∀ p ∈ l, p.1 < 31) (x' : Th)
    (hx : l.foldl (fun X p => X.set p.1 p.2) (thL (a.th t)) = thL x') : AccIs w0 (l.foldl (fun (W : World) p => W.setCell ⟨gT b, t * 31 + p.1, none⟩ p.2) w) b d (a.setT t x') K := by
  have hg := AccAt.gt h.at' ht
  have hp : (accP b d a K)[3]? = some (.row 71 31 (.slice (some ⟨gT b, 0, none⟩) a.T.length b.cT) a.T.length (a.T.flatMap thL)) := by
    show some (Piece.row 71 31 (.slice b.AT a.T.length b.cT) a.T.length (a.T.flatMap thL)) = _
    rw [← hg]
  have hr : w.ownsRow 0 71 31 (.slice (some ⟨gT b, 0, none⟩) a.T.length b.cT) a.T.length (a.T.flatMap thL) := Holds.get h.at_ hp
  have hs := own_sets (o := t * 31) l w _ hr
  rw [← flatR_self ht, flatR_sets ht l _ (thL_len _) hl] at hs
  rw [show a.T.getD t Th.zero = a.th t from rfl, hx, flatR_at ht] at hs
  have he : (accP b d a K).set 3 (.row 71 31 (.slice (some ⟨gT b, 0, none⟩) a.T.length b.cT) a.T.length ((a.T.set t x').flatMap thL)) = accP b d (a.setT t x') K := by
    rw [← hg]; simp [accP, accC, Acc.setT]
  have hk' : Kept (Piece.fp (.row 71 31 (.slice (some ⟨gT b, 0, none⟩) a.T.length b.cT) a.T.length (a.T.flatMap thL))) w (l.foldl (fun (W : World) p => W.setCell ⟨gT b, t * 31 + p.1, none⟩ p.2) w) := by
    have := kept_sets (g := gT b) (o := t * 31) l w
    simpa [Piece.fp, fp_some] using this
  refine ⟨?_, ?_, h.new.kept hp h.kept hk'⟩
  · show Holds _ _
    rw [← he]
    exact Holds.turn h.at_ hp hk' hs (fun q hq => .inl hq)
  · rw [← he]
    exact h.new.turn hp h.kept.size (fun q hq => .inl hq)
/-- All that the walk wants of a thread that turns. -/
theorem AccAt.frz {w : World} {b : AcA} {d : Du} {a : Acc} {K : Array Value} (h : AccAt w b d a K) {t : Nat} (ht : t < a.T.length) : ∀ j, w.frozen? ⟨gT b, j, none⟩ = false := by
  obtain ⟨g, e, hc, hl, hf⟩ := AccAt.thr h t ht
  have hg : gT b = g := by unfold gT; rw [e]
  rw [hg]; exact hf

/-- Masks are words, and holders are places or nobody. -/
structure AFit (a : Acc) : Prop where
  mask : ∀ t : Nat, t < a.T.length → (a.th t).deed.mask < 18446744073709551616
  held : ∀ l : Nat, l < a.held.length → -1 ≤ a.hl l
/-- What a function does with an event, given the duty's memory. -/
def HandlesU (f : FuncId) (k : Int) : Prop := ∀ {w0 w : World} {b : AcA} {d : Du} {a : Acc} {K : Array Value}, AccIs w0 w b d a K → AWhole d a → checkU d = 0 → IsU w0 d b.A b.n b.B b.m → AFit a → ∀ e : Ev, e.kind = k → goodE e = true →
  Calls Try.prog f #[.pointer (some ⟨b.g, 0, none⟩), .agg (eC e.step e.cpu e.kind e.slot e.gen e.op e.code e.n)] w fun x w' => x = .returned (.bool (stepA d a e).isSome) ∧ AccIs w0 w' b d ((stepA d a e).getD a) K
theorem Handles.toU {f : FuncId} {k : Int} (h : Handles f k) : HandlesU f k := fun h1 h2 h3 _ _ e hk hg => h h1 h2 h3 e hk hg
theorem stepA_call {d : Du} {a : Acc} {e : Ev} (hk : e.kind = 1) : stepA d a e = if runsA a e = false then none else if (a.th e.slot.toNat).call = 0 ∧ (nextA d a e.slot.toNat).1.op = e.op then some (a.setT e.slot.toNat { a.th e.slot.toNat with call := 1, deed := (nextA d a e.slot.toNat).1, pc := (nextA d a e.slot.toNat).2 }) else none := by
  unfold stepA stepB
  rw [if_neg (by omega), if_neg (by omega), if_neg (by omega), if_neg (by omega)]
  by_cases h : runsA a e = false
  · rw [if_pos h, if_pos h]
  · rw [if_neg h, if_neg h, if_pos hk]

set_option maxHeartbeats 6400000 in
set_option maxRecDepth 100000 in
theorem rpcalls_h : HandlesU 56 1 := by
  intro w0 w b d a K h hw hd hu hmm e hk hg
  have hs := stepA_call (d := d) (a := a) hk
  obtain ⟨wb, hwb⟩ : ∃ wb, w.alloc (.cells (eC e.step e.cpu e.kind e.slot e.gen e.op e.code e.n) 55) = wb := ⟨_, rfl⟩
  have h0 : Kept [] w wb := by rw [← hwb]; exact (Kept.refl _ _).alloc _
  have HRU := Lib.hid (rpruns_any (AccAt.old h.at' h0) hw e)
  have HEV := Lib.hid (ev_box hwb)
  have hev := HEV.out wb (Kept.refl _ _)
  have HFIN : Hid (∀ W, Kept [] wb W → AccIs w0 W b d a K) := fun W hk => h.old (h0.trans hk)
  cases hr : runsA a e with
  | false =>
    rw [hr, if_neg (by simp)] at HRU
    rw [hr, if_pos rfl] at hs
    obtain ⟨v1, v2⟩ := step_no hs
    rw [v1, v2]
    clear h hw hd hs h0 hk hg hr v1 v2 hu hmm
    go_enter Try.func56, Try.ntmps56
    go_wp2_with fail
    try rw [hwb]
    go_wp2_with fail
    refine (HRU.out).mono ?_
    rintro x w1 ⟨rfl, hk1⟩
    have HK1 := Lib.hid hk1
    clear hk1
    go_wp2_with fail
    go_ret
    exact ⟨rfl, HFIN.out _ HK1.out⟩
  | true =>
    rw [hr, if_pos rfl] at HRU
    rw [hr, if_neg (by simp)] at hs
    obtain ⟨p0, p1, p2, p3⟩ := hasA_lt (runsA_has hr)
    have ht : e.slot.toNat < a.T.length := by rw [hw.tl]; exact p1
    have HNX : Hid (∀ W, Kept [] wb W → Calls Try.prog 79 #[.pointer (some ⟨b.g, 0, none⟩), .pointer (some (tA b e.slot.toNat))] W fun y w' => y = .returned (.tuple #[.agg (ddC (nextA d a e.slot.toNat).1), .int .i64 (nextA d a e.slot.toNat).2]) ∧ Kept [] W w') := fun W hk => by
      have h1 := h.old (h0.trans hk)
      exact rpnext_any h1.at' hw hd (hu.old h1.kept) ht p2
    have HTF : Hid (∀ W, Kept [] wb W → W.cell? ⟨gT b, e.slot.toNat * 31 + 22, none⟩ = some (.int .i64 (a.th e.slot.toNat).call) ∧ gT b < W.heap.size) := fun W hk => ⟨(AccAt.tf (AccAt.old h.at' (h0.trans hk)) ht).2.1, (AccAt.tf (AccAt.old h.at' (h0.trans hk)) ht).2.2.2⟩
    have HGN : Hid (gT b < w.heap.size) := (AccAt.gT_ne h.at' ht).2
    have HST : Hid (∀ W, Kept [] wb W → ((∃ v, W.cell? ⟨gT b, e.slot.toNat * 31 + 1, none⟩ = some v) ∧ (∃ v, W.cell? ⟨gT b, e.slot.toNat * 31 + 22, none⟩ = some v) ∧ (∃ v, W.cell? ⟨gT b, e.slot.toNat * 31 + 23, none⟩ = some v) ∧ (∃ v, W.cell? ⟨gT b, e.slot.toNat * 31 + 24, none⟩ = some v) ∧ (∃ v, W.cell? ⟨gT b, e.slot.toNat * 31 + 25, none⟩ = some v) ∧ (∃ v, W.cell? ⟨gT b, e.slot.toNat * 31 + 26, none⟩ = some v) ∧ (∃ v, W.cell? ⟨gT b, e.slot.toNat * 31 + 27, none⟩ = some v) ∧ (∃ v, W.cell? ⟨gT b, e.slot.toNat * 31 + 28, none⟩ = some v) ∧ (∃ v, W.cell? ⟨gT b, e.slot.toNat * 31 + 29, none⟩ = some v) ∧ ∀ j, W.frozen? ⟨gT b, j, none⟩ = false)) := fun W hk => by
      have h1 := AccAt.old h.at' (h0.trans hk)
      obtain ⟨k1, k2, k3, k4, k5, k6, k7⟩ := AccAt.df h1 ht
      have k8 := AccAt.tf h1 ht
      exact ⟨⟨_, k8.1.2.1⟩, ⟨_, k8.2.1⟩, ⟨_, k1⟩, ⟨_, k2⟩, ⟨_, k3⟩, ⟨_, k4⟩, ⟨_, k5⟩, ⟨_, k6⟩, ⟨_, k7⟩, AccAt.frz h1 ht⟩
    obtain ⟨nd, hnd⟩ : ∃ nd, (nextA d a e.slot.toNat).1 = nd := ⟨_, rfl⟩
    obtain ⟨np, hnp⟩ : ∃ np, (nextA d a e.slot.toNat).2 = np := ⟨_, rfl⟩
    rw [hnd, hnp] at HNX
    rw [hnd, hnp] at hs
    unfold tA at HRU HNX
    have HFS : Hid (∀ W, Kept [] wb W → AccIs w0 ([(22, .int .i64 1), (23, .int .i64 nd.op), (24, .int .i64 nd.a), (25, .int .i64 nd.b), (26, .int .i64 nd.r), (27, .int .u64 nd.n), (28, .int .u64 nd.mask), (29, .bool nd.loose), (1, .int .i64 np)].foldl (fun (W : World) p => W.setCell ⟨gT b, e.slot.toNat * 31 + p.1, none⟩ p.2) W) b d (a.setT e.slot.toNat { a.th e.slot.toNat with call := 1, deed := nd, pc := np }) K) := fun W hk => (HFIN.out W hk).sts ht _ (by simp) _ (by rfl)
    by_cases hc : (a.th e.slot.toNat).call = 0
    · by_cases ho : nd.op = e.op
      · rw [if_pos ⟨hc, ho⟩] at hs
        obtain ⟨v1, v2⟩ := step_yes hs
        rw [v1, v2]
        rw [hc] at HTF
        have ho1 : (nd.op != e.op) = false := by simp [ho]
        generalize a.setT e.slot.toNat { a.th e.slot.toNat with call := 1, deed := nd, pc := np } = a' at *
        generalize e.slot.toNat = t at *
        clear h hw hd hs h0 hk hg hr v1 v2 hu p1 p2 p3 ht hc ho hnd hnp hmm
        go_enter Try.func56, Try.ntmps56
        go_wp2_with fail
        try rw [hwb]
        go_wp2_with fail
        refine (HRU.out).mono ?_
        rintro x w1 ⟨rfl, hk1⟩
        have HN1 := Lib.hid (HNX.out _ hk1)
        have HK1 := Lib.hid hk1
        have hev1 := HEV.out _ hk1
        clear hk1 hev
        go_wp2_with fail
        refine (HN1.out).mono ?_
        rintro x w2 ⟨rfl, hk2⟩
        have HK2 := Lib.hid (HK1.out.trans hk2)
        have hev2 := HEV.out _ HK2.out
        have htf2 := HTF.out _ HK2.out
        obtain ⟨nop, na, nb, nr, nn, nm, nl⟩ := nd
        have h5 : Kept [] wb (w2.alloc (.cells #[.int .i64 nop, .int .i64 na, .int .i64 nb, .int .i64 nr, .int .u64 nn, .int .u64 nm, .bool nl] 47)) := HK2.out.alloc _
        have hb5 := Blk.new w2 47 #[.int .i64 nop, .int .i64 na, .int .i64 nb, .int .i64 nr, .int .u64 nn, .int .u64 nm, .bool nl]
        have hev5 := HEV.out _ h5
        have htf5 := HTF.out _ h5
        simp only at ho1
        clear hk2 hev1
        go_wp2_with fail
        obtain ⟨w5, hw5⟩ : ∃ w5, w2.alloc (.cells #[.int .i64 nop, .int .i64 na, .int .i64 nb, .int .i64 nr, .int .u64 nn, .int .u64 nm, .bool nl] 47) = w5 := ⟨_, rfl⟩
        rw [hw5] at h5 hb5 hev5 htf5 ⊢
        have HN5 : Hid (gT b < w2.heap.size) := Nat.lt_of_lt_of_le HGN.out (Nat.le_trans (by rw [← hwb]; simp : w.heap.size ≤ wb.heap.size) HK2.out.size)
        have HFD : Hid (∀ W, Kept [gT b] w5 W → W.cell? ⟨w2.heap.size, 0, none⟩ = some (.int .i64 nop) ∧ W.cell? ⟨w2.heap.size, 1, none⟩ = some (.int .i64 na) ∧ W.cell? ⟨w2.heap.size, 2, none⟩ = some (.int .i64 nb) ∧ W.cell? ⟨w2.heap.size, 3, none⟩ = some (.int .i64 nr) ∧ W.cell? ⟨w2.heap.size, 4, none⟩ = some (.int .u64 nn) ∧ W.cell? ⟨w2.heap.size, 5, none⟩ = some (.int .u64 nm) ∧ W.cell? ⟨w2.heap.size, 6, none⟩ = some (.bool nl)) := fun W hk => by
          have h1 := hb5.kept hk (by have := HN5.out; simp; omega)
          exact ⟨h1.cell 0, h1.cell 1, h1.cell 2, h1.cell 3, h1.cell 4, h1.cell 5, h1.cell 6⟩
        obtain ⟨⟨x1, c1⟩, ⟨x22, c22⟩, ⟨x23, c23⟩, ⟨x24, c24⟩, ⟨x25, c25⟩, ⟨x26, c26⟩, ⟨x27, c27⟩, ⟨x28, c28⟩, ⟨x29, c29⟩, cf⟩ := HST.out _ h5
        have HA := Lib.hid ((HFS.out _ h5).old ((Kept.refl _ _).drew))
        have hgs := htf5.2
        clear hw5 hev5 htf5 hev2 htf2
        (refine wp_region_held_drew (S := fun W => Kept [gT b] w5 W) (by kernel_rfl) (Kept.refl _ _).drew (fun hHeld => ?_))
        (refine held_take (i := 0) (v := ?_) (listed := #[false, false, false, false, false, false, false, false, false, false, false, false, false, false]) nth_0 (by kernel_rfl) (by kernel_rfl) (by kernel_rfl) (fun _ _ _ h => h) (Or.inl ⟨by rfl, ?_⟩) (by assumption) ?_; rotate_left; (focus ((intro W hC; go_simp); try (with_reducible rfl))); (try dsimp only [Act.put]); (try simp only [List.setIfInBounds_toArray, List.set_cons_zero, List.set_cons_succ]))
        (refine held_take (i := 1) (v := ?_) (listed := #[true, false, false, false, false, false, false, false, false, false, false, false, false, false]) nth_1 (by kernel_rfl) (by kernel_rfl) (by kernel_rfl) (fun _ _ _ h => h) (Or.inl ⟨by rfl, ?_⟩) (by assumption) ?_; rotate_left; (focus ((intro W hC; go_simp); try (with_reducible rfl))); (try dsimp only [Act.put]); (try simp only [List.setIfInBounds_toArray, List.set_cons_zero, List.set_cons_succ]))
        (refine held_take (i := 2) (v := ?_) (listed := #[true, true, false, false, false, false, false, false, false, false, false, false, false, false]) nth_2 (by kernel_rfl) (by kernel_rfl) (by kernel_rfl) (fun _ _ _ h => h) (Or.inl ⟨by rfl, ?_⟩) (by assumption) ?_; rotate_left; (focus ((intro W hC; go_simp); try (with_reducible rfl))); (try dsimp only [Act.put]); (try simp only [List.setIfInBounds_toArray, List.set_cons_zero, List.set_cons_succ]))
        (refine held_take (i := 3) (v := ?_) (listed := #[true, true, true, false, false, false, false, false, false, false, false, false, false, false]) nth_3 (by kernel_rfl) (by kernel_rfl) (by kernel_rfl) (fun _ _ _ h => h) (Or.inl ⟨by rfl, ?_⟩) (by assumption) ?_; rotate_left; (focus ((intro W hC; have hF := HFD.out W hC; go_simp); try (with_reducible rfl))); (try dsimp only [Act.put]); (try simp only [List.setIfInBounds_toArray, List.set_cons_zero, List.set_cons_succ]))
        (refine held_take (i := 4) (v := ?_) (listed := #[true, true, true, true, false, false, false, false, false, false, false, false, false, false]) nth_4 (by kernel_rfl) (by kernel_rfl) (by kernel_rfl) (fun _ _ _ h => h) (Or.inl ⟨by rfl, ?_⟩) (by assumption) ?_; rotate_left; (focus ((intro W hC; go_simp); try (with_reducible rfl))); (try dsimp only [Act.put]); (try simp only [List.setIfInBounds_toArray, List.set_cons_zero, List.set_cons_succ]))
        (refine held_take (i := 5) (v := ?_) (listed := #[true, true, true, true, true, false, false, false, false, false, false, false, false, false]) nth_5 (by kernel_rfl) (by kernel_rfl) (by kernel_rfl) (fun _ _ _ h => h) (Or.inl ⟨by rfl, ?_⟩) (by assumption) ?_; rotate_left; (focus ((intro W hC; go_simp); try (with_reducible rfl))); (try dsimp only [Act.put]); (try simp only [List.setIfInBounds_toArray, List.set_cons_zero, List.set_cons_succ]))
        (refine held_take (i := 6) (v := ?_) (listed := #[true, true, true, true, true, true, false, false, false, false, false, false, false, false]) nth_6 (by kernel_rfl) (by kernel_rfl) (by kernel_rfl) (fun _ _ _ h => h) (Or.inl ⟨by rfl, ?_⟩) (by assumption) ?_; rotate_left; (focus ((intro W hC; go_simp); try (with_reducible rfl))); (try dsimp only [Act.put]); (try simp only [List.setIfInBounds_toArray, List.set_cons_zero, List.set_cons_succ]))
        (refine wpAnyH_ready (rs := [7]) (by kernel_rfl) (by simp) ?_; refine held_cons nth_7 (fun K hK => ?_) AllReadyH.nil)
        go_simp
        (refine hK.out _ _ ((by show Kept _ _ _; (repeat (first | (with_reducible refine Kept.drew ?_) | (with_reducible refine Kept.setCell ?_ (.inl (by simp)) _))); (with_reducible exact Kept.refl _ _))) (fun hHeld => ?_); clear hK K)
        (try dsimp only [Act.put]); (try simp only [List.setIfInBounds_toArray, List.set_cons_zero, List.set_cons_succ])
        (refine held_take (i := 8) (v := ?_) (listed := #[true, true, true, true, true, true, true, true, false, false, false, false, false, false]) nth_8 (by kernel_rfl) (by kernel_rfl) (by kernel_rfl) (fun _ _ _ h => h) (Or.inl ⟨by rfl, ?_⟩) (by assumption) ?_; rotate_left; (focus ((intro W hC; go_simp); try (with_reducible rfl))); (try dsimp only [Act.put]); (try simp only [List.setIfInBounds_toArray, List.set_cons_zero, List.set_cons_succ]))
        (refine held_take (i := 9) (v := ?_) (listed := #[true, true, true, true, true, true, true, true, true, false, false, false, false, false]) nth_9 (by kernel_rfl) (by kernel_rfl) (by kernel_rfl) (fun _ _ _ h => h) (Or.inl ⟨by rfl, ?_⟩) (by assumption) ?_; rotate_left; (focus ((intro W hC; go_simp); try (with_reducible rfl))); (try dsimp only [Act.put]); (try simp only [List.setIfInBounds_toArray, List.set_cons_zero, List.set_cons_succ]))
        (refine wpAnyH_ready (rs := [10]) (by kernel_rfl) (by simp) ?_; refine held_cons nth_10 (fun K hK => ?_) AllReadyH.nil)
        go_simp
        (refine hK.out _ _ ((by show Kept _ _ _; (repeat (first | (with_reducible refine Kept.drew ?_) | (with_reducible refine Kept.setCell ?_ (.inl (by simp)) _))); (with_reducible exact Kept.refl _ _))) (fun hHeld => ?_); clear hK K)
        (try dsimp only [Act.put]); (try simp only [List.setIfInBounds_toArray, List.set_cons_zero, List.set_cons_succ])
        (refine held_take (i := 11) (v := ?_) (listed := #[true, true, true, true, true, true, true, true, true, true, true, false, false, false]) nth_11 (by kernel_rfl) (by kernel_rfl) (by kernel_rfl) (fun _ _ _ h => h) (Or.inl ⟨by rfl, ?_⟩) (by assumption) ?_; rotate_left; (focus ((intro W hC; go_simp); try (with_reducible rfl))); (try dsimp only [Act.put]); (try simp only [List.setIfInBounds_toArray, List.set_cons_zero, List.set_cons_succ]))
        (refine held_take (i := 12) (v := ?_) (listed := #[true, true, true, true, true, true, true, true, true, true, true, true, false, false]) nth_12 (by kernel_rfl) (by kernel_rfl) (by kernel_rfl) (fun _ _ _ h => h) (Or.inl ⟨by rfl, ?_⟩) (by assumption) ?_; rotate_left; (focus ((intro W hC; go_simp); try (with_reducible rfl))); (try dsimp only [Act.put]); (try simp only [List.setIfInBounds_toArray, List.set_cons_zero, List.set_cons_succ]))
        (refine wpAnyH_ready (rs := [13]) (by kernel_rfl) (by simp) ?_; refine held_cons nth_13 (fun K hK => ?_) AllReadyH.nil)
        go_simp
        (refine hK.out _ _ ((by show Kept _ _ _; (repeat (first | (with_reducible refine Kept.drew ?_) | (with_reducible refine Kept.setCell ?_ (.inl (by simp)) _))); (with_reducible exact Kept.refl _ _))) (fun hHeld => ?_); clear hK K)
        (try dsimp only [Act.put]); (try simp only [List.setIfInBounds_toArray, List.set_cons_zero, List.set_cons_succ])
        (refine wpAnyH_done (by kernel_rfl) ?_ _)
        go_wp2_with fail
        go_ret
        exact ⟨rfl, HA.out⟩
      · rw [if_neg (by simp [ho])] at hs
        obtain ⟨v1, v2⟩ := step_no hs
        rw [v1, v2]
        rw [hc] at HTF
        have ho1 : (nd.op != e.op) = true := bne_iff_ne.2 ho
        generalize e.slot.toNat = t at *
        clear h hw hd hs h0 hk hg hr v1 v2 hu p1 p2 p3 ht hc ho hnd hnp hmm HFS HST
        go_enter Try.func56, Try.ntmps56
        go_wp2_with fail
        try rw [hwb]
        go_wp2_with fail
        refine (HRU.out).mono ?_
        rintro x w1 ⟨rfl, hk1⟩
        have HN1 := Lib.hid (HNX.out _ hk1)
        have HK1 := Lib.hid hk1
        have hev1 := HEV.out _ hk1
        clear hk1 hev
        go_wp2_with fail
        refine (HN1.out).mono ?_
        rintro x w2 ⟨rfl, hk2⟩
        have HK2 := Lib.hid (HK1.out.trans hk2)
        obtain ⟨nop, na, nb, nr, nn, nm, nl⟩ := nd
        have h5 : Kept [] wb (w2.alloc (.cells #[.int .i64 nop, .int .i64 na, .int .i64 nb, .int .i64 nr, .int .u64 nn, .int .u64 nm, .bool nl] 47)) := HK2.out.alloc _
        have hev5 := HEV.out _ h5
        have htf5 := HTF.out _ h5
        have H5 := Lib.hid h5
        simp only at ho1
        clear hk2 hev1
        go_wp2_with fail
        go_ret
        exact ⟨rfl, HFIN.out _ H5.out⟩
    · rw [if_neg (by simp [hc])] at hs
      obtain ⟨v1, v2⟩ := step_no hs
      rw [v1, v2]
      have hc1 : ((a.th e.slot.toNat).call != 0) = true := bne_iff_ne.2 hc
      generalize (a.th e.slot.toNat).call = z at *
      generalize e.slot.toNat = t at *
      clear h hw hd hs h0 hk hg hr v1 v2 hu p1 p2 p3 ht hc hnd hnp hmm HFS HST
      go_enter Try.func56, Try.ntmps56
      go_wp2_with fail
      try rw [hwb]
      go_wp2_with fail
      refine (HRU.out).mono ?_
      rintro x w1 ⟨rfl, hk1⟩
      have HN1 := Lib.hid (HNX.out _ hk1)
      have HK1 := Lib.hid hk1
      have hev1 := HEV.out _ hk1
      clear hk1 hev
      go_wp2_with fail
      refine (HN1.out).mono ?_
      rintro x w2 ⟨rfl, hk2⟩
      have HK2 := Lib.hid (HK1.out.trans hk2)
      obtain ⟨nop, na, nb, nr, nn, nm, nl⟩ := nd
      have h5 : Kept [] wb (w2.alloc (.cells #[.int .i64 nop, .int .i64 na, .int .i64 nb, .int .i64 nr, .int .u64 nn, .int .u64 nm, .bool nl] 47)) := HK2.out.alloc _
      have hev5 := HEV.out _ h5
      have htf5 := HTF.out _ h5
      have H5 := Lib.hid h5
      clear hk2 hev1
      go_wp2_with fail
      go_ret
      exact ⟨rfl, HFIN.out _ H5.out⟩

end Go.Proofs.Ytccodklfplfleaa
