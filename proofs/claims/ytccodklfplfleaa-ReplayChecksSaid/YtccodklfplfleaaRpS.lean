/- Package replay: a thread stored whole; born, walked. -/
import Derived.Test.YtccodklfplfleaaRpL
namespace Go.Proofs.Ytccodklfplfleaa
open Go.RowKit

def pairsV : Nat → List Value → List (Nat × Value)
  | _, [] => []
  | i, v :: vs => (i, v) :: pairsV (i + 1) vs
theorem pairsV_lt : ∀ (vs : List Value) (i : Nat), ∀ p ∈ pairsV i vs, p.1 < i + vs.length
  | [], _, p, h => by simp [pairsV] at h
  | v :: vs, i, p, h => by
    rcases List.mem_cons.1 h with rfl | h
    · simp
    · have := pairsV_lt vs (i + 1) p h
      simp only [List.length_cons]
      omega
theorem setCells_fold (g o : Nat) : ∀ (vs : List Value) (i : Nat) (w : World), w.setCells g (o + i) vs = (pairsV i vs).foldl (fun (W : World) p => W.setCell ⟨g, o + p.1, none⟩ p.2) w
  | [], _, _ => rfl
  | v :: vs, i, w => setCells_fold g o vs (i + 1) (w.setCell ⟨g, o + i, none⟩ v)
theorem pairsV_set : ∀ (vs : List Value) (i : Nat) (L : List Value), L.length = i + vs.length → (pairsV i vs).foldl (fun X p => X.set p.1 p.2) L = L.take i ++ vs
  | [], i, L, h => by
    simp only [pairsV, List.foldl_nil, List.append_nil]
    rw [List.take_of_length_le (by simp at h; omega)]
  | v :: vs, i, L, h => by
    simp only [pairsV, List.foldl_cons]
    rw [pairsV_set vs (i + 1) _ (by simp only [List.length_set]; simp only [List.length_cons] at h; omega)]
    have hi : i < L.length := by simp only [List.length_cons] at h; omega
    rw [List.take_succ_eq_append_getElem (by simpa using hi), List.take_set_of_le (Nat.le_refl _)]
    simp
theorem kept_setCells (g o : Nat) (vs : List Value) (w : World) : Kept [g] w (w.setCells g o vs) := by
  have e := setCells_fold g o vs 0 w
  rw [Nat.add_zero] at e
  rw [e]
  exact kept_sets _ _
/-- A thread is stored whole. -/
theorem AccIs.putTh {w0 : Base} {w : World} {b : AcA} {d : Du} {a : Acc} {K : Array Value} (h : AccIs w0 w b d a K) {t : Nat} (ht : t < a.T.length) (x' : Th) : AccIs w0 (w.setCells (gT b) (t * 31) (thL x')) b d (a.setT t x') K := by
  have e := setCells_fold (gT b) (t * 31) (thL x') 0 w
  rw [Nat.add_zero] at e
  rw [e]
  refine h.sts ht _ (fun p hp => by have := pairsV_lt _ _ p hp; rw [thL_len] at this; omega) x' ?_
  rw [pairsV_set _ _ _ (by rw [thL_len, thL_len])]
  simp
theorem AccAt.there {w : World} {b : AcA} {d : Du} {a : Acc} {K : Array Value} (h : AccAt w b d a K) {t : Nat} (ht : t < a.T.length) : w.there (gT b) (t * 31) 31 := fun j hj => by
  obtain ⟨g, e, hc, hl, hf⟩ := AccAt.thr h t ht
  have hg : gT b = g := by unfold gT; rw [e]
  rw [hg]
  exact ⟨by rw [hc j _ (List.getElem?_eq_getElem (by rw [thL_len]; exact hj))]; rfl, hf _⟩
/-- The blocks that an account may turn. -/
def aF (b : AcA) : List Nat := (b.AP.map (·.block)).toList ++ (b.AT.map (·.block)).toList ++ (b.AH.map (·.block)).toList
theorem AccAt.aF_lt {w : World} {b : AcA} {d : Du} {a : Acc} {K : Array Value} (h : AccAt w b d a K) : ∀ k, k ∈ aF b → k < w.heap.size := fun k hk => by
  unfold aF at hk
  rcases List.mem_append.1 hk with hk | hk
  · rcases List.mem_append.1 hk with hk | hk
    · exact Piece.lt (Holds.get h (i := 2) rfl) k (by simpa [Piece.fp, fp_slice] using hk)
    · exact Piece.lt (Holds.get h (i := 3) rfl) k (by simpa [Piece.fp, fp_slice] using hk)
  · exact Piece.lt (Holds.get h (i := 4) rfl) k (by simpa [Piece.fp, fp_slice] using hk)
theorem gT_aF {b : AcA} {w : World} {d : Du} {a : Acc} {K : Array Value} (h : AccAt w b d a K) {t : Nat} (ht : t < a.T.length) : gT b ∈ aF b := by
  unfold aF
  rw [AccAt.gt h ht]
  simp

/-- All blocks of an account. -/
def accFp (b : AcA) : List Nat := b.g :: b.gr :: aF b
theorem acc_fp {b : AcA} {d : Du} {a : Acc} {K : Array Value} : ∀ p ∈ accP b d a K, ∀ k, k ∈ p.fp → k ∈ accFp b := by
  intro p hp k hk
  unfold accFp aF
  simp only [accP, List.mem_cons, List.not_mem_nil, or_false] at hp
  rcases hp with rfl | rfl | rfl | rfl | rfl
  · simp [Piece.fp] at hk; simp [hk]
  · simp [Piece.fp] at hk; simp [hk]
  · rw [Piece.fp, fp_slice] at hk; simp at hk ⊢; simp [hk]
  · rw [Piece.fp, fp_slice] at hk; simp at hk ⊢; simp [hk]
  · rw [Piece.fp, fp_slice] at hk; simp at hk ⊢; simp [hk]
theorem AccAt.fp_lt {w : World} {b : AcA} {d : Du} {a : Acc} {K : Array Value} (h : AccAt w b d a K) : ∀ k, k ∈ accFp b → k < w.heap.size := fun k hk => by
  unfold accFp at hk
  rcases List.mem_cons.1 hk with rfl | hk
  · exact Blk.lt (Holds.get h (i := 0) rfl)
  · rcases List.mem_cons.1 hk with rfl | hk
    · exact Blk.lt (Holds.get h (i := 1) rfl)
    · exact AccAt.aF_lt h k hk
/-- What lies apart from an account may turn. -/
theorem AccIs.far {w0 : Base} {w w' : World} {b : AcA} {d : Du} {a : Acc} {K : Array Value} (h : AccIs w0 w b d a K) {G : List Nat} (hk : Kept G w w') (hG : ∀ k, k ∈ G → k ∉ accFp b ∧ w0.w.heap.size ≤ k) : AccIs w0 w' b d a K :=
  ⟨⟨fun p hp => Piece.kept (h.at_.1 p hp) hk (fun k hk1 hk2 => (hG k hk2).1 (acc_fp p hp k hk1)), h.at_.2⟩, h.new, h.kept.trans' hk (fun k hk1 => .inr (hG k hk1).2)⟩

set_option maxHeartbeats 6400000 in
set_option maxRecDepth 100000 in
theorem rpborn_any {w0 : Base} {w : World} {b : AcA} {d : Du} {a : Acc} {K : Array Value} (h : AccIs w0 w b d a K) (hw : AWhole d a) (prog : Int) (mask : Nat) (loose : Bool) :
    Calls Try.prog 55 #[.pointer (some ⟨b.g, 0, none⟩), .int .i64 prog, .int .u64 mask, .bool loose] w fun x w' => x = .returned (.tuple #[.agg #[.int .i64 (takeV a.P).1.1, .int .u32 (takeV a.P).1.2], .bool (takeV a.P).2]) ∧ AccIs w0 w' b d (bornA a prog mask loose) K ∧ Kept (aF b) w w' := by
  have h0 : Kept [] w (w.alloc (.cells #[.int .i64 0, .int .u32 0] 53)) := (Kept.refl _ _).alloc _
  have hB := Blk.new w 53 #[.int .i64 0, .int .u32 0]
  obtain ⟨wb, hwb⟩ : ∃ wb, w.alloc (.cells #[.int .i64 0, .int .u32 0] 53) = wb := ⟨_, rfl⟩
  rw [hwb] at h0 hB
  have HTK := Lib.hid (rlTake_any (AccAt.roll (AccAt.old h.at' h0)) hw.n64)
  have hf := AccAt.fact h.at' wb h0
  have hlt := AccAt.aF_lt h.at'
  have hsz : w.heap.size < wb.heap.size := hB.lt
  have HFAR : Hid (∀ {W W' : World} {a' : Acc}, AccIs w0 W b d a' K → Kept [w.heap.size] W W' → AccIs w0 W' b d a' K) := fun hA hk => hA.far hk (fun k hk1 => by
    obtain rfl := List.mem_singleton.1 hk1
    exact ⟨fun hm => by have := AccAt.fp_lt h.at' _ hm; omega, h.kept.size⟩)
  -- behind Take
  have HA1 : Hid (∀ w1, RlAt w1 b.gr b.AP b.cP (takeQ a.P) → Kept (fp (.slice b.AP a.P.length b.cP)) wb w1 → AccIs w0 w1 b d { a with P := takeQ a.P } K ∧ Kept (aF b) w w1 ∧ Blk w1 w.heap.size 53 #[.int .i64 0, .int .u32 0] ∧ w.heap.size < w1.heap.size) := fun w1 hr hk => by
    have hP : ∀ k, k ∈ fp (.slice b.AP a.P.length b.cP) → k ∈ aF b := fun k hk => by
      unfold aF
      rw [fp_slice] at hk
      simp at hk ⊢
      exact .inl hk
    refine ⟨(h.old h0).setP (takeQ_len _) hr hk, (h0.mono (by simp)).trans (hk.mono hP), hB.kept hk (fun hm => by have := hlt _ (hP _ hm); omega), Nat.lt_of_lt_of_le hsz hk.size⟩
  rcases firstP_rng a.P with hfp | ⟨i, hfp, hi, hfr⟩
  · have hV : takeV a.P = ((0, 0), false) := by unfold takeV; rw [if_pos hfp]
    have hQ : takeQ a.P = a.P := by unfold takeQ; rw [if_pos hfp]
    have hbn : bornA a prog mask loose = a := by unfold bornA freeA; rw [if_pos hfp]
    rw [hV] at HTK ⊢
    rw [hQ] at HTK HA1
    rw [hbn]
    clear h hw h0 hB hV hQ hbn hfp
    go_enter Try.func55, Try.ntmps55
    go_wp2_with fail
    try rw [hwb]
    go_wp2_with fail
    refine (HTK.out).mono ?_
    rintro x w1 ⟨rfl, hr1, hk1⟩
    obtain ⟨hA1, hK1, hB1, hs1⟩ := HA1.out w1 hr1 hk1
    have HA := Lib.hid hA1
    have HK := Lib.hid hK1
    have c0 : w1.cell? ⟨w.heap.size, 0, none⟩ = some (.int .i64 0) := hB1.cell 0
    have c1 : w1.cell? ⟨w.heap.size, 1, none⟩ = some (.int .u32 0) := hB1.cell 1
    have cf := hB1.frozen
    clear hr1 hk1 hA1 hK1 hB1 hf
    go_wp2_with fail
    (try simp only [Exit.inBlock, Exit.then])
    have hk5 : Kept [w.heap.size] w1 ((w1.setCell ⟨w.heap.size, 0, none⟩ (.int .i64 0)).setCell ⟨w.heap.size, 1, none⟩ (.int .u32 0)) := ((Kept.refl _ _).setCell (.inl (by simp)) _).setCell (.inl (by simp)) _
    refine bodyPost_ret (v := .tuple #[.agg #[.int .i64 (0 : Int), .int .u32 ((0 : Nat) : Int)], .bool false]) (by rw [results_cell_tmp rfl]; go_simp) rfl ⟨rfl, (HFAR.out HA.out hk5).old ((Kept.refl _ _).alloc _), ?_⟩
    exact (HK.out.trans' (hk5.alloc _) (fun k hk => .inr (by simp at hk; omega)))
  · have hV : takeV a.P = (((i : Int), (a.pl i).gen + 1), true) := by
      unfold takeV
      rw [if_neg (by rw [hfp]; omega), hfp, Int.toNat_natCast]; rfl
    have hil : i < a.T.length := by rw [hw.tl]; exact hi
    obtain ⟨gn, hgn⟩ : ∃ gn, (a.pl i).gen + 1 = gn := ⟨_, rfl⟩
    have hbn : bornA a prog mask loose = ({ a with P := takeQ a.P } : Acc).setT i (newT prog mask loose i gn) := by
      have hQ : takeQ a.P = a.P.set i ⟨true, (a.pl i).gen + 1⟩ := by
        unfold takeQ
        rw [if_neg (by rw [hfp]; omega), hfp, Int.toNat_natCast]; rfl
      unfold bornA freeA
      rw [if_neg (by rw [hfp]; omega), hfp, Int.toNat_natCast]
      simp only [Acc.setT, hQ, hgn]
    rw [hV, hgn] at HTK ⊢
    rw [hbn]
    have hgt := AccAt.gt h.at' hil
    have HA2 : Hid (∀ W, AccIs w0 W b d { a with P := takeQ a.P } K → ((W.cell? ⟨b.g, 9, none⟩ = some (.pointer (some ⟨b.gr, 0, none⟩)) ∧ W.cell? ⟨b.g, 10, none⟩ = some (.slice b.AT a.T.length b.cT) ∧ W.cell? ⟨b.g, 11, none⟩ = some (.slice b.AH a.held.length b.cH) ∧ b.g < W.heap.size) ∧ gT b < W.heap.size) ∧ W.there (gT b) (i * 31) 31 ∧ AccIs w0 (W.setCells (gT b) (i * 31) (thL { newT prog mask loose i gn with regs := List.replicate 8 (0, 0) })) b d (({ a with P := takeQ a.P } : Acc).setT i { newT prog mask loose i gn with regs := List.replicate 8 (0, 0) }) K) := fun W hA =>
      ⟨⟨AccAt.fact hA.at' W (Kept.refl _ _), (AccAt.tf hA.at' hil).2.2.2⟩, AccAt.there hA.at' hil, hA.putTh hil _⟩
    have hth : (({ a with P := takeQ a.P } : Acc).setT i { newT prog mask loose i gn with regs := List.replicate 8 (0, 0) }).th i = { newT prog mask loose i gn with regs := List.replicate 8 (0, 0) } := setT_th (a := ({ a with P := takeQ a.P } : Acc)) hil
    have HA3 : Hid (∀ W, AccIs w0 W b d (({ a with P := takeQ a.P } : Acc).setT i { newT prog mask loose i gn with regs := List.replicate 8 (0, 0) }) K → ((W.cell? ⟨b.g, 9, none⟩ = some (.pointer (some ⟨b.gr, 0, none⟩)) ∧ W.cell? ⟨b.g, 10, none⟩ = some (.slice b.AT a.T.length b.cT) ∧ W.cell? ⟨b.g, 11, none⟩ = some (.slice b.AH a.held.length b.cH) ∧ b.g < W.heap.size) ∧ gT b < W.heap.size) ∧ (∃ v, W.cell? ⟨gT b, i * 31 + 6, none⟩ = some v) ∧ (∃ v, W.cell? ⟨gT b, i * 31 + 7, none⟩ = some v) ∧ (∀ j, W.frozen? ⟨gT b, j, none⟩ = false) ∧ AccIs w0 ((W.setCell ⟨gT b, i * 31 + 6, none⟩ (.int .i64 i)).setCell ⟨gT b, i * 31 + 7, none⟩ (.int .u32 gn)) b d (({ a with P := takeQ a.P } : Acc).setT i (newT prog mask loose i gn)) K) := fun W hA => by
      have hil2 : i < (({ a with P := takeQ a.P } : Acc).setT i { newT prog mask loose i gn with regs := List.replicate 8 (0, 0) }).T.length := by simpa [Acc.setT] using hil
      have h1 := AccAt.fact hA.at' W (Kept.refl _ _)
      have hTl : (({ a with P := takeQ a.P } : Acc).setT i { newT prog mask loose i gn with regs := List.replicate 8 (0, 0) }).T.length = a.T.length := by simp [Acc.setT]
      rw [hTl] at h1
      obtain ⟨g, e1, hc, hl, hf⟩ := AccAt.thr hA.at' i hil2
      have e2 : gT b = g := by unfold gT; rw [e1]
      have h2 := hA.sts hil2 [(6, .int .i64 i), (7, .int .u32 gn)] (by simp) (newT prog mask loose i gn) (by rw [hth]; rfl)
      have e3 : ((({ a with P := takeQ a.P } : Acc).setT i { newT prog mask loose i gn with regs := List.replicate 8 (0, 0) })).setT i (newT prog mask loose i gn) = (({ a with P := takeQ a.P } : Acc)).setT i (newT prog mask loose i gn) := by
        unfold Acc.setT; simp
      rw [e3] at h2
      exact ⟨⟨h1, by rw [e2]; exact hl⟩, ⟨_, by rw [e2]; exact hc 6 _ rfl⟩, ⟨_, by rw [e2]; exact hc 7 _ rfl⟩, fun j => by rw [e2]; exact hf j, h2⟩
    have hGA := gT_aF h.at' hil
    have hgtn := (AccAt.gT_ne h.at' hil).2
    have hi0 : (0 : Int) ≤ (i : Int) := by omega
    have hi1 : (i : Int) < (a.T.length : Int) := by omega
    generalize ({ a with P := takeQ a.P } : Acc).setT i (newT prog mask loose i gn) = a3 at *
    generalize hth2 : ({ a with P := takeQ a.P } : Acc).setT i { newT prog mask loose i gn with regs := List.replicate 8 (0, 0) } = a2 at *
    generalize ({ a with P := takeQ a.P } : Acc) = a1 at *
    rw [hgt] at HA2 HA3 hf
    generalize a.T.length = nT at *
    clear h hw h0 hB hV hbn hfp hfr hth hth2 hil hi hgt hgn
    go_enter Try.func55, Try.ntmps55
    go_wp2_with fail
    try rw [hwb]
    go_wp2_with fail
    refine (HTK.out).mono ?_
    rintro x w1 ⟨rfl, hr1, hk1⟩
    obtain ⟨hA1, hK1, hB1, hs1⟩ := HA1.out w1 hr1 hk1
    clear hr1 hk1 hf
    go_wp2_with fail
    obtain ⟨w5, hw5⟩ : ∃ w5, w1.alloc (.cells #[.int .i64 i, .int .u32 gn] 53) = w5 := ⟨_, rfl⟩
    have hk5 : Kept [] w1 w5 := by rw [← hw5]; exact (Kept.refl _ _).alloc _
    have hB5 : Blk w5 w1.heap.size 53 #[.int .i64 i, .int .u32 gn] := by rw [← hw5]; exact Blk.new _ _ _
    have hR5 := hB1.kept hk5 (by simp)
    have hA5 := hA1.old hk5
    rw [hw5]
    have HF : Hid (∀ W, Kept [] w5 W → ((W.cell? ⟨b.g, 10, none⟩ = some (.slice (some ⟨gT b, 0, none⟩) nT b.cT) ∧ b.g < W.heap.size) ∧ gT b < W.heap.size) ∧ W.cell? ⟨w1.heap.size, 0, none⟩ = some (.int .i64 i) ∧ W.cell? ⟨w1.heap.size, 1, none⟩ = some (.int .u32 gn) ∧ w1.heap.size < W.heap.size) := fun W hk => by
      have h1 := hB5.kept hk (by simp)
      have h2 := (HA2.out _ (hA5.old hk)).1
      exact ⟨⟨⟨h2.1.2.1, h2.1.2.2.2⟩, h2.2⟩, h1.cell 0, h1.cell 1, h1.lt⟩
    clear hw5
    (refine wp_region_phases (n := 12) (listed := #[false, false, false, false, false, false, false, false, false, false, false, false]) (by kernel_rfl) (by rfl) (by rfl) ?_)
    (refine wpAny_phase (fun W => Kept [] w5 W) [(0, false), (1, false), (2, false), (3, false), (4, false), (5, false), (6, false), (7, false), (8, false), (9, false), (10, false)] (f := 1) (listed := #[false, false, false, false, false, false, false, false, false, false, false, false]) (listed' := #[true, true, true, true, true, true, true, true, true, true, true, false]) (by kernel_rfl) (by kernel_rfl) (by rfl) (Kept.refl [] _).drew (fun d _ _ _ _ h => by cases d <;> exact h) ?_)
    iterate 11 (refine wpQL_take (v := ?_) rfl (by rfl) ?_ ?_; rotate_left; (focus ((intro W hC; have hF := HF.out W hC; go_simp); try (with_reducible rfl))); (try dsimp only [Act.put]); (try simp only [List.setIfInBounds_toArray, List.set_cons_zero, List.set_cons_succ]))
    (refine wpQL_nil ?_)
    (intro wq hq)
    obtain ⟨_, hth5, hA6⟩ := HA2.out _ (hA5.old hq)
    (refine wpAny_loud 11 (fuel := 0) (listed := #[true, true, true, true, true, true, true, true, true, true, true, false]) (listed' := #[true, true, true, true, true, true, true, true, true, true, true, true]) (by kernel_rfl) (by rfl) nth_11 (fun K hK => ?_))
    rw [if_pos (by rfl)]
    refine wp_store_mid 71 (.tmp 31) (.tmp 30) rfl (gT b) (i * 31) (thL { newT prog mask loose i gn with regs := List.replicate 8 (0, 0) }).toArray rfl rfl hth5 (by kernel_rfl) (all_oneCell_toArray (thL_one _)) ?_
    (refine hK.out _ _ ?_; clear hK K)
    (try simp only [Act.put, List.setIfInBounds_toArray, List.set_cons_zero, List.set_cons_succ])
    (refine wpAny_done (by kernel_rfl) ?_ _)
    have hk6 : Kept [gT b] wq (wq.setCells (gT b) (i * 31) (thL { newT prog mask loose i gn with regs := List.replicate 8 (0, 0) })) := kept_setCells _ _ _ _
    have hne1 : w1.heap.size ∉ [gT b] := by
      have := hK1.size
      simp; omega
    have hne2 : w.heap.size ∉ [gT b] := by simp; omega
    have hB6 := (hB5.kept hq (by simp)).kept hk6 hne1
    have hR6 := (hR5.kept hq (by simp)).kept hk6 hne2
    have hKK : Kept (aF b) w (wq.setCells (gT b) (i * 31) (thL { newT prog mask loose i gn with regs := List.replicate 8 (0, 0) })) := ((hK1.trans (hk5.mono (by simp))).trans (hq.mono (by simp))).trans (hk6.mono (by simpa using hGA))
    (try simp only [List.toList_toArray])
    generalize wq.setCells (gT b) (i * 31) (thL { newT prog mask loose i gn with regs := List.replicate 8 (0, 0) }) = w6 at *
    have HF4 : Hid (∀ W, Kept [] w6 W → ((W.cell? ⟨b.g, 10, none⟩ = some (.slice (some ⟨gT b, 0, none⟩) nT b.cT) ∧ b.g < W.heap.size) ∧ gT b < W.heap.size) ∧ W.cell? ⟨w1.heap.size, 0, none⟩ = some (.int .i64 i) ∧ W.cell? ⟨w1.heap.size, 1, none⟩ = some (.int .u32 gn) ∧ w1.heap.size < W.heap.size) := fun W hk => by
      have h1 := hB6.kept hk (by simp)
      have h2 := (HA3.out _ (hA6.old hk)).1
      exact ⟨⟨⟨h2.1.2.1, h2.1.2.2.2⟩, h2.2⟩, h1.cell 0, h1.cell 1, h1.lt⟩
    clear HF hq hth5 hB5 hR5 hA5 hA1 hB1 hk5 hk6 hK1
    go_wp2_with fail
    (refine wp_region_phases (n := 11) (listed := #[false, false, false, false, false, false, false, false, false, false, false]) (by kernel_rfl) (by rfl) (by rfl) ?_)
    (refine wpAny_phase (fun W => Kept [] w6 W) [(0, false), (1, false), (2, false), (3, false), (4, false), (5, false), (6, false), (7, false), (8, false), (9, false)] (f := 1) (listed := #[false, false, false, false, false, false, false, false, false, false, false]) (listed' := #[true, true, true, true, true, true, true, true, true, true, false]) (by kernel_rfl) (by kernel_rfl) (by rfl) (Kept.refl [] _).drew (fun d _ _ _ _ h => by cases d <;> exact h) ?_)
    iterate 10 (refine wpQL_take (v := ?_) rfl (by rfl) ?_ ?_; rotate_left; (focus ((intro W hC; have hF := HF4.out W hC; go_simp); try (with_reducible rfl))); (try dsimp only [Act.put]); (try simp only [List.setIfInBounds_toArray, List.set_cons_zero, List.set_cons_succ]))
    (refine wpQL_nil ?_)
    (intro wq hq)
    obtain ⟨_, ⟨x6, c6⟩, ⟨x7, c7⟩, cf, hA7⟩ := HA3.out _ (hA6.old hq)
    have hgs := (HF4.out _ hq).1.2
    (refine wpAny_loud 10 (fuel := 0) (listed := #[true, true, true, true, true, true, true, true, true, true, false]) (listed' := #[true, true, true, true, true, true, true, true, true, true, true]) (by kernel_rfl) (by rfl) nth_10 (fun K hK => ?_))
    go_simp
    (refine hK.out _ _ ?_; clear hK K)
    (try simp only [Act.put, List.setIfInBounds_toArray, List.set_cons_zero, List.set_cons_succ])
    (refine wpAny_done (by kernel_rfl) ?_ _)
    have hk7 : Kept [gT b] wq ((wq.setCell ⟨gT b, i * 31 + 6, none⟩ (.int .i64 i)).setCell ⟨gT b, i * 31 + 6 + 1, none⟩ (.int .u32 gn)) := ((Kept.refl _ _).setCell (.inl (by simp)) _).setCell (.inl (by simp)) _
    have hA8 : AccIs w0 ((wq.setCell ⟨gT b, i * 31 + 6, none⟩ (.int .i64 i)).setCell ⟨gT b, i * 31 + 6 + 1, none⟩ (.int .u32 gn)) b d a3 K := hA7
    have hKK2 := (hKK.trans (hq.mono (by simp))).trans (hk7.mono (by simpa using hGA))
    have hB7 := (hB6.kept hq (by simp)).kept hk7 hne1
    have hR7 := (hR6.kept hq (by simp)).kept hk7 hne2
    generalize ((wq.setCell ⟨gT b, i * 31 + 6, none⟩ (.int .i64 i)).setCell ⟨gT b, i * 31 + 6 + 1, none⟩ (.int .u32 gn)) = w7 at *
    have b0 : w7.cell? ⟨w1.heap.size, 0, none⟩ = some (.int .i64 i) := hB7.cell 0
    have b1 : w7.cell? ⟨w1.heap.size, 1, none⟩ = some (.int .u32 gn) := hB7.cell 1
    have r0 : w7.cell? ⟨w.heap.size, 0, none⟩ = some (.int .i64 0) := hR7.cell 0
    have r1 : w7.cell? ⟨w.heap.size, 1, none⟩ = some (.int .u32 0) := hR7.cell 1
    have rf := hR7.frozen
    have bl := hB7.lt
    have rl := hR7.lt
    have HA8 := Lib.hid hA8
    have HK8 := Lib.hid hKK2
    clear hA8 hKK2 hA7 c6 c7 hA6 hB6 hR6 hKK hq hk7 HF4 HA3 HA2
    go_wp2_with fail
    (try simp only [Exit.inBlock, Exit.then])
    have hk9 : Kept [w.heap.size] w7 ((w7.setCell ⟨w.heap.size, 0, none⟩ (.int .i64 (i : Int))).setCell ⟨w.heap.size, 1, none⟩ (.int .u32 gn)) := ((Kept.refl _ _).setCell (.inl (by simp)) _).setCell (.inl (by simp)) _
    refine bodyPost_ret (v := .tuple #[.agg #[.int .i64 (i : Int), .int .u32 (gn : Int)], .bool true]) (by rw [results_cell_tmp rfl]; go_simp) rfl ⟨rfl, HFAR.out HA8.out hk9, ?_⟩
    exact (HK8.out.trans' hk9 (fun k hk => .inr (by simp at hk; omega)))

end Go.Proofs.Ytccodklfplfleaa
