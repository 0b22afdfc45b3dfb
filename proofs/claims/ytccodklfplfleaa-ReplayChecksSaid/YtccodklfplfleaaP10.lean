/- The document's account (layer 35): a thread stored whole; born, walked; Package bosunref01: Row, Set, Put: a set as a row of truths. -/
import Derived.Test.YtccodklfplfleaaRqV
import Derived.Test.YtccodklfplfleaaProg
import Derived.Test.YtccodklfplfleaaP00
import Derived.Laws.ResultCell
import Derived.Laws.BitsAllLaws

/- The document's account (layer 35): a thread stored whole; born, walked. -/
namespace Go.Proofs.Ytccodklfplfleaa
open Go.RowKit

def pairsR : Nat → List Value → List (Nat × Value)
  | _, [] => []
  | i, v :: vs => (i, v) :: pairsR (i + 1) vs
theorem pairsR_lt : ∀ (vs : List Value) (i : Nat), ∀ p ∈ pairsR i vs, p.1 < i + vs.length
  | [], _, p, h => by simp [pairsR] at h
  | v :: vs, i, p, h => by
    rcases List.mem_cons.1 h with rfl | h
    · simp
    · have := pairsR_lt vs (i + 1) p h
      simp only [List.length_cons]
      omega
theorem setCells_foldR (g o : Nat) : ∀ (vs : List Value) (i : Nat) (w : World), w.setCells g (o + i) vs = (pairsR i vs).foldl (fun (W : World) p => W.setCell ⟨g, o + p.1, none⟩ p.2) w
  | [], _, _ => rfl
  | v :: vs, i, w => setCells_foldR g o vs (i + 1) (w.setCell ⟨g, o + i, none⟩ v)
theorem pairsR_set : ∀ (vs : List Value) (i : Nat) (L : List Value), L.length = i + vs.length → (pairsR i vs).foldl (fun X p => X.set p.1 p.2) L = L.take i ++ vs
  | [], i, L, h => by
    simp only [pairsR, List.foldl_nil, List.append_nil]
    rw [List.take_of_length_le (by simp at h; omega)]
  | v :: vs, i, L, h => by
    simp only [pairsR, List.foldl_cons]
    rw [pairsR_set vs (i + 1) _ (by simp only [List.length_set]; simp only [List.length_cons] at h; omega)]
    have hi : i < L.length := by simp only [List.length_cons] at h; omega
    rw [List.take_succ_eq_append_getElem (by simpa using hi), List.take_set_of_le (Nat.le_refl _)]
    simp
theorem kept_setCellsR (g o : Nat) (vs : List Value) (w : World) : Kept [g] w (w.setCells g o vs) := by
  have e := setCells_foldR g o vs 0 w
  rw [Nat.add_zero] at e
  rw [e]
  exact keptG_sets _ _
/-- All blocks of an account. -/
def rqF (b : RqA) : List Nat := [b.g, b.gr, b.gP, b.gG, b.gT] ++ (b.AH.map (·.block)).toList
theorem rq_fp {b : RqA} {d : Du} {a : Acc} : ∀ p ∈ rqP b d a, ∀ k, k ∈ p.fp → k ∈ rqF b := by
  intro p hp k hk
  unfold rqF
  simp only [rqP, List.mem_cons, List.not_mem_nil, or_false] at hp
  rcases hp with rfl | rfl | rfl | rfl | rfl | rfl
  · simp [Piece.fp] at hk; simp [hk]
  · simp [Piece.fp] at hk; simp [hk]
  · simp only [Piece.fp, fp_some, List.mem_singleton] at hk; simp [hk]
  · simp only [Piece.fp, fp_some, List.mem_singleton] at hk; simp [hk]
  · simp only [Piece.fp, fp_some, List.mem_singleton] at hk; simp [hk]
  · rw [Piece.fp, fp_slice] at hk; simp at hk ⊢; simp [hk]
theorem fp_rq {b : RqA} (d : Du) (a : Acc) {k : Nat} (hk : k ∈ rqF b) : ∃ p ∈ rqP b d a, k ∈ p.fp := by
  unfold rqF at hk
  simp only [List.cons_append, List.nil_append, List.mem_cons] at hk
  rcases hk with rfl | rfl | rfl | rfl | rfl | hk
  · exact ⟨_, List.mem_of_getElem? (i := 0) rfl, by simp [Piece.fp]⟩
  · exact ⟨_, List.mem_of_getElem? (i := 1) rfl, by simp [Piece.fp]⟩
  · exact ⟨_, List.mem_of_getElem? (i := 2) rfl, by simp [Piece.fp, fp_some]⟩
  · exact ⟨_, List.mem_of_getElem? (i := 3) rfl, by simp [Piece.fp, fp_some]⟩
  · exact ⟨_, List.mem_of_getElem? (i := 4) rfl, by simp [Piece.fp, fp_some]⟩
  · exact ⟨_, List.mem_of_getElem? (i := 5) rfl, by rw [Piece.fp, fp_slice]; exact hk⟩
section
variable {w0 : Base} {w w' : World} {b : RqA} {d : Du} {a a' : Acc}
theorem RqAt.lt (h : RqAt w b d a) {k : Nat} (hk : k ∈ rqF b) : k < w.heap.size := by
  obtain ⟨p, hp, hkp⟩ := fp_rq d a hk
  exact RqAt.fps h d a p hp k hkp
/-- An account on a base of its own; and back again. -/
theorem RqAt.self (h : RqAt w b d a) : RqIs ⟨w, rqF b⟩ w b d a := ⟨h, fun p hp k hk => .inl (rq_fp p hp k hk), Kept.refl _ _⟩
theorem RqIs.back (h : RqIs w0 w b d a) (h' : RqIs ⟨w, rqF b⟩ w' b d a') : RqIs w0 w' b d a' := by
  have hn : ∀ k, k ∈ rqF b → k ∈ w0.F ∨ w0.w.heap.size ≤ k := fun k hk => by
    obtain ⟨p, hp, hkp⟩ := fp_rq d a hk
    exact h.new p hp k hkp
  refine ⟨h'.at_, fun p hp k hk => hn k (rq_fp p hp k hk), h.kept.trans' h'.kept hn⟩
theorem RqIs.putTh (h : RqIs w0 w b d a) {t : Nat} (ht : t < a.T.length) (x' : Th) : RqIs w0 (w.setCells b.gT (t * 31) (oneL x')) b d (a.setT t x') := by
  have e := setCells_foldR b.gT (t * 31) (oneL x') 0 w
  rw [Nat.add_zero] at e
  rw [e]
  refine RqIs.sts h ht _ (fun p hp => by have := pairsR_lt _ _ p hp; rw [oneL_len] at this; omega) x' ?_
  rw [pairsR_set _ _ _ (by rw [oneL_len, oneL_len])]
  simp
theorem RqAt.there (h : RqAt w b d a) {t : Nat} (ht : t < a.T.length) : w.there b.gT (t * 31) 31 := fun j hj => by
  obtain ⟨hc, hl, hf⟩ := RqAt.th h ht
  exact ⟨by rw [hc j _ (List.getElem?_eq_getElem (by rw [oneL_len]; exact hj))]; rfl, hf _⟩
theorem setT_thR {t : Nat} {x : Th} (ht : t < a.T.length) : (a.setT t x).th t = x := by
  unfold Acc.th Acc.setT
  rw [getD_set, if_pos ⟨rfl, ht⟩]
theorem setT_setT (t : Nat) (x y : Th) : (a.setT t x).setT t y = a.setT t y := by unfold Acc.setT; simp
set_option maxHeartbeats 6400000 in
set_option maxRecDepth 100000 in
theorem R35born_no (h : RqIs w0 w b d a) (hw : AWhole d a) (hf : freeA a = none) (prog : Int) (mask : Nat) (loose : Bool) :
    Calls Try.prog 25 #[.pointer (some ⟨b.g, 0, none⟩), .int .i64 prog, .int .u64 mask, .bool loose] w fun x w' => x = .returned (.tuple #[.agg #[.int .i64 0, .int .u32 0], .bool false]) ∧ RqIs w0 w' b d a := by
  obtain ⟨wb, hwb⟩ : ∃ wb, w.alloc (.cells #[.int .i64 0, .int .u32 0] 53) = wb := ⟨_, rfl⟩
  have h0 : Kept [] w wb := by rw [← hwb]; exact (Kept.refl _ _).alloc _
  have hB : Blk wb w.heap.size 53 #[.int .i64 0, .int .u32 0] := by rw [← hwb]; exact Blk.new w _ _
  have h1 := RqAt.self (h.old h0).at_
  have HTK := Lib.hid (R20Take_no h1 hw.n64 hf)
  have hc := RqAt.cells h1.at_
  have HNI : Hid (w.heap.size ∉ rqF b) := fun hm => by have := RqAt.lt h.at_ hm; omega
  have HB := Lib.hid hB
  have HE : Hid (∀ W W', RqIs ⟨wb, rqF b⟩ W b d a → Kept [w.heap.size] W W' → RqIs w0 W' b d a) := fun W W' h2 hk => by
    refine IsP.far (RqIs.back (h.old h0) h2) (G := [w.heap.size]) (fun k hk => ?_) hk
    obtain rfl := List.mem_singleton.1 hk
    exact ⟨fun p hp hk => HNI.out (rq_fp p hp _ hk), h.le⟩
  have c9 := hc.2.2.2.1
  have hl := hc.2.2.2.2.2.2
  clear h hw hf h1 h0 hB hc
  go_enter Try.func25, Try.ntmps25
  go_wp2_with fail
  try rw [hwb]
  clear hwb
  go_wp2_with fail
  refine (HTK.out).mono ?_
  rintro x w1 ⟨rfl, hA⟩
  have hB1 := HB.out.kept hA.kept HNI.out
  have HA := Lib.hid hA
  have bl := hB1.lt
  have bc := hB1.cell
  have bf := hB1.frozen
  clear hA c9 hl hB1
  go_wp2_with fail
  (try simp only [Exit.inBlock, Exit.then])
  refine bodyPost_ret (v := .tuple #[.agg #[.int .i64 (0 : Int), .int .u32 (0 : Nat)], .bool false]) (by rw [results_cell_tmp rfl]; go_simp) rfl ⟨rfl, HE.out _ _ HA.out (((((Kept.refl _ _).setCell (.inl (by simp)) _).setCell (.inl (by simp)) _)).alloc _)⟩
set_option maxHeartbeats 6400000 in
set_option maxRecDepth 100000 in
theorem R35born_yes (h : RqIs w0 w b d a) (hw : AWhole d a) {i : Nat} (hf : freeA a = some i) (prog : Int) (mask : Nat) (loose : Bool) :
    Calls Try.prog 25 #[.pointer (some ⟨b.g, 0, none⟩), .int .i64 prog, .int .u64 mask, .bool loose] w fun x w' => x = .returned (.tuple #[.agg #[.int .i64 i, .int .u32 ((a.pl i).gen + 1 : Nat)], .bool true]) ∧ RqIs w0 w' b d (bornA a prog mask loose) := by
  have hbn : bornA a prog mask loose = ({ a with P := a.P.set i ⟨true, (a.pl i).gen + 1⟩ } : Acc).setT i (newT prog mask loose i ((a.pl i).gen + 1)) := by unfold bornA; rw [hf]; rfl
  have hil : i < a.T.length := by
    rw [hw.tl]
    unfold freeA at hf
    rcases firstP_rng a.P with h2 | ⟨k, h2, h3, h4⟩
    · rw [if_pos h2] at hf; cases hf
    · rw [h2, if_neg (by omega)] at hf
      have : k = i := by simpa using hf
      subst this; exact h3
  rw [hbn]
  obtain ⟨wb, hwb⟩ : ∃ wb, w.alloc (.cells #[.int .i64 0, .int .u32 0] 53) = wb := ⟨_, rfl⟩
  have h0 : Kept [] w wb := by rw [← hwb]; exact (Kept.refl _ _).alloc _
  have hB : Blk wb w.heap.size 53 #[.int .i64 0, .int .u32 0] := by rw [← hwb]; exact Blk.new w _ _
  have h1 := RqAt.self (h.old h0).at_
  have HTK := Lib.hid (R20Take_yes h1 hw.n64 hf)
  have hc := RqAt.cells h1.at_
  have HNI : Hid (∀ k, w.heap.size ≤ k → k ∉ rqF b) := fun k hk hm => by have := RqAt.lt h.at_ hm; omega
  have HB := Lib.hid hB
  obtain ⟨gn, hgn⟩ : ∃ gn, (a.pl i).gen + 1 = gn := ⟨_, rfl⟩
  rw [hgn] at HTK ⊢
  generalize ha1 : ({ a with P := a.P.set i ⟨true, gn⟩ } : Acc) = a1 at *
  have hil1 : i < a1.T.length := by rw [← ha1]; exact hil
  have hT1 : a1.T.length = a.T.length := by rw [← ha1]
  have HE : Hid (∀ W W', RqIs ⟨wb, rqF b⟩ W b d (a1.setT i (newT prog mask loose i gn)) → Kept [w.heap.size] W W' → RqIs w0 W' b d (a1.setT i (newT prog mask loose i gn))) := fun W W' h2 hk => by
    refine IsP.far (RqIs.back (h.old h0) h2) (G := [w.heap.size]) (fun k hk => ?_) hk
    obtain rfl := List.mem_singleton.1 hk
    exact ⟨fun p hp hk => HNI.out _ (Nat.le_refl _) (rq_fp p hp _ hk), h.le⟩
  have HA2 : Hid (∀ W, RqIs ⟨wb, rqF b⟩ W b d a1 → (W.cell? ⟨b.g, 10, none⟩ = some (.slice (some ⟨b.gT, 0, none⟩) a.T.length a.T.length) ∧ b.g < W.heap.size ∧ b.gT < W.heap.size) ∧ W.there b.gT (i * 31) 31 ∧ RqIs ⟨wb, rqF b⟩ (W.setCells b.gT (i * 31) (oneL { newT prog mask loose i gn with regs := List.replicate 8 (0, 0) })) b d (a1.setT i { newT prog mask loose i gn with regs := List.replicate 8 (0, 0) })) := fun W hA =>
    ⟨⟨by rw [← hT1]; exact (RqAt.cells hA.at_).2.2.2.2.1, (RqAt.cells hA.at_).2.2.2.2.2.2, (RqAt.tf hA.at_ hil1).2.2⟩, RqAt.there hA.at_ hil1, RqIs.putTh hA hil1 _⟩
  have HA3 : Hid (∀ W, RqIs ⟨wb, rqF b⟩ W b d (a1.setT i { newT prog mask loose i gn with regs := List.replicate 8 (0, 0) }) → (W.cell? ⟨b.g, 10, none⟩ = some (.slice (some ⟨b.gT, 0, none⟩) a.T.length a.T.length) ∧ b.g < W.heap.size ∧ b.gT < W.heap.size) ∧ (∃ v, W.cell? ⟨b.gT, i * 31 + 7, none⟩ = some v) ∧ (∃ v, W.cell? ⟨b.gT, i * 31 + 8, none⟩ = some v) ∧ (∀ j, W.frozen? ⟨b.gT, j, none⟩ = false) ∧ RqIs ⟨wb, rqF b⟩ ((W.setCell ⟨b.gT, i * 31 + 7, none⟩ (.int .i64 i)).setCell ⟨b.gT, i * 31 + 8, none⟩ (.int .u32 gn)) b d (a1.setT i (newT prog mask loose i gn))) := fun W hA => by
    have hil2 : i < (a1.setT i { newT prog mask loose i gn with regs := List.replicate 8 (0, 0) }).T.length := by simpa [Acc.setT] using hil1
    have hTl : (a1.setT i { newT prog mask loose i gn with regs := List.replicate 8 (0, 0) }).T.length = a.T.length := by simp [Acc.setT, hT1]
    have h1 := (RqAt.cells hA.at_).2.2.2.2.1
    rw [hTl] at h1
    obtain ⟨hcc, hl, hff⟩ := RqAt.th hA.at_ hil2
    have h2 := RqIs.sts hA hil2 [(7, .int .i64 i), (8, .int .u32 gn)] (by simp) (newT prog mask loose i gn) (by rw [setT_thR hil1]; rfl)
    rw [setT_setT] at h2
    exact ⟨⟨h1, (RqAt.cells hA.at_).2.2.2.2.2.2, hl⟩, ⟨_, hcc 7 _ rfl⟩, ⟨_, hcc 8 _ rfl⟩, hff, h2⟩
  have c9 := hc.2.2.2.1
  have hl := hc.2.2.2.2.2.2
  have hi0 : (0 : Int) ≤ (i : Int) := by omega
  have hi1 : (i : Int) < (a.T.length : Int) := by omega
  have HGT : Hid (b.gT ∈ rqF b) := by show _ ∈ _; simp [rqF]
  have HSZ : Hid (w.heap.size < wb.heap.size) := hB.lt
  generalize a1.setT i (newT prog mask loose i gn) = a3 at *
  generalize a1.setT i { newT prog mask loose i gn with regs := List.replicate 8 (0, 0) } = a2 at *
  generalize a.T.length = nT at *
  clear h hw hf h1 h0 hB hc hbn hil hil1 hT1 hgn ha1
  go_enter Try.func25, Try.ntmps25
  go_wp2_with fail
  try rw [hwb]
  clear hwb
  go_wp2_with fail
  refine (HTK.out).mono ?_
  rintro x w1 ⟨rfl, hA1⟩
  have hR1 := HB.out.kept hA1.kept (HNI.out _ (Nat.le_refl _))
  have hs1 := hA1.kept.size
  have hsz := HSZ.out
  clear c9 hl
  go_wp2_with fail
  obtain ⟨w5, hw5⟩ : ∃ w5, w1.alloc (.cells #[.int .i64 i, .int .u32 gn] 53) = w5 := ⟨_, rfl⟩
  have hk5 : Kept [] w1 w5 := by rw [← hw5]; exact (Kept.refl _ _).alloc _
  have hB5 : Blk w5 w1.heap.size 53 #[.int .i64 i, .int .u32 gn] := by rw [← hw5]; exact Blk.new _ _ _
  have hR5 := hR1.kept hk5 (by simp)
  have hA5 := hA1.old hk5
  rw [hw5]
  have HF : Hid (∀ W, Kept [] w5 W → (W.cell? ⟨b.g, 10, none⟩ = some (.slice (some ⟨b.gT, 0, none⟩) nT nT) ∧ b.g < W.heap.size ∧ b.gT < W.heap.size) ∧ W.cell? ⟨w1.heap.size, 0, none⟩ = some (.int .i64 i) ∧ W.cell? ⟨w1.heap.size, 1, none⟩ = some (.int .u32 gn) ∧ w1.heap.size < W.heap.size) := fun W hk => by
    have h1 := hB5.kept hk (by simp)
    exact ⟨(HA2.out _ (hA5.old hk)).1, h1.cell 0, h1.cell 1, h1.lt⟩
  clear hw5
  (refine wp_region_phases (n := 12) (listed := #[false, false, false, false, false, false, false, false, false, false, false, false]) (by kernel_rfl) (by rfl) (by rfl) ?_)
  (refine wpAny_phase (fun W => Kept [] w5 W) [(0, false), (1, false), (2, false), (3, false), (4, false), (5, false), (6, false), (7, false), (8, false), (9, false), (10, false)] (f := 1) (listed := #[false, false, false, false, false, false, false, false, false, false, false, false]) (listed' := #[true, true, true, true, true, true, true, true, true, true, true, false]) (by kernel_rfl) (by kernel_rfl) (by rfl) (Kept.refl [] _).drew (fun d _ _ _ _ h => by cases d <;> exact h) ?_)
  iterate 11 (refine wpQL_take (v := ?_) rfl (by rfl) ?_ ?_; rotate_left; (focus ((intro W hC; have hF := HF.out W hC; go_simp); try (with_reducible rfl))); (try dsimp only [Act.put]); (try simp only [List.setIfInBounds_toArray, List.set_cons_zero, List.set_cons_succ]))
  (refine wpQL_nil ?_)
  (intro wq hq)
  obtain ⟨_, hth5, hA6⟩ := HA2.out _ (hA5.old hq)
  (refine wpAny_loud 11 (fuel := 0) (listed := #[true, true, true, true, true, true, true, true, true, true, true, false]) (listed' := #[true, true, true, true, true, true, true, true, true, true, true, true]) (by kernel_rfl) (by rfl) nth_11 (fun K hK => ?_))
  rw [if_pos (by rfl)]
  refine wp_store_mid 79 (.tmp 31) (.tmp 30) rfl b.gT (i * 31) (oneL { newT prog mask loose i gn with regs := List.replicate 8 (0, 0) }).toArray rfl rfl hth5 (by kernel_rfl) (all_oneCell_toArray (oneL_one _)) ?_
  (refine hK.out _ _ ?_; clear hK K)
  (try simp only [Act.put, List.setIfInBounds_toArray, List.set_cons_zero, List.set_cons_succ])
  (refine wpAny_done (by kernel_rfl) ?_ _)
  have hk6 : Kept [b.gT] wq (wq.setCells b.gT (i * 31) (oneL { newT prog mask loose i gn with regs := List.replicate 8 (0, 0) })) := kept_setCellsR _ _ _ _
  have hne : ∀ k, w.heap.size ≤ k → k ∉ [b.gT] := fun k hk hm => by obtain rfl := List.mem_singleton.1 hm; exact HNI.out _ hk HGT.out
  have hB6 := (hB5.kept hq (by simp)).kept hk6 (hne _ (by omega))
  have hR6 := (hR5.kept hq (by simp)).kept hk6 (hne _ (Nat.le_refl _))
  (try simp only [List.toList_toArray])
  generalize wq.setCells b.gT (i * 31) (oneL { newT prog mask loose i gn with regs := List.replicate 8 (0, 0) }) = w6 at *
  have HF4 : Hid (∀ W, Kept [] w6 W → (W.cell? ⟨b.g, 10, none⟩ = some (.slice (some ⟨b.gT, 0, none⟩) nT nT) ∧ b.g < W.heap.size ∧ b.gT < W.heap.size) ∧ W.cell? ⟨w1.heap.size, 0, none⟩ = some (.int .i64 i) ∧ W.cell? ⟨w1.heap.size, 1, none⟩ = some (.int .u32 gn) ∧ w1.heap.size < W.heap.size) := fun W hk => by
    have h1 := hB6.kept hk (by simp)
    exact ⟨(HA3.out _ (hA6.old hk)).1, h1.cell 0, h1.cell 1, h1.lt⟩
  clear HF hq hth5 hB5 hR5 hA5 hA1 hR1 hk5 hk6
  go_wp2_with fail
  (refine wp_region_phases (n := 11) (listed := #[false, false, false, false, false, false, false, false, false, false, false]) (by kernel_rfl) (by rfl) (by rfl) ?_)
  (refine wpAny_phase (fun W => Kept [] w6 W) [(0, false), (1, false), (2, false), (3, false), (4, false), (5, false), (6, false), (7, false), (8, false), (9, false)] (f := 1) (listed := #[false, false, false, false, false, false, false, false, false, false, false]) (listed' := #[true, true, true, true, true, true, true, true, true, true, false]) (by kernel_rfl) (by kernel_rfl) (by rfl) (Kept.refl [] _).drew (fun d _ _ _ _ h => by cases d <;> exact h) ?_)
  iterate 10 (refine wpQL_take (v := ?_) rfl (by rfl) ?_ ?_; rotate_left; (focus ((intro W hC; have hF := HF4.out W hC; go_simp); try (with_reducible rfl))); (try dsimp only [Act.put]); (try simp only [List.setIfInBounds_toArray, List.set_cons_zero, List.set_cons_succ]))
  (refine wpQL_nil ?_)
  (intro wq hq)
  obtain ⟨_, ⟨x6, c6⟩, ⟨x7, c7⟩, cf, hA7⟩ := HA3.out _ (hA6.old hq)
  have hgs := (HF4.out _ hq).1.2.2
  (refine wpAny_loud 10 (fuel := 0) (listed := #[true, true, true, true, true, true, true, true, true, true, false]) (listed' := #[true, true, true, true, true, true, true, true, true, true, true]) (by kernel_rfl) (by rfl) nth_10 (fun K hK => ?_))
  go_simp
  (refine hK.out _ _ ?_; clear hK K)
  (try simp only [Act.put, List.setIfInBounds_toArray, List.set_cons_zero, List.set_cons_succ])
  (refine wpAny_done (by kernel_rfl) ?_ _)
  have hk7 : Kept [b.gT] wq ((wq.setCell ⟨b.gT, i * 31 + 7, none⟩ (.int .i64 i)).setCell ⟨b.gT, i * 31 + 7 + 1, none⟩ (.int .u32 gn)) := ((Kept.refl _ _).setCell (.inl (by simp)) _).setCell (.inl (by simp)) _
  have hA8 : RqIs ⟨wb, rqF b⟩ ((wq.setCell ⟨b.gT, i * 31 + 7, none⟩ (.int .i64 i)).setCell ⟨b.gT, i * 31 + 7 + 1, none⟩ (.int .u32 gn)) b d a3 := hA7
  have hB7 := (hB6.kept hq (by simp)).kept hk7 (hne _ (by omega))
  have hR7 := (hR6.kept hq (by simp)).kept hk7 (hne _ (Nat.le_refl _))
  generalize ((wq.setCell ⟨b.gT, i * 31 + 7, none⟩ (.int .i64 i)).setCell ⟨b.gT, i * 31 + 7 + 1, none⟩ (.int .u32 gn)) = w7 at *
  have b0 : w7.cell? ⟨w1.heap.size, 0, none⟩ = some (.int .i64 i) := hB7.cell 0
  have b1 : w7.cell? ⟨w1.heap.size, 1, none⟩ = some (.int .u32 gn) := hB7.cell 1
  have rc := hR7.cell
  have rf := hR7.frozen
  have bl := hB7.lt
  have rl := hR7.lt
  have HA8 := Lib.hid hA8
  clear hA8 hA7 c6 c7 hA6 hB6 hR6 hq hk7 HF4 HA3 HA2 hB7 hR7 cf hgs hne
  go_wp2_with fail
  (try simp only [Exit.inBlock, Exit.then])
  refine bodyPost_ret (v := .tuple #[.agg #[.int .i64 (i : Int), .int .u32 (gn : Int)], .bool true]) (by rw [results_cell_tmp rfl]; go_simp) rfl ⟨rfl, HE.out _ _ HA8.out (((Kept.refl _ _).setCell (.inl (by simp)) _).setCell (.inl (by simp)) _)⟩
end

end Go.Proofs.Ytccodklfplfleaa

/- Package bosunref01: Row, Set, Put: a set as a row of truths. -/
namespace Go.Proofs.Ytccodklfplfleaa
open Go.RowKit

/-- The row of truths of a set. -/
def rowB (s : Nat) : List Bool := (List.range 64).map fun i => s.testBit i
def setB : List Bool → Nat
  | [] => 0
  | b :: t => 2 * setB t + b.toNat
theorem rowB_len (s : Nat) : (rowB s).length = 64 := by simp [rowB]
theorem setB_bit : ∀ (l : List Bool) (i : Nat), (setB l).testBit i = l.getD i false
  | [], i => by simp [setB]
  | b :: t, 0 => by cases b <;> simp [setB, Nat.testBit_zero]
  | b :: t, i + 1 => by
    rw [setB, Nat.testBit_succ, show (2 * setB t + b.toNat) / 2 = setB t by cases b <;> simp <;> omega, setB_bit t i]
    simp
theorem setB_lt : ∀ (l : List Bool), setB l < 2 ^ l.length
  | [] => by simp [setB]
  | b :: t => by
    have := setB_lt t
    rw [setB, List.length_cons, Nat.pow_succ]
    cases b <;> simp <;> omega
theorem setB_put (s i : Nat) (hs : s < 18446744073709551616) (hi : i < 64) : setB ((rowB s).set i true) = s ||| 2 ^ i := by
  refine Nat.eq_of_testBit_eq fun j => ?_
  rw [setB_bit, Nat.testBit_or, Nat.testBit_two_pow]
  by_cases hj : j < 64
  · by_cases he : i = j
    · subst he
      simp [List.getD, rowB_len, hi]
    · simp [List.getD, he, rowB, hj]
  · have hs2 : s.testBit j = false := Nat.testBit_lt_two_pow (Nat.lt_of_lt_of_le hs (Nat.pow_le_pow_right (n := 2) (i := 64) (by omega) (by omega)))
    have he : i ≠ j := by omega
    simp [List.getD, hs2, he, rowB, show 64 ≤ j by omega]
/-- The cells of a row. -/
def bC (l : List Bool) : Array Value := (l.map Value.bool).toArray
theorem bC_size (l : List Bool) : (bC l).size = l.length := by simp [bC]
theorem bC_get (l : List Bool) (i : Nat) (h : i < l.length) : (bC l)[i]? = some (.bool (l.getD i false)) := by
  simp [bC, List.getD, h]
theorem bC_set (l : List Bool) (i : Nat) (b : Bool) : (bC l).setIfInBounds i (.bool b) = bC (l.set i b) := by
  simp [bC]
theorem bC_one (l : List Bool) : (bC l).all (·.oneCell') = true := by
  rw [Array.all_eq_true_iff_forall_mem]
  intro x hx
  simp [bC] at hx
  rcases hx with ⟨_, rfl⟩ | ⟨_, rfl⟩ <;> rfl
/-- What Row has laid behind k rounds. -/
def rowK (s k : Nat) : List Bool := (List.range 64).map fun i => decide (i < k) && s.testBit i
theorem rowK_len (s k : Nat) : (rowK s k).length = 64 := by simp [rowK]
theorem rowK_zero (s : Nat) : bC (rowK s 0) = bC (List.replicate 64 false) := by
  congr 1
theorem rowK_step (s k : Nat) : (rowK s k).set k (s.testBit k) = rowK s (k + 1) := by
  refine List.ext_getElem? fun j => ?_
  rw [List.getElem?_set, rowK_len]
  by_cases h : k = j
  · subst h
    by_cases h2 : k < 64 <;> simp [rowK, h2]
  · simp only [h, if_false, rowK, List.getElem?_map]
    by_cases h2 : j < 64
    · have e : decide (j < k) = decide (j < k + 1) := by rw [Bool.eq_iff_iff]; simp; omega
      simp [List.getElem?_range h2, e]
    · simp [h2]
theorem rowK_done (s : Nat) : rowK s 64 = rowB s := by
  refine List.map_congr_left fun i hi => ?_
  simp at hi
  simp [hi]

theorem Try.size117 : (Try.prog.info? 117).map (·.size) = some 64 := by kernel_rfl

/-- A whole array is stored: the world behind it under a name. -/
theorem wpList_store_blk {P : Program} {ops : Array Oper} {rest : List Oper} {o : Oper} {a : Act} {w : World} {Q : Exit → Act → World → Prop} (hgd : o.guard = none) (ty : TypeId) (x y : Operand) (ho : o.op = .store ty x y)
    (g : Nat) (cells : Array Value) (hx : a.eval x = .pointer (some ⟨g, 0, none⟩)) (hy : a.eval y = .agg cells)
    (t : TypeId) (old : Array Value) (hg : Blk w g t old) (hi : (P.info? ty).map (·.size) = some cells.size)
    (hold : old.size = cells.size) (h1 : cells.all (·.oneCell') = true)
    (h : ∀ W2, Blk W2 g t cells → Kept [g] w W2 → wpList P ops Q rest (a.put o.dst undef) W2) : wpList P ops Q (o :: rest) a w :=
  wpList_store_row hgd ty x y ho g cells hx hy t old hg hi hold h1 (h _ (hg.setRow _) ((Kept.refl _ _).setRow (.inl (by simp)) _))
theorem row_size (l : List Bool) (h : l.length = 64) : (Try.prog.info? 117).map (·.size) = some (bC l).size := by rw [bC_size, h]; exact Try.size117

set_option maxHeartbeats 3200000 in
set_option maxRecDepth 100000 in
theorem refRow (s : Nat) (w : World) (hs : s < 18446744073709551616) : Calls Try.prog 68 #[.int .u64 s] w fun e w' => e = .returned (.agg (bC (rowB s))) ∧ Kept [] w w' := by
  go_enter Try.func68, Try.ntmps68
  go_wp2_with fail
  go_loopw [0, 4] (fun sv iv wr => ∃ k : Nat, k ≤ 64 ∧ sv = .int .u64 (s / 2 ^ k : Nat) ∧ iv = .int .i64 k ∧ Hid (Blk wr w.heap.size 117 (bC (List.replicate 64 false))) ∧ Hid (Blk wr (w.heap.size + 1) 117 (bC (rowK s k))) ∧ Hid (Kept [] w wr)) (fun _ i _ => 64 - (intOf i).toNat)
  case atStart => exact ⟨0, by omega, by simp, rfl, (Blk.new w 117 (bC (List.replicate 64 false))).alloc _, by rw [rowK_zero]; exact Blk.newAt (by simp) 117 (bC (List.replicate 64 false)), ((Kept.refl _ _).alloc _).alloc _⟩
  case round =>
    obtain ⟨k, hk, rfl, rfl, HB0, HB1, HK⟩ := hrel
    by_cases hlt : k < 64
    · have hfr := HB1.out.frozen
      have hlt1 := HB1.out.lt
      have hc1 : wr.cell? ⟨w.heap.size + 1, k, none⟩ = some (.bool ((rowK s k).getD k false)) := by rw [HB1.out.cell, bC_get _ _ (by rw [rowK_len]; exact hlt)]
      have hyb : s / 2 ^ k < 18446744073709551616 := Nat.lt_of_le_of_lt (Nat.div_le_self _ _) hs
      have htb : s.testBit k = decide (s / 2 ^ k % 2 = 1) := Nat.testBit_eq_decide_div_mod_eq
      have HST := Lib.hid (rowK_step s k)
      have HD : Hid (s / 2 ^ (k + 1) = s / 2 ^ k / 2) := by show _ = _; rw [Nat.pow_succ, ← Nat.div_div_eq_div_mul]
      generalize s.testBit k = tb at *
      generalize s / 2 ^ k = y at *
      have hb : (((y : Int) % 2) == 1) = tb := by rw [htb, Bool.eq_iff_iff]; simp; omega
      have hi0 : (0 : Int) ≤ (k : Int) := by omega
      have hi1 : (k : Int) < 64 := by omega
      clear htb
      go_wp2_with fail
      go_roundw
      case rel =>
        refine ⟨k + 1, by omega, by rw [HD.out]; go_num, by go_num, ?_, ?_, HK.out.setCell (.inr (by simp)) _⟩
        · exact HB0.out.far (by simp) _
        · rw [← HST.out, ← bC_set]; exact HB1.out.set _ _
      case measure => simp [intOf]; omega
    · obtain rfl : k = 64 := by omega
      rw [rowK_done] at HB1
      go_wp2_with (first
        | refine wpList_load_row rfl 117 _ rfl (w.heap.size + 1) rfl 117 (bC (rowB s)) (0, 0) _ HB1.out Try.underlying117 rfl (row_size _ (rowB_len s)) ?_
        | refine wpList_store_row rfl 117 _ _ rfl w.heap.size (bC (rowB s)) rfl rfl 117 (bC (List.replicate 64 false)) HB0.out (row_size _ (rowB_len s)) (by rw [bC_size, bC_size, rowB_len]; rfl) (bC_one _) ?_)
      refine bodyPost_ret (v := .agg (bC (rowB s))) (results_cell_row rfl _ _ w.heap.size 117 _ (0, 0) _ rfl (HB0.out.setRow _) Try.underlying117 rfl (row_size _ (rowB_len s))) rfl ⟨rfl, HK.out.setRow (.inr (Nat.le_refl _)) _⟩

set_option maxHeartbeats 3200000 in
set_option maxRecDepth 100000 in
theorem refSet (f : List Bool) (w : World) (hf : f.length = 64) : Calls Try.prog 69 #[.agg (bC f)] w fun e w' => e = .returned (.int .u64 (setB f : Nat)) ∧ Kept [] w w' := by
  have HF := Lib.hid hf
  clear hf
  go_enter Try.func69, Try.ntmps69
  go_wp2_with fail
  have HB : Hid (Blk (w.alloc (.cells (bC f) 117)) w.heap.size 117 (bC f)) := Blk.new _ _ _
  go_loop [3, 4] (fun sv iv => ∃ k : Nat, k ≤ 64 ∧ sv = .int .u64 (setB (f.drop k) : Nat) ∧ iv = .int .i64 ((k : Int) - 1)) (fun _ i => ((intOf i) + 1).toNat)
  case atStart => exact ⟨64, by omega, by rw [List.drop_of_length_le (by rw [HF.out]; omega)]; rfl, rfl⟩
  case round =>
    obtain ⟨k, hk, rfl, rfl⟩ := hrel
    rcases k with _ | m
    · have h0 : (((0 : Nat) : Int) - 1) = -1 := rfl
      rw [h0]
      rw [List.drop_zero]
      clear h0
      go_wp2_with fail
      go_ret
      exact ⟨rfl, (Kept.refl _ _).alloc _⟩
    · have hml : m < f.length := by rw [HF.out]; omega
      have hsn : setB (f.drop m) = 2 * setB (f.drop (m + 1)) + (f.getD m false).toNat := by
        rw [List.drop_eq_getElem_cons hml, setB]
        simp [List.getD, hml]
      have hlt : setB (f.drop (m + 1)) < 9223372036854775808 := by
        have h1 := setB_lt (f.drop (m + 1))
        rw [List.length_drop, HF.out] at h1
        exact Nat.lt_of_lt_of_le h1 (Nat.pow_le_pow_right (n := 2) (j := 63) (by omega) (by omega))
      have hc1 : (w.alloc (.cells (bC f) 117)).cell? ⟨w.heap.size, m, none⟩ = some (.bool (f.getD m false)) := by rw [HB.out.cell, bC_get _ _ hml]
      have HSN := Lib.hid hsn
      generalize setB (f.drop (m + 1)) = y at *
      generalize f.getD m false = tb at *
      have hij : (((m + 1 : Nat) : Int) - 1) = (m : Int) := by omega
      rw [hij]
      have hi0 : (0 : Int) ≤ (m : Int) := by omega
      have hi1 : (m : Int) < 64 := by omega
      have hy2 : (0 : Int) ≤ (y : Int) * 2 := by omega
      have hy3 : (y : Int) * 2 < 18446744073709551615 := by omega
      clear hsn hml hij
      cases tb
      · go_wp2_with fail
        go_round
        case rel => exact ⟨m, by omega, by rw [HSN.out]; simp only [Bool.toNat_false, Nat.add_zero]; rw [Nat.mul_comm]; go_num, rfl⟩
        case measure => simp [intOf]
      · go_wp2_with fail
        go_round
        case rel => exact ⟨m, by omega, by rw [HSN.out]; simp only [Bool.toNat_true]; rw [Nat.mul_comm]; go_num, rfl⟩
        case measure => simp [intOf]

set_option maxHeartbeats 3200000 in
set_option maxRecDepth 100000 in
theorem refPut1 (s i : Nat) (w : World) (hs : s < 18446744073709551616) (hi : i < 64) : Calls Try.prog 40 #[.int .u64 s, .int .i64 i, .bool true] w fun e w' => e = .returned (.int .u64 (s ||| 2 ^ i : Nat)) ∧ Kept [] w w' := by
  have HRW := Lib.hid (fun w => refRow s w hs)
  have HST : Hid (∀ w, Calls Try.prog 69 #[.agg (bC ((rowB s).set i true))] w fun e w' => e = .returned (.int .u64 (s ||| 2 ^ i : Nat)) ∧ Kept [] w w') := fun w => by
    have := refSet ((rowB s).set i true) w (by rw [List.length_set, rowB_len])
    rw [setB_put s i hs hi] at this
    exact this
  generalize s ||| 2 ^ i = r at *
  have hrl := rowB_len s
  generalize rowB s = row at *
  have HRL := Lib.hid hrl
  have HSS := Lib.hid (bC_set row i true)
  have hi0 : (0 : Int) ≤ (i : Int) := by omega
  have hi1 : (i : Int) < 64 := by omega
  clear hrl
  go_enter Try.func40, Try.ntmps40
  go_wp2_with fail
  refine (HRW.out _).mono ?_
  rintro e w1 ⟨rfl, hk1⟩
  have HK1 := Lib.hid hk1
  clear hk1
  go_wp2_with (first | (refine wpList_store_blk rfl 117 _ _ rfl w1.heap.size (bC row) rfl rfl 117 (bC (List.replicate 64 false)) (Blk.new w1 117 (bC (List.replicate 64 false))) (row_size _ HRL.out) (by rw [bC_size, bC_size, HRL.out]; rfl) (bC_one _) ?_; intro W2 hB2 hK2; have HB2 := Lib.hid hB2; have HK2 := Lib.hid ((HK1.out.alloc _).trans' hK2 (fun k hk => .inr (by have := HK1.out.size; simp at hk; omega))); have hc2 : W2.cell? ⟨w1.heap.size, i, none⟩ = some (.bool (row.getD i false)) := (by rw [hB2.cell, bC_get _ _ (by rw [HRL.out]; exact hi)]); have hf2 := hB2.frozen; have hl2 := hB2.lt; clear hB2 hK2) | (have HB3 : Hid (Blk (W2.setCell ⟨w1.heap.size, i, none⟩ (.bool true)) w1.heap.size 117 (bC (row.set i true))) := (by show Blk _ _ _ _; rw [← HSS.out]; exact HB2.out.set _ _); refine wpList_load_row rfl 117 _ rfl w1.heap.size rfl 117 (bC (row.set i true)) (0, 0) _ HB3.out Try.underlying117 rfl (row_size _ (by rw [List.length_set]; exact HRL.out)) ?_))
  refine (HST.out _).mono ?_
  rintro e w3 ⟨rfl, hk3⟩
  have HK3 := Lib.hid ((HK2.out.setCell (.inr HK1.out.size) _).trans hk3)
  clear hk3
  go_wp2_with fail
  go_ret
  exact ⟨rfl, HK3.out⟩

end Go.Proofs.Ytccodklfplfleaa

