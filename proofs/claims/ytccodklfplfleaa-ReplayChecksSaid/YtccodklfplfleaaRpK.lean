/- Package replay: the next call (next), walked. -/
import Derived.Test.YtccodklfplfleaaRpH
namespace Go.Proofs.Ytccodklfplfleaa
open Go.RowKit

theorem nextD_at {p : List Dd} {i : Nat} {x : Dd} (h : p[i]? = some x) : nextD p i = if x.op ≠ 1 then (x, i + 1) else nextD p (i + 1) := by
  obtain ⟨hlt, he⟩ := List.getElem?_eq_some_iff.1 h
  unfold nextD
  rw [List.drop_eq_getElem_cons hlt, he, nextL]
theorem nextD_end (p : List Dd) : nextD p p.length = (⟨3, 0, 0, 0, 0, 0, false⟩, p.length) := by
  unfold nextD
  rw [List.drop_length]; rfl

set_option maxHeartbeats 6400000 in
set_option maxRecDepth 100000 in
theorem rpnext_any {w : World} {b : AcA} {d : Du} {a : Acc} {K : Array Value} (h : AccAt w b d a K) (hw : AWhole d a) (hd : checkU d = 0) (hu : IsU w d b.A b.n b.B b.m) {t : Nat} (ht : t < a.T.length) (hk : (a.pl t).taken = true) :
    Calls Try.prog 79 #[.pointer (some ⟨b.g, 0, none⟩), .pointer (some (tA b t))] w fun y w' => y = .returned (.tuple #[.agg (ddC (nextA d a t).1), .int .i64 (nextA d a t).2]) ∧ Kept [] w w' := by
  have hx := hw.at_ ht
  obtain ⟨q1, q2⟩ := hx.prog hk
  obtain ⟨k, hkk⟩ : ∃ k : Nat, (a.th t).prog = k := ⟨(a.th t).prog.toNat, by omega⟩
  have hkl : k < d.progs.length := by omega
  obtain ⟨p, bp, op, Ai, ni, ci, hA, hp, hbp, hpc, hrd⟩ := hu.1.at_ hkl
  have hgp : d.progs.getD k [] = p := by rw [List.getD_eq_getElem?_getD, hp]; rfl
  have hpl : p.length ≤ 256 := (progs_good hd p (List.mem_of_getElem? hp)).1
  have hpcl : (a.th t).pc ≤ p.length := by
    have := hx.pc
    rw [hkk, Int.toNat_natCast, hgp] at this
    omega
  have hnx : nextA d a t = nextD p (a.th t).pc := by unfold nextA; rw [hkk, Int.toNat_natCast, hgp]
  rw [hnx]
  have hni := hrd.len
  subst hni
  have hun := hu.1.len
  have h0 : Kept [] w (w.alloc (.cells #[.int .i64 0, .int .i64 0, .int .i64 0, .int .i64 0, .int .u64 0, .int .u64 0, .bool false] 47)) := (Kept.refl _ _).alloc _
  have hB := Blk.new w 47 #[.int .i64 0, .int .i64 0, .int .i64 0, .int .i64 0, .int .u64 0, .int .u64 0, .bool false]
  obtain ⟨wb, hwb⟩ : ∃ wb, w.alloc (.cells #[.int .i64 0, .int .i64 0, .int .i64 0, .int .i64 0, .int .u64 0, .int .u64 0, .bool false] 47) = wb := ⟨_, rfl⟩
  rw [hwb] at h0 hB
  have HB := Lib.hid hB
  have HK0 := Lib.hid h0
  have HRD : Hid (∀ W, Kept [] wb W → ReadsD W Ai p.length p) := fun W hk => hrd.old (h0.trans hk)
  have HF : Hid (∀ W, Kept [] wb W → ((W.cell? ⟨b.g, 9, none⟩ = some (.pointer (some ⟨b.gr, 0, none⟩)) ∧ W.cell? ⟨b.g, 10, none⟩ = some (.slice b.AT a.T.length b.cT) ∧ W.cell? ⟨b.g, 11, none⟩ = some (.slice b.AH a.held.length b.cH) ∧ b.g < W.heap.size) ∧ W.cell? ⟨b.g, 7, none⟩ = some (.slice (some ⟨bp, op, none⟩) d.progs.length b.c)) ∧ W.cell? ⟨gT b, t * 31, none⟩ = some (.int .i64 k) ∧ W.cell? ⟨gT b, t * 31 + 1, none⟩ = some (.int .i64 (a.th t).pc) ∧ W.cell? ⟨bp, op + k, none⟩ = some (.slice Ai p.length ci) ∧ gT b < W.heap.size ∧ bp < W.heap.size) := fun W hk => by
    have h1 := AccAt.old h (h0.trans hk)
    have h2 := AccAt.cells h1
    have h3 := AccAt.tf h1 ht
    rw [hkk] at h3
    exact ⟨⟨AccAt.fact h W (h0.trans hk), by rw [← hA, ← hun]; exact h2.2.2.1⟩, h3.1.1, h3.1.2.1, (h0.trans hk).cell_some hpc (by simp), h3.2.2.2, Nat.lt_of_lt_of_le hbp (h0.trans hk).size⟩
  have HNX := Lib.hid (fun i x (hh : p[i]? = some x) => nextD_at hh)
  have HEND := Lib.hid (nextD_end p)
  have HPL : Hid (∀ i, i < p.length → ∃ x, p[i]? = some x) := fun i hi => ⟨_, List.getElem?_eq_getElem hi⟩
  have HAT : Hid (∀ W, Kept [] wb W → ∀ i, i < p.length → ∃ (x : Dd) (bb o : Nat), Ai = some ⟨bb, o, none⟩ ∧ p[i]? = some x ∧ bb < W.heap.size ∧ (W.cell? ⟨bb, o + i * 7, none⟩ = some (.int .i64 x.op) ∧ W.cell? ⟨bb, o + i * 7 + 1, none⟩ = some (.int .i64 x.a) ∧ W.cell? ⟨bb, o + i * 7 + 2, none⟩ = some (.int .i64 x.b) ∧ W.cell? ⟨bb, o + i * 7 + 3, none⟩ = some (.int .i64 x.r) ∧ W.cell? ⟨bb, o + i * 7 + 4, none⟩ = some (.int .u64 x.n) ∧ W.cell? ⟨bb, o + i * 7 + 5, none⟩ = some (.int .u64 x.mask) ∧ W.cell? ⟨bb, o + i * 7 + 6, none⟩ = some (.bool x.loose))) := fun W hk i hi => by
    obtain ⟨x, bb, o, e, hx, hb, hc⟩ := (HRD.out W hk).at_ hi
    exact ⟨x, bb, o, e, hx, hb, hc⟩
  have hk0 : (0 : Int) ≤ (k : Int) := by omega
  have hk1 : (k : Int) < (d.progs.length : Int) := by omega
  obtain ⟨V, hV⟩ : ∃ V, nextD p (a.th t).pc = V := ⟨_, rfl⟩
  have HV := Lib.hid hV
  rw [hV]
  unfold tA
  generalize (a.th t).pc = pc at *
  generalize hnl : p.length = nl at *
  have HNL := Lib.hid hnl
  generalize d.progs.length = np at *
  clear h hw hd hu hx q1 q2 hkk hkl hA hp hbp hpc hrd hgp hnx hun hV h0 hB hnl
  go_enter Try.func79, Try.ntmps79
  go_wp2_with fail
  try rw [hwb]
  (refine wp_region_phases (n := 12) (listed := #[false, false, false, false, false, false, false, false, false, false, false, false]) (by kernel_rfl) (by rfl) (by rfl) ?_)
  (refine wpAny_phase (fun W => Kept [] wb W) [(0, false), (1, false), (2, false), (3, false), (4, false), (5, false), (6, false), (7, false), (8, false), (9, false), (10, false), (11, false)] (f := 0) (listed := #[false, false, false, false, false, false, false, false, false, false, false, false]) (listed' := #[true, true, true, true, true, true, true, true, true, true, true, true]) (by kernel_rfl) (by kernel_rfl) (by rfl) (Kept.refl [] _).drew (fun d _ _ _ _ h => by cases d <;> exact h) ?_)
  iterate 12 (refine wpQL_take (v := ?_) rfl (by rfl) ?_ ?_; rotate_left; (focus ((intro W hC; have hF := HF.out W hC; go_simp); try (with_reducible rfl))); (try dsimp only [Act.put]); (try simp only [List.setIfInBounds_toArray, List.set_cons_zero, List.set_cons_succ]))
  (refine wpQL_nil ?_)
  (intro wq hq)
  (refine wpAny_done (by kernel_rfl) ?_ _)
  have hf := HF.out _ hq
  have HQ := Lib.hid hq
  clear hq
  go_wp2_with fail
  go_loopw [7] (fun iv wr => ∃ i : Nat, i ≤ nl ∧ iv = .int .i64 i ∧ Hid (nextD p i = V) ∧ wq = wr) (fun i _ => nl - (intOf i).toNat)
  case atStart => exact ⟨pc, by omega, rfl, HV.out, rfl⟩
  case round =>
    obtain ⟨i, hi, rfl, HN, rfl⟩ := hrel
    by_cases hlt : i < nl
    · obtain ⟨x, bb, o, rfl, hx, hb, hc⟩ := HAT.out _ HQ.out i hlt
      have hnx := HNX.out i x hx
      rw [HN.out] at hnx
      have hin : (i : Int) < (nl : Int) := by omega
      have hi0 : (0 : Int) ≤ (i : Int) := by omega
      clear hx
      by_cases h1 : x.op = 1
      · have e1 : (x.op != 1) = false := by simp [h1]
        rw [if_neg (by simp [h1])] at hnx
        have HX := Lib.hid hnx.symm
        clear hnx h1
        go_wp2_with fail
        go_roundw
        case rel => exact ⟨i + 1, by omega, by go_num, HX.out, trivial⟩
        case measure => simp [intOf]; omega
      · have e1 : (x.op != 1) = true := bne_iff_ne.2 h1
        rw [if_pos h1] at hnx
        have HX := Lib.hid hnx
        clear hnx h1
        have hB1 := HB.out.kept HQ.out (by simp)
        have q0 : wq.cell? ⟨w.heap.size, 0, none⟩ = some (.int .i64 0) := hB1.cell 0
        have q1 : wq.cell? ⟨w.heap.size, 1, none⟩ = some (.int .i64 0) := hB1.cell 1
        have q2 : wq.cell? ⟨w.heap.size, 2, none⟩ = some (.int .i64 0) := hB1.cell 2
        have q3 : wq.cell? ⟨w.heap.size, 3, none⟩ = some (.int .i64 0) := hB1.cell 3
        have q4 : wq.cell? ⟨w.heap.size, 4, none⟩ = some (.int .u64 0) := hB1.cell 4
        have q5 : wq.cell? ⟨w.heap.size, 5, none⟩ = some (.int .u64 0) := hB1.cell 5
        have q6 : wq.cell? ⟨w.heap.size, 6, none⟩ = some (.bool false) := hB1.cell 6
        have q7 : ∀ i, wq.frozen? ⟨w.heap.size, i, none⟩ = false := hB1.frozen
        have ql := hB1.lt
        have hB9 : Blk (((((((wq.setCell ⟨w.heap.size, 0, none⟩ (.int .i64 x.op)).setCell ⟨w.heap.size, 1, none⟩ (.int .i64 x.a)).setCell ⟨w.heap.size, 2, none⟩ (.int .i64 x.b)).setCell ⟨w.heap.size, 3, none⟩ (.int .i64 x.r)).setCell ⟨w.heap.size, 4, none⟩ (.int .u64 x.n)).setCell ⟨w.heap.size, 5, none⟩ (.int .u64 x.mask)).setCell ⟨w.heap.size, 6, none⟩ (.bool x.loose)) w.heap.size 47 #[.int .i64 x.op, .int .i64 x.a, .int .i64 x.b, .int .i64 x.r, .int .u64 x.n, .int .u64 x.mask, .bool x.loose] := (((((((hB1.set 0 (.int .i64 x.op)).set 1 (.int .i64 x.a)).set 2 (.int .i64 x.b)).set 3 (.int .i64 x.r)).set 4 (.int .u64 x.n)).set 5 (.int .u64 x.mask)).set 6 (.bool x.loose))
        have hK9 : Kept [] w (((((((wq.setCell ⟨w.heap.size, 0, none⟩ (.int .i64 x.op)).setCell ⟨w.heap.size, 1, none⟩ (.int .i64 x.a)).setCell ⟨w.heap.size, 2, none⟩ (.int .i64 x.b)).setCell ⟨w.heap.size, 3, none⟩ (.int .i64 x.r)).setCell ⟨w.heap.size, 4, none⟩ (.int .u64 x.n)).setCell ⟨w.heap.size, 5, none⟩ (.int .u64 x.mask)).setCell ⟨w.heap.size, 6, none⟩ (.bool x.loose)) := ((((((((HK0.out.trans HQ.out).setCell (.inr (Nat.le_refl _)) _).setCell (.inr (Nat.le_refl _)) _).setCell (.inr (Nat.le_refl _)) _).setCell (.inr (Nat.le_refl _)) _).setCell (.inr (Nat.le_refl _)) _).setCell (.inr (Nat.le_refl _)) _).setCell (.inr (Nat.le_refl _)) _)
        go_wp2_with fail
        generalize (((((((wq.setCell ⟨w.heap.size, 0, none⟩ (.int .i64 x.op)).setCell ⟨w.heap.size, 1, none⟩ (.int .i64 x.a)).setCell ⟨w.heap.size, 2, none⟩ (.int .i64 x.b)).setCell ⟨w.heap.size, 3, none⟩ (.int .i64 x.r)).setCell ⟨w.heap.size, 4, none⟩ (.int .u64 x.n)).setCell ⟨w.heap.size, 5, none⟩ (.int .u64 x.mask)).setCell ⟨w.heap.size, 6, none⟩ (.bool x.loose)) = w9 at *
        have r0 : w9.cell? ⟨w.heap.size, 0, none⟩ = some (.int .i64 x.op) := hB9.cell 0
        have r1 : w9.cell? ⟨w.heap.size, 1, none⟩ = some (.int .i64 x.a) := hB9.cell 1
        have r2 : w9.cell? ⟨w.heap.size, 2, none⟩ = some (.int .i64 x.b) := hB9.cell 2
        have r3 : w9.cell? ⟨w.heap.size, 3, none⟩ = some (.int .i64 x.r) := hB9.cell 3
        have r4 : w9.cell? ⟨w.heap.size, 4, none⟩ = some (.int .u64 x.n) := hB9.cell 4
        have r5 : w9.cell? ⟨w.heap.size, 5, none⟩ = some (.int .u64 x.mask) := hB9.cell 5
        have r6 : w9.cell? ⟨w.heap.size, 6, none⟩ = some (.bool x.loose) := hB9.cell 6
        (try simp only [Exit.inBlock, Exit.then])
        refine bodyPost_ret (v := .tuple #[.agg #[.int .i64 x.op, .int .i64 x.a, .int .i64 x.b, .int .i64 x.r, .int .u64 x.n, .int .u64 x.mask, .bool x.loose], .int .i64 ((i : Int) + 1)]) (by rw [results_cell_tmp rfl]; go_simp) rfl ⟨?_, hK9⟩
        rw [HX.out]; simp
    · obtain rfl : i = nl := by omega
      have HX := Lib.hid HEND.out
      rw [HN.out] at HX
      have hB1 := HB.out.kept HQ.out (by simp)
      have q0 : wq.cell? ⟨w.heap.size, 0, none⟩ = some (.int .i64 0) := hB1.cell 0
      have q1 : wq.cell? ⟨w.heap.size, 1, none⟩ = some (.int .i64 0) := hB1.cell 1
      have q2 : wq.cell? ⟨w.heap.size, 2, none⟩ = some (.int .i64 0) := hB1.cell 2
      have q3 : wq.cell? ⟨w.heap.size, 3, none⟩ = some (.int .i64 0) := hB1.cell 3
      have q4 : wq.cell? ⟨w.heap.size, 4, none⟩ = some (.int .u64 0) := hB1.cell 4
      have q5 : wq.cell? ⟨w.heap.size, 5, none⟩ = some (.int .u64 0) := hB1.cell 5
      have q6 : wq.cell? ⟨w.heap.size, 6, none⟩ = some (.bool false) := hB1.cell 6
      have q7 : ∀ i, wq.frozen? ⟨w.heap.size, i, none⟩ = false := hB1.frozen
      have ql := hB1.lt
      have hB9 : Blk (((((((wq.setCell ⟨w.heap.size, 0, none⟩ (.int .i64 3)).setCell ⟨w.heap.size, 1, none⟩ (.int .i64 0)).setCell ⟨w.heap.size, 2, none⟩ (.int .i64 0)).setCell ⟨w.heap.size, 3, none⟩ (.int .i64 0)).setCell ⟨w.heap.size, 4, none⟩ (.int .u64 0)).setCell ⟨w.heap.size, 5, none⟩ (.int .u64 0)).setCell ⟨w.heap.size, 6, none⟩ (.bool false)) w.heap.size 47 #[.int .i64 3, .int .i64 0, .int .i64 0, .int .i64 0, .int .u64 0, .int .u64 0, .bool false] := (((((((hB1.set 0 (.int .i64 3)).set 1 (.int .i64 0)).set 2 (.int .i64 0)).set 3 (.int .i64 0)).set 4 (.int .u64 0)).set 5 (.int .u64 0)).set 6 (.bool false))
      have hK9 : Kept [] w (((((((wq.setCell ⟨w.heap.size, 0, none⟩ (.int .i64 3)).setCell ⟨w.heap.size, 1, none⟩ (.int .i64 0)).setCell ⟨w.heap.size, 2, none⟩ (.int .i64 0)).setCell ⟨w.heap.size, 3, none⟩ (.int .i64 0)).setCell ⟨w.heap.size, 4, none⟩ (.int .u64 0)).setCell ⟨w.heap.size, 5, none⟩ (.int .u64 0)).setCell ⟨w.heap.size, 6, none⟩ (.bool false)) := ((((((((HK0.out.trans HQ.out).setCell (.inr (Nat.le_refl _)) _).setCell (.inr (Nat.le_refl _)) _).setCell (.inr (Nat.le_refl _)) _).setCell (.inr (Nat.le_refl _)) _).setCell (.inr (Nat.le_refl _)) _).setCell (.inr (Nat.le_refl _)) _).setCell (.inr (Nat.le_refl _)) _)
      go_wp2_with fail
      generalize (((((((wq.setCell ⟨w.heap.size, 0, none⟩ (.int .i64 3)).setCell ⟨w.heap.size, 1, none⟩ (.int .i64 0)).setCell ⟨w.heap.size, 2, none⟩ (.int .i64 0)).setCell ⟨w.heap.size, 3, none⟩ (.int .i64 0)).setCell ⟨w.heap.size, 4, none⟩ (.int .u64 0)).setCell ⟨w.heap.size, 5, none⟩ (.int .u64 0)).setCell ⟨w.heap.size, 6, none⟩ (.bool false)) = w9 at *
      have r0 : w9.cell? ⟨w.heap.size, 0, none⟩ = some (.int .i64 3) := hB9.cell 0
      have r1 : w9.cell? ⟨w.heap.size, 1, none⟩ = some (.int .i64 0) := hB9.cell 1
      have r2 : w9.cell? ⟨w.heap.size, 2, none⟩ = some (.int .i64 0) := hB9.cell 2
      have r3 : w9.cell? ⟨w.heap.size, 3, none⟩ = some (.int .i64 0) := hB9.cell 3
      have r4 : w9.cell? ⟨w.heap.size, 4, none⟩ = some (.int .u64 0) := hB9.cell 4
      have r5 : w9.cell? ⟨w.heap.size, 5, none⟩ = some (.int .u64 0) := hB9.cell 5
      have r6 : w9.cell? ⟨w.heap.size, 6, none⟩ = some (.bool false) := hB9.cell 6
      (try simp only [Exit.inBlock, Exit.then])
      refine bodyPost_ret (v := .tuple #[.agg #[.int .i64 3, .int .i64 0, .int .i64 0, .int .i64 0, .int .u64 0, .int .u64 0, .bool false], .int .i64 (i : Int)]) (by rw [results_cell_tmp rfl]; go_simp) rfl ⟨?_, hK9⟩
      rw [HX.out]; simp

end Go.Proofs.Ytccodklfplfleaa
