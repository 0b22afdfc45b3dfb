/- The document's account (layer 35): the next call (next), walked; A slice made anew, of elements of one cell: it grows by appends. No program in sight; The document's Has of a set (layer 1), and its list of processors (layer 22); walked. -/
import Derived.Test.YtccodklfplfleaaRqO
import Derived.Test.YtccodklfplfleaaP04
import Derived.Test.YtccodklfplfleaaP00
import Derived.Test.YtccodklfplfleaaP10

/- The document's account (layer 35): the next call (next), walked. -/
namespace Go.Proofs.Ytccodklfplfleaa
open Go.RowKit

theorem nextD_atR {p : List Dd} {i : Nat} {x : Dd} (h : p[i]? = some x) : nextD p i = if x.op ≠ 1 then (x, i + 1) else nextD p (i + 1) := by
  obtain ⟨hlt, he⟩ := List.getElem?_eq_some_iff.1 h
  unfold nextD
  rw [List.drop_eq_getElem_cons hlt, he, nextL]
theorem nextD_endR (p : List Dd) : nextD p p.length = (⟨3, 0, 0, 0, 0, 0, false⟩, p.length) := by
  unfold nextD
  rw [List.drop_length]; rfl

set_option maxHeartbeats 6400000 in
set_option maxRecDepth 100000 in
theorem R35next_any {w : World} {b : RqA} {d : Du} {a : Acc} (h : RqAt w b d a) (hw : AWhole d a) (hd : checkU d = 0) (hu : IsU w d b.A b.n b.B b.m) {t : Nat} (ht : t < a.T.length) (hk : (a.pl t).taken = true) :
    Calls Try.prog 30 #[.pointer (some ⟨b.g, 0, none⟩), .int .i64 t] w fun y w' => y = .returned (.tuple #[.agg (ddR (nextA d a t).1), .int .i64 (nextA d a t).2]) ∧ Kept [] w w' := by
  have hx := hw.at_ ht
  obtain ⟨q1, q2⟩ := hx.prog hk
  obtain ⟨k, hkk⟩ : ∃ k : Nat, (a.th t).prog = k := ⟨(a.th t).prog.toNat, by omega⟩
  have hkl : k < d.progs.length := by omega
  obtain ⟨p, bp, op, Ai, ni, ci, hA, hp, hbp, hpc, hrd⟩ := hu.1.at_ hkl
  have hgp : d.progs.getD k [] = p := by rw [List.getD_eq_getElem?_getD, hp]; rfl
  have hpl : p.length ≤ 256 := (progs_good hd p (List.mem_of_getElem? hp)).1
  have hpcl : (a.th t).pc ≤ p.length := by
    have := hx.pc
    rw [hkk, Int.toNat_natCast, hgp] at this
    omega
  have hnx : nextA d a t = nextD p (a.th t).pc := by unfold nextA; rw [hkk, Int.toNat_natCast, hgp]
  rw [hnx]
  have hni := hrd.len
  subst hni
  have hun := hu.1.len
  have h0 : Kept [] w (w.alloc (.cells #[.int .i64 0, .int .i64 0, .int .i64 0, .int .i64 0, .int .u64 0, .int .u64 0, .bool false] 47)) := (Kept.refl _ _).alloc _
  have hB := Blk.new w 47 #[.int .i64 0, .int .i64 0, .int .i64 0, .int .i64 0, .int .u64 0, .int .u64 0, .bool false]
  obtain ⟨wb, hwb⟩ : ∃ wb, w.alloc (.cells #[.int .i64 0, .int .i64 0, .int .i64 0, .int .i64 0, .int .u64 0, .int .u64 0, .bool false] 47) = wb := ⟨_, rfl⟩
  rw [hwb] at h0 hB
  have HB := Lib.hid hB
  have HK0 := Lib.hid h0
  have HRD : Hid (∀ W, Kept [] wb W → ReadsD W Ai p.length p) := fun W hk => hrd.old (h0.trans hk)
  have HF : Hid (∀ W, Kept [] wb W → ((W.cell? ⟨b.g, 10, none⟩ = some (.slice (some ⟨b.gT, 0, none⟩) a.T.length a.T.length) ∧ b.g < W.heap.size) ∧ W.cell? ⟨b.g, 7, none⟩ = some (.slice (some ⟨bp, op, none⟩) d.progs.length b.c)) ∧ W.cell? ⟨b.gT, t * 31, none⟩ = some (.int .i64 k) ∧ W.cell? ⟨b.gT, t * 31 + 1, none⟩ = some (.int .i64 (a.th t).pc) ∧ W.cell? ⟨bp, op + k, none⟩ = some (.slice Ai p.length ci) ∧ b.gT < W.heap.size ∧ bp < W.heap.size) := fun W hk => by
    have h1 := RqAt.old h (h0.trans hk)
    have h2 := RqAt.cells h1
    have h3 := RqAt.tf h1 ht
    rw [hkk] at h3
    exact ⟨⟨⟨h2.2.2.2.2.1, h2.2.2.2.2.2.2⟩, by rw [← hA, ← hun]; exact h2.2.2.1⟩, h3.1.1, h3.1.2.1, (h0.trans hk).cell_some hpc (by simp), h3.2.2, Nat.lt_of_lt_of_le hbp (h0.trans hk).size⟩
  have HNX := Lib.hid (fun i x (hh : p[i]? = some x) => nextD_atR hh)
  have HEND := Lib.hid (nextD_endR p)
  have HPL : Hid (∀ i, i < p.length → ∃ x, p[i]? = some x) := fun i hi => ⟨_, List.getElem?_eq_getElem hi⟩
  have HAT : Hid (∀ W, Kept [] wb W → ∀ i, i < p.length → ∃ (x : Dd) (bb o : Nat), Ai = some ⟨bb, o, none⟩ ∧ p[i]? = some x ∧ bb < W.heap.size ∧ (W.cell? ⟨bb, o + i * 7, none⟩ = some (.int .i64 x.op) ∧ W.cell? ⟨bb, o + i * 7 + 1, none⟩ = some (.int .i64 x.a) ∧ W.cell? ⟨bb, o + i * 7 + 2, none⟩ = some (.int .i64 x.b) ∧ W.cell? ⟨bb, o + i * 7 + 3, none⟩ = some (.int .i64 x.r) ∧ W.cell? ⟨bb, o + i * 7 + 4, none⟩ = some (.int .u64 x.n) ∧ W.cell? ⟨bb, o + i * 7 + 5, none⟩ = some (.int .u64 x.mask) ∧ W.cell? ⟨bb, o + i * 7 + 6, none⟩ = some (.bool x.loose))) := fun W hk i hi => by
    obtain ⟨x, bb, o, e, hx, hb, hc⟩ := (HRD.out W hk).at_ hi
    exact ⟨x, bb, o, e, hx, hb, hc⟩
  have hk0 : (0 : Int) ≤ (k : Int) := by omega
  have hk1 : (k : Int) < (d.progs.length : Int) := by omega
  obtain ⟨V, hV⟩ : ∃ V, nextD p (a.th t).pc = V := ⟨_, rfl⟩
  have HV := Lib.hid hV
  rw [hV]
  have ht0 : (0 : Int) ≤ (t : Int) := by omega
  have ht1 : (t : Int) < (a.T.length : Int) := by omega
  generalize (a.th t).pc = pc at *
  generalize hnl : p.length = nl at *
  have HNL := Lib.hid hnl
  generalize d.progs.length = np at *
  clear h hw hd hu hx q1 q2 hkk hkl hA hp hbp hpc hrd hgp hnx hun hV h0 hB hnl
  go_enter Try.func30, Try.ntmps30
  go_wp2_with fail
  try rw [hwb]
  (refine wp_region_phases (n := 16) (listed := #[false, false, false, false, false, false, false, false, false, false, false, false, false, false, false, false]) (by kernel_rfl) (by rfl) (by rfl) ?_)
  (refine wpAny_phase (fun W => Kept [] wb W) [(0, false), (1, false), (2, false), (3, false), (4, false), (5, false), (6, false), (7, false), (8, false), (9, false), (10, false), (11, false), (12, false), (13, false), (14, false), (15, false)] (f := 0) (listed := #[false, false, false, false, false, false, false, false, false, false, false, false, false, false, false, false]) (listed' := #[true, true, true, true, true, true, true, true, true, true, true, true, true, true, true, true]) (by kernel_rfl) (by kernel_rfl) (by rfl) (Kept.refl [] _).drew (fun d _ _ _ _ h => by cases d <;> exact h) ?_)
  iterate 16 (refine wpQL_take (v := ?_) rfl (by rfl) ?_ ?_; rotate_left; (focus ((intro W hC; have hF := HF.out W hC; go_simp); try (with_reducible rfl))); (try dsimp only [Act.put]); (try simp only [List.setIfInBounds_toArray, List.set_cons_zero, List.set_cons_succ]))
  (refine wpQL_nil ?_)
  (intro wq hq)
  (refine wpAny_done (by kernel_rfl) ?_ _)
  have hf := HF.out _ hq
  have HQ := Lib.hid hq
  clear hq
  go_wp2_with fail
  go_loopw [7] (fun iv wr => ∃ i : Nat, i ≤ nl ∧ iv = .int .i64 i ∧ Hid (nextD p i = V) ∧ wq = wr) (fun i _ => nl - (intOf i).toNat)
  case atStart => exact ⟨pc, by omega, rfl, HV.out, rfl⟩
  case round =>
    obtain ⟨i, hi, rfl, HN, rfl⟩ := hrel
    by_cases hlt : i < nl
    · obtain ⟨x, bb, o, rfl, hx, hb, hc⟩ := HAT.out _ HQ.out i hlt
      have hnx := HNX.out i x hx
      rw [HN.out] at hnx
      have hin : (i : Int) < (nl : Int) := by omega
      have hi0 : (0 : Int) ≤ (i : Int) := by omega
      clear hx
      by_cases h1 : x.op = 1
      · have e1 : (x.op != 1) = false := by simp [h1]
        rw [if_neg (by simp [h1])] at hnx
        have HX := Lib.hid hnx.symm
        clear hnx h1
        go_wp2_with fail
        go_roundw
        case rel => exact ⟨i + 1, by omega, by go_num, HX.out, trivial⟩
        case measure => simp [intOf]; omega
      · have e1 : (x.op != 1) = true := bne_iff_ne.2 h1
        rw [if_pos h1] at hnx
        have HX := Lib.hid hnx
        clear hnx h1
        have hB1 := HB.out.kept HQ.out (by simp)
        have q0 : wq.cell? ⟨w.heap.size, 0, none⟩ = some (.int .i64 0) := hB1.cell 0
        have q1 : wq.cell? ⟨w.heap.size, 1, none⟩ = some (.int .i64 0) := hB1.cell 1
        have q2 : wq.cell? ⟨w.heap.size, 2, none⟩ = some (.int .i64 0) := hB1.cell 2
        have q3 : wq.cell? ⟨w.heap.size, 3, none⟩ = some (.int .i64 0) := hB1.cell 3
        have q4 : wq.cell? ⟨w.heap.size, 4, none⟩ = some (.int .u64 0) := hB1.cell 4
        have q5 : wq.cell? ⟨w.heap.size, 5, none⟩ = some (.int .u64 0) := hB1.cell 5
        have q6 : wq.cell? ⟨w.heap.size, 6, none⟩ = some (.bool false) := hB1.cell 6
        have q7 : ∀ i, wq.frozen? ⟨w.heap.size, i, none⟩ = false := hB1.frozen
        have ql := hB1.lt
        have hB9 : Blk (((((((wq.setCell ⟨w.heap.size, 0, none⟩ (.int .i64 x.op)).setCell ⟨w.heap.size, 1, none⟩ (.int .i64 x.a)).setCell ⟨w.heap.size, 2, none⟩ (.int .i64 x.b)).setCell ⟨w.heap.size, 3, none⟩ (.int .i64 x.r)).setCell ⟨w.heap.size, 4, none⟩ (.int .u64 x.n)).setCell ⟨w.heap.size, 5, none⟩ (.int .u64 x.mask)).setCell ⟨w.heap.size, 6, none⟩ (.bool x.loose)) w.heap.size 47 #[.int .i64 x.op, .int .i64 x.a, .int .i64 x.b, .int .i64 x.r, .int .u64 x.n, .int .u64 x.mask, .bool x.loose] := (((((((hB1.set 0 (.int .i64 x.op)).set 1 (.int .i64 x.a)).set 2 (.int .i64 x.b)).set 3 (.int .i64 x.r)).set 4 (.int .u64 x.n)).set 5 (.int .u64 x.mask)).set 6 (.bool x.loose))
        have hK9 : Kept [] w (((((((wq.setCell ⟨w.heap.size, 0, none⟩ (.int .i64 x.op)).setCell ⟨w.heap.size, 1, none⟩ (.int .i64 x.a)).setCell ⟨w.heap.size, 2, none⟩ (.int .i64 x.b)).setCell ⟨w.heap.size, 3, none⟩ (.int .i64 x.r)).setCell ⟨w.heap.size, 4, none⟩ (.int .u64 x.n)).setCell ⟨w.heap.size, 5, none⟩ (.int .u64 x.mask)).setCell ⟨w.heap.size, 6, none⟩ (.bool x.loose)) := ((((((((HK0.out.trans HQ.out).setCell (.inr (Nat.le_refl _)) _).setCell (.inr (Nat.le_refl _)) _).setCell (.inr (Nat.le_refl _)) _).setCell (.inr (Nat.le_refl _)) _).setCell (.inr (Nat.le_refl _)) _).setCell (.inr (Nat.le_refl _)) _).setCell (.inr (Nat.le_refl _)) _)
        go_wp2_with fail
        generalize (((((((wq.setCell ⟨w.heap.size, 0, none⟩ (.int .i64 x.op)).setCell ⟨w.heap.size, 1, none⟩ (.int .i64 x.a)).setCell ⟨w.heap.size, 2, none⟩ (.int .i64 x.b)).setCell ⟨w.heap.size, 3, none⟩ (.int .i64 x.r)).setCell ⟨w.heap.size, 4, none⟩ (.int .u64 x.n)).setCell ⟨w.heap.size, 5, none⟩ (.int .u64 x.mask)).setCell ⟨w.heap.size, 6, none⟩ (.bool x.loose)) = w9 at *
        have r0 : w9.cell? ⟨w.heap.size, 0, none⟩ = some (.int .i64 x.op) := hB9.cell 0
        have r1 : w9.cell? ⟨w.heap.size, 1, none⟩ = some (.int .i64 x.a) := hB9.cell 1
        have r2 : w9.cell? ⟨w.heap.size, 2, none⟩ = some (.int .i64 x.b) := hB9.cell 2
        have r3 : w9.cell? ⟨w.heap.size, 3, none⟩ = some (.int .i64 x.r) := hB9.cell 3
        have r4 : w9.cell? ⟨w.heap.size, 4, none⟩ = some (.int .u64 x.n) := hB9.cell 4
        have r5 : w9.cell? ⟨w.heap.size, 5, none⟩ = some (.int .u64 x.mask) := hB9.cell 5
        have r6 : w9.cell? ⟨w.heap.size, 6, none⟩ = some (.bool x.loose) := hB9.cell 6
        (try simp only [Exit.inBlock, Exit.then])
        refine bodyPost_ret (v := .tuple #[.agg #[.int .i64 x.op, .int .i64 x.a, .int .i64 x.b, .int .i64 x.r, .int .u64 x.n, .int .u64 x.mask, .bool x.loose], .int .i64 ((i : Int) + 1)]) (by rw [results_cell_tmp rfl]; go_simp) rfl ⟨?_, hK9⟩
        rw [HX.out]; simp
    · obtain rfl : i = nl := by omega
      have HX := Lib.hid HEND.out
      rw [HN.out] at HX
      have hB1 := HB.out.kept HQ.out (by simp)
      have q0 : wq.cell? ⟨w.heap.size, 0, none⟩ = some (.int .i64 0) := hB1.cell 0
      have q1 : wq.cell? ⟨w.heap.size, 1, none⟩ = some (.int .i64 0) := hB1.cell 1
      have q2 : wq.cell? ⟨w.heap.size, 2, none⟩ = some (.int .i64 0) := hB1.cell 2
      have q3 : wq.cell? ⟨w.heap.size, 3, none⟩ = some (.int .i64 0) := hB1.cell 3
      have q4 : wq.cell? ⟨w.heap.size, 4, none⟩ = some (.int .u64 0) := hB1.cell 4
      have q5 : wq.cell? ⟨w.heap.size, 5, none⟩ = some (.int .u64 0) := hB1.cell 5
      have q6 : wq.cell? ⟨w.heap.size, 6, none⟩ = some (.bool false) := hB1.cell 6
      have q7 : ∀ i, wq.frozen? ⟨w.heap.size, i, none⟩ = false := hB1.frozen
      have ql := hB1.lt
      have hB9 : Blk (((((((wq.setCell ⟨w.heap.size, 0, none⟩ (.int .i64 3)).setCell ⟨w.heap.size, 1, none⟩ (.int .i64 0)).setCell ⟨w.heap.size, 2, none⟩ (.int .i64 0)).setCell ⟨w.heap.size, 3, none⟩ (.int .i64 0)).setCell ⟨w.heap.size, 4, none⟩ (.int .u64 0)).setCell ⟨w.heap.size, 5, none⟩ (.int .u64 0)).setCell ⟨w.heap.size, 6, none⟩ (.bool false)) w.heap.size 47 #[.int .i64 3, .int .i64 0, .int .i64 0, .int .i64 0, .int .u64 0, .int .u64 0, .bool false] := (((((((hB1.set 0 (.int .i64 3)).set 1 (.int .i64 0)).set 2 (.int .i64 0)).set 3 (.int .i64 0)).set 4 (.int .u64 0)).set 5 (.int .u64 0)).set 6 (.bool false))
      have hK9 : Kept [] w (((((((wq.setCell ⟨w.heap.size, 0, none⟩ (.int .i64 3)).setCell ⟨w.heap.size, 1, none⟩ (.int .i64 0)).setCell ⟨w.heap.size, 2, none⟩ (.int .i64 0)).setCell ⟨w.heap.size, 3, none⟩ (.int .i64 0)).setCell ⟨w.heap.size, 4, none⟩ (.int .u64 0)).setCell ⟨w.heap.size, 5, none⟩ (.int .u64 0)).setCell ⟨w.heap.size, 6, none⟩ (.bool false)) := ((((((((HK0.out.trans HQ.out).setCell (.inr (Nat.le_refl _)) _).setCell (.inr (Nat.le_refl _)) _).setCell (.inr (Nat.le_refl _)) _).setCell (.inr (Nat.le_refl _)) _).setCell (.inr (Nat.le_refl _)) _).setCell (.inr (Nat.le_refl _)) _).setCell (.inr (Nat.le_refl _)) _)
      go_wp2_with fail
      generalize (((((((wq.setCell ⟨w.heap.size, 0, none⟩ (.int .i64 3)).setCell ⟨w.heap.size, 1, none⟩ (.int .i64 0)).setCell ⟨w.heap.size, 2, none⟩ (.int .i64 0)).setCell ⟨w.heap.size, 3, none⟩ (.int .i64 0)).setCell ⟨w.heap.size, 4, none⟩ (.int .u64 0)).setCell ⟨w.heap.size, 5, none⟩ (.int .u64 0)).setCell ⟨w.heap.size, 6, none⟩ (.bool false)) = w9 at *
      have r0 : w9.cell? ⟨w.heap.size, 0, none⟩ = some (.int .i64 3) := hB9.cell 0
      have r1 : w9.cell? ⟨w.heap.size, 1, none⟩ = some (.int .i64 0) := hB9.cell 1
      have r2 : w9.cell? ⟨w.heap.size, 2, none⟩ = some (.int .i64 0) := hB9.cell 2
      have r3 : w9.cell? ⟨w.heap.size, 3, none⟩ = some (.int .i64 0) := hB9.cell 3
      have r4 : w9.cell? ⟨w.heap.size, 4, none⟩ = some (.int .u64 0) := hB9.cell 4
      have r5 : w9.cell? ⟨w.heap.size, 5, none⟩ = some (.int .u64 0) := hB9.cell 5
      have r6 : w9.cell? ⟨w.heap.size, 6, none⟩ = some (.bool false) := hB9.cell 6
      (try simp only [Exit.inBlock, Exit.then])
      refine bodyPost_ret (v := .tuple #[.agg #[.int .i64 3, .int .i64 0, .int .i64 0, .int .i64 0, .int .u64 0, .int .u64 0, .bool false], .int .i64 (i : Int)]) (by rw [results_cell_tmp rfl]; go_simp) rfl ⟨?_, hK9⟩
      rw [HX.out]; simp

end Go.Proofs.Ytccodklfplfleaa

/- A slice made anew, of elements of one cell: it grows by appends. No program in sight. -/
namespace Go.Proofs.Ytccodklfplfleaa
open Go.RowKit

def FreshG (t : TypeId) (w w' : World) (l : List Value) (A : Option Addr) (n c : Nat) : Prop :=
  w'.ownsRow 0 t 1 (.slice A n c) n l ∧ Kept [] w w' ∧ ∀ k, k ∈ fp (.slice A n c) → w.heap.size ≤ k
theorem FreshG.nil (t : TypeId) (w : World) : FreshG t w w [] none 0 0 := ⟨World.ownsRow_nil _ _ _ _, Kept.refl _ _, by simp [fp, Value.ownBlock]⟩
theorem FreshG.later {t : TypeId} {w w1 w2 : World} {L : List Value} {A : Option Addr} {n c : Nat} (h : FreshG t w w1 L A n c) (hk : Kept [] w1 w2) : FreshG t w w2 L A n c := ⟨own_kept h.1 hk (by simp), h.2.1.trans hk, h.2.2⟩
theorem FreshG.add {t : TypeId} {w wr wx w6 : World} {L : List Value} {A A8 : Option Addr} {n c c8 : Nat} {x : Value} (h : FreshG t w wr L A n c) (hk : Kept [] wr wx) (ha : Appended wx w6 t 1 (.slice A n c) (.slice A8 (n + 1) c8) (n + 1) (L ++ [x])) : FreshG t w w6 (L ++ [x]) A8 (n + 1) c8 := by
  refine ⟨ha.1, (h.2.1.trans hk).trans' ha.2.1 (fun q hq => .inr (h.2.2 q hq)), fun q hq => ?_⟩
  rcases ha.2.2 q hq with h1 | h1
  · exact h.2.2 q h1
  · exact Nat.le_trans (h.2.1.trans hk).size h1
theorem FreshG.len {t : TypeId} {w w' : World} {l : List Value} {A : Option Addr} {n c : Nat} (h : FreshG t w w' l A n c) : l.length = n := by
  have := (Reads.of_own h.1).1
  omega

end Go.Proofs.Ytccodklfplfleaa

/- The document's Has of a set (layer 1), and its list of processors (layer 22); walked. -/
namespace Go.Proofs.Ytccodklfplfleaa
open Go.RowKit

set_option maxHeartbeats 3200000 in
set_option maxRecDepth 100000 in
theorem refHas1 (s i : Nat) (w : World) (hs : s < 18446744073709551616) (hi : i < 64) : Calls Try.prog 71 #[.int .u64 s, .int .i64 i] w fun e w' => e = .returned (.bool (s.testBit i)) ∧ Kept [] w w' := by
  have HR := Lib.hid (refRow s w hs)
  have HG : Hid ((rowB s).getD i false = s.testBit i) := by show (rowB s).getD i false = _; simp [List.getD, rowB, hi]
  have HRL := Lib.hid (rowB_len s)
  generalize s.testBit i = b at *
  generalize rowB s = row at *
  have hi0 : (0 : Int) ≤ (i : Int) := by omega
  have hi1 : (i : Int) < 64 := by omega
  go_enter Try.func71, Try.ntmps71
  go_wp2_with fail
  refine (HR.out).mono ?_
  rintro e w1 ⟨rfl, hk⟩
  have HK := Lib.hid hk
  clear hk
  go_wp2_with (refine wpList_store_blk rfl 117 _ _ rfl w1.heap.size (bC row) rfl rfl 117 (bC (List.replicate 64 false)) (Blk.new w1 117 (bC (List.replicate 64 false))) (row_size _ HRL.out) (by rw [bC_size, bC_size, HRL.out]; rfl) (bC_one _) ?_; intro W2 hB2 hK2; have HB2 := Lib.hid hB2; have HK2 := Lib.hid ((HK.out.alloc _).trans' hK2 (fun k hk => .inr (by have := HK.out.size; simp at hk; omega))); have hc2 : W2.cell? ⟨w1.heap.size, i, none⟩ = some (.bool b) := (by rw [hB2.cell, bC_get _ _ (by rw [HRL.out]; exact hi), HG.out]); have hf2 := hB2.frozen; have hl2 := hB2.lt; clear hB2 hK2)
  go_ret
  exact ⟨rfl, HK2.out⟩
theorem infoQ_I : (Try.prog.info? 3).map (fun i => (i.zero, i.size, i.bytes)) = some (some (.int .i64 0), 1, 8) := by kernel_rfl
/-- The processors of a mask below k. -/
def lowL (m : Nat) : Nat → List Value
  | 0 => []
  | k + 1 => if m.testBit k then lowL m k ++ [.int .i64 k] else lowL m k
theorem lowL_len (m : Nat) : ∀ k, (lowL m k).length ≤ k
  | 0 => Nat.le_refl _
  | k + 1 => by
    have := lowL_len m k
    rw [lowL]
    split
    · simp; omega
    · omega
theorem lowL_zero (m : Nat) : ∀ k, (lowL m k = [] ↔ m % 2 ^ k = 0)
  | 0 => by simp [lowL, Nat.mod_one]
  | k + 1 => by
    have ih := lowL_zero m k
    have h2 : m % 2 ^ (k + 1) = 2 ^ k * (m / 2 ^ k % 2) + m % 2 ^ k := by rw [Nat.pow_succ, Nat.mod_mul]; omega
    have ht : m.testBit k = decide (m / 2 ^ k % 2 = 1) := Nat.testBit_eq_decide_div_mod_eq
    have hp : 0 < 2 ^ k := Nat.two_pow_pos k
    rw [lowL, h2]
    by_cases hb : m / 2 ^ k % 2 = 1
    · rw [ht, if_pos (by simpa using hb), hb]
      constructor
      · intro h; simp at h
      · intro h; omega
    · have h0 : m / 2 ^ k % 2 = 0 := by omega
      rw [ht, if_neg (by simpa using hb), h0, ih]
      constructor <;> intro h <;> omega
theorem lowL_and (m n : Nat) : decide (0 < (lowL m n).length) = (m &&& (2 ^ n - 1) != 0) := by
  have h := lowL_zero m n
  rw [Nat.and_two_pow_sub_one_eq_mod]
  cases hl : lowL m n with
  | nil => rw [h.1 hl]; rfl
  | cons x l =>
    have h1 : m % 2 ^ n ≠ 0 := fun h0 => by have := h.2 h0; rw [hl] at this; cases this
    rw [show (m % 2 ^ n != 0) = true from bne_iff_ne.2 h1]
    simp
set_option maxHeartbeats 3200000 in
set_option maxRecDepth 100000 in
theorem R22List_any (m n : Nat) (w : World) (hm : m < 18446744073709551616) (hn : n ≤ 64) : Calls Try.prog 43 #[.int .u64 m, .int .i64 n] w fun e w' => ∃ (A : Option Addr) (c k : Nat), e = .returned (.slice A k c) ∧ Kept [] w w' ∧ k = (lowL m n).length := by
  have HHS := Lib.hid (fun i W (hi : i < 64) => refHas1 m i W hm hi)
  have HST : Hid (∀ k, lowL m (k + 1) = if m.testBit k then lowL m k ++ [.int .i64 k] else lowL m k) := fun _ => rfl
  have HLE := Lib.hid (fun k => lowL_len m k)
  have H0 : Hid (lowL m 0 = []) := rfl
  generalize lowL m = f at *
  clear hm
  go_enter Try.func43, Try.ntmps43
  go_wp2_with fail
  go_loopw [5, 6] (fun ov kv wr => ∃ (k : Nat) (A : Option Addr) (c q : Nat) (L : List Value), k ≤ n ∧ q ≤ k ∧ ov = .slice A q c ∧ kv = .int .i64 k ∧ Hid (f k = L) ∧ Hid (q = L.length) ∧ Hid (FreshG 3 w wr L A q c)) (fun _ k _ => n - (intOf k).toNat)
  case atStart => exact ⟨0, none, 0, 0, [], by omega, Nat.le_refl _, rfl, rfl, H0.out, Lib.hid rfl, FreshG.nil _ w⟩
  case round =>
    obtain ⟨k, A, c, q, L, hk1, hq, rfl, rfl, HL, HQ, HF⟩ := hrel
    by_cases hk : k < n
    · have HNX := Lib.hid (HHS.out k wr (by omega))
      have hst := HST.out k
      rw [HL.out] at hst
      have b1 : decide ((k : Int) < 64) = true := by simp; omega
      have b2 : decide ((k : Int) < (n : Int)) = true := by simp; omega
      generalize m.testBit k = R at *
      cases R with
      | true =>
        rw [if_pos rfl] at hst
        have HS := Lib.hid hst
        clear hst
        go_wp2_with fail
        refine (HNX.out).mono ?_
        rintro e w1 ⟨rfl, hk1⟩
        have HK1 := Lib.hid hk1
        clear hk1
        go_wp2_with (at_builtin; refine wpList_append_any _ rfl _ _ 37 rfl 3 (.int .i64 0) 1 8 Try.underlying37 infoQ_I rfl (by decide) (.slice A q c) q L rfl (own_kept HF.out.1 (HK1.out.alloc _) (by simp)) _ 1 1 [.int .i64 (k : Int)] rfl (reads_one _ _ _) (by simp [Value.oneCell']) (by simp only [maxLen]; omega) (by omega) ?_; rintro A8 c8 w6 happ; have HA := Lib.hid happ; clear happ)
        go_roundw
        case rel => exact ⟨k + 1, A8, c8, q + 1, L ++ [.int .i64 k], by omega, by omega, by simp, by go_num, HS, Lib.hid (by rw [HQ.out]; simp), HF.out.add (HK1.out.alloc _) HA.out⟩
        case measure => simp [intOf]; omega
      | false =>
        rw [if_neg (by simp)] at hst
        have HS := Lib.hid hst
        clear hst
        go_wp2_with fail
        refine (HNX.out).mono ?_
        rintro e w1 ⟨rfl, hk1⟩
        have HK1 := Lib.hid hk1
        clear hk1
        go_wp2_with fail
        go_roundw
        case rel => exact ⟨k + 1, A, c, q, L, by omega, by omega, rfl, by go_num, HS, HQ, HF.out.later HK1.out⟩
        case measure => simp [intOf]; omega
    · obtain rfl : k = n := by omega
      have b2 : decide ((k : Int) < (k : Int)) = false := by simp
      by_cases h64 : k < 64
      · have b1 : decide ((k : Int) < 64) = true := by simp; omega
        go_wp2_with fail
        go_ret
        exact ⟨A, c, q, rfl, HF.out.2.1, by rw [HQ.out, HL.out]⟩
      · have b1 : decide ((k : Int) < 64) = false := by simp; omega
        go_wp2_with fail
        go_ret
        exact ⟨A, c, q, rfl, HF.out.2.1, by rw [HQ.out, HL.out]⟩

end Go.Proofs.Ytccodklfplfleaa

