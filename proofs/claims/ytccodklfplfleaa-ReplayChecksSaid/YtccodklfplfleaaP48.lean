/- Package replay: Check, Holders, States; walked; Law 35: the program tells what the document tells of a trace (same); walked. -/
import Derived.Test.YtccodklfplfleaaRpE
import Derived.Test.YtccodklfplfleaaP15
import Derived.Test.YtccodklfplfleaaP02
import Derived.Test.YtccodklfplfleaaP10
import Derived.Test.YtccodklfplfleaaP47

/- Package replay: Check, Holders, States; walked. -/
namespace Go.Proofs.Ytccodklfplfleaa
open Go.RowKit

/-- How far a trace is right, and what is wrong. -/
def resA (d : Du) (l : List Ev) : Nat × Int := if checkU d = 0 then (goA d (openA d) l 0).2 else (0, checkU d)
def accA (d : Du) (l : List Ev) : Acc := (goA d (openA d) l 0).1
/-- A slice of numbers is given, or none. -/
inductive SlP (ok : Prop) (L : List Int) (w : World) : Ending → World → Prop
  | no (w' : World) : ¬ ok → Kept [] w w' → SlP ok L w (.returned (.slice none 0 0)) w'
  | yes (w' : World) (A : Option Addr) (n c : Nat) : ok → Reads w' 1 A n (L.map (Value.int .i64)) → Kept [] w w' → SlP ok L w (.returned (.slice A n c)) w'
/-- A duty's box, and what it holds. -/
theorem du_box {w wb : World} {d : Du} {A B : Option Addr} {n c m e : Nat} (hwb : w.alloc (.cells (uC d A n c B m e) 27) = wb) : Kept [] w wb ∧ ∀ W, Kept [] wb W → W.cell? ⟨w.heap.size, 0, none⟩ = some (.int .i64 d.cpus) ∧ W.cell? ⟨w.heap.size, 1, none⟩ = some (.int .i64 d.threads) ∧ W.cell? ⟨w.heap.size, 2, none⟩ = some (.int .i64 d.locks) ∧ W.cell? ⟨w.heap.size, 3, none⟩ = some (.int .i64 d.cap) ∧ W.cell? ⟨w.heap.size, 4, none⟩ = some (.int .u64 d.boost) ∧ W.cell? ⟨w.heap.size, 5, none⟩ = some (.float .f64 d.keep) ∧ W.cell? ⟨w.heap.size, 6, none⟩ = some (.float .f64 d.ratio) ∧ W.cell? ⟨w.heap.size, 7, none⟩ = some (.slice A n c) ∧ W.cell? ⟨w.heap.size, 8, none⟩ = some (.slice B m e) ∧ w.heap.size < W.heap.size := by
  have h0 : Kept [] w wb := by rw [← hwb]; exact (Kept.refl _ _).alloc _
  have hB : Blk wb w.heap.size 27 (uC d A n c B m e) := by rw [← hwb]; exact Blk.new w _ _
  refine ⟨h0, fun W hk => ?_⟩
  have h1 := hB.kept hk (by simp)
  exact ⟨h1.cell 0, h1.cell 1, h1.cell 2, h1.cell 3, h1.cell 4, h1.cell 5, h1.cell 6, h1.cell 7, h1.cell 8, h1.lt⟩
/-- A duty and a trace in memory. -/
structure Tr35 (w : World) (d : Du) (A : Option Addr) (n : Nat) (B : Option Addr) (m : Nat) (E : Option Addr) (ln : Nat) (l : List Ev) : Prop where
  u : IsU w d A n B m
  b : ∀ p ∈ d.progs, p.length ≤ 9223372036854775807
  s : ∀ s ∈ d.starts, s.mask < 18446744073709551616
  m : MaskD d
  l : ReadsE w E ln l
  ln : ln ≤ 400
theorem Tr35.old {w w' : World} {d : Du} {A B E : Option Addr} {n m ln : Nat} {l : List Ev} (h : Tr35 w d A n B m E ln l) (hk : Kept [] w w') : Tr35 w' d A n B m E ln l := ⟨h.u.old hk, h.b, h.s, h.m, Reads.old h.l hk, h.ln⟩
section
variable {w : World} {d : Du} {A B E : Option Addr} {n c m e ln ce : Nat} {l : List Ev}
set_option maxHeartbeats 3200000 in
theorem rpCheck_any (h : Tr35 w d A n B m E ln l) : Calls Try.prog 7 #[.agg (uC d A n c B m e), .slice E ln ce] w fun x w' => x = .returned (.tuple #[.int .i64 (resA d l).1, .int .i64 (resA d l).2]) ∧ Kept [] w w' := by
  obtain ⟨wb, hwb⟩ : ∃ wb, w.alloc (.cells (uC d A n c B m e) 27) = wb := ⟨_, rfl⟩
  obtain ⟨h0, hF⟩ := du_box hwb
  have HT : Hid (∀ W, Kept [] wb W → Calls Try.prog 17 #[.agg (uC d A n c B m e), .slice E ln ce] W fun x w' => (∃ V, x = .returned (.tuple #[V, .int .i64 (resA d l).1, .int .i64 (resA d l).2])) ∧ Kept [] w w') := fun W hk => by
    have q := h.old (h0.trans hk)
    refine (rpThrough_any q.u q.b q.s q.m q.l q.ln).mono ?_
    rintro x w' (⟨_, hd, hk'⟩ | ⟨_, b, a, i, cc, hd, hg, hA, _⟩)
    · exact ⟨⟨.pointer none, by unfold resA; rw [if_neg hd]; rfl⟩, (h0.trans hk).trans hk'⟩
    · exact ⟨⟨.pointer (some ⟨b.g, 0, none⟩), by unfold resA; rw [if_pos hd, hg]⟩, (h0.trans hk).trans hA.kept⟩
  have hUC : uC d A n c B m e = #[.int .i64 d.cpus, .int .i64 d.threads, .int .i64 d.locks, .int .i64 d.cap, .int .u64 d.boost, .float .f64 d.keep, .float .f64 d.ratio, .slice A n c, .slice B m e] := rfl
  rw [hUC] at HT hwb ⊢
  generalize resA d l = r at *
  have hf := hF wb (Kept.refl _ _)
  clear h hF hUC h0
  go_enter Try.func7, Try.ntmps7
  go_wp2_with fail
  (try rw [hwb])
  (try (go_wp2_with fail))
  refine (HT.out _ (Kept.refl _ _)).mono ?_
  rintro x w2 ⟨⟨V, rfl⟩, hk2⟩
  have HK2 := Lib.hid hk2
  clear hk2 hf
  go_wp2_with fail
  go_ret2
  exact ⟨rfl, HK2.out⟩
set_option maxHeartbeats 3200000 in
theorem rpHolders_any (h : Tr35 w d A n B m E ln l) : Calls Try.prog 8 #[.agg (uC d A n c B m e), .slice E ln ce] w (SlP ((resA d l).2 = 0) (accA d l).held w) := by
  obtain ⟨wb, hwb⟩ : ∃ wb, w.alloc (.cells (uC d A n c B m e) 27) = wb := ⟨_, rfl⟩
  obtain ⟨h0, hF⟩ := du_box hwb
  have HT : Hid (∀ W, Kept [] wb W → Calls Try.prog 17 #[.agg (uC d A n c B m e), .slice E ln ce] W fun x w' => ((resA d l).2 ≠ 0 ∧ (∃ V i, x = .returned (.tuple #[V, .int .i64 i, .int .i64 (resA d l).2])) ∨ (resA d l).2 = 0 ∧ ∃ (g i : Nat) (AH : Option Addr) (cH : Nat), x = .returned (.tuple #[.pointer (some ⟨g, 0, none⟩), .int .i64 i, .int .i64 0]) ∧ w'.cell? ⟨g, 11, none⟩ = some (.slice AH (accA d l).held.length cH) ∧ g < w'.heap.size ∧ w'.ownsRow 0 3 1 (.slice AH (accA d l).held.length cH) (accA d l).held.length ((accA d l).held.map (Value.int .i64)) ∧ (accA d l).held.length ≤ 64) ∧ Kept [] w w') := fun W hk => by
    have q := h.old (h0.trans hk)
    refine (rpThrough_any q.u q.b q.s q.m q.l q.ln).mono ?_
    rintro x w' (⟨_, hd, hk'⟩ | ⟨_, b, a, i, cc, hd, hg, hA, hW⟩)
    · exact ⟨.inl ⟨by unfold resA; rw [if_neg hd]; exact hd, .pointer none, 0, by unfold resA; rw [if_neg hd]⟩, (h0.trans hk).trans hk'⟩
    · refine ⟨?_, (h0.trans hk).trans hA.kept⟩
      have e1 : (resA d l).2 = cc := by unfold resA; rw [if_pos hd, hg]
      have e2 : accA d l = a := by unfold accA; rw [hg]
      rw [e1, e2]
      by_cases hc : cc = 0
      · subst hc
        have hcc := AccAt.cells hA.at'
        exact .inr ⟨rfl, b.g, i, b.AH, b.cH, rfl, hcc.2.2.2.2.2.1, hcc.2.2.2.2.2.2, Holds.get hA.at_ (i := 4) rfl, hW.h64⟩
      · exact .inl ⟨hc, .pointer (some ⟨b.g, 0, none⟩), i, rfl⟩
  have hUC : uC d A n c B m e = #[.int .i64 d.cpus, .int .i64 d.threads, .int .i64 d.locks, .int .i64 d.cap, .int .u64 d.boost, .float .f64 d.keep, .float .f64 d.ratio, .slice A n c, .slice B m e] := rfl
  rw [hUC] at HT hwb ⊢
  obtain ⟨r, hr⟩ : ∃ r, (resA d l).2 = r := ⟨_, rfl⟩
  obtain ⟨L, hL⟩ : ∃ L, (accA d l).held = L := ⟨_, rfl⟩
  rw [hr, hL] at HT ⊢
  have hf := hF wb (Kept.refl _ _)
  clear h hF hUC h0 hr hL
  go_enter Try.func8, Try.ntmps8
  go_wp2_with fail
  (try rw [hwb])
  (try (go_wp2_with fail))
  refine (HT.out _ (Kept.refl _ _)).mono ?_
  rintro x w2 ⟨⟨hr0, V, i, rfl⟩ | ⟨rfl, g, i, AH, cH, rfl, c11, gl, hrow, hml⟩, hk2⟩
  · have HK2 := Lib.hid hk2
    have HR := Lib.hid hr0
    have hb : (r != 0) = true := bne_iff_ne.2 hr0
    clear hk2 hf hr0
    go_wp2_with fail
    go_ret
    exact .no _ HR.out HK2.out
  · have HK2 := Lib.hid hk2
    have HCL : Hid (Calls Try.prog 18 #[.slice AH L.length cH] w2 fun x w' => (∃ A' n' c', x = .returned (.slice A' n' c') ∧ Reads w' 1 A' n' (L.map (Value.int .i64))) ∧ Kept [] w2 w') := by
      rcases hrow.2 with ⟨e1, h0⟩ | ⟨gg, cap, cur, e1, _⟩
      · injection e1 with e1 e2 e3
        subst e1
        have hL0 : L = [] := List.eq_nil_of_length_eq_zero (by omega)
        subst hL0
        refine (Try.slices_Clone_int_nil _ cH w2).mono ?_
        rintro x w' ⟨rfl, rfl⟩
        exact ⟨⟨none, 0, 0, rfl, Reads.none_⟩, Kept.refl _ _⟩
      · injection e1 with e1 e2 e3
        subst e1
        refine (Try.slices_Clone_int gg 0 L.length cH L w2 (Nat.le_refl _) (by omega) (fun j hj => ?_)).mono ?_
        · rw [Nat.zero_add, hrow.cellAt j (by simpa using hj), List.getElem?_map, List.getElem?_eq_getElem hj, List.getD_eq_getElem?_getD, List.getElem?_eq_getElem hj]; rfl
        · rintro x w' ⟨v', rfl, ho, hne, hb⟩
          rw [List.take_length] at ho
          obtain ⟨A', c', rfl, _, _⟩ := own_form ho
          exact ⟨⟨A', L.length, c', rfl, Reads.of_own ho⟩, Kept.ofBelow hb []⟩
    clear hk2 hf hrow hml
    generalize L.length = n0 at *
    go_wp2_with fail
    refine (HCL.out).mono ?_
    rintro x w3 ⟨⟨A', n', c', rfl, hR⟩, hk3⟩
    have HR := Lib.hid hR
    have HK3 := Lib.hid (HK2.out.trans hk3)
    clear hR hk3
    go_wp2_with fail
    go_ret
    exact .yes _ _ _ _ trivial HR.out HK3.out
theorem set_same' {α : Type} {l : List α} {k : Nat} {v : α} (h : l[k]? = some v) : l.set k v = l := by
  apply List.ext_getElem?
  intro j
  rw [List.getElem?_set]
  split
  · rename_i e; subst e
    rw [if_pos (List.getElem?_eq_some_iff.1 h).1, h]
  · rfl
/-- The states of the first k threads, as far as they are taken. -/
def outK (a : Acc) (k : Nat) : List Int := (List.range a.P.length).map fun t => if t < k then (if (a.pl t).taken then (a.th t).state else 0) else 0
theorem outK_zero (a : Acc) : outK a 0 = List.replicate a.P.length 0 := by
  unfold outK
  apply List.ext_getElem?
  intro j
  rw [List.getElem?_map, List.getElem?_replicate]
  by_cases hj : j < a.P.length
  · rw [List.getElem?_range hj, if_pos hj]; rfl
  · rw [List.getElem?_eq_none (by simpa using hj), if_neg hj]; rfl
theorem outK_all (a : Acc) : outK a a.P.length = statesA a := by
  unfold outK statesA
  apply List.map_congr_left
  intro t ht
  rw [if_pos (List.mem_range.1 ht)]
theorem outK_succ {a : Acc} {k : Nat} (hk : k < a.P.length) : outK a (k + 1) = (outK a k).set k (if (a.pl k).taken then (a.th k).state else 0) := by
  unfold outK
  apply List.ext_getElem?
  intro j
  rw [List.getElem?_set]
  by_cases hj : j < a.P.length
  · by_cases e : k = j
    · subst e
      rw [if_pos rfl, if_pos (by simpa using hk), List.getElem?_map, List.getElem?_range hj]
      simp
    · rw [if_neg e, List.getElem?_map, List.getElem?_map, List.getElem?_range hj]
      simp only [Option.map_some]
      congr 1
      by_cases h1 : j < k
      · rw [if_pos (by omega), if_pos h1]
      · rw [if_neg (by omega), if_neg h1]
  · rw [List.getElem?_eq_none (by simpa using hj)]
    split
    · rename_i e; subst e; omega
    · rw [List.getElem?_eq_none (by simpa using hj)]
theorem outK_not {a : Acc} {k : Nat} (hk : k < a.P.length) (h : (a.pl k).taken = false) : outK a (k + 1) = outK a k := by
  rw [outK_succ hk, h]
  refine set_same' ?_
  unfold outK
  rw [List.getElem?_map, List.getElem?_range hk]
  simp
set_option maxHeartbeats 6400000 in
set_option maxRecDepth 100000 in
theorem rpStates_any (h : Tr35 w d A n B m E ln l) : Calls Try.prog 9 #[.agg (uC d A n c B m e), .slice E ln ce] w (SlP ((resA d l).2 = 0) (statesA (accA d l)) w) := by
  obtain ⟨wb, hwb⟩ : ∃ wb, w.alloc (.cells (uC d A n c B m e) 27) = wb := ⟨_, rfl⟩
  obtain ⟨h0, hF⟩ := du_box hwb
  have HT : Hid (∀ W, Kept [] wb W → Calls Try.prog 17 #[.agg (uC d A n c B m e), .slice E ln ce] W fun x w' => ((resA d l).2 ≠ 0 ∧ (∃ V i, x = .returned (.tuple #[V, .int .i64 i, .int .i64 (resA d l).2])) ∨ (resA d l).2 = 0 ∧ ∃ (b : AcA) (i : Nat), x = .returned (.tuple #[.pointer (some ⟨b.g, 0, none⟩), .int .i64 i, .int .i64 0]) ∧ AccIs W w' b d (accA d l) (kindsA b.g) ∧ AWhole d (accA d l)) ∧ Kept [] w w') := fun W hk => by
    have q := h.old (h0.trans hk)
    refine (rpThrough_any q.u q.b q.s q.m q.l q.ln).mono ?_
    rintro x w' (⟨_, hd, hk'⟩ | ⟨_, b, a, i, cc, hd, hg, hA, hW⟩)
    · exact ⟨.inl ⟨by unfold resA; rw [if_neg hd]; exact hd, .pointer none, 0, by unfold resA; rw [if_neg hd]⟩, (h0.trans hk).trans hk'⟩
    · refine ⟨?_, (h0.trans hk).trans hA.kept⟩
      have e1 : (resA d l).2 = cc := by unfold resA; rw [if_pos hd, hg]
      have e2 : accA d l = a := by unfold accA; rw [hg]
      rw [e1, e2]
      by_cases hc : cc = 0
      · subst hc
        exact .inr ⟨rfl, b, i, rfl, hA, hW⟩
      · exact .inl ⟨hc, .pointer (some ⟨b.g, 0, none⟩), i, rfl⟩
  have hUC : uC d A n c B m e = #[.int .i64 d.cpus, .int .i64 d.threads, .int .i64 d.locks, .int .i64 d.cap, .int .u64 d.boost, .float .f64 d.keep, .float .f64 d.ratio, .slice A n c, .slice B m e] := rfl
  rw [hUC] at HT hwb ⊢
  obtain ⟨r, hr⟩ : ∃ r, (resA d l).2 = r := ⟨_, rfl⟩
  obtain ⟨a, ha⟩ : ∃ a, accA d l = a := ⟨_, rfl⟩
  rw [hr, ha] at HT
  rw [hr, ha]
  have hf := hF wb (Kept.refl _ _)
  clear h hF hUC h0 hr ha
  go_enter Try.func9, Try.ntmps9
  go_wp2_with fail
  (try rw [hwb])
  (try (go_wp2_with fail))
  refine (HT.out _ (Kept.refl _ _)).mono ?_
  rintro x w2 ⟨⟨hr0, V, i, rfl⟩ | ⟨rfl, b, i, rfl, hA, hW⟩, hk2⟩
  · have HK2 := Lib.hid hk2
    have HR := Lib.hid hr0
    have hb : (r != 0) = true := bne_iff_ne.2 hr0
    clear hk2 hf hr0
    go_wp2_with fail
    go_ret
    exact .no _ HR.out HK2.out
  · have HK2 := Lib.hid hk2
    have hn64 := hW.n64
    obtain ⟨nT, hnT⟩ : ∃ nT, a.P.length = nT := ⟨_, rfl⟩
    have htl : a.T.length = nT := by rw [hW.tl]; exact hnT
    rw [hnT] at hn64
    obtain ⟨f1, hf1⟩ := made_ownR 37 3 (.int .i64 0) 1 8 Try.underlying37 (by kernel_rfl) nT (by omega) (by simp [maxLen]; omega) ((List.replicate nT (0 : Int)).map (Value.int .i64)) (by
      have := made_flat (.int .i64 0) [.int .i64 0] rfl (by simp) nT (0 : Int) (fun x => [.int .i64 x]) rfl
      simp only [List.length_singleton] at this
      rw [this]
      simp [List.flatMap_replicate])
    have hmk1 := fun W => (hf1 W).1
    have HF1 := Lib.hid (fun W => (hf1 W).2)
    have HA := Lib.hid hA.at_
    have HC : Hid (∀ W, Kept [] w2 W → (W.cell? ⟨b.g, 9, none⟩ = some (.pointer (some ⟨b.gr, 0, none⟩)) ∧ W.cell? ⟨b.g, 10, none⟩ = some (.slice b.AT nT b.cT) ∧ b.g < W.heap.size)) := fun W hk => by
      have h2 := AccAt.cells (HA.out.old hk)
      rw [htl] at h2
      exact ⟨h2.2.2.2.1, h2.2.2.2.2.1, h2.2.2.2.2.2.2⟩
    have HAT : Hid (∀ W, Kept [] w2 W → ∀ t : Nat, t < nT → Calls Try.prog 19 #[.pointer (some ⟨b.gr, 0, none⟩), .int .i64 t] W fun x w' => (∃ g1 : Nat, ∃ s1 : Int, x = .returned (.tuple #[.agg #[.int .i64 s1, .int .u32 g1], .bool (a.pl t).taken])) ∧ Kept [] W w') := fun W hk t ht => by
      refine (rlAt_any (AccAt.roll (HA.out.old hk)) t).mono ?_
      rintro x w' ⟨rfl, hk'⟩
      refine ⟨⟨(atV a.P t).2, (atV a.P t).1, ?_⟩, hk'⟩
      have : takenP a.P t = (a.pl t).taken := by unfold takenP Acc.pl; rw [Int.toNat_natCast, decide_eq_true ⟨by omega, by omega⟩]; simp
      rw [this]
    have HTH : Hid (∀ W, Kept [] w2 W → ∀ t : Nat, t < nT → ∃ g, b.AT = some ⟨g, 0, none⟩ ∧ W.rangeAt g (t * 31) (thL (a.th t)) ∧ g < W.heap.size) := fun W hk t ht => by
      obtain ⟨g, e1, hc, hl, _⟩ := AccAt.tcells (HA.out.old hk) t (by rw [htl]; exact ht)
      exact ⟨g, e1, hc, hl⟩
    have HST := Lib.hid (fun k (hk : k < nT) => outK_succ (a := a) (k := k) (by rw [hnT]; exact hk))
    have HSN := Lib.hid (fun k (hk : k < nT) => outK_not (a := a) (k := k) (by rw [hnT]; exact hk))
    have HS0 : Hid (outK a 0 = List.replicate nT 0) := by show _ = _; rw [outK_zero, hnT]
    have HSA : Hid (outK a nT = statesA a) := by show _ = _; rw [← hnT]; exact outK_all a
    have HLE : Hid (∀ k, (outK a k).length = nT) := fun k => by unfold outK; simp [hnT]
    have hc := HC.out w2 (Kept.refl _ _)
    clear hk2 hf hA hW hf1 hnT htl
    generalize outK a = fo at *
    generalize statesA a = sa at *
    have hm := HF1.out w2
    have HM := Lib.hid hm
    have hc2 := HC.out (f1 w2) hm.2
    have hlo := own_lt hm.1 w2.heap.size (by simp [fp_some])
    clear hm
    go_wp2_with fail
    obtain ⟨w3, hw3⟩ : ∃ w3, f1 w2 = w3 := ⟨_, rfl⟩
    obtain ⟨go, hgo⟩ : ∃ go, w2.heap.size = go := ⟨_, rfl⟩
    have HGL : Hid (∀ k, w2.heap.size ≤ k ∨ k < w2.heap.size) := fun k => by omega
    have HNG : Hid (∀ W k, Kept [] w2 W → w2.heap.size ≤ go) := fun _ _ _ => by omega
    have HKG : Hid (∀ W W' : World, Kept [] w2 W → Kept [go] W W' → Kept [] w2 W') := fun W W' hk hk' => hk.trans' hk' (fun k hk1 => .inr (by obtain rfl := List.mem_singleton.1 hk1; omega))
    rw [hw3] at HM hc2 hlo
    rw [hgo] at HM hlo
    rw [hgo, hw3]
    clear hw3 hgo hc hc2 hmk1 HGL HNG
    go_loopw [33] (fun kv wr => ∃ k : Nat, k ≤ nT ∧ kv = .int .i64 k ∧ Hid (wr.ownsRow 0 3 1 (.slice (some ⟨go, 0, none⟩) nT nT) nT ((fo k).map (Value.int .i64))) ∧ Hid (Kept [] w2 wr)) (fun kv _ => nT - (intOf kv).toNat)
    case atStart => exact ⟨0, by omega, rfl, by rw [HS0.out]; exact HM.out.1, HM.out.2⟩
    case round =>
      obtain ⟨k, hk1, rfl, HR, HK⟩ := hrel
      by_cases hlt : k < nT
      · have hc := HC.out wr HK.out
        obtain ⟨gT', hAT', hrng, hgl⟩ := HTH.out wr HK.out k hlt
        rw [hAT'] at hc
        have hki : (k : Int) < (nT : Int) := by omega
        have hk0 : (0 : Int) ≤ (k : Int) := by omega
        have HAK := Lib.hid (fun W hk => HAT.out W hk k hlt)
        have HSK := Lib.hid (HST.out k hlt)
        have HSL := Lib.hid (HSN.out k hlt)
        generalize (a.pl k).taken = tk at *
        generalize a.th k = x at *
        have HRNG := Lib.hid hrng
        clear hrng
        rw [hAT']
        go_upto_region 8 with (first | (refine wpList_load_mid rfl 71 _ rfl gT' (k * 31) rfl (thL x) _ HRNG.out Try.underlying71 rfl (by kernel_rfl) ?_) | (refine wpList_store_blk rfl 71 _ _ rfl wr.heap.size (thL x).toArray rfl rfl 71 (thL Th.zero).toArray (Blk.new wr 71 (thL Th.zero).toArray) (by kernel_rfl) rfl (all_oneCell_toArray (thL_one x)) ?_; intro W2 hB2 hK2; have HB2 := Lib.hid hB2; have HK2 := Lib.hid (((Kept.refl [] wr).alloc _).trans' hK2 (fun k hk => .inr (by simp at hk; omega))); clear hB2 hK2) | fail)
        (try dsimp only [Act.put])
        have HKW : Hid (Kept [] w2 W2) := HK.out.trans HK2.out
        have hc3 := HC.out W2 HKW.out
        clear hc HRNG hgl
        go_wp2_with fail
        refine (HAK.out W2 HKW.out).mono ?_
        rintro y w4 ⟨⟨g1, s1, rfl⟩, hk4⟩
        have HK4 := Lib.hid (HKW.out.trans hk4)
        have HB4 := Lib.hid (HB2.out.kept hk4 (by simp))
        have HR4 := Lib.hid (own_kept HR.out (HK2.out.trans hk4) (by simp))
        clear hc3 hk4
        have h4s : w4.cell? ⟨wr.heap.size, 2, none⟩ = some (.int .i64 x.state) := HB4.out.cell 2
        have h4l := HB4.out.lt
        have h4g : go < w4.heap.size := own_lt HR4.out go (by simp [fp_some])
        have h4f : w4.frozen? ⟨go, k, none⟩ = false := HR4.out.frozenAt k
        obtain ⟨v4, h4c⟩ : ∃ v, w4.cell? ⟨go, k, none⟩ = some v := ⟨_, (HR4.out.cellAt k (by omega)).trans (List.getElem?_eq_getElem (by rw [List.length_map, HLE.out]; exact hlt))⟩
        cases tk with
        | false =>
          have HE := Lib.hid (HSL.out rfl)
          clear HSK HSL
          go_wp2_with fail
          go_roundw
          case rel => exact ⟨k + 1, by omega, by go_num, Lib.hid (by rw [HE.out]; exact own_kept HR4.out ((Kept.refl [] _).alloc _) (by simp)), Lib.hid (HK4.out.alloc _)⟩
          case measure => simp [intOf]; omega
        | true =>
          have HE : Hid (fo (k + 1) = (fo k).set k x.state) := by show _ = _; rw [HSK.out, if_pos rfl]
          have HRN : Hid (∀ W, Kept [] w4 W → (W.setCell ⟨go, k, none⟩ (.int .i64 x.state)).ownsRow 0 3 1 (.slice (some ⟨go, 0, none⟩) nT nT) nT ((fo (k + 1)).map (Value.int .i64))) := fun W hk => by
            have := ((own_kept HR4.out hk (by simp)).stored k (.int .i64 x.state)).1
            rw [← List.map_set] at this
            rw [HE.out]; exact this
          clear HSK HSL HE
          go_wp2_with fail
          go_roundw
          case rel => exact ⟨k + 1, by omega, by go_num, Lib.hid (own_kept (HRN.out _ (Kept.refl [] _)) ((Kept.refl [] _).alloc _) (by simp)), Lib.hid ((HKG.out _ _ HK4.out ((Kept.refl _ _).setCell (.inl (by simp)) _)).alloc _)⟩
          case measure => simp [intOf]; omega
      · obtain rfl : k = nT := by omega
        go_wp2_with fail
        go_ret
        exact .yes _ _ _ _ trivial (by have := Reads.of_own HR.out; rw [HSA.out] at this; exact this) (HK2.out.trans HK.out)
end

end Go.Proofs.Ytccodklfplfleaa

/- Law 35: the program tells what the document tells of a trace (same); walked. -/
namespace Go.Proofs.Ytccodklfplfleaa
open Go.RowKit

set_option maxHeartbeats 3200000 in
set_option maxRecDepth 100000 in
theorem refSameQ (A : Option Addr) (n c : Nat) (A2 : Option Addr) (m d : Nat) (l : List Int) (w : World) (ha : Reads w 1 A n (l.map (Value.int .i64))) (hb : Reads w 1 A2 m (l.map (Value.int .i64))) (hl : l.length ≤ 100000) :
    Calls Try.prog 10 #[.slice A n c, .slice A2 m d] w fun e w' => e = .returned (.bool true) ∧ Kept [] w w' := by
  have hn : n = l.length := by have := ha.1; simp at this; omega
  have hm : m = l.length := by have := hb.1; simp at this; omega
  subst hn hm
  have HA := Lib.hid ha
  have HB := Lib.hid hb
  have hbn : ((l.length : Int) != (l.length : Int)) = false := by simp
  clear ha hb
  go_enter Try.func10, Try.ntmps10
  go_wp2_with fail
  go_loopw [5] (fun kv wr => ∃ k : Nat, k ≤ l.length ∧ kv = .int .i64 k ∧ Hid (Kept [] w wr)) (fun k _ => l.length - (intOf k).toNat)
  case atStart => exact ⟨0, by omega, rfl, Kept.refl _ _⟩
  case round =>
    obtain ⟨k, hk1, rfl, HK⟩ := hrel
    by_cases hlt : k < l.length
    · obtain ⟨b, o, rfl, hb0, hc⟩ := HA.out.addr (by omega) (by omega)
      obtain ⟨b2, o2, rfl, hb2, hc2⟩ := HB.out.addr (by omega) (by omega)
      have hx : (l.map (Value.int .i64))[k]? = some (.int .i64 l[k]) := by rw [List.getElem?_map, List.getElem?_eq_getElem hlt]; rfl
      have c1 := HK.out.cell_some (hc k _ hx) (by simp)
      have c2 := HK.out.cell_some (hc2 k _ hx) (by simp)
      have hi0 : (0 : Int) ≤ (k : Int) := by omega
      have hi1 : (k : Int) < (l.length : Int) := by omega
      generalize l[k] = z at *
      have hz : (z != z) = false := by simp
      clear hc hc2 hx
      go_wp2_with fail
      go_quiet (fail)
      go_wp2_with fail
      go_roundw
      case rel => exact ⟨k + 1, by omega, by go_num, HK.out.trans (by (repeat (first | (with_reducible exact Kept.refl _ _) | (with_reducible assumption) | (with_reducible refine Kept.alloc ?_ _) | (with_reducible refine Kept.drew ?_) | (with_reducible refine Kept.drewN ?_ _) | (with_reducible refine Kept.setCell ?_ ?_ _) | (exact .inr (Nat.le_refl _)) | (exact .inr (by simp only; omega)) | (exact .inr (by omega)))))⟩
      case measure => simp [intOf]; omega
    · obtain rfl : k = l.length := by omega
      go_wp2_with fail
      go_ret
      exact ⟨rfl, HK.out⟩

theorem resA_of {d : Du} {l : List Ev} (hd : checkU d = 0) {a : Acc} {i : Nat} {c : Int} (h : goA d (openA d) l 0 = (a, i, c)) : resA d l = (i, c) ∧ accA d l = a := by
  unfold resA accA; rw [if_pos hd, h]; exact ⟨rfl, rfl⟩
theorem resA_bad {d : Du} {l : List Ev} (hd : checkU d ≠ 0) : resA d l = (0, checkU d) := by unfold resA; rw [if_neg hd]
set_option maxHeartbeats 6400000 in
set_option maxRecDepth 100000 in
theorem same35_any {w : World} {d : Du} {A B E : Option Addr} {n c m e ln ce : Nat} {l : List Ev} (h : Tr35 w d A n B m E ln l) : Calls Try.prog 4 #[.agg (uC d A n c B m e), .slice E ln ce] w fun x w' => x = .returned (.bool true) ∧ Kept [] w w' := by
  obtain ⟨wb, hwb⟩ : ∃ wb, w.alloc (.cells (uC d A n c B m e) 27) = wb := ⟨_, rfl⟩
  obtain ⟨h0, hF⟩ := du_box hwb
  have HF := Lib.hid hF
  have HK0 := Lib.hid h0
  have HT1 : Hid (∀ W, Kept [] wb W → Calls Try.prog 6 #[.agg (uC d A n c B m e), .slice E ln ce] W (ThrQ W d A n B m l)) := fun W hk => by
    have q := h.old (h0.trans hk)
    exact R35Check_any q.u q.b q.s q.m q.l q.ln
  have HT2 : Hid (∀ W, Kept [] wb W → Calls Try.prog 7 #[.agg (uC d A n c B m e), .slice E ln ce] W fun x w' => x = .returned (.tuple #[.int .i64 (resA d l).1, .int .i64 (resA d l).2]) ∧ Kept [] W w') := fun W hk => rpCheck_any (h.old (h0.trans hk))
  have HT3 : Hid (∀ W, Kept [] wb W → Calls Try.prog 8 #[.agg (uC d A n c B m e), .slice E ln ce] W (SlP ((resA d l).2 = 0) (accA d l).held W)) := fun W hk => rpHolders_any (h.old (h0.trans hk))
  have HT4 : Hid (∀ W, Kept [] wb W → Calls Try.prog 9 #[.agg (uC d A n c B m e), .slice E ln ce] W (SlP ((resA d l).2 = 0) (statesA (accA d l)) W)) := fun W hk => rpStates_any (h.old (h0.trans hk))
  have HBD := Lib.hid (fun h => resA_bad (d := d) (l := l) h)
  have HOF := Lib.hid (fun hd a i c h => resA_of (d := d) (l := l) hd (a := a) (i := i) (c := c) h)
  have hUC : uC d A n c B m e = #[.int .i64 d.cpus, .int .i64 d.threads, .int .i64 d.locks, .int .i64 d.cap, .int .u64 d.boost, .float .f64 d.keep, .float .f64 d.ratio, .slice A n c, .slice B m e] := rfl
  rw [hUC] at HT1 HT2 HT3 HT4 hwb ⊢
  have hf := hF wb (Kept.refl _ _)
  clear h hF hUC h0
  go_enter Try.func4, Try.ntmps4
  go_wp2_with fail
  (try rw [hwb])
  (try (go_wp2_with fail))
  refine (HT1.out _ (Kept.refl _ _)).mono ?_
  rintro x w2 (⟨_, hd, hk2⟩ | ⟨_, b, a, i, cc, hd, hg, hA, hW⟩)
  · have HK2 := Lib.hid hk2
    have hr := HBD.out hd
    have HNE := Lib.hid hd
    rw [hr] at HT2 HT3 HT4
    simp only at HT2 HT3 HT4
    have hb : (checkU d != 0) = true := bne_iff_ne.2 hd
    have hb2 : (checkU d != checkU d) = false := by simp
    clear hk2 hr hf hd
    generalize checkU d = ck at *
    have hf := HF.out _ HK2.out
    go_wp2_with fail
    refine (HT2.out _ HK2.out).mono ?_
    rintro x w3 ⟨rfl, hk3⟩
    have HK3 := Lib.hid (HK2.out.trans hk3)
    clear hk3 hf
    have hf := HF.out _ HK3.out
    go_wp2_with fail
    refine (HT3.out _ HK3.out).mono ?_
    rintro x w4 hx
    have hx4 : x = .returned (.slice none 0 0) ∧ Kept [] w3 w4 := by
      cases hx with
      | no _ _ hk => exact ⟨rfl, hk⟩
      | yes _ _ _ _ h1 _ _ => exact absurd h1 HNE.out
    obtain ⟨rfl, hk4⟩ := hx4
    have HK4 := Lib.hid (HK3.out.trans hk4)
    clear hk4 hf hx
    have hf := HF.out _ HK4.out
    go_wp2_with fail
    refine (HT4.out _ HK4.out).mono ?_
    rintro x w5 hx
    have hx5 : x = .returned (.slice none 0 0) ∧ Kept [] w4 w5 := by
      cases hx with
      | no _ _ hk => exact ⟨rfl, hk⟩
      | yes _ _ _ _ h1 _ _ => exact absurd h1 HNE.out
    obtain ⟨rfl, hk5⟩ := hx5
    have HK5 := Lib.hid (HK4.out.trans hk5)
    clear hk5 hf hx
    go_wp2_with fail
    go_ret
    exact ⟨rfl, HK0.out.trans HK5.out⟩
  · have HA := Lib.hid hA
    have HW := Lib.hid hW
    have HK2 : Hid (Kept [] wb w2) := hA.kept
    obtain ⟨hr, hac⟩ := HOF.out hd a i cc hg
    rw [hr] at HT2 HT3 HT4
    rw [hac] at HT3 HT4
    simp only at HT2 HT3 HT4
    have hh64 := hW.h64
    have hn64 := hW.n64
    have hi2 : ((i : Int) != (i : Int)) = false := by simp
    have hc2 : (cc != cc) = false := by simp
    clear hr hac hf hd hg hA hW
    have hf := HF.out _ HK2.out
    go_wp2_with fail
    refine (HT2.out _ HK2.out).mono ?_
    rintro x w3 ⟨rfl, hk3⟩
    have HK23 := Lib.hid hk3
    have HK3 := Lib.hid (HK2.out.trans hk3)
    clear hk3 hf
    have hf := HF.out _ HK3.out
    by_cases hc0 : cc = 0
    · subst hc0
      go_wp2_with fail
      refine (HT3.out _ HK3.out).mono ?_
      rintro x w4 hx
      have hx4 : ∃ A4 n4 c4, x = .returned (.slice A4 n4 c4) ∧ Reads w4 1 A4 n4 (a.held.map (Value.int .i64)) ∧ Kept [] w3 w4 := by
        cases hx with
        | no _ h1 _ => exact absurd trivial h1
        | yes _ A4 n4 c4 _ h2 h3 => exact ⟨A4, n4, c4, rfl, h2, h3⟩
      obtain ⟨A4, n4, c4, rfl, hR4, hk4⟩ := hx4
      have HR4 := Lib.hid hR4
      have HK24 := Lib.hid (HK23.out.trans hk4)
      have HK4 := Lib.hid (HK3.out.trans hk4)
      clear hk4 hf hx hR4
      have hf := HF.out _ HK4.out
      go_wp2_with fail
      refine (HT4.out _ HK4.out).mono ?_
      rintro x w5 hx
      have hx5 : ∃ A5 n5 c5, x = .returned (.slice A5 n5 c5) ∧ Reads w5 1 A5 n5 ((statesA a).map (Value.int .i64)) ∧ Kept [] w4 w5 := by
        cases hx with
        | no _ h1 _ => exact absurd trivial h1
        | yes _ A5 n5 c5 _ h2 h3 => exact ⟨A5, n5, c5, rfl, h2, h3⟩
      obtain ⟨A5, n5, c5, rfl, hR5, hk5⟩ := hx5
      have HR5 := Lib.hid hR5
      have HK25 := Lib.hid (HK24.out.trans hk5)
      have HK5 := Lib.hid (HK4.out.trans hk5)
      have HA5 := Lib.hid (HA.out.old HK25.out)
      have HR45 := Lib.hid (HR4.out.old hk5)
      have hcl := RqAt.cells HA5.out.at_
      have q1 := hcl.2.2.2.2.2.1
      have q2 := hcl.2.2.2.2.2.2
      have HS1 := Lib.hid (refSameQ A4 n4 c4 b.AH a.held.length b.cH a.held w5 HR45.out (Reads.of_own (Holds.get HA5.out.at_ (i := 5) rfl)) (by omega))
      clear hk5 hf hx hR5 hcl
      generalize a.held.length = nh at *
      go_wp2_with fail
      refine (HS1.out).mono ?_
      rintro x w6 ⟨rfl, hk6⟩
      have HK6 := Lib.hid (HK5.out.trans hk6)
      have HA6 := Lib.hid (HA5.out.old hk6)
      have HR6 := Lib.hid (HR5.out.old hk6)
      have HS2 := Lib.hid (R35States_any HA6.out.at_ HW.out)
      clear hk6 q1 q2
      go_wp2_with fail
      refine (HS2.out).mono ?_
      rintro x w7 ⟨A7, n7, c7, rfl, hF7⟩
      have HK7 := Lib.hid (HK6.out.trans hF7.2.1)
      have HS3 := Lib.hid (refSameQ A5 n5 c5 A7 n7 c7 (statesA a) w7 (HR6.out.old hF7.2.1) (Reads.of_own hF7.1) (by unfold statesA; simp; omega))
      clear hF7
      go_wp2_with fail
      refine (HS3.out).mono ?_
      rintro x w8 ⟨rfl, hk8⟩
      have HK8 := Lib.hid (HK7.out.trans hk8)
      clear hk8
      go_wp2_with fail
      go_ret
      exact ⟨rfl, HK0.out.trans HK8.out⟩
    · have hb : (cc != 0) = true := bne_iff_ne.2 hc0
      have HNE := Lib.hid hc0
      clear hc0
      go_wp2_with fail
      refine (HT3.out _ HK3.out).mono ?_
      rintro x w4 hx
      have hx4 : x = .returned (.slice none 0 0) ∧ Kept [] w3 w4 := by
        cases hx with
        | no _ _ hk => exact ⟨rfl, hk⟩
        | yes _ _ _ _ h1 _ _ => exact absurd h1 HNE.out
      obtain ⟨rfl, hk4⟩ := hx4
      have HK4 := Lib.hid (HK3.out.trans hk4)
      clear hk4 hf hx
      have hf := HF.out _ HK4.out
      go_wp2_with fail
      refine (HT4.out _ HK4.out).mono ?_
      rintro x w5 hx
      have hx5 : x = .returned (.slice none 0 0) ∧ Kept [] w4 w5 := by
        cases hx with
        | no _ _ hk => exact ⟨rfl, hk⟩
        | yes _ _ _ _ h1 _ _ => exact absurd h1 HNE.out
      obtain ⟨rfl, hk5⟩ := hx5
      have HK5 := Lib.hid (HK4.out.trans hk5)
      clear hk5 hf hx
      go_wp2_with fail
      go_ret
      exact ⟨rfl, HK0.out.trans HK5.out⟩

end Go.Proofs.Ytccodklfplfleaa

