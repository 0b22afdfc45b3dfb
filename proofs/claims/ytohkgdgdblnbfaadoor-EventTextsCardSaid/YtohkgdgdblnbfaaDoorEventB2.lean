/- Package event: Last. -/
import Derived.Test.YtohkgdgdblnbfaaDoorEventB
namespace Go.Proofs.YtohkgdgdblnbfaaDoor
open Go.RowKit Go.Shelf

attribute [local go_sem] Oper.semAt_some

/-- The last event of a processor, and whether there is one. -/
def lastE (cpu : Int) (l : List Ev) : Ev × Bool := l.foldl (fun r e => if e.cpu == cpu then (e, true) else r) (⟨0, 0, 0, 0, 0, 0, 0, 0⟩, false)
theorem lastE_snoc (cpu : Int) (l : List Ev) (e : Ev) : lastE cpu (l ++ [e]) = if e.cpu == cpu then (e, true) else lastE cpu l := by simp [lastE]
theorem lastE_skip (cpu : Int) (l : List Ev) (r : Ev × Bool) (h : ∀ e ∈ l, (e.cpu == cpu) = false) : l.foldl (fun r e => if e.cpu == cpu then (e, true) else r) r = r := by
  induction l generalizing r with
  | nil => rfl
  | cons a t ih =>
    simp only [List.foldl_cons, h a (by simp), Bool.false_eq_true, if_false]
    exact ih r fun e he => h e (by simp [he])
theorem mem_zip {es : List Ev} {e : Ev} (k : Nat) (h : e ∈ es.drop k) : ∃ i, (e, i) ∈ es.zipIdx.drop k := by
  obtain ⟨j, hj, rfl⟩ := List.mem_iff_getElem.1 h
  have hj2 : k + j < es.length := by simpa [Nat.add_comm, Nat.lt_sub_iff_add_lt] using hj
  refine ⟨k + j, List.mem_iff_getElem.2 ⟨j, by simp; omega, ?_⟩⟩
  simp
theorem lastE_none (cpu : Int) (es : List Ev) (h : ∀ p ∈ es.zipIdx.reverse, (p.1.cpu == cpu) = false) : lastE cpu es = (⟨0, 0, 0, 0, 0, 0, 0, 0⟩, false) := by
  refine lastE_skip cpu es _ fun e he => ?_
  obtain ⟨i, hi⟩ := mem_zip (es := es) (e := e) 0 (by simpa using he)
  exact h (e, i) (by simpa using hi)
theorem lastE_back (cpu : Int) (es : List Ev) (r : Nat) (ini : List (Ev × Nat)) (x : Ev × Nat) (hp : (es.zipIdx.drop r).reverse = ini ++ [x]) (_ : r ≤ es.length) (hx : (x.1.cpu == cpu) = true) (hi : ∀ p ∈ ini, (p.1.cpu == cpu) = false) : lastE cpu es = (x.1, true) := by
  rcases Nat.lt_or_ge r es.length with hlt | hge
  · rw [zip_back es r hlt] at hp
    obtain ⟨rfl, e5⟩ := List.append_inj' hp rfl
    obtain rfl : (es[r], r) = x := by simpa using e5
    have he : es = (es.take r ++ [es[r]]) ++ es.drop (r + 1) := by
      rw [← List.take_succ_eq_append_getElem hlt, List.take_append_drop]
    rw [lastE]
    conv => lhs; rw [he]
    rw [List.foldl_append, lastE_skip cpu (es.drop (r + 1)) _ (fun e hm => by
      obtain ⟨i, hi2⟩ := mem_zip (r + 1) hm
      exact hi (e, i) (by simpa using hi2))]
    have := lastE_snoc cpu (es.take r) es[r]
    rw [lastE] at this
    rw [this]
    simp only at hx
    rw [if_pos hx]
  · rw [List.drop_of_length_le (by simpa using hge)] at hp
    simp at hp

/-- An event's eight cells stored into block g, and one cell into block h. -/
abbrev put9 (W : World) (g h : Nat) (a0 a1 a2 a3 a4 a5 a6 a7 b : Value) : World :=
  ((((((((W.setCell ⟨g, 0, none⟩ a0).setCell ⟨g, 1, none⟩ a1).setCell ⟨g, 2, none⟩ a2).setCell ⟨g, 3, none⟩ a3).setCell ⟨g, 4, none⟩ a4).setCell ⟨g, 5, none⟩ a5).setCell ⟨g, 6, none⟩ a6).setCell ⟨g, 7, none⟩ a7).setCell ⟨h, 0, none⟩ b
section
variable {W : World} {g h : Nat} {a0 a1 a2 a3 a4 a5 a6 a7 b : Value}
theorem blk_put9_1 {t : TypeId} {s c k o d e : Int} {x y : Nat} (hB : Blk W g t (eC s c k o x d e y)) (hne : g ≠ h) : Blk (put9 W g h a0 a1 a2 a3 a4 a5 a6 a7 b) g t #[a0, a1, a2, a3, a4, a5, a6, a7] := by
  have h := ((((((((hB.set 0 a0).set 1 a1).set 2 a2).set 3 a3).set 4 a4).set 5 a5).set 6 a6).set 7 a7).far (p := ⟨h, 0, none⟩) hne b
  simp only [List.setIfInBounds_toArray, List.set_cons_zero, List.set_cons_succ] at h
  exact h
theorem blk_put9_2 {t : TypeId} {x : Value} (hB : Blk W h t #[x]) (hne : h ≠ g) : Blk (put9 W g h a0 a1 a2 a3 a4 a5 a6 a7 b) h t #[b] :=
  ((((((((hB.far (p := ⟨g, 0, none⟩) hne a0).far (p := ⟨g, 1, none⟩) hne a1).far (p := ⟨g, 2, none⟩) hne a2).far (p := ⟨g, 3, none⟩) hne a3).far (p := ⟨g, 4, none⟩) hne a4).far (p := ⟨g, 5, none⟩) hne a5).far (p := ⟨g, 6, none⟩) hne a6).far (p := ⟨g, 7, none⟩) hne a7).set 0 b
theorem below_put9 {n : Nat} {w : World} (hB : Below n w W) (hg : n ≤ g) (hh : n ≤ h) : Below n w (put9 W g h a0 a1 a2 a3 a4 a5 a6 a7 b) :=
  ((((((((hB.setCell (p := ⟨g, 0, none⟩) hg a0).setCell (p := ⟨g, 1, none⟩) hg a1).setCell (p := ⟨g, 2, none⟩) hg a2).setCell (p := ⟨g, 3, none⟩) hg a3).setCell (p := ⟨g, 4, none⟩) hg a4).setCell (p := ⟨g, 5, none⟩) hg a5).setCell (p := ⟨g, 6, none⟩) hg a6).setCell (p := ⟨g, 7, none⟩) hg a7).setCell (p := ⟨h, 0, none⟩) hh b
theorem keeps_put9 : KeepsOthers W (put9 W g h a0 a1 a2 a3 a4 a5 a6 a7 b) :=
  ((((((((KeepsOthers.setCell W ⟨g, 0, none⟩ a0).trans (KeepsOthers.setCell _ ⟨g, 1, none⟩ a1)).trans (KeepsOthers.setCell _ ⟨g, 2, none⟩ a2)).trans (KeepsOthers.setCell _ ⟨g, 3, none⟩ a3)).trans (KeepsOthers.setCell _ ⟨g, 4, none⟩ a4)).trans (KeepsOthers.setCell _ ⟨g, 5, none⟩ a5)).trans (KeepsOthers.setCell _ ⟨g, 6, none⟩ a6)).trans (KeepsOthers.setCell _ ⟨g, 7, none⟩ a7)).trans (KeepsOthers.setCell _ ⟨h, 0, none⟩ b)
end
theorem Blk.putObj {W : World} {g D : Nat} {t : TypeId} {cs : Array Value} (h : Blk W g t cs) (o : Obj) (hD : g ≠ D) : Blk (W.putObj D o) g t cs := ((grownBy_putObj' W D o).block g h.lt (fun e => hD (by cases e; rfl))).trans h

set_option maxRecDepth 100000 in
set_option maxHeartbeats 4000000 in
theorem last_any (A : Option Addr) (n c : Nat) (l : List Ev) (cpu : Int) (w : World) (hr : ReadsE w A n l) (hl : l.length ≤ 1000) :
    Calls Tryd.prog 9 #[.slice A n c, .int .i64 cpu] w fun e w' => e = .returned (.tuple #[.agg (eC (lastE cpu l).1.step (lastE cpu l).1.cpu (lastE cpu l).1.kind (lastE cpu l).1.slot (lastE cpu l).1.gen (lastE cpu l).1.op (lastE cpu l).1.code (lastE cpu l).1.n), .bool (lastE cpu l).2]) ∧ Kept [] w w' := by
  have hn := hr.len
  have HR := Lib.hid hr
  clear hr
  refine (callsIn_wide (n := 3)).1 ?_
  refine callsIn_of_wp_marks Tryd.func9 rfl trivial ?_ rfl
  simp only [Tryd.ntmps9, List.size_toArray, List.length_cons, List.length_nil, Nat.reduceAdd, Nat.reduceSub, Array.replicate_succ, Array.replicate_zero, List.push_toArray, List.append_toArray, List.nil_append, List.cons_append]
  gi_wp2_with (refine ⟨trivial, ?_⟩; gi_at_call 30; refine (back_in _ _ _ _ _).mono ?_; rintro e w' ⟨rfl, rfl⟩)
  have HB3 : Hid (Blk ((((w.alloc (.cells #[.int .i64 cpu] 3)).alloc (.cells (eC 0 0 0 0 0 0 0 0) 30)).alloc (.cells #[.bool false] 4)).alloc (.cells #[.slice A l.length c] 22)) (w.heap.size + 1 + 1 + 1) 22 #[.slice A l.length c]) := Blk.newAt (by simp) _ _
  have HB0 : Hid (Blk ((((w.alloc (.cells #[.int .i64 cpu] 3)).alloc (.cells (eC 0 0 0 0 0 0 0 0) 30)).alloc (.cells #[.bool false] 4)).alloc (.cells #[.slice A l.length c] 22)) w.heap.size 3 #[.int .i64 cpu]) := (((Blk.new w _ _).alloc _).alloc _).alloc _
  have HB1 : Hid (Blk ((((w.alloc (.cells #[.int .i64 cpu] 3)).alloc (.cells (eC 0 0 0 0 0 0 0 0) 30)).alloc (.cells #[.bool false] 4)).alloc (.cells #[.slice A l.length c] 22)) (w.heap.size + 1) 30 (eC 0 0 0 0 0 0 0 0)) := ((Blk.newAt (by simp) _ _).alloc _).alloc _
  have HB2 : Hid (Blk ((((w.alloc (.cells #[.int .i64 cpu] 3)).alloc (.cells (eC 0 0 0 0 0 0 0 0) 30)).alloc (.cells #[.bool false] 4)).alloc (.cells #[.slice A l.length c] 22)) (w.heap.size + 1 + 1) 4 #[.bool false]) := (Blk.newAt (by simp) _ _).alloc _
  have HK0 : Hid (Kept [] w ((((w.alloc (.cells #[.int .i64 cpu] 3)).alloc (.cells (eC 0 0 0 0 0 0 0 0) 30)).alloc (.cells #[.bool false] 4)).alloc (.cells #[.slice A l.length c] 22))) := ((((Kept.refl _ _).alloc _).alloc _).alloc _).alloc _
  have hsz : ((((w.alloc (.cells #[.int .i64 cpu] 3)).alloc (.cells (eC 0 0 0 0 0 0 0 0) 30)).alloc (.cells #[.bool false] 4)).alloc (.cells #[.slice A l.length c] 22)).heap.size = w.heap.size + 4 := by simp
  generalize ((((w.alloc (.cells #[.int .i64 cpu] 3)).alloc (.cells (eC 0 0 0 0 0 0 0 0) 30)).alloc (.cells #[.bool false] 4)).alloc (.cells #[.slice A l.length c] 22)) = W0 at *
  have HBL0 : Hid (Below w.heap.size w W0) := HK0.out.toBelow
  refine wpIn_rangeFunc_ownH rfl (by omega) (gf := 55) (lb := #[.pointer (some ⟨w.heap.size + 1 + 1 + 1, 0, none⟩)]) rfl trivial (enters_of Tryd.func55 (by kernel_rfl) rfl)
    (back_stops _ (by omega) (w.heap.size + 1 + 1 + 1) W0.heap.size l.length c A l hl w W0 (by omega) (Nat.le_refl _) (by rw [HB3.out.cell]; rfl) (by have := HR.out; rw [hn] at this; exact this) HK0.out (by omega)) belowK_t (belowK_b (Nat.le_refl _)) (Below.refl _ _) (fun _ => rfl)
    (fun pre W => (∀ p ∈ pre, (p.1.cpu == cpu) = false) ∧ Below W0.heap.size W0 W)
    (fun co pre W => (co = .ret ∧ ∃ ini last, pre = ini ++ [last] ∧ (∀ p ∈ ini, (p.1.cpu == cpu) = false) ∧ (last.1.cpu == cpu) = true ∧ Blk W (w.heap.size + 1) 30 (eC last.1.step last.1.cpu last.1.kind last.1.slot last.1.gen last.1.op last.1.code last.1.n) ∧ Blk W (w.heap.size + 1 + 1) 4 #[.bool true]) ∧ Below w.heap.size w W)
    (OwnFrom.and (ownFrom_pure _ (fun pre : List (Ev × Nat) => ∀ p ∈ pre, (p.1.cpu == cpu) = false)) (ownFrom_below (Nat.le_refl _) (Nat.le_refl _)))
    (fun co => OwnFrom.and (fun s A B row hs hg hr => by
      obtain ⟨hc, ini, last, e1, e2, e3, e4, e5⟩ := hs
      exact ⟨hc, ini, last, e1, e2, e3, (hg.block _ e4.lt (fun e => by have := (hr _ e.symm).1; omega)).trans e4, (hg.block _ e5.lt (fun e => by have := (hr _ e.symm).1; omega)).trans e5⟩) (ownFrom_below (Nat.le_refl _) (by omega)))
    ⟨by simp, Below.refl _ _⟩
    (fun x a' W => ∃ Bx, W0.heap.size ≤ Bx ∧ Blk W Bx 30 (eC x.1.step x.1.cpu x.1.kind x.1.slot x.1.gen x.1.op x.1.code x.1.n) ∧ a' = { tmps := #[.slice A l.length c, .int .i64 cpu, undef, .pointer (some ⟨w.heap.size, 0, none⟩), .pointer (some ⟨w.heap.size + 1, 0, none⟩), .pointer (some ⟨w.heap.size + 1 + 1, 0, none⟩), undef, .pointer (some ⟨Bx, 0, none⟩), .slice A l.length c, .func (.func 55) #[] #[.pointer (some ⟨w.heap.size + 1 + 1 + 1, 0, none⟩)], .int .i64 ((x.2 : Nat) : Int), .agg (eC x.1.step x.1.cpu x.1.kind x.1.slot x.1.gen x.1.op x.1.code x.1.n), undef, undef, undef, undef, undef, undef], defers := [] })
    (fun x a' s A B row hs hg hr => by
      obtain ⟨Bx, h1, h2, h3⟩ := hs
      exact ⟨Bx, h1, (hg.block _ h2.lt (fun e => by
        obtain ⟨_, o, ho, hc⟩ := hr _ e.symm
        rw [show A.heap[Bx]? = _ from h2] at ho
        cases ho; cases hc)).trans h2, h3⟩) ?assign ?body ?done ?stop
  case assign =>
    rintro lo pre x W K ⟨hp, hB⟩ hK
    have HBB := Lib.hid hB
    have HKK := Lib.hid hK
    clear hB hK
    gi_wp2
    exact HKK.out _ _ ((KeepsOthers.alloc _ _).from _) ((Below.refl _ W).alloc HBB.out.size _) ⟨hp, HBB.out.alloc HBB.out.size _⟩ ⟨W.heap.size, HBB.out.size, Blk.new _ _ _, rfl⟩
  case body =>
    rintro lo pre x a' W hlo ⟨r, hr⟩ ⟨hp, hB⟩ ⟨Bx, hBx, hX, rfl⟩ hlt
    have hcx := hX.cell
    have HX := Lib.hid hX
    have HB0' : Hid (Blk W w.heap.size 3 #[.int .i64 cpu]) := (hB.block _ (by omega)).trans HB0.out
    have HB1' : Hid (Blk W (w.heap.size + 1) 30 (eC 0 0 0 0 0 0 0 0)) := (hB.block _ (by omega)).trans HB1.out
    have HB2' : Hid (Blk W (w.heap.size + 1 + 1) 4 #[.bool false]) := (hB.block _ (by omega)).trans HB2.out
    have hc0 := HB0'.out.cell
    have hc1 := HB1'.out.cell
    have hf1 := HB1'.out.frozen
    have hl1 := HB1'.out.lt
    have hc2 := HB2'.out.cell
    have hf2 := HB2'.out.frozen
    have hl2 := HB2'.out.lt
    have hlx := HX.out.lt
    have HP := Lib.hid hp
    have HB := Lib.hid hB
    have HRR := Lib.hid hr
    clear hX hp hB hr
    obtain ⟨⟨s1, c1, k1, t1, g1, o1, d1, n1⟩, ix⟩ := x
    simp only at hcx HX ⊢
    cases hpe : (c1 == cpu)
    · have HPE := Lib.hid hpe
      gi_wp2
      exact ⟨KeepsFrom.refl _ _, Below.refl _ _, fun p hp => (List.mem_append.1 hp).elim (HP.out p) (fun e => by simp at e; subst e; exact HPE.out), HB.out⟩
    · have HPE := Lib.hid hpe
      gi_wp2
      exact ⟨keeps_put9.from _, ⟨rfl, pre, _, rfl, HP.out, HPE.out, blk_put9_1 HB1'.out (by omega), blk_put9_2 HB2'.out (by omega)⟩, below_put9 (HBL0.out.trans (HB.out.mono (by omega))) (by omega) (by omega)⟩
  case done =>
    rintro D ys W hD rfl ⟨hne, hB⟩ hK
    have HLE := Lib.hid (lastE_none cpu l hne)
    have HB1' : Hid (Blk W (w.heap.size + 1) 30 (eC 0 0 0 0 0 0 0 0)) := (hB.block _ (by omega)).trans HB1.out
    have HB2' : Hid (Blk W (w.heap.size + 1 + 1) 4 #[.bool false]) := (hB.block _ (by omega)).trans HB2.out
    have hc1 := HB1'.out.cell
    have hf1 := HB1'.out.frozen
    have hl1 := HB1'.out.lt
    have hc2 := HB2'.out.cell
    have hf2 := HB2'.out.frozen
    have hl2 := HB2'.out.lt
    have HB := Lib.hid hB
    have HK := Lib.hid hK
    clear hB hK hne
    gi_wp2
    have HK' := Lib.hid ((keeps_put9 (W := W) (g := w.heap.size + 1) (h := w.heap.size + 1 + 1) (a0 := .int .i64 0) (a1 := .int .i64 0) (a2 := .int .i64 0) (a3 := .int .i64 0) (a4 := .int .u32 0) (a5 := .int .i64 0) (a6 := .int .i64 0) (a7 := .int .u64 0) (b := .bool false)).same D _ HK.out rfl)
    have HBB := Lib.hid (below_put9 (n := w.heap.size) (a0 := .int .i64 0) (a1 := .int .i64 0) (a2 := .int .i64 0) (a3 := .int .i64 0) (a4 := .int .u32 0) (a5 := .int .i64 0) (a6 := .int .i64 0) (a7 := .int .u64 0) (b := .bool false) (g := w.heap.size + 1) (h := w.heap.size + 1 + 1) (HBL0.out.trans (HB.out.mono (by omega))) (by omega) (by omega))
    have HX1 : Hid (Blk (put9 W (w.heap.size + 1) (w.heap.size + 1 + 1) (.int .i64 0) (.int .i64 0) (.int .i64 0) (.int .i64 0) (.int .u32 0) (.int .i64 0) (.int .i64 0) (.int .u64 0) (.bool false)) (w.heap.size + 1) 30 (eC 0 0 0 0 0 0 0 0)) := blk_put9_1 HB1'.out (by omega)
    have HX2 : Hid (Blk (put9 W (w.heap.size + 1) (w.heap.size + 1 + 1) (.int .i64 0) (.int .i64 0) (.int .i64 0) (.int .i64 0) (.int .u32 0) (.int .i64 0) (.int .i64 0) (.int .u64 0) (.bool false)) (w.heap.size + 1 + 1) 4 #[.bool false]) := blk_put9_2 HB2'.out (by omega)
    refine ⟨by simp, .inl ⟨_, _, rfl, run_takeDeferred HK'.out, ?_⟩⟩
    have hx1 := (HX1.out.putObj (.deferred none) (D := D) (by omega)).cell
    have hx2 := (HX2.out.putObj (.deferred none) (D := D) (by omega)).cell
    refine ⟨.tuple #[.agg (eC 0 0 0 0 0 0 0 0), .bool false], ?_, ?_, Kept.ofBelow (HBB.out.trans (belowK_b (w := w) (Nat.le_refl _) _ D _ _ (by omega) HK'.out rfl rfl)) _⟩
    · simp [results, Tryd.results9, go_sem, hx1, hx2]
    · rw [HLE.out]
  case stop =>
    rintro D co pre W hD ⟨r, hr, rfl⟩ ⟨⟨rfl, ini, last, e1, e2, e3, e4, e5⟩, hB⟩ hK
    have HLE := Lib.hid (lastE_back cpu l r ini last e1 hr e3 e2)
    have hc1 := e4.cell
    have hc2 := e5.cell
    have HB := Lib.hid hB
    have HK := Lib.hid hK
    have H4 := Lib.hid e4
    have H5 := Lib.hid e5
    clear hB hK e1 e2 e3 e4 e5
    gi_wp2
    refine ⟨by simp, .inl ⟨_, _, rfl, run_takeDeferred HK.out, ?_⟩⟩
    have hx1 := (H4.out.putObj (.deferred none) (D := D) (by omega)).cell
    have hx2 := (H5.out.putObj (.deferred none) (D := D) (by omega)).cell
    refine ⟨.tuple #[.agg (eC last.1.step last.1.cpu last.1.kind last.1.slot last.1.gen last.1.op last.1.code last.1.n), .bool true], ?_, ?_, Kept.ofBelow (HB.out.trans (belowK_b (w := w) (Nat.le_refl _) _ D _ _ (by omega) HK.out rfl rfl)) _⟩
    · simp [results, Tryd.results9, go_sem, hx1, hx2]
    · rw [HLE.out]
end Go.Proofs.YtohkgdgdblnbfaaDoor
