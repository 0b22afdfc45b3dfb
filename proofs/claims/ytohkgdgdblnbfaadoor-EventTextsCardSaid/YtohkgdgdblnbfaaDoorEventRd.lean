/- Package event: Read (a range over strings.Lines). -/
import Derived.Test.YtohkgdgdblnbfaaDoorEventLi
import Derived.RangeFuncBox
import Derived.Maps.AppendAt
import Derived.BigRegionIn
import Derived.Shelf.RegionOpen
namespace Go.Proofs.YtohkgdgdblnbfaaDoor
open Go.RowKit Go.Shelf

attribute [local go_sem] Oper.semAt_some

/-- The events of lines that have come. -/
def evs (pre : List Ln) : List Ev := pre.map fun x => (parseE (trimN x.1)).1
theorem evs_snoc (pre : List Ln) (x : Ln) : evs (pre ++ [x]) = evs pre ++ [(parseE (trimN x.1)).1] := by simp [evs]
theorem evs_len (pre : List Ln) : (evs pre).length = pre.length := by simp [evs]
/-- All lines that have come are events'. -/
def allOk (pre : List Ln) : Prop := ∀ x ∈ pre, (parseE (trimN x.1)).2 = 0
theorem readsE_pre : ∀ (pre : List Ln) (acc : List Ev) (r : List (List UInt8)), allOk pre → readsE acc (pre.map (fun x => trimN x.1) ++ r) = readsE (acc ++ evs pre) r
  | [], acc, r, _ => by simp [evs]
  | x :: t, acc, r, h => by
    rw [List.map_cons, List.cons_append, readsE, if_pos (h x (by simp)), readsE_pre t _ r (fun y hy => h y (by simp [hy]))]
    simp [evs]

/-- What Read's variables hold while it reads: the results, the events so far. -/
structure RSt (w : World) (n0 Bs : Nat) (pre : List Ln) (W : World) : Prop where
  r0 : Blk W n0 22 #[.slice none 0 0]
  r1 : Blk W (n0 + 1) 3 #[.int .i64 0]
  r2 : Blk W (n0 + 2) 27 #[.int .i64 0]
  out : ∃ v, Blk W (n0 + 3) 22 #[v] ∧ W.ownsRow n0 30 8 v pre.length ((evs pre).flatMap eL)
  own : ∃ y, Blk W Bs 9 #[y]
  ok : allOk pre
  below : Below n0 w W
theorem RSt.own' (w : World) (n0 Bs B : Nat) (hw : n0 ≤ w.heap.size) (hB : n0 ≤ B) : OwnFrom B (fun pre W => RSt w n0 Bs pre W) := by
  intro pre A A' row h hg hr
  have far : ∀ {b t cs}, Blk A b t cs → Blk A' b t cs := fun {b t cs} hb => (hg.block b hb.lt (fun e => by
    obtain ⟨_, o, ho, hc⟩ := hr b e.symm
    rw [show A.heap[b]? = _ from hb] at ho; cases ho; cases hc)).trans hb
  obtain ⟨v, hv, hrow⟩ := h.out
  obtain ⟨y, hy⟩ := h.own
  refine ⟨far h.r0, far h.r1, far h.r2, ⟨v, far hv, hrow.kept hg ?_⟩, ⟨y, far hy⟩, h.ok, ownFrom_below (β := Unit) hw hB () A A' row h.below hg hr⟩
  rcases hrow.2 with ⟨rfl, _⟩ | ⟨g, cap, cur, rfl, _, hgb, _⟩
  · exact .inl rfl
  · refine .inr fun e => ?_
    obtain ⟨_, o, ho, hc⟩ := hr g (by simpa [Value.ownBlock] using e.symm)
    rw [hgb] at ho; cases ho; cases hc
theorem RSt.free (w : World) (n0 Bs : Nat) (hB : n0 + 3 < Bs) : FreeOf Bs (fun pre W => RSt w n0 Bs pre W) := by
  intro pre A u h
  obtain ⟨v, hv, hrow⟩ := h.out
  obtain ⟨y, hy⟩ := h.own
  have hne : ∀ k, k ∈ fp v → k ∉ [Bs] := fun k hk e => by
    simp at e; subst e
    exact own_blk_ne hrow hy (by decide) (mem_fp.1 hk)
  exact ⟨h.r0.far (by simp only; omega) _, h.r1.far (by simp only; omega) _, h.r2.far (by simp only; omega) _, ⟨v, hv.far (by simp only; omega) _, own_kept hrow ((Kept.refl [Bs] A).setCell (.inl (by simp)) u) hne⟩, ⟨u, hy.set 0 u⟩, h.ok, h.below.setCell (p := ⟨Bs, 0, none⟩) (by simp only; omega) u⟩

theorem keepsFrom_kept {B : Nat} {G : List Nat} {W W' : World} (hk : Kept G W W') (hG : ∀ k ∈ G, ∀ o, W.heap[k]? = some o → o.isCells = true) : KeepsFrom B W W' :=
  ⟨hk.size, fun k o _ hko hc => (hk.block k (lt_of_block hko) (fun hm => by rw [hG k hm o hko] at hc; cases hc)).trans hko⟩
theorem cells_blk {W : World} {g : Nat} {t : TypeId} {cs : Array Value} (h : Blk W g t cs) : ∀ o, W.heap[g]? = some o → o.isCells = true := fun o ho => by
  rw [show W.heap[g]? = _ from h] at ho; cases ho; rfl
theorem cells_own {W : World} {base e size n : Nat} {v : Value} {xs : List Value} (h : W.ownsRow base e size v n xs) : ∀ k ∈ fp v, ∀ o, W.heap[k]? = some o → o.isCells = true := fun k hk o ho => by
  rcases h.2 with ⟨rfl, _⟩ | ⟨g, cap, cur, rfl, _, hgb, _⟩
  · simp [fp, Value.ownBlock] at hk
  · simp [fp, Value.ownBlock] at hk
    subst hk
    rw [hgb] at ho; cases ho; rfl
theorem Blk.set1 {W : World} {g : Nat} {t : TypeId} {x : Value} (h : Blk W g t #[x]) (u : Value) : Blk (W.setCell ⟨g, 0, none⟩ u) g t #[u] := h.set 0 u
theorem Blk.putObjR {W : World} {g : Nat} {t : TypeId} {cs : Array Value} (h : Blk W g t cs) (o : Obj) {D : Nat} (hne : g ≠ D) : Blk (W.putObj D o) g t cs := (World.putObj_heap_other hne).trans h
theorem trimN_len (x : List UInt8) : (trimN x).length ≤ x.length := by unfold trimN; split <;> simp

set_option maxRecDepth 100000 in
set_option maxHeartbeats 8000000 in
theorem readE_any (l : List UInt8) (w : World) (hl : l.length ≤ 90000) (hM : HasMax w) :
    Calls Tryd.prog 26 #[strV l] w fun e w' => ∃ A n c, e = .returned (.tuple #[.slice A n c, .int .i64 (readsE [] (linesF [] l)).2.1, .int .i64 (readsE [] (linesF [] l)).2.2]) ∧ FreshE w w' (readsE [] (linesF [] l)).1 A n c := by
  have HLT := Lib.hid (linesK_trim l [] (by simp))
  have HM := Lib.hid hM
  clear hM
  refine (callsIn_wide (n := 3)).1 ?_
  refine callsIn_of_wp_marks Tryd.func26 rfl trivial ?_ rfl
  simp only [Tryd.ntmps26, List.size_toArray, List.length_cons, List.length_nil, Nat.reduceAdd, Nat.reduceSub, Array.replicate_succ, Array.replicate_zero, List.push_toArray, List.append_toArray, List.nil_append, List.cons_append]
  gi_wp2_with (refine ⟨trivial, ?_⟩; gi_at_call 50; refine (lines_in _ _ _).mono ?_; rintro e w' ⟨rfl, rfl⟩)
  have HB0 : Hid (Blk (((((w.alloc (.cells #[.slice none 0 0] 22)).alloc (.cells #[.int .i64 0] 3)).alloc (.cells #[.int .i64 0] 27)).alloc (.cells #[.slice none 0 0] 22)).alloc (.cells #[strV l] 9)) w.heap.size 22 #[.slice none 0 0]) := ((((Blk.new w _ _).alloc _).alloc _).alloc _).alloc _
  have HB1 : Hid (Blk (((((w.alloc (.cells #[.slice none 0 0] 22)).alloc (.cells #[.int .i64 0] 3)).alloc (.cells #[.int .i64 0] 27)).alloc (.cells #[.slice none 0 0] 22)).alloc (.cells #[strV l] 9)) (w.heap.size + 1) 3 #[.int .i64 0]) := (((Blk.newAt (by simp) _ _).alloc _).alloc _).alloc _
  have HB2 : Hid (Blk (((((w.alloc (.cells #[.slice none 0 0] 22)).alloc (.cells #[.int .i64 0] 3)).alloc (.cells #[.int .i64 0] 27)).alloc (.cells #[.slice none 0 0] 22)).alloc (.cells #[strV l] 9)) (w.heap.size + 2) 27 #[.int .i64 0]) := ((Blk.newAt (by simp) _ _).alloc _).alloc _
  have HB3 : Hid (Blk (((((w.alloc (.cells #[.slice none 0 0] 22)).alloc (.cells #[.int .i64 0] 3)).alloc (.cells #[.int .i64 0] 27)).alloc (.cells #[.slice none 0 0] 22)).alloc (.cells #[strV l] 9)) (w.heap.size + 3) 22 #[.slice none 0 0]) := (Blk.newAt (by simp) _ _).alloc _
  have HB4 : Hid (Blk (((((w.alloc (.cells #[.slice none 0 0] 22)).alloc (.cells #[.int .i64 0] 3)).alloc (.cells #[.int .i64 0] 27)).alloc (.cells #[.slice none 0 0] 22)).alloc (.cells #[strV l] 9)) (w.heap.size + 4) 9 #[strV l]) := Blk.newAt (by simp) _ _
  have HK0 : Hid (Kept [] w (((((w.alloc (.cells #[.slice none 0 0] 22)).alloc (.cells #[.int .i64 0] 3)).alloc (.cells #[.int .i64 0] 27)).alloc (.cells #[.slice none 0 0] 22)).alloc (.cells #[strV l] 9))) := (((((Kept.refl _ _).alloc _).alloc _).alloc _).alloc _).alloc _
  have hsz : (((((w.alloc (.cells #[.slice none 0 0] 22)).alloc (.cells #[.int .i64 0] 3)).alloc (.cells #[.int .i64 0] 27)).alloc (.cells #[.slice none 0 0] 22)).alloc (.cells #[strV l] 9)).heap.size = w.heap.size + 5 := by simp
  generalize (((((w.alloc (.cells #[.slice none 0 0] 22)).alloc (.cells #[.int .i64 0] 3)).alloc (.cells #[.int .i64 0] 27)).alloc (.cells #[.slice none 0 0] 22)).alloc (.cells #[strV l] 9)) = W0 at *
  have HS0 : Hid (RSt w w.heap.size (w.heap.size + 4) [] W0) := ⟨HB0.out, HB1.out, HB2.out, ⟨_, HB3.out, World.ownsRow_nil _ _ _ _⟩, ⟨_, HB4.out⟩, by simp [allOk], HK0.out.toBelow⟩
  refine wpIn_range_cell rfl (by omega) (gf := 66) (lb := #[.pointer (some ⟨w.heap.size + 4, 0, none⟩)]) rfl trivial (enters_of Tryd.func66 (by kernel_rfl) rfl) (Bs := w.heap.size + 4) (by omega)
    (lines_seq _ (by omega) (w.heap.size + 4) l hl W0 HB4.out) (fun h1 h2 => h2.trans h1) (fun W q o o' hq _ _ _ => World.putObj_heap_other (by omega)) (Below.refl _ _) (fun _ => rfl)
    (fun pre W => RSt w w.heap.size (w.heap.size + 4) pre W)
    (fun co pre W => (co = .ret ∧ ∃ ini last, pre = ini ++ [last] ∧ allOk ini ∧ (parseE (trimN last.1)).2 ≠ 0 ∧ Blk W w.heap.size 22 #[.slice none 0 0] ∧ Blk W (w.heap.size + 1) 3 #[.int .i64 (ini.length : Int)] ∧ Blk W (w.heap.size + 2) 27 #[.int .i64 (parseE (trimN last.1)).2]) ∧ Below w.heap.size w W)
    (RSt.own' w _ _ _ (Nat.le_refl _) (by omega))
    (fun co => OwnFrom.and (fun s A B row hs hg hr => by
      have far : ∀ {b t cs}, Blk A b t cs → Blk B b t cs := fun {b t cs} hb => (hg.block b hb.lt (fun e => by
        obtain ⟨_, o, ho, hc⟩ := hr b e.symm
        rw [show A.heap[b]? = _ from hb] at ho; cases ho; cases hc)).trans hb
      obtain ⟨hc, ini, last, e1, e2, e3, e4, e5, e6⟩ := hs
      exact ⟨hc, ini, last, e1, e2, e3, far e4, far e5, far e6⟩) (ownFrom_below (Nat.le_refl _) (by omega)))
    (RSt.free w _ _ (by omega)) HS0.out
    (fun x a' W => a' = { tmps := #[strV l, undef, .pointer (some ⟨w.heap.size, 0, none⟩), .pointer (some ⟨w.heap.size + 1, 0, none⟩), .pointer (some ⟨w.heap.size + 2, 0, none⟩), .pointer (some ⟨w.heap.size + 3, 0, none⟩), strV x.1, undef, undef, strV l, .func (.func 66) #[] #[.pointer (some ⟨w.heap.size + 4, 0, none⟩)], strV x.1, undef, undef, undef, undef, undef, undef, undef, undef, undef, undef, undef, undef, undef, undef, undef, undef, undef, undef], defers := [] })
    (fun x a' s A B row hs hg hr => hs) ?assign ?body ?done ?stop
  case assign =>
    rintro lo pre x W K hI hK
    have HKK := Lib.hid hK
    have HI := Lib.hid hI
    clear hI hK
    gi_wp2
    exact HKK.out _ _ (KeepsFrom.refl _ _) rfl HI.out rfl
  case body =>
    rintro lo pre x a' W hlo hI rfl hlt
    obtain ⟨v, hv, hrow⟩ := hI.out
    obtain ⟨A', c', rfl, hnc, hcm⟩ := own_form hrow
    obtain ⟨y, hy⟩ := hI.own
    have HV := Lib.hid hv
    have HROW := Lib.hid hrow
    have HY := Lib.hid hy
    have HI := Lib.hid hI
    have HT := Lib.hid (fun w => trim_any x.1 w x.2)
    have htl := trimN_len x.1
    have HP := Lib.hid (fun w h => eparse_any (trimN x.1) w (by have := x.2; omega) h)
    have HSN := Lib.hid (evs_snoc pre x)
    have hpl : pre.length ≤ 90000 := by omega
    have HM1 := Lib.hid (HM.out.old (Kept.ofBelow HI.out.below []))
    obtain ⟨i0, hi, hz0, hz1, hz2⟩ := info_parts Tryd.info30
    generalize hpr : parseE (trimN x.1) = pr at *
    have HPR := Lib.hid hpr
    generalize htx : trimN x.1 = tx at *
    have HTX := Lib.hid htx
    clear htx
    obtain ⟨⟨s, cp, kd, t, g, oo, d, n⟩, ec⟩ := pr
    simp only at HP HSN
    clear hv hrow hy hI hpr
    by_cases hec : ec = 0
    · subst hec
      gi_wp2_with (first
        | (refine ⟨trivial, ?_⟩; gi_at_call 51; refine (CallsIn.inRound lo (callsIn_wide.2 (HT.out _))).mono ?_; rintro e w' ⟨rfl, rfl⟩)
        | (refine ⟨trivial, ?_⟩; gi_at_call 24; refine (CallsIn.inRound lo (callsIn_wide.2 (HP.out _ HM1.out))).mono ?_; rintro e W1 ⟨rfl, hk1⟩; have hB5 := HV.out.kept hk1 (by simp); have hc5 := hB5.cell; have hf5 := hB5.frozen; have hl5 := hB5.lt; have HK1 := Lib.hid hk1; clear hB5 hk1)
        | (gi_at_builtin; refine wpListIn_append_own _ rfl _ _ 22 rfl w.heap.size 30 i0 (.agg (eC 0 0 0 0 0 0 0 0)) 8 64 Tryd.underlying22 hi hz0 hz1 hz2 rfl (by decide) _ _ _ rfl (((own_kept HROW.out HK1.out (by simp)).alloc _).alloc _) ⟨W1.heap.size + 1, 0, none⟩ 1 1 (eL ⟨s, cp, kd, t, g, oo, d, n⟩) rfl rfl ?c1 (eL_one _) (by simp only [maxLen]; omega) (by omega) ?c2 ?_))
      case c1 =>
        have h := reads_ev (W1.alloc (.cells (eC s cp kd t g oo d n) 30)) 30 ⟨s, cp, kd, t, g, oo, d, n⟩
        obtain ⟨ad, e1, e2⟩ := h.2 (by omega)
        simp only [World.size_alloc, Option.some.injEq] at e1
        subst e1
        exact e2
      case c2 => have h1 := HK1.out.size; have h2 := HI.out.below.size; simp; omega
      intro v' w3 hown3 hgrow _
      obtain ⟨A2, c2, rfl, hnc2, hcm2⟩ := own_form hown3
      have hrow1 := own_kept HROW.out HK1.out (by simp)
      have hne5 := own_blk_ne hrow1 (HV.out.kept HK1.out (by simp)) (by decide)
      have HV3 := Lib.hid ((((HV.out.kept HK1.out (by simp)).alloc _).alloc _).grown hgrow (fun e => hne5 e.symm))
      have hc3 := HV3.out.cell
      have hf3 := HV3.out.frozen
      have hl3 := HV3.out.lt
      have HOWN := Lib.hid hown3
      have HGR := Lib.hid hgrow
      clear hown3 hgrow hrow1 hne5
      gi_wp2
      have hkt : Kept ((w.heap.size + 3) :: fp (.slice A' pre.length c')) W (w3.setCell ⟨w.heap.size + 3, 0, none⟩ (.slice A2 (pre.length + 1) c2)) :=
        ((((HK1.out.mono (by simp)).alloc _).alloc _).grown HGR.out (fun k e => .inl (by simp [mem_fp, e]))).setCell (.inl (by simp)) _
      have hnof : ∀ {b tt cs}, Blk W b tt cs → (30 : Nat) ≠ tt → b ≠ w.heap.size + 3 → b ∉ (w.heap.size + 3) :: fp (.slice A' pre.length c') := fun {b tt cs} hb hne h3 hm => by
        rcases List.mem_cons.1 hm with h | h
        · exact h3 h
        · exact own_blk_ne HROW.out hb hne (mem_fp.1 h)
      refine ⟨keepsFrom_kept hkt ?_, hkt.block _ HY.out.lt (hnof HY.out (by decide) (by omega)), ⟨HI.out.r0.kept hkt (hnof HI.out.r0 (by decide) (by omega)), HI.out.r1.kept hkt (hnof HI.out.r1 (by decide) (by omega)), HI.out.r2.kept hkt (hnof HI.out.r2 (by decide) (by omega)), ⟨_, HV3.out.set 0 _, ?_⟩, ⟨_, HY.out.kept hkt (hnof HY.out (by decide) (by omega))⟩, ?_, ?_⟩⟩
      · intro k hk
        rcases List.mem_cons.1 hk with rfl | hk
        · exact cells_blk HV.out
        · exact cells_own HROW.out k hk
      · rw [HSN.out, List.flatMap_append, List.length_append]
        have h := own_kept HOWN.out ((Kept.refl [w.heap.size + 3] w3).setCell (p := ⟨w.heap.size + 3, 0, none⟩) (.inl (by simp)) (.slice A2 (pre.length + 1) c2)) (fun k hk e => by
          simp at e; subst e
          exact own_blk_ne HOWN.out HV3.out (by decide) (mem_fp.1 hk))
        simpa using h
      · intro z hz
        rcases List.mem_append.1 hz with hz | hz
        · exact HI.out.ok z hz
        · simp at hz; subst hz; rw [HTX.out, HPR.out]
      · exact HI.out.below.trans (hkt.below HI.out.below.size (fun k hk => by
          rcases List.mem_cons.1 hk with rfl | hk
          · omega
          · exact (HROW.out.lt k (mem_fp.1 hk)).1))
    · have hec2 : (ec != 0) = true := by rw [bne_iff_ne]; exact hec
      have HEC := Lib.hid hec
      clear hec
      gi_wp2_with (first
        | (refine ⟨trivial, ?_⟩; gi_at_call 51; refine (CallsIn.inRound lo (callsIn_wide.2 (HT.out _))).mono ?_; rintro e w' ⟨rfl, rfl⟩)
        | (refine ⟨trivial, ?_⟩; gi_at_call 24; refine (CallsIn.inRound lo (callsIn_wide.2 (HP.out _ HM1.out))).mono ?_; rintro e W1 ⟨rfl, hk1⟩; have hB5 := HV.out.kept hk1 (by simp); have hc5 := hB5.cell; have hf5 := hB5.frozen; have hl5 := hB5.lt; have HK1 := Lib.hid hk1; clear hB5 hk1))
      have hmix : Tryd.prog.follows .mixedOrders = true := by kernel_rfl
      have HR0 := Lib.hid (HI.out.r0.kept HK1.out (by simp))
      have HR1 := Lib.hid (HI.out.r1.kept HK1.out (by simp))
      have HR2 := Lib.hid (HI.out.r2.kept HK1.out (by simp))
      have hc0 := HR0.out.cell
      have hf0 := HR0.out.frozen
      have hl0 := HR0.out.lt
      have hc1 := HR1.out.cell
      have hf1 := HR1.out.frozen
      have hl1 := HR1.out.lt
      have hc2 := HR2.out.cell
      have hf2 := HR2.out.frozen
      have hl2 := HR2.out.lt
      gi_region_with_o (fail)
      all_goals gi_wp2
      all_goals
        refine ⟨keepsFrom_kept (G := [w.heap.size, w.heap.size + 1, w.heap.size + 2]) ?_ ?_, ⟨rfl, pre, x, rfl, HI.out.ok, by rw [HTX.out, HPR.out]; exact HEC.out, ?_, ?_, ?_⟩, HI.out.below.trans (Kept.below (G := [w.heap.size, w.heap.size + 1, w.heap.size + 2]) ?_ HI.out.below.size (by simp))⟩
        · have hk := HK1.out.mono (G' := [w.heap.size, w.heap.size + 1, w.heap.size + 2]) (by simp)
          (repeat (first | (with_reducible exact hk) | (with_reducible refine Kept.drew ?_) | (with_reducible refine Kept.alloc ?_ _) | (with_reducible refine Kept.setCell ?_ ?_ _) | (exact .inl (by simp))))
        · intro k hk
          simp at hk
          rcases hk with rfl | rfl | rfl
          · exact cells_blk HI.out.r0
          · exact cells_blk HI.out.r1
          · exact cells_blk HI.out.r2
        · (repeat (first | (with_reducible exact Blk.set1 HR0.out _) | (with_reducible refine Blk.drew ?_) | (with_reducible refine Blk.alloc ?_ _) | (with_reducible refine Blk.far ?_ ?_ _) | (simp only; omega)))
        · (repeat (first | (with_reducible exact HR1.out) | (with_reducible refine Blk.set1 (x := .int .i64 0) ?_ _) | (with_reducible refine Blk.drew ?_) | (with_reducible refine Blk.alloc ?_ _) | (with_reducible refine Blk.far ?_ ?_ _) | (simp only; omega)))
        · rw [HTX.out, HPR.out]
          (repeat (first | (with_reducible exact HR2.out) | (with_reducible refine Blk.set1 (x := .int .i64 0) ?_ _) | (with_reducible refine Blk.drew ?_) | (with_reducible refine Blk.alloc ?_ _) | (with_reducible refine Blk.far ?_ ?_ _) | (simp only; omega)))
        · have hk := HK1.out.mono (G' := [w.heap.size, w.heap.size + 1, w.heap.size + 2]) (by simp)
          (repeat (first | (with_reducible exact hk) | (with_reducible refine Kept.drew ?_) | (with_reducible refine Kept.alloc ?_ _) | (with_reducible refine Kept.setCell ?_ ?_ _) | (exact .inl (by simp))))
  case done =>
    rintro D ys W hD hys hI hK
    obtain ⟨v, hv, hrow⟩ := hI.out
    obtain ⟨A', c', rfl, hnc, hcm⟩ := own_form hrow
    have hres : readsE [] (linesF [] l) = (evs ys, (ys.length : Int), 0) := by
      have h2 := HLT.out
      rw [← hys, List.map_map] at h2
      have h3 := readsE_pre ys [] [] hI.ok
      rw [List.append_nil] at h3
      rw [← h2]
      refine Eq.trans h3 ?_
      simp [readsE, evs_len]
    have HRES := Lib.hid hres
    have HV := Lib.hid hv
    have HROW := Lib.hid hrow
    have HI := Lib.hid hI
    have HK := Lib.hid hK
    have hc0 := HI.out.r0.cell
    have hf0 := HI.out.r0.frozen
    have hl0 := HI.out.r0.lt
    have hc1 := HI.out.r1.cell
    have hf1 := HI.out.r1.frozen
    have hl1 := HI.out.r1.lt
    have hc2 := HI.out.r2.cell
    have hf2 := HI.out.r2.frozen
    have hl2 := HI.out.r2.lt
    have hc3 := HV.out.cell
    clear hv hrow hI hK hres hys
    gi_wp2
    gi_region
    all_goals gi_wp2
    all_goals
      obtain ⟨WW, hWW, hb0, hb1, hb2, hKD, hKW⟩ : ∃ WW, WW = (((W.setCell ⟨w.heap.size, 0, none⟩ (.slice A' ys.length c')).setCell ⟨w.heap.size + 1, 0, none⟩ (.int .i64 (ys.length : Int))).setCell ⟨w.heap.size + 1 + 1, 0, none⟩ (.int .i64 0)).drew ∧
          Hid (Blk WW w.heap.size 22 #[.slice A' ys.length c']) ∧ Hid (Blk WW (w.heap.size + 1) 3 #[.int .i64 (ys.length : Int)]) ∧ Hid (Blk WW (w.heap.size + 2) 27 #[.int .i64 0]) ∧ Hid (WW.heap[D]? = some (.deferred (some []))) ∧ Hid (Kept [w.heap.size, w.heap.size + 1, w.heap.size + 2] W WW) := by
        refine ⟨_, rfl, ?_, ?_, ?_, ?_, ?_⟩
        · exact (((HI.out.r0.set1 _).far (by simp only; omega) _).far (by simp only; omega) _).drew
        · exact (((HI.out.r1.far (by simp only; omega) _).set1 _).far (by simp only; omega) _).drew
        · exact (((HI.out.r2.far (by simp only; omega) _).far (by simp only; omega) _).set1 _).drew
        · exact (Below.heap_setCell _ _ _ D (by simp only; omega)).trans ((Below.heap_setCell _ _ _ D (by simp only; omega)).trans ((Below.heap_setCell _ _ _ D (by simp only; omega)).trans HK.out))
        · exact ((((Kept.refl _ _).setCell (.inl (by simp)) _).setCell (.inl (by simp)) _).setCell (.inl (by simp)) _).drew
      rw [← hWW]
      refine ⟨by simp, .inl ⟨_, _, rfl, run_takeDeferred hKD.out, ?_⟩⟩
      have hx0 := (hb0.out.putObjR (.deferred none) (D := D) (by omega)).cell
      have hx1 := (hb1.out.putObjR (.deferred none) (D := D) (by omega)).cell
      have hx2 := (hb2.out.putObjR (.deferred none) (D := D) (by omega)).cell
      refine ⟨.tuple #[.slice A' ys.length c', .int .i64 (ys.length : Int), .int .i64 0], ?_, ?_⟩
      · simp [results, Tryd.results26, go_sem, hx0, hx1, hx2]
      · rw [HRES.out]
        have hrw := own_kept HROW.out hKW.out (fun k hk e => by
          simp at e
          rcases e with rfl | rfl | rfl
          · exact own_blk_ne HROW.out HI.out.r0 (by decide) (mem_fp.1 hk)
          · exact own_blk_ne HROW.out HI.out.r1 (by decide) (mem_fp.1 hk)
          · exact own_blk_ne HROW.out HI.out.r2 (by decide) (mem_fp.1 hk))
        have hbl : Below w.heap.size w WW := HI.out.below.trans (hKW.out.below HI.out.below.size (by simp))
        exact ⟨_, _, _, rfl, own_base (ownsRow_putObj hrw _ hKD.out rfl), Kept.ofBelow (hbl.trans (belowK_b (w := w) (Nat.le_refl _) _ D _ _ (by omega) hKD.out rfl rfl)) _, fun k hk => (HROW.out.lt k (mem_fp.1 hk)).1⟩
  case stop =>
    rintro D co pre W hD ⟨r, hr⟩ ⟨⟨rfl, ini, last, e1, e2, e3, e4, e5, e6⟩, hB⟩ hK
    have hres : readsE [] (linesF [] l) = ([], (ini.length : Int), (parseE (trimN last.1)).2) := by
      have h2 := HLT.out
      rw [← hr, e1, List.map_append, List.map_append, List.map_append, List.map_map, List.append_assoc] at h2
      have h3 := readsE_pre ini [] (List.map trimN (List.map Subtype.val [last]) ++ List.map trimN r) e2
      rw [← h2]
      refine Eq.trans h3 ?_
      simp [readsE, evs_len, e3]
    have HRES := Lib.hid hres
    have hc0 := e4.cell
    have hc1 := e5.cell
    have hc2 := e6.cell
    have HB := Lib.hid hB
    have HK := Lib.hid hK
    have H4 := Lib.hid e4
    have H5 := Lib.hid e5
    have H6 := Lib.hid e6
    generalize (parseE (trimN last.1)).2 = ec at *
    clear hB hK e1 e2 e3 e4 e5 e6 hr hres
    gi_wp2
    refine ⟨by simp, .inl ⟨_, _, rfl, run_takeDeferred HK.out, ?_⟩⟩
    have hx0 := (H4.out.putObjR (.deferred none) (D := D) (by omega)).cell
    have hx1 := (H5.out.putObjR (.deferred none) (D := D) (by omega)).cell
    have hx2 := (H6.out.putObjR (.deferred none) (D := D) (by omega)).cell
    refine ⟨.tuple #[.slice none 0 0, .int .i64 (ini.length : Int), .int .i64 ec], ?_, ?_⟩
    · simp [results, Tryd.results26, go_sem, hx0, hx1, hx2]
    · rw [HRES.out]
      exact ⟨_, _, _, rfl, World.ownsRow_nil _ _ _ _, Kept.ofBelow (HB.out.trans (belowK_b (w := w) (Nat.le_refl _) _ D _ _ (by omega) HK.out rfl rfl)) _, by simp [fp, Value.ownBlock]⟩

end Go.Proofs.YtohkgdgdblnbfaaDoor
