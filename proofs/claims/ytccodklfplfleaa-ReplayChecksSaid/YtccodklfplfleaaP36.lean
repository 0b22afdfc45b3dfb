/- The document's account (layer 35): Step, an event of kind 3; walked; Package replay, in plain words: masks stay words, holders stay places or nobody. No program in sight; Package roll: New. -/
import Derived.Test.YtccodklfplfleaaP33
import Derived.Test.YtccodklfplfleaaRpL

/- The document's account (layer 35): Step, an event of kind 3; walked. -/
namespace Go.Proofs.Ytccodklfplfleaa
open Go.RowKit

set_option maxHeartbeats 6400000 in
set_option maxRecDepth 100000 in
theorem R35Step_k3 {w0 : World} {w : World} {b : RqA} {d : Du} {a : Acc} (h : RqIs w0 w b d a) (hw : AWhole d a) (hd : checkU d = 0) (hu : IsU w0 d b.A b.n b.B b.m) (hf : AFit a) (e : Ev) (hkd : e.kind = 3) (hr : runsA a e = true) :
    Calls Try.prog 16 #[.pointer (some ⟨b.g, 0, none⟩), .agg (eC e.step e.cpu e.kind e.slot e.gen e.op e.code e.n)] w fun x w' => x = .returned (.bool (stepA d a e).isSome) ∧ RqIs w0 w' b d ((stepA d a e).getD a) := by
  obtain ⟨wb, hwb⟩ : ∃ wb, w.alloc (.cells (eC e.step e.cpu e.kind e.slot e.gen e.op e.code e.n) 55) = wb := ⟨_, rfl⟩
  obtain ⟨h0, hF, _, _, hRU, hEND⟩ := RqIs.evs h hw hwb
  have HF := Lib.hid hF
  have HRU := Lib.hid hRU
  have HEND := Lib.hid hEND
  rw [hr] at HRU
  have h4 : e.kind ≠ 4 := by omega
  have h8 : e.kind ≠ 8 := by omega
  have h7 : e.kind ≠ 7 := by omega
  have h6 : e.kind ≠ 6 := by omega
  have hs := stepR_run (d := d) (a := a) h4 h8 h7 h6
  rw [if_neg (by simp [hr])] at hs
  have HS := Lib.hid hs
  obtain ⟨p0, p1, p2, p3⟩ := hasA_lt (runsA_has hr)
  obtain ⟨t, ht'⟩ : ∃ t : Nat, e.slot = t := ⟨e.slot.toNat, by omega⟩
  have htt : e.slot.toNat = t := by rw [ht', Int.toNat_natCast]
  rw [htt] at p1 p2 p3 HS
  have ht : t < a.T.length := by rw [hw.tl]; exact p1
  have ht0 : (0 : Int) ≤ (t : Int) := by omega
  have ht1 : (t : Int) < (a.T.length : Int) := by omega
  have HRNG : Hid (∀ W, Kept [] wb W → W.rangeAt b.gT (t * 31) (oneL (a.th t))) := fun W hk => (RqAt.th (HEND.out W hk).at_ ht).1
  have HAC : Hid (∀ W, Kept [] wb W → (W.cell? ⟨b.g, 10, none⟩ = some (.slice (some ⟨b.gT, 0, none⟩) a.T.length a.T.length) ∧ b.g < W.heap.size ∧ b.gT < W.heap.size)) := fun W hk => ⟨(HF.out W hk).1.2.1, (HF.out W hk).1.2.2⟩
  have HEV : Hid (∀ W, Kept [] wb W → (W.cell? ⟨w.heap.size, 2, none⟩ = some (.int .i64 e.kind) ∧ W.cell? ⟨w.heap.size, 4, none⟩ = some (.int .u32 e.gen) ∧ W.cell? ⟨w.heap.size, 5, none⟩ = some (.int .i64 e.op) ∧ W.cell? ⟨w.heap.size, 6, none⟩ = some (.int .i64 e.code) ∧ W.cell? ⟨w.heap.size, 7, none⟩ = some (.int .u64 e.n) ∧ w.heap.size < W.heap.size)) := fun W hk => by
    have := (HF.out W hk).2
    exact ⟨this.2.2.1, this.2.2.2.2.1, this.2.2.2.2.2.1, this.2.2.2.2.2.2.1, this.2.2.2.2.2.2.2.1, this.2.2.2.2.2.2.2.2⟩
  -- stores into the thread, one behind another
  have HST : Hid (∀ W (x1 : Th) (j : Nat) (u : Value) (x2 : Th), j < 31 → (oneL x1).set j u = oneL x2 → RqIs w0 W b d (a.setT t x1) → ((∃ v, W.cell? ⟨b.gT, t * 31 + j, none⟩ = some v) ∧ (∀ j, W.frozen? ⟨b.gT, j, none⟩ = false) ∧ (W.cell? ⟨b.g, 10, none⟩ = some (.slice (some ⟨b.gT, 0, none⟩) a.T.length a.T.length) ∧ b.g < W.heap.size ∧ b.gT < W.heap.size) ∧ RqIs w0 (W.setCell ⟨b.gT, t * 31 + j, none⟩ u) b d (a.setT t x2))) := fun W x1 j u x2 hj hx hA => by
    have hlen : (a.setT t x1).T.length = a.T.length := by simp [Acc.setT]
    have := RqIs.st1 hA (t := t) (by rw [hlen]; exact ht) j hj u x2 (by rw [setT_thR ht]; exact hx)
    rw [setT_setT, hlen] at this
    exact this
  have hset : a.setT t (a.th t) = a := by
    unfold Acc.setT Acc.th
    rw [List.getD_eq_getElem?_getD, List.getElem?_eq_getElem ht]
    simp
  have HSELF : Hid (∀ W, RqIs w0 W b d a → RqIs w0 W b d (a.setT t (a.th t))) := fun W hA => by rw [hset]; exact hA
  have HNB : Hid (w.heap.size ∉ [b.gT] ∧ ∀ g, w.heap.size ≤ g → g ∉ [b.gT]) := ⟨fun hm => by have e := List.mem_singleton.1 hm; have := (RqAt.bl h.at_).2.2.2.2; omega, fun g hg hm => by have e := List.mem_singleton.1 hm; have := (RqAt.bl h.at_).2.2.2.2; omega⟩
  have e4 : (e.kind == 4) = false := beq_eq_false_iff_ne.2 h4
  have e8 : (e.kind == 8) = false := beq_eq_false_iff_ne.2 h8
  have e7 : (e.kind == 7) = false := beq_eq_false_iff_ne.2 h7
  have e6 : (e.kind == 6) = false := beq_eq_false_iff_ne.2 h6
  obtain ⟨V, hV⟩ : ∃ V, stepA d a e = V := ⟨_, rfl⟩
  rw [hV] at HS ⊢
  rw [ht'] at HF hwb HRU ⊢
  have HWB := Lib.hid (And.intro hw (And.intro hd (And.intro hu (And.intro hf (And.intro ht p2)))))
  have HW0 : Hid (Kept [] w0 w) := h.kept
  have HK0 := Lib.hid h0
  have HWT := Lib.hid ht
  have HGT2 : Hid (b.g ≠ b.gT) := fun e => Holds.apart h.at_ (i := 0) (j := 4) (by decide) rfl rfl b.g (by simp [Piece.fp]) (by rw [e]; simp [Piece.fp, fp_some])
  have HSB : Hid (w.heap.size < wb.heap.size) := by show _ < _; rw [← hwb]; simp
  have HKD := Lib.hid hkd
  clear hkd
  clear hs hF hRU hEND h4 h8 h7 h6 hr p0 p1 p3 ht' htt hset hV h hw hd hu hf ht p2
  have hf := HF.out wb (Kept.refl _ _)
  go_enter Try.func16, Try.ntmps16
  go_wp2_with fail
  (try rw [hwb])
  (try (go_wp2_with fail))
  refine (HRU.out _ (Kept.refl _ _)).mono ?_
  rintro x wr ⟨rfl, hkr⟩
  have HKR := Lib.hid hkr
  clear hkr hf hwb e4 e8 e7 e6
  have hf := HF.out wr HKR.out
  have hrng := Lib.hid (HRNG.out wr HKR.out)
  have HWR := Lib.hid (Nat.le_trans (Nat.le_of_lt HSB.out) HKR.out.size)
  go_upto_region 21 with (first | (refine wpList_load_mid rfl 79 _ rfl b.gT (t * 31) rfl (oneL (a.th t)) _ hrng.out Try.underlying79 rfl (by kernel_rfl) ?_) | (refine wpList_store_blk rfl 79 _ _ rfl wr.heap.size (oneL (a.th t)).toArray rfl rfl 79 (oneL Th.zero).toArray (Blk.new wr 79 (oneL Th.zero).toArray) (by kernel_rfl) rfl (all_oneCell_toArray (oneL_one _)) ?_; intro W2 hB2 hK2; have HB2 := Lib.hid hB2; have HK2 := Lib.hid (((Kept.refl [] wr).alloc _).trans' hK2 (fun k hk => .inr (by simp at hk; omega))); clear hB2 hK2) | fail)
  (try dsimp only [Act.put])
  have HKW : Hid (Kept [] wb W2) := HKR.out.trans HK2.out
  have HX := Lib.hid (one_box HB2.out)
  have HBX2 := HB2
  clear hf hrng HB2 HRNG HF HRU
  have HRX : Hid (∀ W, Kept [] W2 W → W.rangeAt wr.heap.size 0 (oneL (a.th t))) := fun W hk j v hv => by
    rw [Nat.zero_add, (HBX2.out.kept hk (by simp)).cell, List.getElem?_toArray]; exact hv
  have HG : Hid (∀ W, Kept [b.gT] W2 W → (W.cell? ⟨w.heap.size, 2, none⟩ = some (.int .i64 e.kind) ∧ W.cell? ⟨w.heap.size, 4, none⟩ = some (.int .u32 e.gen) ∧ W.cell? ⟨w.heap.size, 5, none⟩ = some (.int .i64 e.op) ∧ W.cell? ⟨w.heap.size, 6, none⟩ = some (.int .i64 e.code) ∧ W.cell? ⟨w.heap.size, 7, none⟩ = some (.int .u64 e.n) ∧ w.heap.size < W.heap.size) ∧ (W.cell? ⟨wr.heap.size, 4, none⟩ = some (.int .i64 (a.th t).call) ∧ W.cell? ⟨wr.heap.size, 23, none⟩ = some (.int .i64 (a.th t).deed.op) ∧ W.cell? ⟨wr.heap.size, 24, none⟩ = some (.int .i64 (a.th t).deed.a) ∧ W.cell? ⟨wr.heap.size, 25, none⟩ = some (.int .i64 (a.th t).deed.b) ∧ W.cell? ⟨wr.heap.size, 26, none⟩ = some (.int .i64 (a.th t).deed.r) ∧ W.cell? ⟨wr.heap.size, 27, none⟩ = some (.int .u64 (a.th t).deed.n) ∧ W.cell? ⟨wr.heap.size, 28, none⟩ = some (.int .u64 (a.th t).deed.mask) ∧ W.cell? ⟨wr.heap.size, 29, none⟩ = some (.bool (a.th t).deed.loose) ∧ W.cell? ⟨wr.heap.size, 30, none⟩ = some (.int .i64 (a.th t).code) ∧ wr.heap.size < W.heap.size)) := fun W hk => by
    have q := HEV.out W2 HKW.out
    have x := HX.out W2 (Kept.refl _ _)
    have n1 := HNB.out.1
    have n2 := HNB.out.2 wr.heap.size HWR.out
    exact ⟨⟨hk.cell_some q.1 n1, hk.cell_some q.2.1 n1, hk.cell_some q.2.2.1 n1, hk.cell_some q.2.2.2.1 n1, hk.cell_some q.2.2.2.2.1 n1, Nat.lt_of_lt_of_le q.2.2.2.2.2 hk.size⟩, hk.cell_some x.1 n2, hk.cell_some x.2.1 n2, hk.cell_some x.2.2.1 n2, hk.cell_some x.2.2.2.1 n2, hk.cell_some x.2.2.2.2.1 n2, hk.cell_some x.2.2.2.2.2.1 n2, hk.cell_some x.2.2.2.2.2.2.1 n2, hk.cell_some x.2.2.2.2.2.2.2.1 n2, hk.cell_some x.2.2.2.2.2.2.2.2.1 n2, Nat.lt_of_lt_of_le x.2.2.2.2.2.2.2.2.2 hk.size⟩
  have HA2 : Hid (∀ W, Kept [] W2 W → RqIs w0 W b d a) := fun W hk => HEND.out W (HKW.out.trans hk)
  have hfg := HG.out W2 (Kept.refl _ _)
  have hac := HAC.out W2 HKW.out
  have hkd := HKD.out
  rw [hkd] at hfg HG HS
  clear hkd
  have HV : Hid (V = if returnsA a t e.code then some { a with T := a.T.set t { a.th t with call := 0 }, held := if ((a.th t).deed.op = 9 ∨ (a.th t).deed.op = 10) ∧ e.code = 0 then a.held.set (a.th t).deed.a.toNat t else a.held } else none) := by show V = _; rw [HS.out, if_neg (by omega), if_neg (by omega), if_neg (by omega), if_neg (by omega), if_neg (by omega)]
  have HRT : Hid (∀ W, Kept [] W2 W → Calls Try.prog 35 #[.pointer (some ⟨b.g, 0, none⟩), .agg (oneL (a.th t)).toArray, .int .i64 e.code] W fun y w' => y = .returned (.bool (returnsA a t e.code)) ∧ Kept [] W w') := fun W hk => by
    obtain ⟨q1, q2, q3, q4, q5, q6⟩ := HWB.out
    exact R35returns_any (HA2.out W hk).at_ q1 q5 e.code
  have hrx := Lib.hid (HRX.out W2 (Kept.refl _ _))
  cases hrt : returnsA a t e.code with
  | false =>
    have HR : Hid (V = none) := by show V = _; rw [HV.out, hrt]; rfl
    rw [hrt] at HRT
    clear HV HG HS hrt HWB
    go_wp2_with (first | (refine wpList_load_mid rfl 79 _ rfl wr.heap.size 0 rfl (oneL (a.th t)) _ hrx.out Try.underlying79 rfl (by kernel_rfl) ?_) | fail)
    refine (HRT.out _ (Kept.refl _ _)).mono ?_
    rintro y w4 ⟨rfl, hk4⟩
    have HK4 := Lib.hid hk4
    clear hk4 hfg hac
    go_wp2_with fail
    go_ret
    exact ⟨by rw [HR.out]; rfl, by rw [HR.out]; exact HA2.out _ HK4.out⟩
  | true =>
    have HLK : Hid (((a.th t).deed.op = 9 ∨ (a.th t).deed.op = 10) → e.code = 0 → ∃ g, b.AH = some ⟨g, 0, none⟩ ∧ (0 : Int) ≤ (a.th t).deed.a ∧ (a.th t).deed.a < (a.held.length : Int) ∧ ∀ W, RqIs w0 W b d (a.setT t { a.th t with call := 0 }) → W.cell? ⟨b.g, 11, none⟩ = some (.slice (some ⟨g, 0, none⟩) a.held.length b.cH) ∧ (∃ v, W.cell? ⟨g, (a.th t).deed.a.toNat, none⟩ = some v) ∧ (∀ j, W.frozen? ⟨g, j, none⟩ = false) ∧ g < W.heap.size ∧ RqIs w0 (W.setCell ⟨g, (a.th t).deed.a.toNat, none⟩ (.int .i64 t)) b d { a.setT t { a.th t with call := 0 } with held := a.held.set (a.th t).deed.a.toNat t }) := fun hop hco => by
      obtain ⟨q1, q2, q3, q4, q5, q6⟩ := HWB.out
      have hx := q1.at_ q5
      have hcl : (a.th t).call = 2 ∧ (a.th t).code = 0 ∨ (a.th t).call = 3 := by
        unfold returnsA at hrt
        rw [hco] at hrt
        by_cases h3 : (a.th t).call = 3
        · exact .inr h3
        · rw [if_neg h3] at hrt
          simp at hrt
          exact .inl ⟨hrt.1.1, hrt.1.2⟩
      have hlt := hx.lock hcl hop
      have ha0 := hx.deed.1
      have hal : (a.th t).deed.a.toNat < a.held.length := by have := q1.hl; omega
      obtain ⟨g, e1, _⟩ := RqAt.hld (HA2.out W2 (Kept.refl _ _)).at_ hal
      refine ⟨g, e1, ha0, by omega, fun W hA => ?_⟩
      obtain ⟨g', e1', e2, e3, e4⟩ := RqAt.hld hA.at_ (l := (a.th t).deed.a.toNat) hal
      obtain rfl : g = g' := by rw [e1] at e1'; injection e1' with e1; injection e1
      have hc := (RqAt.cells hA.at_).2.2.2.2.2.1
      rw [e1] at hc
      exact ⟨hc, ⟨_, e2⟩, e4, e3, RqIs.setH hA e1 _ _⟩
    have HR : Hid (V = some { a with T := a.T.set t { a.th t with call := 0 }, held := if ((a.th t).deed.op = 9 ∨ (a.th t).deed.op = 10) ∧ e.code = 0 then a.held.set (a.th t).deed.a.toNat t else a.held }) := by show V = _; rw [HV.out, hrt, if_pos rfl]
    rw [hrt] at HRT
    clear HV HS hrt
    go_wp2_with (first | (refine wpList_load_mid rfl 79 _ rfl wr.heap.size 0 rfl (oneL (a.th t)) _ hrx.out Try.underlying79 rfl (by kernel_rfl) ?_) | fail)
    refine (HRT.out _ (Kept.refl _ _)).mono ?_
    rintro y w4 ⟨rfl, hk4⟩
    have HK4 := Lib.hid hk4
    clear hk4 hfg hac
    have hac := HAC.out w4 (HKW.out.trans HK4.out)
    obtain ⟨⟨v4, c4⟩, cf, _, hA⟩ := HST.out w4 (a.th t) 4 (.int .i64 0) { a.th t with call := 0 } (by omega) (by rfl) (HSELF.out _ (HA2.out _ HK4.out))
    have HA6 := Lib.hid hA
    obtain ⟨w6, hw6⟩ : ∃ w6, w4.setCell ⟨b.gT, t * 31 + 4, none⟩ (.int .i64 0) = w6 := ⟨_, rfl⟩
    have HK6 : Hid (Kept [b.gT] W2 w6) := by rw [← hw6]; exact (HK4.out.mono (by simp)).setCell (.inl (by simp)) _
    rw [hw6] at HA6
    have HW6 := Lib.hid hw6
    clear hA hw6
    go_upto_region 25 with fail
    rw [HW6.out]
    clear hac c4 cf
    have hfg := HG.out w6 HK6.out
    obtain ⟨oop, hop⟩ : ∃ z, (a.th t).deed.op = z := ⟨_, rfl⟩
    obtain ⟨oa, hoa⟩ : ∃ z, (a.th t).deed.a = z := ⟨_, rfl⟩
    rw [hop, hoa] at hfg HG HR HLK
    by_cases hl : (oop = 9 ∨ oop = 10) ∧ e.code = 0
    · obtain ⟨hl1, hl2⟩ := hl
      obtain ⟨g, hgA, x0, x1, hW⟩ := HLK.out hl1 hl2
      rw [if_pos ⟨hl1, hl2⟩] at HR
      have e00 : (e.code == 0) = true := by simp [hl2]
      have HF26 : Hid (∀ W, Kept [] w6 W → (W.cell? ⟨b.g, 11, none⟩ = some (.slice (some ⟨g, 0, none⟩) a.held.length b.cH) ∧ b.g < W.heap.size) ∧ W.cell? ⟨wr.heap.size, 24, none⟩ = some (.int .i64 oa) ∧ wr.heap.size < W.heap.size) := fun W hk => by
        have h1 := HG.out W (HK6.out.trans (hk.mono (by simp)))
        have h2 := hW W (HA6.out.old hk)
        exact ⟨⟨h2.1, (RqAt.bl (HA6.out.old hk).at_).1⟩, h1.2.2.2.1, h1.2.2.2.2.2.2.2.2.2.2⟩
      have HWW := Lib.hid hW
      clear hop hoa HG HLK hl2 hW hgA
      rcases hl1 with rfl | rfl
      · go_wp2_with fail
        (refine wp_region_phases (n := 10) (listed := #[false, false, false, false, false, false, false, false, false, false]) (by kernel_rfl) (by rfl) (by rfl) ?_)
        (refine wpAny_phase (fun W => Kept [] w6 W) [(0, false), (1, false), (2, false), (3, false), (4, false), (5, false), (6, false), (7, false), (8, false)] (f := 1) (listed := #[false, false, false, false, false, false, false, false, false, false]) (listed' := #[true, true, true, true, true, true, true, true, true, false]) (by kernel_rfl) (by kernel_rfl) (by rfl) (Kept.refl [] _).drew (fun d _ _ _ _ h => by cases d <;> exact h) ?_)
        iterate 9 (refine wpQL_take (v := ?_) rfl (by rfl) ?_ ?_; rotate_left; (focus ((intro W hC; have hF := HF26.out W hC; go_simp); try (with_reducible rfl))); (try dsimp only [Act.put]); (try simp only [List.setIfInBounds_toArray, List.set_cons_zero, List.set_cons_succ]))
        (refine wpQL_nil ?_)
        (intro wq hq)
        obtain ⟨_, ⟨y1, i1⟩, i2, i3, hA9⟩ := HWW.out _ (HA6.out.old hq)
        have HA9 := Lib.hid hA9
        clear hA9
        (refine wpAny_loud 9 (fuel := 0) (listed := #[true, true, true, true, true, true, true, true, true, false]) (listed' := #[true, true, true, true, true, true, true, true, true, true]) (by kernel_rfl) (by rfl) nth_9 (fun K hK => ?_))
        go_simp
        (refine hK.out _ _ ?_; clear hK K)
        (try simp only [Act.put, List.setIfInBounds_toArray, List.set_cons_zero, List.set_cons_succ])
        (refine wpAny_done (by kernel_rfl) ?_ _)
        go_wp2_with fail
        go_ret
        exact ⟨by rw [HR.out]; rfl, by rw [HR.out]; exact HA9.out⟩
      · go_wp2_with fail
        (refine wp_region_phases (n := 10) (listed := #[false, false, false, false, false, false, false, false, false, false]) (by kernel_rfl) (by rfl) (by rfl) ?_)
        (refine wpAny_phase (fun W => Kept [] w6 W) [(0, false), (1, false), (2, false), (3, false), (4, false), (5, false), (6, false), (7, false), (8, false)] (f := 1) (listed := #[false, false, false, false, false, false, false, false, false, false]) (listed' := #[true, true, true, true, true, true, true, true, true, false]) (by kernel_rfl) (by kernel_rfl) (by rfl) (Kept.refl [] _).drew (fun d _ _ _ _ h => by cases d <;> exact h) ?_)
        iterate 9 (refine wpQL_take (v := ?_) rfl (by rfl) ?_ ?_; rotate_left; (focus ((intro W hC; have hF := HF26.out W hC; go_simp); try (with_reducible rfl))); (try dsimp only [Act.put]); (try simp only [List.setIfInBounds_toArray, List.set_cons_zero, List.set_cons_succ]))
        (refine wpQL_nil ?_)
        (intro wq hq)
        obtain ⟨_, ⟨y1, i1⟩, i2, i3, hA9⟩ := HWW.out _ (HA6.out.old hq)
        have HA9 := Lib.hid hA9
        clear hA9
        (refine wpAny_loud 9 (fuel := 0) (listed := #[true, true, true, true, true, true, true, true, true, false]) (listed' := #[true, true, true, true, true, true, true, true, true, true]) (by kernel_rfl) (by rfl) nth_9 (fun K hK => ?_))
        go_simp
        (refine hK.out _ _ ?_; clear hK K)
        (try simp only [Act.put, List.setIfInBounds_toArray, List.set_cons_zero, List.set_cons_succ])
        (refine wpAny_done (by kernel_rfl) ?_ _)
        go_wp2_with fail
        go_ret
        exact ⟨by rw [HR.out]; rfl, by rw [HR.out]; exact HA9.out⟩
    · rw [if_neg hl] at HR
      clear hop hoa HG HLK
      by_cases h9 : oop = 9
      · subst h9
        have e00 : (e.code == 0) = false := beq_eq_false_iff_ne.2 (fun h => hl ⟨.inl rfl, h⟩)
        clear hl
        go_wp2_with fail
        go_ret
        exact ⟨by rw [HR.out]; rfl, by rw [HR.out]; exact HA6.out⟩
      · have f9 : (oop == 9) = false := beq_eq_false_iff_ne.2 h9
        by_cases h10 : oop = 10
        · subst h10
          have e00 : (e.code == 0) = false := beq_eq_false_iff_ne.2 (fun h => hl ⟨.inr rfl, h⟩)
          clear hl h9
          go_wp2_with fail
          go_ret
          exact ⟨by rw [HR.out]; rfl, by rw [HR.out]; exact HA6.out⟩
        · have f10 : (oop == 10) = false := beq_eq_false_iff_ne.2 h10
          clear hl h9 h10
          go_wp2_with fail
          go_ret
          exact ⟨by rw [HR.out]; rfl, by rw [HR.out]; exact HA6.out⟩

end Go.Proofs.Ytccodklfplfleaa

/- Package replay, in plain words: masks stay words, holders stay places or nobody. No program in sight. -/
namespace Go.Proofs.Ytccodklfplfleaa

/-- Masks of a duty are words. -/
def MaskD (d : Du) : Prop := ∀ p ∈ d.progs, ∀ x ∈ p, x.mask < 18446744073709551616
theorem AFit.setT {a : Acc} (h : AFit a) (t : Nat) {x : Th} (hx : t < a.T.length → x.deed.mask < 18446744073709551616) : AFit (a.setT t x) := by
  refine ⟨fun u hu => ?_, h.held⟩
  have hu' : u < a.T.length := by simpa [Acc.setT] using hu
  show ((a.T.set t x).getD u Th.zero).deed.mask < _
  rw [getD_set]
  by_cases e : t = u
  · subst e; rw [if_pos ⟨rfl, hu'⟩]; exact hx hu'
  · rw [if_neg (by simp [e])]; exact h.mask u hu'
theorem AFit.setHeld {a : Acc} (h : AFit a) {l : List Int} (hl : ∀ k : Nat, k < l.length → -1 ≤ l.getD k 0) : AFit { a with held := l } := ⟨h.mask, hl⟩
theorem AFit.P {a : Acc} (h : AFit a) (l : List Pl) : AFit { a with P := l } := ⟨h.mask, h.held⟩
theorem AFit.freeP {a : Acc} (h : AFit a) (t : Nat) : AFit (freeP a t) := ⟨h.mask, h.held⟩
theorem AFit.hset {a : Acc} (h : AFit a) (k : Nat) {v : Int} (hv : -1 ≤ v) : AFit { a with held := a.held.set k v } := by
  refine h.setHeld fun j hj => ?_
  have hj' : j < a.held.length := by simpa using hj
  rw [getD_set]
  split
  · exact hv
  · exact h.held j hj'
theorem nextL_mask : ∀ (p : List Dd) (i : Nat), (∀ x ∈ p, x.mask < 18446744073709551616) → (nextL p i).1.mask < 18446744073709551616
  | [], i, _ => by simp [nextL]
  | x :: r, i, h => by
    rw [nextL]
    split
    · exact h x (by simp)
    · exact nextL_mask r (i + 1) (fun y hy => h y (by simp [hy]))
theorem doesA_fit {a : Acc} (h : AFit a) (t : Nat) (ht : t < a.T.length) : AFit (doesA a t) := by
  unfold doesA
  split
  · cases hf : freeA a with
    | none => exact h
    | some i =>
      show AFit (⟨_, _, _⟩ : Acc)
      have h1 : AFit (a.setT i { newT (a.th t).deed.a (a.th t).deed.mask (a.th t).deed.loose i ((a.pl i).gen + 1) with regs := (newT (a.th t).deed.a (a.th t).deed.mask (a.th t).deed.loose i ((a.pl i).gen + 1)).regs.set 1 ((t : Int), (a.pl t).gen) }) :=
        h.setT _ fun _ => by show (0 : Nat) < _; omega
      have h2 := h1.setT t (x := { a.th t with regs := (a.th t).regs.set (a.th t).deed.r.toNat ((i : Int), (a.pl i).gen + 1) }) fun _ => h.mask t ht
      exact h2.P _
  · split
    · split
      · exact h.freeP _
      · exact h
    · split
      · exact h.setT _ fun hu => h.mask _ hu
      · split
        · exact h.hset _ (by omega)
        · exact h
theorem exitsA_fit {a : Acc} (h : AFit a) (t : Nat) : AFit (exitsA a t) := by
  have h1 : AFit ({ a with held := a.held.map fun x => if x = (t : Int) then -1 else x, T := a.T.set t { a.th t with state := 5 } } : Acc) := by
    refine AFit.setT (a := { a with held := a.held.map fun x => if x = (t : Int) then -1 else x }) (h.setHeld fun k hk => ?_) t (x := { a.th t with state := 5 }) fun hu => h.mask t hu
    have hk' : k < a.held.length := by simpa using hk
    have h2 := h.held k hk'
    unfold Acc.hl at h2
    rw [List.getD_eq_getElem?_getD, List.getElem?_eq_getElem hk'] at h2
    rw [List.getD_eq_getElem?_getD, List.getElem?_map, List.getElem?_eq_getElem hk']
    simp only [Option.map_some, Option.getD_some] at h2 ⊢
    split <;> omega
  unfold exitsA
  simp only
  split
  · exact h1.freeP t
  · exact h1
/-- An event keeps an account fit. -/
theorem stepA_fit {d : Du} {a a' : Acc} {e : Ev} (hm : MaskD d) (hw : AWhole d a) (h : AFit a) (hs : stepA d a e = some a') : AFit a' := by
  unfold stepA stepB at hs
  rcases ite_some hs with ⟨_, hs⟩ | ⟨_, hs⟩
  · obtain ⟨_, rfl⟩ := ite_one hs; exact h.setT _ fun hu => h.mask _ hu
  rcases ite_some hs with ⟨_, hs⟩ | ⟨_, hs⟩
  · obtain ⟨_, rfl⟩ := ite_one hs; exact h
  rcases ite_some hs with ⟨_, hs⟩ | ⟨_, hs⟩
  · obtain ⟨_, rfl⟩ := ite_one hs; exact h
  rcases ite_some hs with ⟨_, hs⟩ | ⟨_, hs⟩
  · obtain ⟨_, rfl⟩ := ite_one hs; exact h.setT _ fun hu => h.mask _ hu
  rcases ite_some hs with ⟨_, hs⟩ | ⟨hr, hs⟩
  · cases hs
  have hr : runsA a e = true := by simpa using hr
  obtain ⟨p0, p1, p2, p3⟩ := hasA_lt (runsA_has hr)
  have ht : e.slot.toNat < a.T.length := by rw [hw.tl]; exact p1
  rcases ite_some hs with ⟨_, hs⟩ | ⟨_, hs⟩
  · obtain ⟨_, rfl⟩ := ite_one hs
    refine h.setT _ fun _ => ?_
    obtain ⟨q1, q2⟩ := (hw.at_ ht).prog p2
    have hp : d.progs.getD (a.th e.slot.toNat).prog.toNat [] ∈ d.progs := by
      rw [List.getD_eq_getElem?_getD, List.getElem?_eq_getElem (by omega)]
      exact List.getElem_mem _
    exact nextL_mask _ _ (fun x hx => hm _ hp x (List.mem_of_mem_drop hx))
  rcases ite_some hs with ⟨_, hs⟩ | ⟨_, hs⟩
  · obtain ⟨_, hs⟩ := ite_one hs
    have h1 : AFit (a.setT e.slot.toNat { a.th e.slot.toNat with call := 2, code := e.code }) := h.setT _ fun hu => h.mask _ hu
    split at hs
    · subst hs; exact doesA_fit h1 _ (by simpa [Acc.setT] using ht)
    · subst hs; exact h1
  rcases ite_some hs with ⟨_, hs⟩ | ⟨_, hs⟩
  · obtain ⟨_, rfl⟩ := ite_one hs; exact h.setT _ fun hu => h.mask _ hu
  rcases ite_some hs with ⟨_, hs⟩ | ⟨_, hs⟩
  · injection hs with hs; subst hs; exact h.setT _ fun hu => h.mask _ hu
  rcases ite_some hs with ⟨_, hs⟩ | ⟨_, hs⟩
  · obtain ⟨_, rfl⟩ := ite_one hs; exact exitsA_fit h _
  · obtain ⟨_, rfl⟩ := ite_one hs
    have h1 : AFit (a.setT e.slot.toNat { a.th e.slot.toNat with call := 0 }) := h.setT _ fun hu => h.mask _ hu
    split
    · exact h1.hset _ (by omega)
    · exact h1
theorem startA_fit {a : Acc} (h : AFit a) (s : St) : AFit (startA a s) := by
  unfold startA
  cases hf : freeA a with
  | none => exact h
  | some i =>
    have h1 : AFit (a.setT i { newT s.prog s.mask false i ((a.pl i).gen + 1) with state := 2 }) := h.setT _ fun _ => by show (0 : Nat) < _; omega
    exact h1.P _
theorem emptyA_fit (d : Du) : AFit (emptyA d) := by
  refine ⟨fun t ht => ?_, fun l hl => ?_⟩
  · have : (emptyA d).th t = Th.zero := by
      unfold Acc.th emptyA
      simp [List.getD_eq_getElem?_getD, List.getElem?_replicate]
      split <;> rfl
    rw [this]; show (0 : Nat) < _; omega
  · have hl' : l < d.locks.toNat := by simpa [emptyA] using hl
    unfold Acc.hl emptyA
    simp [List.getD_eq_getElem?_getD, List.getElem?_replicate, hl']
theorem fold_fit : ∀ (l : List St) (a : Acc), AFit a → AFit (l.foldl startA a)
  | [], _, h => h
  | s :: l, _, h => fold_fit l _ (startA_fit h s)
theorem openA_fit (d : Du) : AFit (openA d) := fold_fit _ _ (emptyA_fit d)

end Go.Proofs.Ytccodklfplfleaa

/- Package roll: New. -/
namespace Go.Proofs.Ytccodklfplfleaa
open Go.RowKit

/-- A number cut to 0 .. 64. -/
def clampR (x : Int) : Nat := if x < 0 then 0 else (min x 64).toNat
theorem clampR_id (n : Nat) (h : n ≤ 64) : clampR (n : Int) = n := by unfold clampR; rw [if_neg (by omega)]; omega
theorem clampR_any (x : Int) (w : World) : Calls Try.prog 76 #[.int .i64 x, .int .i64 0, .int .i64 64] w fun e w' => e = .returned (.int .i64 ((clampR x : Nat) : Int)) ∧ w = w' := by
  unfold clampR
  by_cases h : x < 0
  · rw [if_pos h]
    go_enter Try.func76, Try.ntmps76
    go_wp2
    go_ret
    exact ⟨rfl, rfl⟩
  · rw [if_neg h]
    have he : (((min x 64).toNat : Nat) : Int) = min x 64 := by omega
    rw [he]
    clear he
    go_enter Try.func76, Try.ntmps76
    go_wp2
    go_ret
    exact ⟨rfl, rfl⟩
theorem made_ownR (t e : TypeId) (z : Value) (size bytes : Nat) (ht : Try.prog.underlying t = some (.slice e)) (hi : (Try.prog.info? e).map (fun i => (i.zero, i.size, i.bytes)) = some (some z, size, bytes)) (n : Nat) (hb : bytes * n ≤ 281474976710656) (hn : n ≤ maxLen) (xs : List Value) (hx : (madeCells z.cells (n * size)).toList = xs) :
    ∃ f : World → World, ∀ W, (Instr.makeSlice t (.int .i64 (n : Int)) (.int .i64 (n : Int))).run Try.prog W = .ok (.slice (some ⟨W.heap.size, 0, none⟩) n n) (f W) ∧ (f W).ownsRow 0 e size (.slice (some ⟨W.heap.size, 0, none⟩) n n) n xs ∧ Kept [] W (f W) := by
  obtain ⟨i, hi0, hz, hsize, hby⟩ := info_parts hi
  subst hx
  have h := fun W => run_make_full (P := Try.prog) W 0 t e i z size ht hi0 hz hsize .i64 .i64 n (by rw [hby]; exact hb) hn (Nat.zero_le _)
  exact ⟨fun W => (h W).choose, fun W => ⟨(h W).choose_spec.1, (h W).choose_spec.2.1, (Kept.refl _ _).grown (h W).choose_spec.2.2 (fun k hk => by cases hk)⟩⟩
/-- Cells made: a row of equal ones. -/
theorem made_flat (z : Value) (l : List Value) (hz : z.cells.toList = l) (hl : l ≠ []) (n : Nat) {α : Type} (x : α) (g : α → List Value) (hg : g x = l) : (madeCells z.cells (n * l.length)).toList = (List.replicate n x).flatMap g := by
  have hs : z.cells.size = l.length := by rw [← hz]; simp
  have hk : 0 < l.length := List.length_pos_iff.2 hl
  unfold madeCells
  rw [hs]
  simp only [Array.toList_map, Array.toList_range]
  induction n with
  | zero => simp
  | succ n ih =>
    rw [Nat.succ_mul, List.range_add, List.map_append, ih, List.replicate_succ', List.flatMap_append]
    congr 1
    rw [List.map_map, List.flatMap_singleton, hg]
    apply List.ext_getElem?
    intro j
    by_cases hj : j < l.length
    · rw [List.getElem?_map, List.getElem?_range hj]
      simp only [Option.map_some, Function.comp]
      rw [Nat.mul_comm, Nat.mul_add_mod, Nat.mod_eq_of_lt hj, ← hz]
      rw [← hz] at hj
      simp at hj
      simp [hj]
    · rw [List.getElem?_eq_none (by simpa using hj), List.getElem?_eq_none (by omega)]

set_option maxHeartbeats 3200000 in
set_option maxRecDepth 100000 in
theorem rlNew_any (n : Nat) (hn : n ≤ 64) (w : World) :
    Calls Try.prog 54 #[.int .i64 n] w fun e w' => ∃ g A, e = .returned (.pointer (some ⟨g, 0, none⟩)) ∧ RlAt w' g (some ⟨A, 0, none⟩) n (List.replicate n Pl.zero) ∧ w.heap.size ≤ g ∧ w.heap.size ≤ A ∧ A ≠ g ∧ Kept [] w w' := by
  obtain ⟨f1, hf1⟩ := made_ownR 97 101 (.agg #[.bool false, .int .u32 0]) 2 8 Try.underlying97 (by kernel_rfl) n (by omega) (by simp [maxLen]; omega) _ (made_flat (.agg #[.bool false, .int .u32 0]) [.bool false, .int .u32 0] rfl (by simp) n Pl.zero plL rfl)
  have hmk1 := fun W => (hf1 W).1
  have HF1 := Lib.hid (fun W => (hf1 W).2)
  have HC := Lib.hid (fun W => clampR_any n W)
  rw [clampR_id n hn] at HC
  clear hf1
  go_enter Try.func54, Try.ntmps54
  go_wp2_with fail
  refine (HC.out _).mono ?_
  rintro e w1 ⟨rfl, rfl⟩
  go_wp2_with fail
  go_ret
  have h1 := HF1.out w
  have h2 : Kept [] (f1 w) ((f1 w).alloc (.cells #[.slice (some ⟨w.heap.size, 0, none⟩) n n] 99)) := (Kept.refl _ _).alloc _
  have h3 := h1.2.size
  refine ⟨_, _, rfl, ⟨?_, ?_⟩, ?_, Nat.le_refl _, ?_, h1.2.trans h2⟩
  · rw [List.length_replicate]; exact Blk.new _ _ _
  · rw [List.length_replicate]; exact own_kept h1.1 h2 (by simp)
  · exact h3
  · have h4 : w.heap.size < (f1 w).heap.size := own_lt h1.1 _ (by simp [fp_some])
    omega

end Go.Proofs.Ytccodklfplfleaa

