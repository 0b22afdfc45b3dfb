/- The document's account (layer 35): Step, an event of kind 2; walked; The document's account (layer 35): Step, an event of kind 9; walked. -/
import Derived.Test.YtccodklfplfleaaP33

/- The document's account (layer 35): Step, an event of kind 2; walked. -/
namespace Go.Proofs.Ytccodklfplfleaa
open Go.RowKit

set_option maxHeartbeats 6400000 in
set_option maxRecDepth 100000 in
theorem R35Step_k2 {w0 : World} {w : World} {b : RqA} {d : Du} {a : Acc} (h : RqIs w0 w b d a) (hw : AWhole d a) (hd : checkU d = 0) (hu : IsU w0 d b.A b.n b.B b.m) (hf : AFit a) (e : Ev) (hkd : e.kind = 2) (hr : runsA a e = true) :
    Calls Try.prog 16 #[.pointer (some ⟨b.g, 0, none⟩), .agg (eC e.step e.cpu e.kind e.slot e.gen e.op e.code e.n)] w fun x w' => x = .returned (.bool (stepA d a e).isSome) ∧ RqIs w0 w' b d ((stepA d a e).getD a) := by
  obtain ⟨wb, hwb⟩ : ∃ wb, w.alloc (.cells (eC e.step e.cpu e.kind e.slot e.gen e.op e.code e.n) 55) = wb := ⟨_, rfl⟩
  obtain ⟨h0, hF, _, _, hRU, hEND⟩ := RqIs.evs h hw hwb
  have HF := Lib.hid hF
  have HRU := Lib.hid hRU
  have HEND := Lib.hid hEND
  rw [hr] at HRU
  have h4 : e.kind ≠ 4 := by omega
  have h8 : e.kind ≠ 8 := by omega
  have h7 : e.kind ≠ 7 := by omega
  have h6 : e.kind ≠ 6 := by omega
  have hs := stepR_run (d := d) (a := a) h4 h8 h7 h6
  rw [if_neg (by simp [hr])] at hs
  have HS := Lib.hid hs
  obtain ⟨p0, p1, p2, p3⟩ := hasA_lt (runsA_has hr)
  obtain ⟨t, ht'⟩ : ∃ t : Nat, e.slot = t := ⟨e.slot.toNat, by omega⟩
  have htt : e.slot.toNat = t := by rw [ht', Int.toNat_natCast]
  rw [htt] at p1 p2 p3 HS
  have ht : t < a.T.length := by rw [hw.tl]; exact p1
  have ht0 : (0 : Int) ≤ (t : Int) := by omega
  have ht1 : (t : Int) < (a.T.length : Int) := by omega
  have HRNG : Hid (∀ W, Kept [] wb W → W.rangeAt b.gT (t * 31) (oneL (a.th t))) := fun W hk => (RqAt.th (HEND.out W hk).at_ ht).1
  have HAC : Hid (∀ W, Kept [] wb W → (W.cell? ⟨b.g, 10, none⟩ = some (.slice (some ⟨b.gT, 0, none⟩) a.T.length a.T.length) ∧ b.g < W.heap.size ∧ b.gT < W.heap.size)) := fun W hk => ⟨(HF.out W hk).1.2.1, (HF.out W hk).1.2.2⟩
  have HEV : Hid (∀ W, Kept [] wb W → (W.cell? ⟨w.heap.size, 2, none⟩ = some (.int .i64 e.kind) ∧ W.cell? ⟨w.heap.size, 4, none⟩ = some (.int .u32 e.gen) ∧ W.cell? ⟨w.heap.size, 5, none⟩ = some (.int .i64 e.op) ∧ W.cell? ⟨w.heap.size, 6, none⟩ = some (.int .i64 e.code) ∧ W.cell? ⟨w.heap.size, 7, none⟩ = some (.int .u64 e.n) ∧ w.heap.size < W.heap.size)) := fun W hk => by
    have := (HF.out W hk).2
    exact ⟨this.2.2.1, this.2.2.2.2.1, this.2.2.2.2.2.1, this.2.2.2.2.2.2.1, this.2.2.2.2.2.2.2.1, this.2.2.2.2.2.2.2.2⟩
  -- stores into the thread, one behind another
  have HST : Hid (∀ W (x1 : Th) (j : Nat) (u : Value) (x2 : Th), j < 31 → (oneL x1).set j u = oneL x2 → RqIs w0 W b d (a.setT t x1) → ((∃ v, W.cell? ⟨b.gT, t * 31 + j, none⟩ = some v) ∧ (∀ j, W.frozen? ⟨b.gT, j, none⟩ = false) ∧ (W.cell? ⟨b.g, 10, none⟩ = some (.slice (some ⟨b.gT, 0, none⟩) a.T.length a.T.length) ∧ b.g < W.heap.size ∧ b.gT < W.heap.size) ∧ RqIs w0 (W.setCell ⟨b.gT, t * 31 + j, none⟩ u) b d (a.setT t x2))) := fun W x1 j u x2 hj hx hA => by
    have hlen : (a.setT t x1).T.length = a.T.length := by simp [Acc.setT]
    have := RqIs.st1 hA (t := t) (by rw [hlen]; exact ht) j hj u x2 (by rw [setT_thR ht]; exact hx)
    rw [setT_setT, hlen] at this
    exact this
  have hset : a.setT t (a.th t) = a := by
    unfold Acc.setT Acc.th
    rw [List.getD_eq_getElem?_getD, List.getElem?_eq_getElem ht]
    simp
  have HSELF : Hid (∀ W, RqIs w0 W b d a → RqIs w0 W b d (a.setT t (a.th t))) := fun W hA => by rw [hset]; exact hA
  have HNB : Hid (w.heap.size ∉ [b.gT] ∧ ∀ g, w.heap.size ≤ g → g ∉ [b.gT]) := ⟨fun hm => by have e := List.mem_singleton.1 hm; have := (RqAt.bl h.at_).2.2.2.2; omega, fun g hg hm => by have e := List.mem_singleton.1 hm; have := (RqAt.bl h.at_).2.2.2.2; omega⟩
  have e4 : (e.kind == 4) = false := beq_eq_false_iff_ne.2 h4
  have e8 : (e.kind == 8) = false := beq_eq_false_iff_ne.2 h8
  have e7 : (e.kind == 7) = false := beq_eq_false_iff_ne.2 h7
  have e6 : (e.kind == 6) = false := beq_eq_false_iff_ne.2 h6
  obtain ⟨V, hV⟩ : ∃ V, stepA d a e = V := ⟨_, rfl⟩
  rw [hV] at HS ⊢
  rw [ht'] at HF hwb HRU ⊢
  have HWB := Lib.hid (And.intro hw (And.intro hd (And.intro hu (And.intro hf (And.intro ht p2)))))
  have HW0 : Hid (Kept [] w0 w) := h.kept
  have HK0 := Lib.hid h0
  have HWT := Lib.hid ht
  have HGT2 : Hid (b.g ≠ b.gT) := fun e => Holds.apart h.at_ (i := 0) (j := 4) (by decide) rfl rfl b.g (by simp [Piece.fp]) (by rw [e]; simp [Piece.fp, fp_some])
  have HSB : Hid (w.heap.size < wb.heap.size) := by show _ < _; rw [← hwb]; simp
  have HKD := Lib.hid hkd
  clear hkd
  clear hs hF hRU hEND h4 h8 h7 h6 hr p0 p1 p3 ht' htt hset hV h hw hd hu hf ht p2
  have hf := HF.out wb (Kept.refl _ _)
  go_enter Try.func16, Try.ntmps16
  go_wp2_with fail
  (try rw [hwb])
  (try (go_wp2_with fail))
  refine (HRU.out _ (Kept.refl _ _)).mono ?_
  rintro x wr ⟨rfl, hkr⟩
  have HKR := Lib.hid hkr
  clear hkr hf hwb e4 e8 e7 e6
  have hf := HF.out wr HKR.out
  have hrng := Lib.hid (HRNG.out wr HKR.out)
  have HWR := Lib.hid (Nat.le_trans (Nat.le_of_lt HSB.out) HKR.out.size)
  go_upto_region 21 with (first | (refine wpList_load_mid rfl 79 _ rfl b.gT (t * 31) rfl (oneL (a.th t)) _ hrng.out Try.underlying79 rfl (by kernel_rfl) ?_) | (refine wpList_store_blk rfl 79 _ _ rfl wr.heap.size (oneL (a.th t)).toArray rfl rfl 79 (oneL Th.zero).toArray (Blk.new wr 79 (oneL Th.zero).toArray) (by kernel_rfl) rfl (all_oneCell_toArray (oneL_one _)) ?_; intro W2 hB2 hK2; have HB2 := Lib.hid hB2; have HK2 := Lib.hid (((Kept.refl [] wr).alloc _).trans' hK2 (fun k hk => .inr (by simp at hk; omega))); clear hB2 hK2) | fail)
  (try dsimp only [Act.put])
  have HKW : Hid (Kept [] wb W2) := HKR.out.trans HK2.out
  have HX := Lib.hid (one_box HB2.out)
  have HBX2 := HB2
  clear hf hrng HB2 HRNG HF HRU
  have HRX : Hid (∀ W, Kept [] W2 W → W.rangeAt wr.heap.size 0 (oneL (a.th t))) := fun W hk j v hv => by
    rw [Nat.zero_add, (HBX2.out.kept hk (by simp)).cell, List.getElem?_toArray]; exact hv
  have HG : Hid (∀ W, Kept [b.gT] W2 W → (W.cell? ⟨w.heap.size, 2, none⟩ = some (.int .i64 e.kind) ∧ W.cell? ⟨w.heap.size, 4, none⟩ = some (.int .u32 e.gen) ∧ W.cell? ⟨w.heap.size, 5, none⟩ = some (.int .i64 e.op) ∧ W.cell? ⟨w.heap.size, 6, none⟩ = some (.int .i64 e.code) ∧ W.cell? ⟨w.heap.size, 7, none⟩ = some (.int .u64 e.n) ∧ w.heap.size < W.heap.size) ∧ (W.cell? ⟨wr.heap.size, 4, none⟩ = some (.int .i64 (a.th t).call) ∧ W.cell? ⟨wr.heap.size, 23, none⟩ = some (.int .i64 (a.th t).deed.op) ∧ W.cell? ⟨wr.heap.size, 24, none⟩ = some (.int .i64 (a.th t).deed.a) ∧ W.cell? ⟨wr.heap.size, 25, none⟩ = some (.int .i64 (a.th t).deed.b) ∧ W.cell? ⟨wr.heap.size, 26, none⟩ = some (.int .i64 (a.th t).deed.r) ∧ W.cell? ⟨wr.heap.size, 27, none⟩ = some (.int .u64 (a.th t).deed.n) ∧ W.cell? ⟨wr.heap.size, 28, none⟩ = some (.int .u64 (a.th t).deed.mask) ∧ W.cell? ⟨wr.heap.size, 29, none⟩ = some (.bool (a.th t).deed.loose) ∧ W.cell? ⟨wr.heap.size, 30, none⟩ = some (.int .i64 (a.th t).code) ∧ wr.heap.size < W.heap.size)) := fun W hk => by
    have q := HEV.out W2 HKW.out
    have x := HX.out W2 (Kept.refl _ _)
    have n1 := HNB.out.1
    have n2 := HNB.out.2 wr.heap.size HWR.out
    exact ⟨⟨hk.cell_some q.1 n1, hk.cell_some q.2.1 n1, hk.cell_some q.2.2.1 n1, hk.cell_some q.2.2.2.1 n1, hk.cell_some q.2.2.2.2.1 n1, Nat.lt_of_lt_of_le q.2.2.2.2.2 hk.size⟩, hk.cell_some x.1 n2, hk.cell_some x.2.1 n2, hk.cell_some x.2.2.1 n2, hk.cell_some x.2.2.2.1 n2, hk.cell_some x.2.2.2.2.1 n2, hk.cell_some x.2.2.2.2.2.1 n2, hk.cell_some x.2.2.2.2.2.2.1 n2, hk.cell_some x.2.2.2.2.2.2.2.1 n2, hk.cell_some x.2.2.2.2.2.2.2.2.1 n2, Nat.lt_of_lt_of_le x.2.2.2.2.2.2.2.2.2 hk.size⟩
  have HA2 : Hid (∀ W, Kept [] W2 W → RqIs w0 W b d a) := fun W hk => HEND.out W (HKW.out.trans hk)
  have hfg := HG.out W2 (Kept.refl _ _)
  have hac := HAC.out W2 HKW.out
  have hkd := HKD.out
  rw [hkd] at hfg HG HS
  clear hkd
  have HV : Hid (V = if (a.th t).call = 1 ∧ (a.th t).deed.op = e.op ∧ mayA d a t e.code = true then some (if e.code = 0 then doesA (a.setT t { a.th t with call := 2, code := e.code }) t else a.setT t { a.th t with call := 2, code := e.code }) else none) := by show V = _; rw [HS.out, if_neg (by omega), if_pos rfl]
  have HMY : Hid (∀ W, Kept [] W2 W → Calls Try.prog 31 #[.pointer (some ⟨b.g, 0, none⟩), .int .i64 t, .agg (ddR (a.th t).deed), .int .i64 e.code] W fun y w' => y = .returned (.bool (mayA d a t e.code)) ∧ Kept [] W w') := fun W hk => by
    obtain ⟨q1, q2, q3, q4, q5, q6⟩ := HWB.out
    exact R35may_any (HA2.out W hk).at_ q1 q2 q3.1.len q5 (q4.mask _ q5) e.code
  have HDO : Hid (mayA d a t 0 = true → ∀ W, RqIs w0 W b d (a.setT t { a.th t with call := 2, code := 0 }) → Calls Try.prog 32 #[.pointer (some ⟨b.g, 0, none⟩), .int .i64 t, .agg (ddR (a.th t).deed)] W fun x w' => x = .returned (.tuple #[]) ∧ RqIs w0 w' b d (doesA (a.setT t { a.th t with call := 2, code := 0 }) t)) := fun hmy W hA => by
    obtain ⟨q1, q2, q3, q4, q5, q6⟩ := HWB.out
    have hx := q1.at_ q5
    obtain ⟨a1, ha1⟩ : ∃ a1, a.setT t { a.th t with call := 2, code := 0 } = a1 := ⟨_, rfl⟩
    have hth1 : a1.th t = { a.th t with call := 2, code := 0 } := by rw [← ha1]; exact setT_thR q5
    have ht1 : t < a1.T.length := by rw [← ha1]; simpa [Acc.setT] using q5
    have hpl1 : ∀ u, a1.pl u = a.pl u := fun u => by rw [← ha1]; rfl
    have hP1 : a1.P = a.P := by rw [← ha1]; rfl
    have hw1 : AWhole d a1 := by
      rw [← ha1]
      exact q1.setT _ fun _ => hx.mono rfl rfl rfl rfl (fun _ hop => mayA_lock hmy (by omega))
    rw [ha1] at hA ⊢
    have h1 := R35does_any hA hw1 ht1 (by rw [hpl1]; exact q6) (by rw [hth1]; intro hop; have := mayA_spawn hmy hop; exact ⟨this.1, by unfold freeA at this ⊢; rw [hP1]; exact this.2⟩)
      (by
        rw [hth1]
        intro hop
        have h3 := mayA_isA hmy hop
        unfold isA hasA regA at h3 ⊢
        rw [hth1, hP1]
        exact h3) (by rw [hth1]; intro hop; exact mayA_lock hmy (by simp only at hop; omega))
    rw [hth1] at h1
    exact h1
  obtain ⟨ocl, hcl⟩ : ∃ z, (a.th t).call = z := ⟨_, rfl⟩
  obtain ⟨dd, hdd⟩ : ∃ z, (a.th t).deed = z := ⟨_, rfl⟩
  rw [hcl, hdd] at hfg HG HV
  rw [hdd] at HMY HDO
  obtain ⟨no, na, nb, nr, nn, nm, nl⟩ := dd
  simp only at hfg HG HV HMY HDO
  have HDD := Lib.hid (And.intro hcl hdd)
  clear hcl hdd HS HRX
  have hs2 := HK2.out.size
  by_cases hc : ocl = 1
  · by_cases ho : no = e.op
    · have ho1 : (no != e.op) = false := by simp [ho]
      subst hc
      cases hmy : mayA d a t e.code with
      | false =>
        have HR : Hid (V = none) := by show V = _; rw [HV.out, if_neg (by simp [hmy])]
        rw [hmy] at HMY
        clear ho HV HG hmy HDO
        go_wp2_with fail
        refine (HMY.out _ (Kept.refl _ _)).mono ?_
        rintro y w4 ⟨rfl, hk4⟩
        have HK4 := Lib.hid hk4
        clear hk4 hfg hac
        go_wp2_with fail
        go_ret
        exact ⟨by rw [HR.out]; rfl, by rw [HR.out]; exact HA2.out _ HK4.out⟩
      | true =>
        have HR : Hid (V = some (if e.code = 0 then doesA (a.setT t { a.th t with call := 2, code := e.code }) t else a.setT t { a.th t with call := 2, code := e.code })) := by show V = _; rw [HV.out, if_pos ⟨rfl, ho, hmy⟩]
        have HMT := Lib.hid hmy
        rw [hmy] at HMY
        clear ho HV hmy
        go_upto_region 36 with fail
        refine (HMY.out _ (Kept.refl _ _)).mono ?_
        rintro y w4 ⟨rfl, hk4⟩
        have HK4 := Lib.hid hk4
        clear hk4 hfg hac
        have hfg := HG.out w4 (HK4.out.mono (by simp))
        have hac := HAC.out w4 (HKW.out.trans HK4.out)
        obtain ⟨⟨v4, c4⟩, cf, _, hA⟩ := HST.out w4 (a.th t) 4 (.int .i64 2) { a.th t with call := 2 } (by omega) (by rfl) (HSELF.out _ (HA2.out _ HK4.out))
        have HA6 := Lib.hid hA
        obtain ⟨w6, hw6⟩ : ∃ w6, w4.setCell ⟨b.gT, t * 31 + 4, none⟩ (.int .i64 2) = w6 := ⟨_, rfl⟩
        have HK6 : Hid (Kept [b.gT] W2 w6) := by rw [← hw6]; exact (HK4.out.mono (by simp)).setCell (.inl (by simp)) _
        rw [hw6] at HA6
        have HW6 := Lib.hid hw6
        have HF38 : Hid (∀ W, Kept [] w6 W → (W.cell? ⟨b.g, 10, none⟩ = some (.slice (some ⟨b.gT, 0, none⟩) a.T.length a.T.length) ∧ b.g < W.heap.size ∧ b.gT < W.heap.size) ∧ ((W.cell? ⟨w.heap.size, 2, none⟩ = some (.int .i64 2) ∧ W.cell? ⟨w.heap.size, 4, none⟩ = some (.int .u32 e.gen) ∧ W.cell? ⟨w.heap.size, 5, none⟩ = some (.int .i64 e.op) ∧ W.cell? ⟨w.heap.size, 6, none⟩ = some (.int .i64 e.code) ∧ W.cell? ⟨w.heap.size, 7, none⟩ = some (.int .u64 e.n) ∧ w.heap.size < W.heap.size) ∧ (W.cell? ⟨wr.heap.size, 4, none⟩ = some (.int .i64 1) ∧ W.cell? ⟨wr.heap.size, 23, none⟩ = some (.int .i64 no) ∧ W.cell? ⟨wr.heap.size, 24, none⟩ = some (.int .i64 na) ∧ W.cell? ⟨wr.heap.size, 25, none⟩ = some (.int .i64 nb) ∧ W.cell? ⟨wr.heap.size, 26, none⟩ = some (.int .i64 nr) ∧ W.cell? ⟨wr.heap.size, 27, none⟩ = some (.int .u64 nn) ∧ W.cell? ⟨wr.heap.size, 28, none⟩ = some (.int .u64 nm) ∧ W.cell? ⟨wr.heap.size, 29, none⟩ = some (.bool nl) ∧ W.cell? ⟨wr.heap.size, 30, none⟩ = some (.int .i64 (a.th t).code) ∧ wr.heap.size < W.heap.size))) := fun W hk => ⟨(HST.out W { a.th t with call := 2 } 4 (.int .i64 2) { a.th t with call := 2 } (by omega) (by rfl) (HA6.out.old hk)).2.2.1, HG.out W (HK6.out.trans (hk.mono (by simp)))⟩
        clear hA hw6
        go_upto_region 38 with fail
        rw [HW6.out]
        clear hfg hac c4 cf
        (refine wp_region_phases (n := 10) (listed := #[false, false, false, false, false, false, false, false, false, false]) (by kernel_rfl) (by rfl) (by rfl) ?_)
        (refine wpAny_phase (fun W => Kept [] w6 W) [(0, false), (1, false), (2, false), (3, false), (4, false), (5, false), (6, false), (7, false), (8, false)] (f := 1) (listed := #[false, false, false, false, false, false, false, false, false, false]) (listed' := #[true, true, true, true, true, true, true, true, true, false]) (by kernel_rfl) (by kernel_rfl) (by rfl) (Kept.refl [] _).drew (fun d _ _ _ _ h => by cases d <;> exact h) ?_)
        iterate 9 (refine wpQL_take (v := ?_) rfl (by rfl) ?_ ?_; rotate_left; (focus ((intro W hC; have hF := HF38.out W hC; go_simp); try (with_reducible rfl))); (try dsimp only [Act.put]); (try simp only [List.setIfInBounds_toArray, List.set_cons_zero, List.set_cons_succ]))
        (refine wpQL_nil ?_)
        (intro wq hq)
        obtain ⟨⟨y0, g0⟩, gf, ⟨k1, k2, k3⟩, hA7⟩ := HST.out _ { a.th t with call := 2 } 30 (.int .i64 e.code) { a.th t with call := 2, code := e.code } (by omega) (by rfl) (HA6.out.old hq)
        (refine wpAny_loud 9 (fuel := 0) (listed := #[true, true, true, true, true, true, true, true, true, false]) (listed' := #[true, true, true, true, true, true, true, true, true, true]) (by kernel_rfl) (by rfl) nth_9 (fun K hK => ?_))
        go_simp
        (refine hK.out _ _ ?_; clear hK K)
        (try simp only [Act.put, List.setIfInBounds_toArray, List.set_cons_zero, List.set_cons_succ])
        (refine wpAny_done (by kernel_rfl) ?_ _)
        obtain ⟨w8, hw8⟩ : ∃ w8, wq.setCell ⟨b.gT, t * 31 + 30, none⟩ (.int .i64 e.code) = w8 := ⟨_, rfl⟩
        have HK8 : Hid (Kept [b.gT] W2 w8) := by rw [← hw8]; exact (HK6.out.trans (hq.mono (by simp))).setCell (.inl (by simp)) _
        rw [hw8] at hA7 ⊢
        have HA7 := Lib.hid hA7
        have hfg := HG.out w8 HK8.out
        clear hA7 g0 gf k1 k2 k3 hq hw8
        by_cases h00 : e.code = 0
        · rw [if_pos h00] at HR
          rw [h00] at HR HMT HA7
          have HDO2 := Lib.hid (HDO.out HMT.out)
          have e00 : (e.code == 0) = true := by simp [h00]
          clear h00 HDO
          go_wp2_with fail
          refine (HDO2.out _ HA7.out).mono ?_
          rintro y w9 ⟨rfl, hA9⟩
          have HA9 := Lib.hid hA9
          clear hA9
          go_wp2_with fail
          go_ret
          exact ⟨by rw [HR.out]; rfl, by rw [HR.out]; exact HA9.out⟩
        · rw [if_neg h00] at HR
          have e00 : (e.code == 0) = false := beq_eq_false_iff_ne.2 h00
          clear h00 HDO HMT
          go_wp2_with fail
          go_ret
          exact ⟨by rw [HR.out]; rfl, by rw [HR.out]; exact HA7.out⟩
    · have HR : Hid (V = none) := by show V = _; rw [HV.out, if_neg (by simp [ho])]
      have ho1 : (no != e.op) = true := bne_iff_ne.2 ho
      subst hc
      clear ho HV HG HDO HMY
      go_wp2_with fail
      go_ret
      exact ⟨by rw [HR.out]; rfl, by rw [HR.out]; exact HA2.out _ (Kept.refl _ _)⟩
  · have HR : Hid (V = none) := by show V = _; rw [HV.out, if_neg (by simp [hc])]
    have hc1 : (ocl != 1) = true := bne_iff_ne.2 hc
    clear hc HV HG HDO HMY
    go_wp2_with fail
    go_ret
    exact ⟨by rw [HR.out]; rfl, by rw [HR.out]; exact HA2.out _ (Kept.refl _ _)⟩

end Go.Proofs.Ytccodklfplfleaa

/- The document's account (layer 35): Step, an event of kind 9; walked. -/
namespace Go.Proofs.Ytccodklfplfleaa
open Go.RowKit

set_option maxHeartbeats 6400000 in
set_option maxRecDepth 100000 in
theorem R35Step_k9 {w0 : World} {w : World} {b : RqA} {d : Du} {a : Acc} (h : RqIs w0 w b d a) (hw : AWhole d a) (hd : checkU d = 0) (hu : IsU w0 d b.A b.n b.B b.m) (hf : AFit a) (e : Ev) (hkd : e.kind = 9) (hr : runsA a e = true) :
    Calls Try.prog 16 #[.pointer (some ⟨b.g, 0, none⟩), .agg (eC e.step e.cpu e.kind e.slot e.gen e.op e.code e.n)] w fun x w' => x = .returned (.bool (stepA d a e).isSome) ∧ RqIs w0 w' b d ((stepA d a e).getD a) := by
  obtain ⟨wb, hwb⟩ : ∃ wb, w.alloc (.cells (eC e.step e.cpu e.kind e.slot e.gen e.op e.code e.n) 55) = wb := ⟨_, rfl⟩
  obtain ⟨h0, hF, _, _, hRU, hEND⟩ := RqIs.evs h hw hwb
  have HF := Lib.hid hF
  have HRU := Lib.hid hRU
  have HEND := Lib.hid hEND
  rw [hr] at HRU
  have h4 : e.kind ≠ 4 := by omega
  have h8 : e.kind ≠ 8 := by omega
  have h7 : e.kind ≠ 7 := by omega
  have h6 : e.kind ≠ 6 := by omega
  have hs := stepR_run (d := d) (a := a) h4 h8 h7 h6
  rw [if_neg (by simp [hr])] at hs
  have HS := Lib.hid hs
  obtain ⟨p0, p1, p2, p3⟩ := hasA_lt (runsA_has hr)
  obtain ⟨t, ht'⟩ : ∃ t : Nat, e.slot = t := ⟨e.slot.toNat, by omega⟩
  have htt : e.slot.toNat = t := by rw [ht', Int.toNat_natCast]
  rw [htt] at p1 p2 p3 HS
  have ht : t < a.T.length := by rw [hw.tl]; exact p1
  have ht0 : (0 : Int) ≤ (t : Int) := by omega
  have ht1 : (t : Int) < (a.T.length : Int) := by omega
  have HRNG : Hid (∀ W, Kept [] wb W → W.rangeAt b.gT (t * 31) (oneL (a.th t))) := fun W hk => (RqAt.th (HEND.out W hk).at_ ht).1
  have HAC : Hid (∀ W, Kept [] wb W → (W.cell? ⟨b.g, 10, none⟩ = some (.slice (some ⟨b.gT, 0, none⟩) a.T.length a.T.length) ∧ b.g < W.heap.size ∧ b.gT < W.heap.size)) := fun W hk => ⟨(HF.out W hk).1.2.1, (HF.out W hk).1.2.2⟩
  have HEV : Hid (∀ W, Kept [] wb W → (W.cell? ⟨w.heap.size, 2, none⟩ = some (.int .i64 e.kind) ∧ W.cell? ⟨w.heap.size, 4, none⟩ = some (.int .u32 e.gen) ∧ W.cell? ⟨w.heap.size, 5, none⟩ = some (.int .i64 e.op) ∧ W.cell? ⟨w.heap.size, 6, none⟩ = some (.int .i64 e.code) ∧ W.cell? ⟨w.heap.size, 7, none⟩ = some (.int .u64 e.n) ∧ w.heap.size < W.heap.size)) := fun W hk => by
    have := (HF.out W hk).2
    exact ⟨this.2.2.1, this.2.2.2.2.1, this.2.2.2.2.2.1, this.2.2.2.2.2.2.1, this.2.2.2.2.2.2.2.1, this.2.2.2.2.2.2.2.2⟩
  -- stores into the thread, one behind another
  have HST : Hid (∀ W (x1 : Th) (j : Nat) (u : Value) (x2 : Th), j < 31 → (oneL x1).set j u = oneL x2 → RqIs w0 W b d (a.setT t x1) → ((∃ v, W.cell? ⟨b.gT, t * 31 + j, none⟩ = some v) ∧ (∀ j, W.frozen? ⟨b.gT, j, none⟩ = false) ∧ (W.cell? ⟨b.g, 10, none⟩ = some (.slice (some ⟨b.gT, 0, none⟩) a.T.length a.T.length) ∧ b.g < W.heap.size ∧ b.gT < W.heap.size) ∧ RqIs w0 (W.setCell ⟨b.gT, t * 31 + j, none⟩ u) b d (a.setT t x2))) := fun W x1 j u x2 hj hx hA => by
    have hlen : (a.setT t x1).T.length = a.T.length := by simp [Acc.setT]
    have := RqIs.st1 hA (t := t) (by rw [hlen]; exact ht) j hj u x2 (by rw [setT_thR ht]; exact hx)
    rw [setT_setT, hlen] at this
    exact this
  have hset : a.setT t (a.th t) = a := by
    unfold Acc.setT Acc.th
    rw [List.getD_eq_getElem?_getD, List.getElem?_eq_getElem ht]
    simp
  have HSELF : Hid (∀ W, RqIs w0 W b d a → RqIs w0 W b d (a.setT t (a.th t))) := fun W hA => by rw [hset]; exact hA
  have HNB : Hid (w.heap.size ∉ [b.gT] ∧ ∀ g, w.heap.size ≤ g → g ∉ [b.gT]) := ⟨fun hm => by have e := List.mem_singleton.1 hm; have := (RqAt.bl h.at_).2.2.2.2; omega, fun g hg hm => by have e := List.mem_singleton.1 hm; have := (RqAt.bl h.at_).2.2.2.2; omega⟩
  have e4 : (e.kind == 4) = false := beq_eq_false_iff_ne.2 h4
  have e8 : (e.kind == 8) = false := beq_eq_false_iff_ne.2 h8
  have e7 : (e.kind == 7) = false := beq_eq_false_iff_ne.2 h7
  have e6 : (e.kind == 6) = false := beq_eq_false_iff_ne.2 h6
  obtain ⟨V, hV⟩ : ∃ V, stepA d a e = V := ⟨_, rfl⟩
  rw [hV] at HS ⊢
  rw [ht'] at HF hwb HRU ⊢
  have HWB := Lib.hid (And.intro hw (And.intro hd (And.intro hu (And.intro hf (And.intro ht p2)))))
  have HW0 : Hid (Kept [] w0 w) := h.kept
  have HK0 := Lib.hid h0
  have HWT := Lib.hid ht
  have HGT2 : Hid (b.g ≠ b.gT) := fun e => Holds.apart h.at_ (i := 0) (j := 4) (by decide) rfl rfl b.g (by simp [Piece.fp]) (by rw [e]; simp [Piece.fp, fp_some])
  have HSB : Hid (w.heap.size < wb.heap.size) := by show _ < _; rw [← hwb]; simp
  have HKD := Lib.hid hkd
  clear hkd
  clear hs hF hRU hEND h4 h8 h7 h6 hr p0 p1 p3 ht' htt hset hV h hw hd hu hf ht p2
  have hf := HF.out wb (Kept.refl _ _)
  go_enter Try.func16, Try.ntmps16
  go_wp2_with fail
  (try rw [hwb])
  (try (go_wp2_with fail))
  refine (HRU.out _ (Kept.refl _ _)).mono ?_
  rintro x wr ⟨rfl, hkr⟩
  have HKR := Lib.hid hkr
  clear hkr hf hwb e4 e8 e7 e6
  have hf := HF.out wr HKR.out
  have hrng := Lib.hid (HRNG.out wr HKR.out)
  have HWR := Lib.hid (Nat.le_trans (Nat.le_of_lt HSB.out) HKR.out.size)
  go_upto_region 21 with (first | (refine wpList_load_mid rfl 79 _ rfl b.gT (t * 31) rfl (oneL (a.th t)) _ hrng.out Try.underlying79 rfl (by kernel_rfl) ?_) | (refine wpList_store_blk rfl 79 _ _ rfl wr.heap.size (oneL (a.th t)).toArray rfl rfl 79 (oneL Th.zero).toArray (Blk.new wr 79 (oneL Th.zero).toArray) (by kernel_rfl) rfl (all_oneCell_toArray (oneL_one _)) ?_; intro W2 hB2 hK2; have HB2 := Lib.hid hB2; have HK2 := Lib.hid (((Kept.refl [] wr).alloc _).trans' hK2 (fun k hk => .inr (by simp at hk; omega))); clear hB2 hK2) | fail)
  (try dsimp only [Act.put])
  have HKW : Hid (Kept [] wb W2) := HKR.out.trans HK2.out
  have HX := Lib.hid (one_box HB2.out)
  have HBX2 := HB2
  clear hf hrng HB2 HRNG HF HRU
  have HRX : Hid (∀ W, Kept [] W2 W → W.rangeAt wr.heap.size 0 (oneL (a.th t))) := fun W hk j v hv => by
    rw [Nat.zero_add, (HBX2.out.kept hk (by simp)).cell, List.getElem?_toArray]; exact hv
  have HG : Hid (∀ W, Kept [b.gT] W2 W → (W.cell? ⟨w.heap.size, 2, none⟩ = some (.int .i64 e.kind) ∧ W.cell? ⟨w.heap.size, 4, none⟩ = some (.int .u32 e.gen) ∧ W.cell? ⟨w.heap.size, 5, none⟩ = some (.int .i64 e.op) ∧ W.cell? ⟨w.heap.size, 6, none⟩ = some (.int .i64 e.code) ∧ W.cell? ⟨w.heap.size, 7, none⟩ = some (.int .u64 e.n) ∧ w.heap.size < W.heap.size) ∧ (W.cell? ⟨wr.heap.size, 4, none⟩ = some (.int .i64 (a.th t).call) ∧ W.cell? ⟨wr.heap.size, 23, none⟩ = some (.int .i64 (a.th t).deed.op) ∧ W.cell? ⟨wr.heap.size, 24, none⟩ = some (.int .i64 (a.th t).deed.a) ∧ W.cell? ⟨wr.heap.size, 25, none⟩ = some (.int .i64 (a.th t).deed.b) ∧ W.cell? ⟨wr.heap.size, 26, none⟩ = some (.int .i64 (a.th t).deed.r) ∧ W.cell? ⟨wr.heap.size, 27, none⟩ = some (.int .u64 (a.th t).deed.n) ∧ W.cell? ⟨wr.heap.size, 28, none⟩ = some (.int .u64 (a.th t).deed.mask) ∧ W.cell? ⟨wr.heap.size, 29, none⟩ = some (.bool (a.th t).deed.loose) ∧ W.cell? ⟨wr.heap.size, 30, none⟩ = some (.int .i64 (a.th t).code) ∧ wr.heap.size < W.heap.size)) := fun W hk => by
    have q := HEV.out W2 HKW.out
    have x := HX.out W2 (Kept.refl _ _)
    have n1 := HNB.out.1
    have n2 := HNB.out.2 wr.heap.size HWR.out
    exact ⟨⟨hk.cell_some q.1 n1, hk.cell_some q.2.1 n1, hk.cell_some q.2.2.1 n1, hk.cell_some q.2.2.2.1 n1, hk.cell_some q.2.2.2.2.1 n1, Nat.lt_of_lt_of_le q.2.2.2.2.2 hk.size⟩, hk.cell_some x.1 n2, hk.cell_some x.2.1 n2, hk.cell_some x.2.2.1 n2, hk.cell_some x.2.2.2.1 n2, hk.cell_some x.2.2.2.2.1 n2, hk.cell_some x.2.2.2.2.2.1 n2, hk.cell_some x.2.2.2.2.2.2.1 n2, hk.cell_some x.2.2.2.2.2.2.2.1 n2, hk.cell_some x.2.2.2.2.2.2.2.2.1 n2, Nat.lt_of_lt_of_le x.2.2.2.2.2.2.2.2.2 hk.size⟩
  have HA2 : Hid (∀ W, Kept [] W2 W → RqIs w0 W b d a) := fun W hk => HEND.out W (HKW.out.trans hk)
  have hfg := HG.out W2 (Kept.refl _ _)
  have hac := HAC.out W2 HKW.out
  have hkd := HKD.out
  rw [hkd] at hfg HG HS
  clear hkd
  have HV : Hid (V = if (a.th t).call = 2 ∧ (a.th t).code = 0 ∧ wantA a t ≠ 0 ∧ wantA a t = e.n then some (a.setT t { a.th t with state := 4, call := 3 }) else none) := by show V = _; rw [HS.out, if_neg (by omega), if_neg (by omega), if_pos rfl]
  have HWT2 : Hid (∀ W, Kept [] W2 W → Calls Try.prog 33 #[.pointer (some ⟨b.g, 0, none⟩), .int .i64 t, .int .u64 e.n] W fun y w' => y = .returned (.bool (decide (wantA a t ≠ 0 ∧ wantA a t = e.n))) ∧ Kept [] W w') := fun W hk => by
    obtain ⟨q1, q2, q3, q4, q5, q6⟩ := HWB.out
    exact R35waits_any (HA2.out W hk).at_ q1 q5 e.n
  obtain ⟨ocl, hcl⟩ : ∃ z, (a.th t).call = z := ⟨_, rfl⟩
  obtain ⟨oco, hco⟩ : ∃ z, (a.th t).code = z := ⟨_, rfl⟩
  rw [hcl, hco] at hfg HG HV
  clear hcl hco HS HRX HWB
  by_cases hc : ocl = 2
  · subst hc
    by_cases ho : oco = 0
    · subst ho
      cases hwn : decide (wantA a t ≠ 0 ∧ wantA a t = e.n) with
      | false =>
        have HR : Hid (V = none) := by show V = _; rw [HV.out, if_neg (by have := of_decide_eq_false hwn; intro h; exact this h.2.2)]
        rw [hwn] at HWT2
        clear HV HG hwn
        go_wp2_with fail
        refine (HWT2.out _ (Kept.refl _ _)).mono ?_
        rintro y w4 ⟨rfl, hk4⟩
        have HK4 := Lib.hid hk4
        clear hk4 hfg hac
        go_wp2_with fail
        go_ret
        exact ⟨by rw [HR.out]; rfl, by rw [HR.out]; exact HA2.out _ HK4.out⟩
      | true =>
        have HR : Hid (V = some (a.setT t { a.th t with state := 4, call := 3 })) := by show V = _; rw [HV.out, if_pos ⟨rfl, rfl, of_decide_eq_true hwn⟩]
        rw [hwn] at HWT2
        clear HV HG hwn
        go_wp2_with fail
        refine (HWT2.out _ (Kept.refl _ _)).mono ?_
        rintro y w4 ⟨rfl, hk4⟩
        have HK4 := Lib.hid hk4
        clear hk4 hfg hac
        have hac := HAC.out w4 (HKW.out.trans HK4.out)
        obtain ⟨⟨v2, c2⟩, cf, _, hA⟩ := HST.out w4 (a.th t) 2 (.int .i64 4) { a.th t with state := 4 } (by omega) (by rfl) (HSELF.out _ (HA2.out _ HK4.out))
        obtain ⟨⟨v4, c4⟩, _⟩ := HST.out w4 (a.th t) 4 (.int .i64 4) { a.th t with call := 4 } (by omega) (by rfl) (HSELF.out _ (HA2.out _ HK4.out))
        obtain ⟨_, _, _, hA2⟩ := HST.out _ { a.th t with state := 4 } 4 (.int .i64 3) { a.th t with state := 4, call := 3 } (by omega) (by rfl) hA
        have hne : (⟨b.g, 10, none⟩ : Addr) ≠ ⟨b.gT, t * 31 + 2, none⟩ := fun h => by
          have h1 : b.g = b.gT := congrArg Addr.block h
          exact HGT2.out h1
        have HA9 := Lib.hid hA2
        clear hA hA2
        go_wp2_with fail
        go_ret
        exact ⟨by rw [HR.out]; rfl, by rw [HR.out]; exact HA9.out⟩
    · have HR : Hid (V = none) := by show V = _; rw [HV.out, if_neg (by simp [ho])]
      have ho1 : (oco != 0) = true := bne_iff_ne.2 ho
      clear ho HV HG HWT2
      go_wp2_with fail
      go_ret
      exact ⟨by rw [HR.out]; rfl, by rw [HR.out]; exact HA2.out _ (Kept.refl _ _)⟩
  · have HR : Hid (V = none) := by show V = _; rw [HV.out, if_neg (by simp [hc])]
    have hc1 : (ocl != 2) = true := bne_iff_ne.2 hc
    clear hc HV HG HWT2
    go_wp2_with fail
    go_ret
    exact ⟨by rw [HR.out]; rfl, by rw [HR.out]; exact HA2.out _ (Kept.refl _ _)⟩

end Go.Proofs.Ytccodklfplfleaa

