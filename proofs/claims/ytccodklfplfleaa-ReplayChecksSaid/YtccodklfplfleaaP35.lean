/- The document's account (layer 35): Step, an event of kind 5; walked; The document's account (layer 35): Step, an event of kind 10; walked. -/
import Derived.Test.YtccodklfplfleaaP33

/- The document's account (layer 35): Step, an event of kind 5; walked. -/
namespace Go.Proofs.Ytccodklfplfleaa
open Go.RowKit

set_option maxHeartbeats 6400000 in
set_option maxRecDepth 100000 in
theorem R35Step_k5 {w0 : World} {w : World} {b : RqA} {d : Du} {a : Acc} (h : RqIs w0 w b d a) (hw : AWhole d a) (hd : checkU d = 0) (hu : IsU w0 d b.A b.n b.B b.m) (hf : AFit a) (e : Ev) (hkd : e.kind = 5) (hr : runsA a e = true) :
    Calls Try.prog 16 #[.pointer (some ⟨b.g, 0, none⟩), .agg (eC e.step e.cpu e.kind e.slot e.gen e.op e.code e.n)] w fun x w' => x = .returned (.bool (stepA d a e).isSome) ∧ RqIs w0 w' b d ((stepA d a e).getD a) := by
  obtain ⟨wb, hwb⟩ : ∃ wb, w.alloc (.cells (eC e.step e.cpu e.kind e.slot e.gen e.op e.code e.n) 55) = wb := ⟨_, rfl⟩
  obtain ⟨h0, hF, _, _, hRU, hEND⟩ := RqIs.evs h hw hwb
  have HF := Lib.hid hF
  have HRU := Lib.hid hRU
  have HEND := Lib.hid hEND
  rw [hr] at HRU
  have h4 : e.kind ≠ 4 := by omega
  have h8 : e.kind ≠ 8 := by omega
  have h7 : e.kind ≠ 7 := by omega
  have h6 : e.kind ≠ 6 := by omega
  have hs := stepR_run (d := d) (a := a) h4 h8 h7 h6
  rw [if_neg (by simp [hr])] at hs
  have HS := Lib.hid hs
  obtain ⟨p0, p1, p2, p3⟩ := hasA_lt (runsA_has hr)
  obtain ⟨t, ht'⟩ : ∃ t : Nat, e.slot = t := ⟨e.slot.toNat, by omega⟩
  have htt : e.slot.toNat = t := by rw [ht', Int.toNat_natCast]
  rw [htt] at p1 p2 p3 HS
  have ht : t < a.T.length := by rw [hw.tl]; exact p1
  have ht0 : (0 : Int) ≤ (t : Int) := by omega
  have ht1 : (t : Int) < (a.T.length : Int) := by omega
  have HRNG : Hid (∀ W, Kept [] wb W → W.rangeAt b.gT (t * 31) (oneL (a.th t))) := fun W hk => (RqAt.th (HEND.out W hk).at_ ht).1
  have HAC : Hid (∀ W, Kept [] wb W → (W.cell? ⟨b.g, 10, none⟩ = some (.slice (some ⟨b.gT, 0, none⟩) a.T.length a.T.length) ∧ b.g < W.heap.size ∧ b.gT < W.heap.size)) := fun W hk => ⟨(HF.out W hk).1.2.1, (HF.out W hk).1.2.2⟩
  have HEV : Hid (∀ W, Kept [] wb W → (W.cell? ⟨w.heap.size, 2, none⟩ = some (.int .i64 e.kind) ∧ W.cell? ⟨w.heap.size, 4, none⟩ = some (.int .u32 e.gen) ∧ W.cell? ⟨w.heap.size, 5, none⟩ = some (.int .i64 e.op) ∧ W.cell? ⟨w.heap.size, 6, none⟩ = some (.int .i64 e.code) ∧ W.cell? ⟨w.heap.size, 7, none⟩ = some (.int .u64 e.n) ∧ w.heap.size < W.heap.size)) := fun W hk => by
    have := (HF.out W hk).2
    exact ⟨this.2.2.1, this.2.2.2.2.1, this.2.2.2.2.2.1, this.2.2.2.2.2.2.1, this.2.2.2.2.2.2.2.1, this.2.2.2.2.2.2.2.2⟩
  -- stores into the thread, one behind another
  have HST : Hid (∀ W (x1 : Th) (j : Nat) (u : Value) (x2 : Th), j < 31 → (oneL x1).set j u = oneL x2 → RqIs w0 W b d (a.setT t x1) → ((∃ v, W.cell? ⟨b.gT, t * 31 + j, none⟩ = some v) ∧ (∀ j, W.frozen? ⟨b.gT, j, none⟩ = false) ∧ (W.cell? ⟨b.g, 10, none⟩ = some (.slice (some ⟨b.gT, 0, none⟩) a.T.length a.T.length) ∧ b.g < W.heap.size ∧ b.gT < W.heap.size) ∧ RqIs w0 (W.setCell ⟨b.gT, t * 31 + j, none⟩ u) b d (a.setT t x2))) := fun W x1 j u x2 hj hx hA => by
    have hlen : (a.setT t x1).T.length = a.T.length := by simp [Acc.setT]
    have := RqIs.st1 hA (t := t) (by rw [hlen]; exact ht) j hj u x2 (by rw [setT_thR ht]; exact hx)
    rw [setT_setT, hlen] at this
    exact this
  have hset : a.setT t (a.th t) = a := by
    unfold Acc.setT Acc.th
    rw [List.getD_eq_getElem?_getD, List.getElem?_eq_getElem ht]
    simp
  have HSELF : Hid (∀ W, RqIs w0 W b d a → RqIs w0 W b d (a.setT t (a.th t))) := fun W hA => by rw [hset]; exact hA
  have HNB : Hid (w.heap.size ∉ [b.gT] ∧ ∀ g, w.heap.size ≤ g → g ∉ [b.gT]) := ⟨fun hm => by have e := List.mem_singleton.1 hm; have := (RqAt.bl h.at_).2.2.2.2; omega, fun g hg hm => by have e := List.mem_singleton.1 hm; have := (RqAt.bl h.at_).2.2.2.2; omega⟩
  have e4 : (e.kind == 4) = false := beq_eq_false_iff_ne.2 h4
  have e8 : (e.kind == 8) = false := beq_eq_false_iff_ne.2 h8
  have e7 : (e.kind == 7) = false := beq_eq_false_iff_ne.2 h7
  have e6 : (e.kind == 6) = false := beq_eq_false_iff_ne.2 h6
  obtain ⟨V, hV⟩ : ∃ V, stepA d a e = V := ⟨_, rfl⟩
  rw [hV] at HS ⊢
  rw [ht'] at HF hwb HRU ⊢
  have HWB := Lib.hid (And.intro hw (And.intro hd (And.intro hu (And.intro hf (And.intro ht p2)))))
  have HW0 : Hid (Kept [] w0 w) := h.kept
  have HK0 := Lib.hid h0
  have HWT := Lib.hid ht
  have HGT2 : Hid (b.g ≠ b.gT) := fun e => Holds.apart h.at_ (i := 0) (j := 4) (by decide) rfl rfl b.g (by simp [Piece.fp]) (by rw [e]; simp [Piece.fp, fp_some])
  have HSB : Hid (w.heap.size < wb.heap.size) := by show _ < _; rw [← hwb]; simp
  have HKD := Lib.hid hkd
  clear hkd
  clear hs hF hRU hEND h4 h8 h7 h6 hr p0 p1 p3 ht' htt hset hV h hw hd hu hf ht p2
  have hf := HF.out wb (Kept.refl _ _)
  go_enter Try.func16, Try.ntmps16
  go_wp2_with fail
  (try rw [hwb])
  (try (go_wp2_with fail))
  refine (HRU.out _ (Kept.refl _ _)).mono ?_
  rintro x wr ⟨rfl, hkr⟩
  have HKR := Lib.hid hkr
  clear hkr hf hwb e4 e8 e7 e6
  have hf := HF.out wr HKR.out
  have hrng := Lib.hid (HRNG.out wr HKR.out)
  have HWR := Lib.hid (Nat.le_trans (Nat.le_of_lt HSB.out) HKR.out.size)
  go_upto_region 21 with (first | (refine wpList_load_mid rfl 79 _ rfl b.gT (t * 31) rfl (oneL (a.th t)) _ hrng.out Try.underlying79 rfl (by kernel_rfl) ?_) | (refine wpList_store_blk rfl 79 _ _ rfl wr.heap.size (oneL (a.th t)).toArray rfl rfl 79 (oneL Th.zero).toArray (Blk.new wr 79 (oneL Th.zero).toArray) (by kernel_rfl) rfl (all_oneCell_toArray (oneL_one _)) ?_; intro W2 hB2 hK2; have HB2 := Lib.hid hB2; have HK2 := Lib.hid (((Kept.refl [] wr).alloc _).trans' hK2 (fun k hk => .inr (by simp at hk; omega))); clear hB2 hK2) | fail)
  (try dsimp only [Act.put])
  have HKW : Hid (Kept [] wb W2) := HKR.out.trans HK2.out
  have HX := Lib.hid (one_box HB2.out)
  have HBX2 := HB2
  clear hf hrng HB2 HRNG HF HRU
  have HRX : Hid (∀ W, Kept [] W2 W → W.rangeAt wr.heap.size 0 (oneL (a.th t))) := fun W hk j v hv => by
    rw [Nat.zero_add, (HBX2.out.kept hk (by simp)).cell, List.getElem?_toArray]; exact hv
  have HG : Hid (∀ W, Kept [b.gT] W2 W → (W.cell? ⟨w.heap.size, 2, none⟩ = some (.int .i64 e.kind) ∧ W.cell? ⟨w.heap.size, 4, none⟩ = some (.int .u32 e.gen) ∧ W.cell? ⟨w.heap.size, 5, none⟩ = some (.int .i64 e.op) ∧ W.cell? ⟨w.heap.size, 6, none⟩ = some (.int .i64 e.code) ∧ W.cell? ⟨w.heap.size, 7, none⟩ = some (.int .u64 e.n) ∧ w.heap.size < W.heap.size) ∧ (W.cell? ⟨wr.heap.size, 4, none⟩ = some (.int .i64 (a.th t).call) ∧ W.cell? ⟨wr.heap.size, 23, none⟩ = some (.int .i64 (a.th t).deed.op) ∧ W.cell? ⟨wr.heap.size, 24, none⟩ = some (.int .i64 (a.th t).deed.a) ∧ W.cell? ⟨wr.heap.size, 25, none⟩ = some (.int .i64 (a.th t).deed.b) ∧ W.cell? ⟨wr.heap.size, 26, none⟩ = some (.int .i64 (a.th t).deed.r) ∧ W.cell? ⟨wr.heap.size, 27, none⟩ = some (.int .u64 (a.th t).deed.n) ∧ W.cell? ⟨wr.heap.size, 28, none⟩ = some (.int .u64 (a.th t).deed.mask) ∧ W.cell? ⟨wr.heap.size, 29, none⟩ = some (.bool (a.th t).deed.loose) ∧ W.cell? ⟨wr.heap.size, 30, none⟩ = some (.int .i64 (a.th t).code) ∧ wr.heap.size < W.heap.size)) := fun W hk => by
    have q := HEV.out W2 HKW.out
    have x := HX.out W2 (Kept.refl _ _)
    have n1 := HNB.out.1
    have n2 := HNB.out.2 wr.heap.size HWR.out
    exact ⟨⟨hk.cell_some q.1 n1, hk.cell_some q.2.1 n1, hk.cell_some q.2.2.1 n1, hk.cell_some q.2.2.2.1 n1, hk.cell_some q.2.2.2.2.1 n1, Nat.lt_of_lt_of_le q.2.2.2.2.2 hk.size⟩, hk.cell_some x.1 n2, hk.cell_some x.2.1 n2, hk.cell_some x.2.2.1 n2, hk.cell_some x.2.2.2.1 n2, hk.cell_some x.2.2.2.2.1 n2, hk.cell_some x.2.2.2.2.2.1 n2, hk.cell_some x.2.2.2.2.2.2.1 n2, hk.cell_some x.2.2.2.2.2.2.2.1 n2, hk.cell_some x.2.2.2.2.2.2.2.2.1 n2, Nat.lt_of_lt_of_le x.2.2.2.2.2.2.2.2.2 hk.size⟩
  have HA2 : Hid (∀ W, Kept [] W2 W → RqIs w0 W b d a) := fun W hk => HEND.out W (HKW.out.trans hk)
  have hfg := HG.out W2 (Kept.refl _ _)
  have hac := HAC.out W2 HKW.out
  have hkd := HKD.out
  rw [hkd] at hfg HG HS
  clear hkd
  have HV : Hid (V = some (a.setT t { a.th t with state := 2 })) := by show V = _; rw [HS.out, if_neg (by omega), if_neg (by omega), if_neg (by omega), if_pos rfl]
  obtain ⟨⟨v2, c2⟩, cf, ca, hA⟩ := HST.out W2 (a.th t) 2 (.int .i64 2) { a.th t with state := 2 } (by omega) (by rfl) (HSELF.out _ (HA2.out _ (Kept.refl _ _)))
  have HA := Lib.hid hA
  clear hA
  go_wp2_with fail
  go_ret
  exact ⟨by rw [HV.out]; rfl, by rw [HV.out]; exact HA.out⟩

end Go.Proofs.Ytccodklfplfleaa

/- The document's account (layer 35): Step, an event of kind 10; walked. -/
namespace Go.Proofs.Ytccodklfplfleaa
open Go.RowKit

set_option maxHeartbeats 6400000 in
set_option maxRecDepth 100000 in
theorem R35Step_k10 {w0 : World} {w : World} {b : RqA} {d : Du} {a : Acc} (h : RqIs w0 w b d a) (hw : AWhole d a) (hd : checkU d = 0) (hu : IsU w0 d b.A b.n b.B b.m) (hf : AFit a) (e : Ev) (hkd : e.kind = 10) (hr : runsA a e = true) :
    Calls Try.prog 16 #[.pointer (some ⟨b.g, 0, none⟩), .agg (eC e.step e.cpu e.kind e.slot e.gen e.op e.code e.n)] w fun x w' => x = .returned (.bool (stepA d a e).isSome) ∧ RqIs w0 w' b d ((stepA d a e).getD a) := by
  obtain ⟨wb, hwb⟩ : ∃ wb, w.alloc (.cells (eC e.step e.cpu e.kind e.slot e.gen e.op e.code e.n) 55) = wb := ⟨_, rfl⟩
  obtain ⟨h0, hF, _, _, hRU, hEND⟩ := RqIs.evs h hw hwb
  have HF := Lib.hid hF
  have HRU := Lib.hid hRU
  have HEND := Lib.hid hEND
  rw [hr] at HRU
  have h4 : e.kind ≠ 4 := by omega
  have h8 : e.kind ≠ 8 := by omega
  have h7 : e.kind ≠ 7 := by omega
  have h6 : e.kind ≠ 6 := by omega
  have hs := stepR_run (d := d) (a := a) h4 h8 h7 h6
  rw [if_neg (by simp [hr])] at hs
  have HS := Lib.hid hs
  obtain ⟨p0, p1, p2, p3⟩ := hasA_lt (runsA_has hr)
  obtain ⟨t, ht'⟩ : ∃ t : Nat, e.slot = t := ⟨e.slot.toNat, by omega⟩
  have htt : e.slot.toNat = t := by rw [ht', Int.toNat_natCast]
  rw [htt] at p1 p2 p3 HS
  have ht : t < a.T.length := by rw [hw.tl]; exact p1
  have ht0 : (0 : Int) ≤ (t : Int) := by omega
  have ht1 : (t : Int) < (a.T.length : Int) := by omega
  have HRNG : Hid (∀ W, Kept [] wb W → W.rangeAt b.gT (t * 31) (oneL (a.th t))) := fun W hk => (RqAt.th (HEND.out W hk).at_ ht).1
  have HAC : Hid (∀ W, Kept [] wb W → (W.cell? ⟨b.g, 10, none⟩ = some (.slice (some ⟨b.gT, 0, none⟩) a.T.length a.T.length) ∧ b.g < W.heap.size ∧ b.gT < W.heap.size)) := fun W hk => ⟨(HF.out W hk).1.2.1, (HF.out W hk).1.2.2⟩
  have HEV : Hid (∀ W, Kept [] wb W → (W.cell? ⟨w.heap.size, 2, none⟩ = some (.int .i64 e.kind) ∧ W.cell? ⟨w.heap.size, 4, none⟩ = some (.int .u32 e.gen) ∧ W.cell? ⟨w.heap.size, 5, none⟩ = some (.int .i64 e.op) ∧ W.cell? ⟨w.heap.size, 6, none⟩ = some (.int .i64 e.code) ∧ W.cell? ⟨w.heap.size, 7, none⟩ = some (.int .u64 e.n) ∧ w.heap.size < W.heap.size)) := fun W hk => by
    have := (HF.out W hk).2
    exact ⟨this.2.2.1, this.2.2.2.2.1, this.2.2.2.2.2.1, this.2.2.2.2.2.2.1, this.2.2.2.2.2.2.2.1, this.2.2.2.2.2.2.2.2⟩
  -- stores into the thread, one behind another
  have HST : Hid (∀ W (x1 : Th) (j : Nat) (u : Value) (x2 : Th), j < 31 → (oneL x1).set j u = oneL x2 → RqIs w0 W b d (a.setT t x1) → ((∃ v, W.cell? ⟨b.gT, t * 31 + j, none⟩ = some v) ∧ (∀ j, W.frozen? ⟨b.gT, j, none⟩ = false) ∧ (W.cell? ⟨b.g, 10, none⟩ = some (.slice (some ⟨b.gT, 0, none⟩) a.T.length a.T.length) ∧ b.g < W.heap.size ∧ b.gT < W.heap.size) ∧ RqIs w0 (W.setCell ⟨b.gT, t * 31 + j, none⟩ u) b d (a.setT t x2))) := fun W x1 j u x2 hj hx hA => by
    have hlen : (a.setT t x1).T.length = a.T.length := by simp [Acc.setT]
    have := RqIs.st1 hA (t := t) (by rw [hlen]; exact ht) j hj u x2 (by rw [setT_thR ht]; exact hx)
    rw [setT_setT, hlen] at this
    exact this
  have hset : a.setT t (a.th t) = a := by
    unfold Acc.setT Acc.th
    rw [List.getD_eq_getElem?_getD, List.getElem?_eq_getElem ht]
    simp
  have HSELF : Hid (∀ W, RqIs w0 W b d a → RqIs w0 W b d (a.setT t (a.th t))) := fun W hA => by rw [hset]; exact hA
  have HNB : Hid (w.heap.size ∉ [b.gT] ∧ ∀ g, w.heap.size ≤ g → g ∉ [b.gT]) := ⟨fun hm => by have e := List.mem_singleton.1 hm; have := (RqAt.bl h.at_).2.2.2.2; omega, fun g hg hm => by have e := List.mem_singleton.1 hm; have := (RqAt.bl h.at_).2.2.2.2; omega⟩
  have e4 : (e.kind == 4) = false := beq_eq_false_iff_ne.2 h4
  have e8 : (e.kind == 8) = false := beq_eq_false_iff_ne.2 h8
  have e7 : (e.kind == 7) = false := beq_eq_false_iff_ne.2 h7
  have e6 : (e.kind == 6) = false := beq_eq_false_iff_ne.2 h6
  obtain ⟨V, hV⟩ : ∃ V, stepA d a e = V := ⟨_, rfl⟩
  rw [hV] at HS ⊢
  rw [ht'] at HF hwb HRU ⊢
  have HWB := Lib.hid (And.intro hw (And.intro hd (And.intro hu (And.intro hf (And.intro ht p2)))))
  have HW0 : Hid (Kept [] w0 w) := h.kept
  have HK0 := Lib.hid h0
  have HWT := Lib.hid ht
  have HGT2 : Hid (b.g ≠ b.gT) := fun e => Holds.apart h.at_ (i := 0) (j := 4) (by decide) rfl rfl b.g (by simp [Piece.fp]) (by rw [e]; simp [Piece.fp, fp_some])
  have HSB : Hid (w.heap.size < wb.heap.size) := by show _ < _; rw [← hwb]; simp
  have HKD := Lib.hid hkd
  clear hkd
  clear hs hF hRU hEND h4 h8 h7 h6 hr p0 p1 p3 ht' htt hset hV h hw hd hu hf ht p2
  have hf := HF.out wb (Kept.refl _ _)
  go_enter Try.func16, Try.ntmps16
  go_wp2_with fail
  (try rw [hwb])
  (try (go_wp2_with fail))
  refine (HRU.out _ (Kept.refl _ _)).mono ?_
  rintro x wr ⟨rfl, hkr⟩
  have HKR := Lib.hid hkr
  clear hkr hf hwb e4 e8 e7 e6
  have hf := HF.out wr HKR.out
  have hrng := Lib.hid (HRNG.out wr HKR.out)
  have HWR := Lib.hid (Nat.le_trans (Nat.le_of_lt HSB.out) HKR.out.size)
  go_upto_region 21 with (first | (refine wpList_load_mid rfl 79 _ rfl b.gT (t * 31) rfl (oneL (a.th t)) _ hrng.out Try.underlying79 rfl (by kernel_rfl) ?_) | (refine wpList_store_blk rfl 79 _ _ rfl wr.heap.size (oneL (a.th t)).toArray rfl rfl 79 (oneL Th.zero).toArray (Blk.new wr 79 (oneL Th.zero).toArray) (by kernel_rfl) rfl (all_oneCell_toArray (oneL_one _)) ?_; intro W2 hB2 hK2; have HB2 := Lib.hid hB2; have HK2 := Lib.hid (((Kept.refl [] wr).alloc _).trans' hK2 (fun k hk => .inr (by simp at hk; omega))); clear hB2 hK2) | fail)
  (try dsimp only [Act.put])
  have HKW : Hid (Kept [] wb W2) := HKR.out.trans HK2.out
  have HX := Lib.hid (one_box HB2.out)
  have HBX2 := HB2
  clear hf hrng HB2 HRNG HF HRU
  have HRX : Hid (∀ W, Kept [] W2 W → W.rangeAt wr.heap.size 0 (oneL (a.th t))) := fun W hk j v hv => by
    rw [Nat.zero_add, (HBX2.out.kept hk (by simp)).cell, List.getElem?_toArray]; exact hv
  have HG : Hid (∀ W, Kept [b.gT] W2 W → (W.cell? ⟨w.heap.size, 2, none⟩ = some (.int .i64 e.kind) ∧ W.cell? ⟨w.heap.size, 4, none⟩ = some (.int .u32 e.gen) ∧ W.cell? ⟨w.heap.size, 5, none⟩ = some (.int .i64 e.op) ∧ W.cell? ⟨w.heap.size, 6, none⟩ = some (.int .i64 e.code) ∧ W.cell? ⟨w.heap.size, 7, none⟩ = some (.int .u64 e.n) ∧ w.heap.size < W.heap.size) ∧ (W.cell? ⟨wr.heap.size, 4, none⟩ = some (.int .i64 (a.th t).call) ∧ W.cell? ⟨wr.heap.size, 23, none⟩ = some (.int .i64 (a.th t).deed.op) ∧ W.cell? ⟨wr.heap.size, 24, none⟩ = some (.int .i64 (a.th t).deed.a) ∧ W.cell? ⟨wr.heap.size, 25, none⟩ = some (.int .i64 (a.th t).deed.b) ∧ W.cell? ⟨wr.heap.size, 26, none⟩ = some (.int .i64 (a.th t).deed.r) ∧ W.cell? ⟨wr.heap.size, 27, none⟩ = some (.int .u64 (a.th t).deed.n) ∧ W.cell? ⟨wr.heap.size, 28, none⟩ = some (.int .u64 (a.th t).deed.mask) ∧ W.cell? ⟨wr.heap.size, 29, none⟩ = some (.bool (a.th t).deed.loose) ∧ W.cell? ⟨wr.heap.size, 30, none⟩ = some (.int .i64 (a.th t).code) ∧ wr.heap.size < W.heap.size)) := fun W hk => by
    have q := HEV.out W2 HKW.out
    have x := HX.out W2 (Kept.refl _ _)
    have n1 := HNB.out.1
    have n2 := HNB.out.2 wr.heap.size HWR.out
    exact ⟨⟨hk.cell_some q.1 n1, hk.cell_some q.2.1 n1, hk.cell_some q.2.2.1 n1, hk.cell_some q.2.2.2.1 n1, hk.cell_some q.2.2.2.2.1 n1, Nat.lt_of_lt_of_le q.2.2.2.2.2 hk.size⟩, hk.cell_some x.1 n2, hk.cell_some x.2.1 n2, hk.cell_some x.2.2.1 n2, hk.cell_some x.2.2.2.1 n2, hk.cell_some x.2.2.2.2.1 n2, hk.cell_some x.2.2.2.2.2.1 n2, hk.cell_some x.2.2.2.2.2.2.1 n2, hk.cell_some x.2.2.2.2.2.2.2.1 n2, hk.cell_some x.2.2.2.2.2.2.2.2.1 n2, Nat.lt_of_lt_of_le x.2.2.2.2.2.2.2.2.2 hk.size⟩
  have HA2 : Hid (∀ W, Kept [] W2 W → RqIs w0 W b d a) := fun W hk => HEND.out W (HKW.out.trans hk)
  have hfg := HG.out W2 (Kept.refl _ _)
  have hac := HAC.out W2 HKW.out
  have hkd := HKD.out
  rw [hkd] at hfg HG HS
  clear hkd
  have HV : Hid (V = if (a.th t).call = 2 ∧ (a.th t).code = 0 ∧ (a.th t).deed.op = 3 ∧ (a.th t).deed.n = e.n then some (exitsA a t) else none) := by show V = _; rw [HS.out, if_neg (by omega), if_neg (by omega), if_neg (by omega), if_neg (by omega), if_pos rfl]
  have HEX : Hid (∀ W, Kept [] W2 W → Calls Try.prog 34 #[.pointer (some ⟨b.g, 0, none⟩), .int .i64 t] W fun x w' => x = .returned (.tuple #[]) ∧ RqIs w0 w' b d (exitsA a t)) := fun W hk => by
    obtain ⟨q1, q2, q3, q4, q5, q6⟩ := HWB.out
    exact R35exits_any (HA2.out W hk) q1 q5 q6
  obtain ⟨ocl, hcl⟩ : ∃ z, (a.th t).call = z := ⟨_, rfl⟩
  obtain ⟨oco, hco⟩ : ∃ z, (a.th t).code = z := ⟨_, rfl⟩
  obtain ⟨oop, hop⟩ : ∃ z, (a.th t).deed.op = z := ⟨_, rfl⟩
  obtain ⟨on, hon⟩ : ∃ z, (a.th t).deed.n = z := ⟨_, rfl⟩
  rw [hcl, hco, hop, hon] at hfg HG HV
  clear hcl hco hop hon HS HRX HWB HG
  by_cases hc : ocl = 2
  · subst hc
    by_cases ho : oco = 0
    · subst ho
      by_cases hp : oop = 3
      · subst hp
        by_cases hn : on = e.n
        · have hn1 : ((on : Int) != (e.n : Int)) = false := by simp [hn]
          have HR : Hid (V = some (exitsA a t)) := by show V = _; rw [HV.out, if_pos ⟨rfl, rfl, rfl, hn⟩]
          clear hn HV
          go_wp2_with fail
          refine (HEX.out _ (Kept.refl _ _)).mono ?_
          rintro y w4 ⟨rfl, hA4⟩
          have HA4 := Lib.hid hA4
          clear hA4 hfg hac
          go_wp2_with fail
          go_ret
          exact ⟨by rw [HR.out]; rfl, by rw [HR.out]; exact HA4.out⟩
        · have hn1 : ((on : Int) != (e.n : Int)) = true := bne_iff_ne.2 (by omega)
          have HR : Hid (V = none) := by show V = _; rw [HV.out, if_neg (by simp [hn])]
          clear hn HV HEX
          go_wp2_with fail
          go_ret
          exact ⟨by rw [HR.out]; rfl, by rw [HR.out]; exact HA2.out _ (Kept.refl _ _)⟩
      · have hp1 : (oop != 3) = true := bne_iff_ne.2 hp
        have HR : Hid (V = none) := by show V = _; rw [HV.out, if_neg (by simp [hp])]
        clear hp HV HEX
        go_wp2_with fail
        go_ret
        exact ⟨by rw [HR.out]; rfl, by rw [HR.out]; exact HA2.out _ (Kept.refl _ _)⟩
    · have ho1 : (oco != 0) = true := bne_iff_ne.2 ho
      have HR : Hid (V = none) := by show V = _; rw [HV.out, if_neg (by simp [ho])]
      clear ho HV HEX
      go_wp2_with fail
      go_ret
      exact ⟨by rw [HR.out]; rfl, by rw [HR.out]; exact HA2.out _ (Kept.refl _ _)⟩
  · have hc1 : (ocl != 2) = true := bne_iff_ne.2 hc
    have HR : Hid (V = none) := by show V = _; rw [HV.out, if_neg (by simp [hc])]
    clear hc HV HEX
    go_wp2_with fail
    go_ret
    exact ⟨by rw [HR.out]; rfl, by rw [HR.out]; exact HA2.out _ (Kept.refl _ _)⟩

end Go.Proofs.Ytccodklfplfleaa

