/- The document's account (layer 35): Step, of events of a running thread; walked; The document's account (layer 35): Step, an event of kind 1; walked. -/
import Derived.Test.YtccodklfplfleaaRqS0
import Derived.Test.YtccodklfplfleaaP15
import Derived.Test.YtccodklfplfleaaRqN
import Derived.Test.YtccodklfplfleaaRqT
import Derived.Test.YtccodklfplfleaaRqY
import Derived.Test.YtccodklfplfleaaRpU

/- The document's account (layer 35): Step, of events of a running thread; walked. -/
namespace Go.Proofs.Ytccodklfplfleaa
open Go.RowKit

theorem stepR_run {d : Du} {a : Acc} {e : Ev} (h4 : e.kind ≠ 4) (h8 : e.kind ≠ 8) (h7 : e.kind ≠ 7) (h6 : e.kind ≠ 6) : stepA d a e = if runsA a e = false then none
  else if e.kind = 1 then (if (a.th e.slot.toNat).call = 0 ∧ (nextA d a e.slot.toNat).1.op = e.op then some (a.setT e.slot.toNat { a.th e.slot.toNat with call := 1, deed := (nextA d a e.slot.toNat).1, pc := (nextA d a e.slot.toNat).2 }) else none)
  else if e.kind = 2 then (if (a.th e.slot.toNat).call = 1 ∧ (a.th e.slot.toNat).deed.op = e.op ∧ mayA d a e.slot.toNat e.code = true then some (if e.code = 0 then doesA (a.setT e.slot.toNat { a.th e.slot.toNat with call := 2, code := e.code }) e.slot.toNat else a.setT e.slot.toNat { a.th e.slot.toNat with call := 2, code := e.code }) else none)
  else if e.kind = 9 then (if (a.th e.slot.toNat).call = 2 ∧ (a.th e.slot.toNat).code = 0 ∧ wantA a e.slot.toNat ≠ 0 ∧ wantA a e.slot.toNat = e.n then some (a.setT e.slot.toNat { a.th e.slot.toNat with state := 4, call := 3 }) else none)
  else if e.kind = 5 then some (a.setT e.slot.toNat { a.th e.slot.toNat with state := 2 })
  else if e.kind = 10 then (if (a.th e.slot.toNat).call = 2 ∧ (a.th e.slot.toNat).code = 0 ∧ (a.th e.slot.toNat).deed.op = 3 ∧ (a.th e.slot.toNat).deed.n = e.n then some (exitsA a e.slot.toNat) else none)
  else (if returnsA a e.slot.toNat e.code then some { a with T := a.T.set e.slot.toNat { a.th e.slot.toNat with call := 0 }, held := if ((a.th e.slot.toNat).deed.op = 9 ∨ (a.th e.slot.toNat).deed.op = 10) ∧ e.code = 0 then a.held.set (a.th e.slot.toNat).deed.a.toNat e.slot.toNat else a.held } else none) := by
  unfold stepA stepB
  rw [if_neg h4, if_neg h8, if_neg h7, if_neg h6]
set_option maxHeartbeats 6400000 in
set_option maxRecDepth 100000 in
theorem R35Step_no {w0 : Base} {w : World} {b : RqA} {d : Du} {a : Acc} (h : RqIs w0 w b d a) (hw : AWhole d a) (e : Ev) (h4 : e.kind ≠ 4) (h8 : e.kind ≠ 8) (h7 : e.kind ≠ 7) (h6 : e.kind ≠ 6) (hr : runsA a e = false) :
    Calls Try.prog 16 #[.pointer (some ⟨b.g, 0, none⟩), .agg (eC e.step e.cpu e.kind e.slot e.gen e.op e.code e.n)] w fun x w' => x = .returned (.bool (stepA d a e).isSome) ∧ RqIs w0 w' b d ((stepA d a e).getD a) := by
  obtain ⟨wb, hwb⟩ : ∃ wb, w.alloc (.cells (eC e.step e.cpu e.kind e.slot e.gen e.op e.code e.n) 55) = wb := ⟨_, rfl⟩
  obtain ⟨h0, hF, _, _, hRU, hEND⟩ := RqIs.evs h hw hwb
  have HF := Lib.hid hF
  have HRU := Lib.hid hRU
  have HEND := Lib.hid hEND
  obtain ⟨v1, v2⟩ := stepR_no (d := d) (a := a) (e := e) (by rw [stepR_run h4 h8 h7 h6, if_pos hr])
  rw [v1, v2]
  rw [hr] at HRU
  have e4 : (e.kind == 4) = false := beq_eq_false_iff_ne.2 h4
  have e8 : (e.kind == 8) = false := beq_eq_false_iff_ne.2 h8
  have e7 : (e.kind == 7) = false := beq_eq_false_iff_ne.2 h7
  have e6 : (e.kind == 6) = false := beq_eq_false_iff_ne.2 h6
  generalize e.kind = kd at *
  generalize a.T.length = nT at *
  clear h hw hF hRU hEND v1 v2 h0 hr h4 h8 h7 h6
  have HKc := Lib.hid (Kept.refl [] wb)
  have hf := HF.out _ HKc.out
  go_enter Try.func16, Try.ntmps16
  (try (go_wp2_with fail))
  (try rw [hwb])
  clear hf
  refine (HRU.out _ HKc.out).mono ?_
  rintro x wc1 ⟨rfl, hkc⟩
  have HKn := Lib.hid (HKc.out.trans hkc)
  clear hkc HKc
  have HKc := HKn
  clear HKn
  have hf := HF.out _ HKc.out
  (try (go_wp2_with fail))
  go_ret
  exact ⟨rfl, HEND.out _ HKc.out⟩

/-- What a thread's copy holds. -/
theorem one_box {W0 : World} {g : Nat} {x : Th} (hB : Blk W0 g 79 (oneL x).toArray) : ∀ W, Kept [] W0 W → (W.cell? ⟨g, 4, none⟩ = some (.int .i64 x.call) ∧ W.cell? ⟨g, 23, none⟩ = some (.int .i64 x.deed.op) ∧ W.cell? ⟨g, 24, none⟩ = some (.int .i64 x.deed.a) ∧ W.cell? ⟨g, 25, none⟩ = some (.int .i64 x.deed.b) ∧ W.cell? ⟨g, 26, none⟩ = some (.int .i64 x.deed.r) ∧ W.cell? ⟨g, 27, none⟩ = some (.int .u64 x.deed.n) ∧ W.cell? ⟨g, 28, none⟩ = some (.int .u64 x.deed.mask) ∧ W.cell? ⟨g, 29, none⟩ = some (.bool x.deed.loose) ∧ W.cell? ⟨g, 30, none⟩ = some (.int .i64 x.code) ∧ g < W.heap.size) := fun W hk => by
  have h := hB.kept hk (by simp)
  exact ⟨h.cell 4, h.cell 23, h.cell 24, h.cell 25, h.cell 26, h.cell 27, h.cell 28, h.cell 29, h.cell 30, h.lt⟩

end Go.Proofs.Ytccodklfplfleaa

/- The document's account (layer 35): Step, an event of kind 1; walked. -/
namespace Go.Proofs.Ytccodklfplfleaa
open Go.RowKit

set_option maxHeartbeats 6400000 in
set_option maxRecDepth 100000 in
theorem R35Step_k1 {w0 : World} {w : World} {b : RqA} {d : Du} {a : Acc} (h : RqIs w0 w b d a) (hw : AWhole d a) (hd : checkU d = 0) (hu : IsU w0 d b.A b.n b.B b.m) (hf : AFit a) (e : Ev) (hkd : e.kind = 1) (hr : runsA a e = true) :
    Calls Try.prog 16 #[.pointer (some ⟨b.g, 0, none⟩), .agg (eC e.step e.cpu e.kind e.slot e.gen e.op e.code e.n)] w fun x w' => x = .returned (.bool (stepA d a e).isSome) ∧ RqIs w0 w' b d ((stepA d a e).getD a) := by
  obtain ⟨wb, hwb⟩ : ∃ wb, w.alloc (.cells (eC e.step e.cpu e.kind e.slot e.gen e.op e.code e.n) 55) = wb := ⟨_, rfl⟩
  obtain ⟨h0, hF, _, _, hRU, hEND⟩ := RqIs.evs h hw hwb
  have HF := Lib.hid hF
  have HRU := Lib.hid hRU
  have HEND := Lib.hid hEND
  rw [hr] at HRU
  have h4 : e.kind ≠ 4 := by omega
  have h8 : e.kind ≠ 8 := by omega
  have h7 : e.kind ≠ 7 := by omega
  have h6 : e.kind ≠ 6 := by omega
  have hs := stepR_run (d := d) (a := a) h4 h8 h7 h6
  rw [if_neg (by simp [hr])] at hs
  have HS := Lib.hid hs
  obtain ⟨p0, p1, p2, p3⟩ := hasA_lt (runsA_has hr)
  obtain ⟨t, ht'⟩ : ∃ t : Nat, e.slot = t := ⟨e.slot.toNat, by omega⟩
  have htt : e.slot.toNat = t := by rw [ht', Int.toNat_natCast]
  rw [htt] at p1 p2 p3 HS
  have ht : t < a.T.length := by rw [hw.tl]; exact p1
  have ht0 : (0 : Int) ≤ (t : Int) := by omega
  have ht1 : (t : Int) < (a.T.length : Int) := by omega
  have HRNG : Hid (∀ W, Kept [] wb W → W.rangeAt b.gT (t * 31) (oneL (a.th t))) := fun W hk => (RqAt.th (HEND.out W hk).at_ ht).1
  have HAC : Hid (∀ W, Kept [] wb W → (W.cell? ⟨b.g, 10, none⟩ = some (.slice (some ⟨b.gT, 0, none⟩) a.T.length a.T.length) ∧ b.g < W.heap.size ∧ b.gT < W.heap.size)) := fun W hk => ⟨(HF.out W hk).1.2.1, (HF.out W hk).1.2.2⟩
  have HEV : Hid (∀ W, Kept [] wb W → (W.cell? ⟨w.heap.size, 2, none⟩ = some (.int .i64 e.kind) ∧ W.cell? ⟨w.heap.size, 4, none⟩ = some (.int .u32 e.gen) ∧ W.cell? ⟨w.heap.size, 5, none⟩ = some (.int .i64 e.op) ∧ W.cell? ⟨w.heap.size, 6, none⟩ = some (.int .i64 e.code) ∧ W.cell? ⟨w.heap.size, 7, none⟩ = some (.int .u64 e.n) ∧ w.heap.size < W.heap.size)) := fun W hk => by
    have := (HF.out W hk).2
    exact ⟨this.2.2.1, this.2.2.2.2.1, this.2.2.2.2.2.1, this.2.2.2.2.2.2.1, this.2.2.2.2.2.2.2.1, this.2.2.2.2.2.2.2.2⟩
  -- stores into the thread, one behind another
  have HST : Hid (∀ W (x1 : Th) (j : Nat) (u : Value) (x2 : Th), j < 31 → (oneL x1).set j u = oneL x2 → RqIs w0 W b d (a.setT t x1) → ((∃ v, W.cell? ⟨b.gT, t * 31 + j, none⟩ = some v) ∧ (∀ j, W.frozen? ⟨b.gT, j, none⟩ = false) ∧ (W.cell? ⟨b.g, 10, none⟩ = some (.slice (some ⟨b.gT, 0, none⟩) a.T.length a.T.length) ∧ b.g < W.heap.size ∧ b.gT < W.heap.size) ∧ RqIs w0 (W.setCell ⟨b.gT, t * 31 + j, none⟩ u) b d (a.setT t x2))) := fun W x1 j u x2 hj hx hA => by
    have hlen : (a.setT t x1).T.length = a.T.length := by simp [Acc.setT]
    have := RqIs.st1 hA (t := t) (by rw [hlen]; exact ht) j hj u x2 (by rw [setT_thR ht]; exact hx)
    rw [setT_setT, hlen] at this
    exact this
  have hset : a.setT t (a.th t) = a := by
    unfold Acc.setT Acc.th
    rw [List.getD_eq_getElem?_getD, List.getElem?_eq_getElem ht]
    simp
  have HSELF : Hid (∀ W, RqIs w0 W b d a → RqIs w0 W b d (a.setT t (a.th t))) := fun W hA => by rw [hset]; exact hA
  have HNB : Hid (w.heap.size ∉ [b.gT] ∧ ∀ g, w.heap.size ≤ g → g ∉ [b.gT]) := ⟨fun hm => by have e := List.mem_singleton.1 hm; have := (RqAt.bl h.at_).2.2.2.2; omega, fun g hg hm => by have e := List.mem_singleton.1 hm; have := (RqAt.bl h.at_).2.2.2.2; omega⟩
  have e4 : (e.kind == 4) = false := beq_eq_false_iff_ne.2 h4
  have e8 : (e.kind == 8) = false := beq_eq_false_iff_ne.2 h8
  have e7 : (e.kind == 7) = false := beq_eq_false_iff_ne.2 h7
  have e6 : (e.kind == 6) = false := beq_eq_false_iff_ne.2 h6
  obtain ⟨V, hV⟩ : ∃ V, stepA d a e = V := ⟨_, rfl⟩
  rw [hV] at HS ⊢
  rw [ht'] at HF hwb HRU ⊢
  have HWB := Lib.hid (And.intro hw (And.intro hd (And.intro hu (And.intro hf (And.intro ht p2)))))
  have HW0 : Hid (Kept [] w0 w) := h.kept
  have HK0 := Lib.hid h0
  have HWT := Lib.hid ht
  have HGT2 : Hid (b.g ≠ b.gT) := fun e => Holds.apart h.at_ (i := 0) (j := 4) (by decide) rfl rfl b.g (by simp [Piece.fp]) (by rw [e]; simp [Piece.fp, fp_some])
  have HSB : Hid (w.heap.size < wb.heap.size) := by show _ < _; rw [← hwb]; simp
  have HKD := Lib.hid hkd
  clear hkd
  clear hs hF hRU hEND h4 h8 h7 h6 hr p0 p1 p3 ht' htt hset hV h hw hd hu hf ht p2
  have hf := HF.out wb (Kept.refl _ _)
  go_enter Try.func16, Try.ntmps16
  go_wp2_with fail
  (try rw [hwb])
  (try (go_wp2_with fail))
  refine (HRU.out _ (Kept.refl _ _)).mono ?_
  rintro x wr ⟨rfl, hkr⟩
  have HKR := Lib.hid hkr
  clear hkr hf hwb e4 e8 e7 e6
  have hf := HF.out wr HKR.out
  have hrng := Lib.hid (HRNG.out wr HKR.out)
  have HWR := Lib.hid (Nat.le_trans (Nat.le_of_lt HSB.out) HKR.out.size)
  go_upto_region 21 with (first | (refine wpList_load_mid rfl 79 _ rfl b.gT (t * 31) rfl (oneL (a.th t)) _ hrng.out Try.underlying79 rfl (by kernel_rfl) ?_) | (refine wpList_store_blk rfl 79 _ _ rfl wr.heap.size (oneL (a.th t)).toArray rfl rfl 79 (oneL Th.zero).toArray (Blk.new wr 79 (oneL Th.zero).toArray) (by kernel_rfl) rfl (all_oneCell_toArray (oneL_one _)) ?_; intro W2 hB2 hK2; have HB2 := Lib.hid hB2; have HK2 := Lib.hid (((Kept.refl [] wr).alloc _).trans' hK2 (fun k hk => .inr (by simp at hk; omega))); clear hB2 hK2) | fail)
  (try dsimp only [Act.put])
  have HKW : Hid (Kept [] wb W2) := HKR.out.trans HK2.out
  have HX := Lib.hid (one_box HB2.out)
  have HBX2 := HB2
  clear hf hrng HB2 HRNG HF HRU
  have HRX : Hid (∀ W, Kept [] W2 W → W.rangeAt wr.heap.size 0 (oneL (a.th t))) := fun W hk j v hv => by
    rw [Nat.zero_add, (HBX2.out.kept hk (by simp)).cell, List.getElem?_toArray]; exact hv
  have HG : Hid (∀ W, Kept [b.gT] W2 W → (W.cell? ⟨w.heap.size, 2, none⟩ = some (.int .i64 e.kind) ∧ W.cell? ⟨w.heap.size, 4, none⟩ = some (.int .u32 e.gen) ∧ W.cell? ⟨w.heap.size, 5, none⟩ = some (.int .i64 e.op) ∧ W.cell? ⟨w.heap.size, 6, none⟩ = some (.int .i64 e.code) ∧ W.cell? ⟨w.heap.size, 7, none⟩ = some (.int .u64 e.n) ∧ w.heap.size < W.heap.size) ∧ (W.cell? ⟨wr.heap.size, 4, none⟩ = some (.int .i64 (a.th t).call) ∧ W.cell? ⟨wr.heap.size, 23, none⟩ = some (.int .i64 (a.th t).deed.op) ∧ W.cell? ⟨wr.heap.size, 24, none⟩ = some (.int .i64 (a.th t).deed.a) ∧ W.cell? ⟨wr.heap.size, 25, none⟩ = some (.int .i64 (a.th t).deed.b) ∧ W.cell? ⟨wr.heap.size, 26, none⟩ = some (.int .i64 (a.th t).deed.r) ∧ W.cell? ⟨wr.heap.size, 27, none⟩ = some (.int .u64 (a.th t).deed.n) ∧ W.cell? ⟨wr.heap.size, 28, none⟩ = some (.int .u64 (a.th t).deed.mask) ∧ W.cell? ⟨wr.heap.size, 29, none⟩ = some (.bool (a.th t).deed.loose) ∧ W.cell? ⟨wr.heap.size, 30, none⟩ = some (.int .i64 (a.th t).code) ∧ wr.heap.size < W.heap.size)) := fun W hk => by
    have q := HEV.out W2 HKW.out
    have x := HX.out W2 (Kept.refl _ _)
    have n1 := HNB.out.1
    have n2 := HNB.out.2 wr.heap.size HWR.out
    exact ⟨⟨hk.cell_some q.1 n1, hk.cell_some q.2.1 n1, hk.cell_some q.2.2.1 n1, hk.cell_some q.2.2.2.1 n1, hk.cell_some q.2.2.2.2.1 n1, Nat.lt_of_lt_of_le q.2.2.2.2.2 hk.size⟩, hk.cell_some x.1 n2, hk.cell_some x.2.1 n2, hk.cell_some x.2.2.1 n2, hk.cell_some x.2.2.2.1 n2, hk.cell_some x.2.2.2.2.1 n2, hk.cell_some x.2.2.2.2.2.1 n2, hk.cell_some x.2.2.2.2.2.2.1 n2, hk.cell_some x.2.2.2.2.2.2.2.1 n2, hk.cell_some x.2.2.2.2.2.2.2.2.1 n2, Nat.lt_of_lt_of_le x.2.2.2.2.2.2.2.2.2 hk.size⟩
  have HA2 : Hid (∀ W, Kept [] W2 W → RqIs w0 W b d a) := fun W hk => HEND.out W (HKW.out.trans hk)
  have hfg := HG.out W2 (Kept.refl _ _)
  have hac := HAC.out W2 HKW.out
  have hkd := HKD.out
  rw [hkd] at hfg HG HS
  clear hkd
  have HV : Hid (V = if (a.th t).call = 0 ∧ (nextA d a t).1.op = e.op then some (a.setT t { a.th t with call := 1, deed := (nextA d a t).1, pc := (nextA d a t).2 }) else none) := by show V = _; rw [HS.out, if_pos rfl]
  have HNX : Hid (∀ W, Kept [] W2 W → Calls Try.prog 30 #[.pointer (some ⟨b.g, 0, none⟩), .int .i64 t] W fun y w' => y = .returned (.tuple #[.agg (ddR (nextA d a t).1), .int .i64 (nextA d a t).2]) ∧ Kept [] W w') := fun W hk => by
    obtain ⟨q1, q2, q3, q4, q5, q6⟩ := HWB.out
    exact R35next_any (HA2.out W hk).at_ q1 q2 (q3.old (HW0.out.trans (HK0.out.trans (HKW.out.trans hk)))) q5 q6
  generalize (nextA d a t).2 = np at *
  generalize (nextA d a t).1 = nd at *
  obtain ⟨no, na, nb, nr, nn, nm, nl⟩ := nd
  simp only at HV
  obtain ⟨ocl, hcl⟩ : ∃ z, (a.th t).call = z := ⟨_, rfl⟩
  rw [hcl] at hfg HG HV
  have HCL := Lib.hid hcl
  clear hcl HS HWB HRX
  go_wp2_with fail
  refine (HNX.out _ (Kept.refl _ _)).mono ?_
  rintro y w4 ⟨rfl, hk4⟩
  obtain ⟨w5, hw5⟩ : ∃ w5, w4.alloc (.cells #[.int .i64 no, .int .i64 na, .int .i64 nb, .int .i64 nr, .int .u64 nn, .int .u64 nm, .bool nl] 47) = w5 := ⟨_, rfl⟩
  have hk5 : Kept [] W2 w5 := by rw [← hw5]; exact hk4.alloc _
  have hB5 : Blk w5 w4.heap.size 47 #[.int .i64 no, .int .i64 na, .int .i64 nb, .int .i64 nr, .int .u64 nn, .int .u64 nm, .bool nl] := by rw [← hw5]; exact Blk.new _ _ _
  have HW5 := Lib.hid hw5
  have HK5 := Lib.hid hk5
  have HB5 := Lib.hid hB5
  have hs4 := hk4.size
  have hs2 := HK2.out.size
  clear hfg hac hw5 hk5 hB5 hk4
  have HFD : Hid (∀ W, Kept [b.gT] w5 W → W.cell? ⟨w4.heap.size, 0, none⟩ = some (.int .i64 no) ∧ W.cell? ⟨w4.heap.size, 1, none⟩ = some (.int .i64 na) ∧ W.cell? ⟨w4.heap.size, 2, none⟩ = some (.int .i64 nb) ∧ W.cell? ⟨w4.heap.size, 3, none⟩ = some (.int .i64 nr) ∧ W.cell? ⟨w4.heap.size, 4, none⟩ = some (.int .u64 nn) ∧ W.cell? ⟨w4.heap.size, 5, none⟩ = some (.int .u64 nm) ∧ W.cell? ⟨w4.heap.size, 6, none⟩ = some (.bool nl) ∧ w4.heap.size < W.heap.size) := fun W hk => by
    have := HB5.out.kept hk (HNB.out.2 _ (by have := HWR.out; omega))
    exact ⟨this.cell 0, this.cell 1, this.cell 2, this.cell 3, this.cell 4, this.cell 5, this.cell 6, this.lt⟩
  have hfg := HG.out w5 (HK5.out.mono (by simp))
  have hfd := HFD.out w5 (Kept.refl _ _)
  have hac := HAC.out w5 (HKW.out.trans HK5.out)
  go_upto_region 29 with fail
  rw [HW5.out]
  by_cases hc : ocl = 0
  · by_cases ho : no = e.op
    · have HR : Hid (V = some (a.setT t { a.th t with call := 1, deed := ⟨no, na, nb, nr, nn, nm, nl⟩, pc := np })) := by show V = _; rw [HV.out, if_pos ⟨hc, ho⟩]
      have ho1 : (no != e.op) = false := by simp [ho]
      subst hc
      obtain ⟨⟨v4, c4⟩, cf, _, hA⟩ := HST.out w5 (a.th t) 4 (.int .i64 1) { a.th t with call := 1 } (by omega) (by rfl) (HSELF.out _ (HA2.out _ HK5.out))
      have HA6 := Lib.hid hA
      obtain ⟨w6, hw6⟩ : ∃ w6, w5.setCell ⟨b.gT, t * 31 + 4, none⟩ (.int .i64 1) = w6 := ⟨_, rfl⟩
      have HK6 : Hid (Kept [b.gT] w5 w6) := by rw [← hw6]; exact (Kept.refl [b.gT] w5).setCell (.inl (by simp)) _
      rw [hw6] at HA6
      have HW6 := Lib.hid hw6
      have HTL : Hid (a.T.length = a.T.length) := rfl
      have HF32 : Hid (∀ W, Kept [] w6 W → (W.cell? ⟨b.g, 10, none⟩ = some (.slice (some ⟨b.gT, 0, none⟩) a.T.length a.T.length) ∧ b.g < W.heap.size ∧ b.gT < W.heap.size) ∧ W.cell? ⟨w4.heap.size, 0, none⟩ = some (.int .i64 no) ∧ W.cell? ⟨w4.heap.size, 1, none⟩ = some (.int .i64 na) ∧ W.cell? ⟨w4.heap.size, 2, none⟩ = some (.int .i64 nb) ∧ W.cell? ⟨w4.heap.size, 3, none⟩ = some (.int .i64 nr) ∧ W.cell? ⟨w4.heap.size, 4, none⟩ = some (.int .u64 nn) ∧ W.cell? ⟨w4.heap.size, 5, none⟩ = some (.int .u64 nm) ∧ W.cell? ⟨w4.heap.size, 6, none⟩ = some (.bool nl) ∧ w4.heap.size < W.heap.size) := fun W hk => ⟨(HST.out W { a.th t with call := 1 } 4 (.int .i64 1) { a.th t with call := 1 } (by omega) (by rfl) (HA6.out.old hk)).2.2.1, HFD.out W (HK6.out.trans (hk.mono (by simp)))⟩
      have HS7 : Hid (∀ W, Kept [] w6 W → (((∃ v, W.cell? ⟨b.gT, t * 31 + 23, none⟩ = some v) ∧ (∃ v, W.cell? ⟨b.gT, t * 31 + 24, none⟩ = some v) ∧ (∃ v, W.cell? ⟨b.gT, t * 31 + 25, none⟩ = some v) ∧ (∃ v, W.cell? ⟨b.gT, t * 31 + 26, none⟩ = some v) ∧ (∃ v, W.cell? ⟨b.gT, t * 31 + 27, none⟩ = some v) ∧ (∃ v, W.cell? ⟨b.gT, t * 31 + 28, none⟩ = some v) ∧ (∃ v, W.cell? ⟨b.gT, t * 31 + 29, none⟩ = some v)) ∧ (∀ j, W.frozen? ⟨b.gT, j, none⟩ = false) ∧ b.gT < W.heap.size) ∧ RqIs w0 (((((((W.setCell ⟨b.gT, t * 31 + 23, none⟩ (.int .i64 no)).setCell ⟨b.gT, t * 31 + 24, none⟩ (.int .i64 na)).setCell ⟨b.gT, t * 31 + 25, none⟩ (.int .i64 nb)).setCell ⟨b.gT, t * 31 + 26, none⟩ (.int .i64 nr)).setCell ⟨b.gT, t * 31 + 27, none⟩ (.int .u64 nn)).setCell ⟨b.gT, t * 31 + 28, none⟩ (.int .u64 nm)).setCell ⟨b.gT, t * 31 + 29, none⟩ (.bool nl)) b d (a.setT t { a.th t with call := 1, deed := ⟨no, na, nb, nr, nn, nm, nl⟩ })) := fun W hk => by
        have e0 := HA6.out.old hk
        have hlen : (a.setT t { a.th t with call := 1 }).T.length = a.T.length := by simp [Acc.setT]
        have ht : t < a.T.length := HWT.out
        obtain ⟨hc, hl, hff⟩ := RqAt.th e0.at_ (k := t) (by rw [hlen]; exact ht)
        have h2 := RqIs.sts e0 (t := t) (by rw [hlen]; exact ht) [(23, .int .i64 no), (24, .int .i64 na), (25, .int .i64 nb), (26, .int .i64 nr), (27, .int .u64 nn), (28, .int .u64 nm), (29, .bool nl)] (by simp) { a.th t with call := 1, deed := ⟨no, na, nb, nr, nn, nm, nl⟩ } (by rw [setT_thR ht]; rfl)
        rw [setT_setT] at h2
        exact ⟨⟨⟨⟨_, hc 23 _ rfl⟩, ⟨_, hc 24 _ rfl⟩, ⟨_, hc 25 _ rfl⟩, ⟨_, hc 26 _ rfl⟩, ⟨_, hc 27 _ rfl⟩, ⟨_, hc 28 _ rfl⟩, ⟨_, hc 29 _ rfl⟩⟩, hff, hl⟩, h2⟩
      clear hA ho hw6 HG HV
      go_upto_region 32 with fail
      rw [HW6.out]
      clear hfg hfd hac c4 cf
      (refine wp_region_phases (n := 9) (listed := #[false, false, false, false, false, false, false, false, false]) (by kernel_rfl) (by rfl) (by rfl) ?_)
      (refine wpAny_phase (fun W => Kept [] w6 W) [(0, false), (1, false), (2, false), (3, false), (4, false), (5, false), (6, false), (7, false)] (f := 1) (listed := #[false, false, false, false, false, false, false, false, false]) (listed' := #[true, true, true, true, true, true, true, true, false]) (by kernel_rfl) (by kernel_rfl) (by rfl) (Kept.refl [] _).drew (fun d _ _ _ _ h => by cases d <;> exact h) ?_)
      iterate 8 (refine wpQL_take (v := ?_) rfl (by rfl) ?_ ?_; rotate_left; (focus ((intro W hC; have hF := HF32.out W hC; go_simp); try (with_reducible rfl))); (try dsimp only [Act.put]); (try simp only [List.setIfInBounds_toArray, List.set_cons_zero, List.set_cons_succ]))
      (refine wpQL_nil ?_)
      (intro wq hq)
      obtain ⟨⟨⟨⟨y0, g0⟩, ⟨y1, g1⟩, ⟨y2, g2⟩, ⟨y3, g3⟩, ⟨y4, g4⟩, ⟨y5, g5⟩, ⟨y6, g6⟩⟩, gf, gl⟩, hA7⟩ := HS7.out _ hq
      (refine wpAny_loud 8 (fuel := 0) (listed := #[true, true, true, true, true, true, true, true, false]) (listed' := #[true, true, true, true, true, true, true, true, true]) (by kernel_rfl) (by rfl) nth_8 (fun K hK => ?_))
      go_simp
      (refine hK.out _ _ ?_; clear hK K)
      (try simp only [Act.put, List.setIfInBounds_toArray, List.set_cons_zero, List.set_cons_succ])
      (refine wpAny_done (by kernel_rfl) ?_ _)
      obtain ⟨w8, hw8⟩ : ∃ w8, ((((((wq.setCell ⟨b.gT, t * 31 + 23, none⟩ (.int .i64 no)).setCell ⟨b.gT, t * 31 + 24, none⟩ (.int .i64 na)).setCell ⟨b.gT, t * 31 + 25, none⟩ (.int .i64 nb)).setCell ⟨b.gT, t * 31 + 26, none⟩ (.int .i64 nr)).setCell ⟨b.gT, t * 31 + 27, none⟩ (.int .u64 nn)).setCell ⟨b.gT, t * 31 + 28, none⟩ (.int .u64 nm)).setCell ⟨b.gT, t * 31 + 29, none⟩ (.bool nl) = w8 := ⟨_, rfl⟩
      rw [hw8] at hA7
      (try simp only [Nat.add_assoc])
      (try simp only [Nat.reduceAdd])
      try rw [hw8]
      obtain ⟨⟨z1, i1⟩, jf, ⟨k1, k2, k3⟩, hA9⟩ := HST.out w8 { a.th t with call := 1, deed := ⟨no, na, nb, nr, nn, nm, nl⟩ } 1 (.int .i64 np) { a.th t with call := 1, deed := ⟨no, na, nb, nr, nn, nm, nl⟩, pc := np } (by omega) (by rfl) hA7
      have HA9 := Lib.hid hA9
      clear hA9 hA7 hq hw8 g0 g1 g2 g3 g4 g5 g6 gf gl
      go_wp2_with fail
      go_ret
      exact ⟨by rw [HR.out]; rfl, by rw [HR.out]; exact HA9.out⟩
    · have HR : Hid (V = none) := by show V = _; rw [HV.out, if_neg (by simp [ho])]
      have ho1 : (no != e.op) = true := bne_iff_ne.2 ho
      subst hc
      clear ho HV HG
      go_wp2_with fail
      go_ret
      exact ⟨by rw [HR.out]; rfl, by rw [HR.out]; exact HA2.out _ HK5.out⟩
  · have HR : Hid (V = none) := by show V = _; rw [HV.out, if_neg (by simp [hc])]
    have hc1 : (ocl != 0) = true := bne_iff_ne.2 hc
    clear hc HV HG
    go_wp2_with fail
    go_ret
    exact ⟨by rw [HR.out]; rfl, by rw [HR.out]; exact HA2.out _ HK5.out⟩

end Go.Proofs.Ytccodklfplfleaa

