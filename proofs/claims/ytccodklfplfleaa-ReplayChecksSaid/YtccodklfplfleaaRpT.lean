/- Package replay: what OK does (does), walked. -/
import Derived.Test.YtccodklfplfleaaRpS
namespace Go.Proofs.Ytccodklfplfleaa
open Go.RowKit

theorem doesA_eq (a : Acc) (t : Nat) : doesA a t =
  if (a.th t).deed.op = 2 then (match freeA a with
    | none => a
    | some i => { a with P := a.P.set i ⟨true, (a.pl i).gen + 1⟩, T := (a.T.set i { newT (a.th t).deed.a (a.th t).deed.mask (a.th t).deed.loose i ((a.pl i).gen + 1) with regs := (newT (a.th t).deed.a (a.th t).deed.mask (a.th t).deed.loose i ((a.pl i).gen + 1)).regs.set 1 ((t : Int), (a.pl t).gen) }).set t { a.th t with regs := (a.th t).regs.set (a.th t).deed.r.toNat ((i : Int), (a.pl i).gen + 1) } })
  else if (a.th t).deed.op = 4 then (if overA a t then freeP a (regA a t).1.toNat else a)
  else if (a.th t).deed.op = 7 then a.setT (regA a t).1.toNat { a.th (regA a t).1.toNat with mask := (a.th t).deed.mask }
  else if (a.th t).deed.op = 11 then { a with held := a.held.set (a.th t).deed.a.toNat (-1) }
  else a := by
  unfold doesA
  rfl

set_option maxHeartbeats 6400000 in
set_option maxRecDepth 100000 in
theorem rpdoes_any {w0 : Base} {w : World} {b : AcA} {d : Du} {a : Acc} {K : Array Value} (h : AccIs w0 w b d a K) (hw : AWhole d a) {t : Nat} (ht : t < a.T.length) (hk : (a.pl t).taken = true)
    (h2 : (a.th t).deed.op = 2 → (a.th t).deed.a < d.progs.length ∧ freeA a ≠ none) (h4 : (a.th t).deed.op = 4 ∨ (a.th t).deed.op = 7 → isA a t = true) (h11 : (a.th t).deed.op = 11 → (a.th t).deed.a < d.locks) :
    Calls Try.prog 81 #[.pointer (some ⟨b.g, 0, none⟩), .agg #[.int .i64 t, .int .u32 (a.pl t).gen], .pointer (some (tA b t))] w fun x w' => x = .returned (.tuple #[]) ∧ AccIs w0 w' b d (doesA a t) K := by
  have hx := hw.at_ ht
  obtain ⟨r, hr⟩ : ∃ r : Nat, (a.th t).deed.r = r := ⟨(a.th t).deed.r.toNat, by have := hx.deed; omega⟩
  have hr8 : r < 8 := by have := hx.deed; omega
  have hreg : regA a t = (a.th t).regs.getD r (0, 0) := by unfold regA; rw [hr, Int.toNat_natCast]
  -- the id's box, then the deed's
  obtain ⟨wa, hwa⟩ : ∃ wa, w.alloc (.cells #[.int .i64 t, .int .u32 (a.pl t).gen] 53) = wa := ⟨_, rfl⟩
  have h0 : Kept [] w wa := by rw [← hwa]; exact (Kept.refl _ _).alloc _
  have hBa : Blk wa w.heap.size 53 #[.int .i64 t, .int .u32 (a.pl t).gen] := by rw [← hwa]; exact Blk.new _ _ _
  obtain ⟨wb, hwb⟩ : ∃ wb, wa.alloc (.cells (ddC (a.th t).deed) 47) = wb := ⟨_, rfl⟩
  have h1 : Kept [] wa wb := by rw [← hwb]; exact (Kept.refl _ _).alloc _
  have hBb : Blk wb wa.heap.size 47 (ddC (a.th t).deed) := by rw [← hwb]; exact Blk.new _ _ _
  have hBa2 := hBa.kept h1 (by simp)
  have h01 := h0.trans h1
  have HA := Lib.hid (h.old h01)
  have HTG := Lib.hid (fun W (hk : Kept [] wb W) => rptarget_any (AccAt.old h.at' (h01.trans hk)) hw ht (a.th t).deed hr hr8)
  have HEQ := Lib.hid (doesA_eq a t)
  have HDa : Hid (∀ W, Kept [] wa W → W.cell? ⟨gT b, t * 31 + 23, none⟩ = some (.int .i64 (a.th t).deed.op) ∧ W.cell? ⟨gT b, t * 31 + 24, none⟩ = some (.int .i64 (a.th t).deed.a) ∧ W.cell? ⟨gT b, t * 31 + 25, none⟩ = some (.int .i64 (a.th t).deed.b) ∧ W.cell? ⟨gT b, t * 31 + 26, none⟩ = some (.int .i64 (a.th t).deed.r) ∧ W.cell? ⟨gT b, t * 31 + 27, none⟩ = some (.int .u64 (a.th t).deed.n) ∧ W.cell? ⟨gT b, t * 31 + 28, none⟩ = some (.int .u64 (a.th t).deed.mask) ∧ W.cell? ⟨gT b, t * 31 + 29, none⟩ = some (.bool (a.th t).deed.loose) ∧ gT b < W.heap.size) := fun W hk => by
    have h2 := AccAt.old h.at' (h0.trans hk)
    obtain ⟨k1, k2, k3, k4, k5, k6, k7⟩ := AccAt.df h2 ht
    exact ⟨k1, k2, k3, k4, k5, k6, k7, (AccAt.tf h2 ht).2.2.2⟩
  -- the boxes, wherever only the account's blocks turn
  have hlt := AccAt.fp_lt h.at'
  have haF : ∀ k, k ∈ aF b → k < w.heap.size := fun k hk => hlt k (by unfold accFp; simp [hk])
  have HBX : Hid (∀ W, Kept (aF b) wb W → (W.cell? ⟨w.heap.size, 0, none⟩ = some (.int .i64 t) ∧ W.cell? ⟨w.heap.size, 1, none⟩ = some (.int .u32 (a.pl t).gen) ∧ w.heap.size < W.heap.size) ∧ W.cell? ⟨wa.heap.size, 0, none⟩ = some (.int .i64 (a.th t).deed.op) ∧ W.cell? ⟨wa.heap.size, 1, none⟩ = some (.int .i64 (a.th t).deed.a) ∧ W.cell? ⟨wa.heap.size, 2, none⟩ = some (.int .i64 (a.th t).deed.b) ∧ W.cell? ⟨wa.heap.size, 3, none⟩ = some (.int .i64 (a.th t).deed.r) ∧ W.cell? ⟨wa.heap.size, 4, none⟩ = some (.int .u64 (a.th t).deed.n) ∧ W.cell? ⟨wa.heap.size, 5, none⟩ = some (.int .u64 (a.th t).deed.mask) ∧ W.cell? ⟨wa.heap.size, 6, none⟩ = some (.bool (a.th t).deed.loose) ∧ wa.heap.size < W.heap.size) := fun W hk => by
    have e1 := hBa2.kept hk (fun hm => by have := haF _ hm; omega)
    have e2 := hBb.kept hk (fun hm => by have := haF _ hm; have := h0.size; omega)
    exact ⟨⟨e1.cell 0, e1.cell 1, e1.lt⟩, e2.cell 0, e2.cell 1, e2.cell 2, e2.cell 3, e2.cell 4, e2.cell 5, e2.cell 6, e2.lt⟩
  have hda := HDa.out wa (Kept.refl _ _)
  have hbx := HBX.out wb (Kept.refl _ _)
  rcases (by omega : (a.th t).deed.op = 2 ∨ (a.th t).deed.op = 4 ∨ (a.th t).deed.op = 7 ∨ (a.th t).deed.op = 11 ∨ ((a.th t).deed.op ≠ 2 ∧ (a.th t).deed.op ≠ 4 ∧ (a.th t).deed.op ≠ 7 ∧ (a.th t).deed.op ≠ 11)) with o | o | o | o | ⟨o2, o4, o7, o11⟩
  · -- spawn
    obtain ⟨hnp, hfree⟩ := h2 o
    obtain ⟨i, hi⟩ : ∃ i, freeA a = some i := by
      cases hf : freeA a with
      | none => exact absurd hf hfree
      | some i => exact ⟨i, rfl⟩
    obtain ⟨hil, hint, hign, hfp⟩ := freeA_some hi
    have hilT : i < a.T.length := by rw [hw.tl]; exact hil
    have hne : i ≠ t := by rintro rfl; rw [hint] at hk; simp at hk
    obtain ⟨gn, hgn⟩ : ∃ gn, (a.pl i).gen + 1 = gn := ⟨_, rfl⟩
    have hTV : takeV a.P = (((i : Int), gn), true) := by
      unfold takeV
      rw [if_neg (by rw [hfp]; omega), hfp, Int.toNat_natCast]
      rw [← hgn]; rfl
    have HBN := Lib.hid (rpborn_any (h.old h01) hw (a.th t).deed.a (a.th t).deed.mask (a.th t).deed.loose)
    rw [hTV] at HBN
    have hb1 : bornA a (a.th t).deed.a (a.th t).deed.mask (a.th t).deed.loose = { a with P := a.P.set i ⟨true, gn⟩, T := a.T.set i (newT (a.th t).deed.a (a.th t).deed.mask (a.th t).deed.loose i gn) } := by
      unfold bornA
      rw [hi, ← hgn]
    obtain ⟨nt, hnt⟩ : ∃ nt, newT (a.th t).deed.a (a.th t).deed.mask (a.th t).deed.loose i gn = nt := ⟨_, rfl⟩
    have hntr : nt.regs.length = 8 := by rw [← hnt]; simp [newT, Th.zero]
    rw [hnt] at hb1
    obtain ⟨a1, ha1⟩ : ∃ a1 : Acc, a1 = { a with P := a.P.set i ⟨true, gn⟩, T := a.T.set i nt } := ⟨_, rfl⟩
    rw [hb1, ← ha1] at HBN
    have hl1 : a1.T.length = a.T.length := by rw [ha1]; simp
    have hth1 : a1.th i = nt := by rw [ha1]; show (a.T.set i nt).getD i Th.zero = nt; rw [getD_set, if_pos ⟨rfl, hilT⟩]
    have hth1t : a1.th t = a.th t := by rw [ha1]; show (a.T.set i nt).getD t Th.zero = _; rw [getD_set, if_neg (by simp [hne])]; rfl
    obtain ⟨a2, ha2⟩ : ∃ a2 : Acc, a2 = a1.setT i { nt with regs := nt.regs.set 1 ((t : Int), (a.pl t).gen) } := ⟨_, rfl⟩
    have hl2 : a2.T.length = a.T.length := by rw [ha2]; simp [Acc.setT, hl1]
    have hth2t : a2.th t = a.th t := by rw [ha2]; show (a1.T.set i _).getD t Th.zero = _; rw [getD_set, if_neg (by simp [hne])]; exact hth1t
    have hV : doesA a t = a2.setT t { a.th t with regs := (a.th t).regs.set r ((i : Int), gn) } := by
      rw [HEQ.out, if_pos o, hi, ha2, ha1]
      simp only [hgn, hr, Int.toNat_natCast, hnt, Acc.setT, List.set_set]
    have HS1 : Hid (∀ W, AccIs w0 W b d a1 K → (((W.cell? ⟨b.g, 10, none⟩ = some (.slice (some ⟨gT b, 0, none⟩) a.T.length b.cT) ∧ b.g < W.heap.size) ∧ gT b < W.heap.size) ∧ (∃ v, W.cell? ⟨gT b, i * 31 + 8, none⟩ = some v) ∧ (∃ v, W.cell? ⟨gT b, i * 31 + 9, none⟩ = some v) ∧ ∀ j, W.frozen? ⟨gT b, j, none⟩ = false) ∧ AccIs w0 ((W.setCell ⟨gT b, i * 31 + 8, none⟩ (.int .i64 t)).setCell ⟨gT b, i * 31 + 9, none⟩ (.int .u32 (a.pl t).gen)) b d a2 K) := fun W hA => by
      have hil1 : i < a1.T.length := by rw [hl1]; exact hilT
      obtain ⟨g, e1, hc, hl, hf⟩ := AccAt.thr hA.at' i hil1
      have e2 : gT b = g := by unfold gT; rw [e1]
      have hfc := AccAt.fact hA.at' W (Kept.refl _ _)
      have e3 := hA.sts hil1 [(8, .int .i64 t), (9, .int .u32 (a.pl t).gen)] (by simp) { nt with regs := nt.regs.set 1 ((t : Int), (a.pl t).gen) } (by
        rw [hth1]
        exact (thL_setreg nt hntr 1 (by omega) ((t : Int), (a.pl t).gen)).symm)
      rw [← ha2] at e3
      rw [hl1] at hfc
      exact ⟨⟨⟨⟨by rw [e2, ← e1]; exact hfc.2.1, hfc.2.2.2⟩, by rw [e2]; exact hl⟩, ⟨_, by rw [e2]; exact hc 8 _ rfl⟩, ⟨_, by rw [e2]; exact hc 9 _ rfl⟩, fun j => by rw [e2]; exact hf j⟩, e3⟩
    have HS2 : Hid (∀ W, AccIs w0 W b d a2 K → ((∃ v, W.cell? ⟨gT b, t * 31 + 6 + r * 2, none⟩ = some v) ∧ (∃ v, W.cell? ⟨gT b, t * 31 + 6 + r * 2 + 1, none⟩ = some v) ∧ (∀ j, W.frozen? ⟨gT b, j, none⟩ = false) ∧ gT b < W.heap.size) ∧ AccIs w0 ((W.setCell ⟨gT b, t * 31 + 6 + r * 2, none⟩ (.int .i64 i)).setCell ⟨gT b, t * 31 + 6 + r * 2 + 1, none⟩ (.int .u32 gn)) b d (a2.setT t { a.th t with regs := (a.th t).regs.set r ((i : Int), gn) }) K) := fun W hA => by
      have ht2 : t < a2.T.length := by rw [hl2]; exact ht
      have e3 := hA.sts ht2 [(6 + r * 2, .int .i64 i), (6 + r * 2 + 1, .int .u32 gn)] (by simp; omega) { a.th t with regs := (a.th t).regs.set r ((i : Int), gn) } (by
        rw [hth2t]
        exact (thL_setreg (a.th t) hx.regs r hr8 ((i : Int), gn)).symm)
      simp only [List.foldl_cons, List.foldl_nil, ← Nat.add_assoc] at e3
      have e4 := AccAt.rf hA.at' ht2 hr8
      exact ⟨⟨⟨_, e4.1⟩, ⟨_, e4.2⟩, AccAt.frz hA.at' ht2, (AccAt.tf hA.at' ht2).2.2.2⟩, e3⟩
    rw [hV]
    have hr0 : (0 : Int) ≤ (r : Int) := by omega
    have hr1 : (r : Int) < 8 := by omega
    have hi0 : (0 : Int) ≤ (i : Int) := by omega
    have hi1 : (i : Int) < (a.T.length : Int) := by omega
    have hGA := gT_aF h.at' ht
    have hgs := (AccAt.gT_ne h.at' ht).2
    have hs1 := h0.size
    have hs2 := h1.size
    have hbb : wa.heap.size < wb.heap.size := hBb.lt
    unfold tA
    generalize a2.setT t { a.th t with regs := (a.th t).regs.set r ((i : Int), gn) } = a3 at *
    generalize a.T.length = nT at *
    generalize hpg : (a.pl t).gen = pg at *
    clear h hw hx h2 h4 h11 HTG HEQ hV h0 h1 hBa hBb hBa2 h01 hr8 hreg hlt haF ht hk HDa hnp hfree hi hil hint hign hfp hilT hne hgn hTV hb1 hnt hntr ha1 hl1 hth1 hth1t ha2 hl2 hth2t HA hpg
    generalize hdd : (a.th t).deed = x at *
    obtain ⟨xo, xa, xb, xr, xn, xm, xl⟩ := x
    simp only at *
    subst o
    clear hdd
    subst hr
    go_enter Try.func81, Try.ntmps81
    go_wp2_with fail
    refine (HBN.out).mono ?_
    rintro y w6 ⟨rfl, hA6, hk6⟩
    go_wp2_with fail
    obtain ⟨w7, hw7⟩ : ∃ w7, w6.alloc (.cells #[.int .i64 i, .int .u32 gn] 53) = w7 := ⟨_, rfl⟩
    have hk7 : Kept [] w6 w7 := by rw [← hw7]; exact (Kept.refl _ _).alloc _
    have hB7 : Blk w7 w6.heap.size 53 #[.int .i64 i, .int .u32 gn] := by rw [← hw7]; exact Blk.new _ _ _
    have hA7 := hA6.old hk7
    have hkx := hk6.trans (hk7.mono (by simp))
    rw [hw7]
    have hs6 := hk6.size
    have HF5 : Hid (∀ W, Kept [] w7 W → ((W.cell? ⟨b.g, 10, none⟩ = some (.slice (some ⟨gT b, 0, none⟩) nT b.cT) ∧ b.g < W.heap.size) ∧ gT b < W.heap.size) ∧ (W.cell? ⟨w.heap.size, 0, none⟩ = some (.int .i64 t) ∧ W.cell? ⟨w.heap.size, 1, none⟩ = some (.int .u32 pg) ∧ w.heap.size < W.heap.size) ∧ W.cell? ⟨w6.heap.size, 0, none⟩ = some (.int .i64 i) ∧ W.cell? ⟨w6.heap.size, 1, none⟩ = some (.int .u32 gn) ∧ w6.heap.size < W.heap.size) := fun W hk => by
      have h1 := hB7.kept hk (by simp)
      exact ⟨(HS1.out _ (hA7.old hk)).1.1, (HBX.out W (hkx.trans (hk.mono (by simp)))).1, h1.cell 0, h1.cell 1, h1.lt⟩
    clear hw7
    (refine wp_region_phases (n := 11) (listed := #[false, false, false, false, false, false, false, false, false, false, false]) (by kernel_rfl) (by rfl) (by rfl) ?_)
    (refine wpAny_phase (fun W => Kept [] w7 W) [(0, false), (1, false), (2, false), (3, false), (4, false), (5, false), (6, false), (7, false), (8, false), (9, false)] (f := 1) (listed := #[false, false, false, false, false, false, false, false, false, false, false]) (listed' := #[true, true, true, true, true, true, true, true, true, true, false]) (by kernel_rfl) (by kernel_rfl) (by rfl) (Kept.refl [] _).drew (fun d _ _ _ _ h => by cases d <;> exact h) ?_)
    iterate 10 (refine wpQL_take (v := ?_) rfl (by rfl) ?_ ?_; rotate_left; (focus ((intro W hC; have hF := HF5.out W hC; go_simp); try (with_reducible rfl))); (try dsimp only [Act.put]); (try simp only [List.setIfInBounds_toArray, List.set_cons_zero, List.set_cons_succ]))
    (refine wpQL_nil ?_)
    (intro wq hq)
    obtain ⟨⟨_, ⟨x8, c8⟩, ⟨x9, c9⟩, cf⟩, hA8⟩ := HS1.out _ (hA7.old hq)
    have hgq := (HF5.out _ hq).1.2
    (refine wpAny_loud 10 (fuel := 0) (listed := #[true, true, true, true, true, true, true, true, true, true, false]) (listed' := #[true, true, true, true, true, true, true, true, true, true, true]) (by kernel_rfl) (by rfl) nth_10 (fun K hK => ?_))
    go_simp
    (refine hK.out _ _ ?_; clear hK K)
    (try simp only [Act.put, List.setIfInBounds_toArray, List.set_cons_zero, List.set_cons_succ])
    (refine wpAny_done (by kernel_rfl) ?_ _)
    have hk8 : Kept [gT b] wq ((wq.setCell ⟨gT b, i * 31 + 8, none⟩ (.int .i64 t)).setCell ⟨gT b, i * 31 + 8 + 1, none⟩ (.int .u32 pg)) := ((Kept.refl _ _).setCell (.inl (by simp)) _).setCell (.inl (by simp)) _
    have hA9 : AccIs w0 ((wq.setCell ⟨gT b, i * 31 + 8, none⟩ (.int .i64 t)).setCell ⟨gT b, i * 31 + 8 + 1, none⟩ (.int .u32 pg)) b d a2 K := hA8
    have hB9 := (hB7.kept hq (by simp)).kept hk8 (by simp; omega)
    have hky := (hkx.trans (hq.mono (by simp))).trans (hk8.mono (by simpa using hGA))
    generalize ((wq.setCell ⟨gT b, i * 31 + 8, none⟩ (.int .i64 t)).setCell ⟨gT b, i * 31 + 8 + 1, none⟩ (.int .u32 pg)) = w9 at *
    have HF6 : Hid (∀ W, Kept [] w9 W → (W.cell? ⟨wa.heap.size, 3, none⟩ = some (.int .i64 (r : Int)) ∧ wa.heap.size < W.heap.size) ∧ W.cell? ⟨w6.heap.size, 0, none⟩ = some (.int .i64 i) ∧ W.cell? ⟨w6.heap.size, 1, none⟩ = some (.int .u32 gn) ∧ w6.heap.size < W.heap.size) := fun W hk => by
      have h1 := hB9.kept hk (by simp)
      have h2 := HBX.out W (hky.trans (hk.mono (by simp)))
      exact ⟨⟨h2.2.2.2.2.1, h2.2.2.2.2.2.2.2.2⟩, h1.cell 0, h1.cell 1, h1.lt⟩
    clear HF5 hA7 hA8 hB7 hB9 hk8 hkx hky hq c8 c9 cf
    go_wp2_with fail
    (refine wp_region_phases (n := 8) (listed := #[false, false, false, false, false, false, false, false]) (by kernel_rfl) (by rfl) (by rfl) ?_)
    (refine wpAny_phase (fun W => Kept [] w9 W) [(0, false), (1, false), (2, false), (3, false), (4, false), (5, false), (6, false)] (f := 1) (listed := #[false, false, false, false, false, false, false, false]) (listed' := #[true, true, true, true, true, true, true, false]) (by kernel_rfl) (by kernel_rfl) (by rfl) (Kept.refl [] _).drew (fun d _ _ _ _ h => by cases d <;> exact h) ?_)
    iterate 7 (refine wpQL_take (v := ?_) rfl (by rfl) ?_ ?_; rotate_left; (focus ((intro W hC; have hF := HF6.out W hC; go_simp); try (with_reducible rfl))); (try dsimp only [Act.put]); (try simp only [List.setIfInBounds_toArray, List.set_cons_zero, List.set_cons_succ]))
    (refine wpQL_nil ?_)
    (intro wq hq)
    obtain ⟨⟨⟨y8, d8⟩, ⟨y9, d9⟩, df, dg⟩, hA10⟩ := HS2.out _ (hA9.old hq)
    have HA10 := Lib.hid hA10
    clear hA10
    (refine wpAny_loud 7 (fuel := 0) (listed := #[true, true, true, true, true, true, true, false]) (listed' := #[true, true, true, true, true, true, true, true]) (by kernel_rfl) (by rfl) nth_7 (fun K hK => ?_))
    go_simp
    (refine hK.out _ _ ?_; clear hK K)
    (try simp only [Act.put, List.setIfInBounds_toArray, List.set_cons_zero, List.set_cons_succ])
    (refine wpAny_done (by kernel_rfl) ?_ _)
    go_wp2_with fail
    go_end0
    exact ⟨rfl, HA10.out⟩
  · -- join
    have his := h4 (.inl o)
    obtain ⟨p0, p1, p2, p3⟩ := hasA_lt his
    obtain ⟨k, hkk⟩ : ∃ k : Nat, (regA a t).1 = k := ⟨(regA a t).1.toNat, by omega⟩
    have hkl : k < a.T.length := by rw [hw.tl]; rw [hkk, Int.toNat_natCast] at p1; exact p1
    have hV : doesA a t = if overA a t then freeP a k else a := by rw [HEQ.out, if_neg (by omega), if_pos o, hkk, Int.toNat_natCast]
    have hov : overA a t = decide ((a.th k).state = 5) := by unfold overA; rw [his, hkk, Int.toNat_natCast, Bool.true_and]
    have HTG2 : Hid (∀ W, Kept [] wb W → Calls Try.prog 84 #[.pointer (some ⟨b.g, 0, none⟩), .pointer (some (tA b t)), .agg (ddC (a.th t).deed)] W fun y w' => y = .returned (.pointer (some ⟨gT b, k * 31, none⟩)) ∧ Kept [] W w') := fun W hk => by
      have h1 := HTG.out W hk
      rw [← hreg, tgA_of his, hkk, Int.toNat_natCast] at h1
      exact h1
    have HST : Hid (∀ W, Kept [] wb W → W.cell? ⟨gT b, k * 31 + 2, none⟩ = some (.int .i64 (a.th k).state) ∧ gT b < W.heap.size) := fun W hk => by
      have h2 := AccAt.tf (AccAt.old h.at' (h01.trans hk)) hkl
      exact ⟨h2.1.2.2.1, h2.2.2.2⟩
    have HF : Hid (∀ W, Kept [] wb W → (W.cell? ⟨b.g, 9, none⟩ = some (.pointer (some ⟨b.gr, 0, none⟩)) ∧ b.g < W.heap.size) ∧ W.cell? ⟨wa.heap.size, 3, none⟩ = some (.int .i64 r) ∧ W.cell? ⟨gT b, t * 31 + 6 + r * 2, none⟩ = some (.int .i64 k) ∧ W.cell? ⟨gT b, t * 31 + 6 + r * 2 + 1, none⟩ = some (.int .u32 (regA a t).2) ∧ gT b < W.heap.size ∧ wa.heap.size < W.heap.size) := fun W hk => by
      have h1 := AccAt.old h.at' (h01.trans hk)
      have h2 := AccAt.fact h.at' W (h01.trans hk)
      have h3 := AccAt.rf h1 ht hr8
      rw [← hreg, hkk] at h3
      have h5 := HBX.out W (hk.mono (by simp))
      rw [hr] at h5
      exact ⟨⟨h2.1, h2.2.2.2⟩, h5.2.2.2.2.1, h3.1, h3.2, (AccAt.tf h1 ht).2.2.2, h5.2.2.2.2.2.2.2.2⟩
    have HFR : Hid (∀ W, Kept [] wb W → Calls Try.prog 86 #[.pointer (some ⟨b.gr, 0, none⟩), .agg #[.int .i64 k, .int .u32 (regA a t).2]] W fun y w' => y = .returned (.bool true) ∧ AccIs w0 w' b d (freeP a k) K) := fun W hk => by
      have e1 := h.old (h01.trans hk)
      have hh : hasP a.P k (regA a t).2 = true := by rw [← hkk]; exact his
      refine (rlFree_ok (AccAt.roll e1.at') k (regA a t).2 hh).mono fun y w' hy => ⟨hy.1, ?_⟩
      exact e1.setP (by simp) hy.2.1 hy.2.2
    rw [hV, hov]
    have hr0 : (0 : Int) ≤ (r : Int) := by omega
    have hr1 : (r : Int) < 8 := by omega
    unfold tA at HTG2 ⊢
    generalize (a.th k).state = z at *
    generalize freeP a k = a' at *
    generalize (regA a t).2 = gn at *
    clear h hw hx h2 h4 h11 HTG HEQ hV h0 h1 hBa hBb hBa2 h01 hr8 hreg hlt haF ht hk HBX HDa his p0 p1 p2 p3 hkk hkl hov
    generalize hdd : (a.th t).deed = x at *
    obtain ⟨xo, xa, xb, xr, xn, xm, xl⟩ := x
    simp only at *
    subst o
    clear hdd
    subst hr
    by_cases hz : z = 5
    · rw [decide_eq_true hz, if_pos rfl]
      rw [hz] at HST
      clear hz
      go_enter Try.func81, Try.ntmps81
      go_wp2_with fail
      refine (HTG2.out _ (Kept.refl _ _)).mono ?_
      rintro y w6 ⟨rfl, hk6⟩
      have hst := HST.out _ hk6
      go_wp2_with fail
      (refine wp_region_phases (n := 12) (listed := #[false, false, false, false, false, false, false, false, false, false, false, false]) (by kernel_rfl) (by rfl) (by rfl) ?_)
      (refine wpAny_phase (fun W => Kept [] wb W) [(0, false), (1, false), (2, false), (3, false), (4, false), (5, false), (6, false), (7, false), (8, false), (9, false), (10, false)] (f := 1) (listed := #[false, false, false, false, false, false, false, false, false, false, false, false]) (listed' := #[true, true, true, true, true, true, true, true, true, true, true, false]) (by kernel_rfl) (by kernel_rfl) (by rfl) (hk6).drew (fun d _ _ _ _ h => by cases d <;> exact h) ?_)
      iterate 11 (refine wpQL_take (v := ?_) rfl (by rfl) ?_ ?_; rotate_left; (focus ((intro W hC; have hF := HF.out W hC; go_simp); try (with_reducible rfl))); (try dsimp only [Act.put]); (try simp only [List.setIfInBounds_toArray, List.set_cons_zero, List.set_cons_succ]))
      (refine wpQL_nil ?_)
      (intro wq hq)
      (refine wpAny_loud 11 (fuel := 0) (listed := #[true, true, true, true, true, true, true, true, true, true, true, false]) (listed' := #[true, true, true, true, true, true, true, true, true, true, true, true]) (by kernel_rfl) (by rfl) nth_11 (fun K hK => ?_))
      go_simp
      refine (HFR.out _ hq).mono ?_
      rintro y w8 ⟨rfl, hA8⟩
      have HA8 := Lib.hid hA8
      clear hA8
      (refine hK.out _ _ ?_; clear hK K)
      (try simp only [Act.put, List.setIfInBounds_toArray, List.set_cons_zero, List.set_cons_succ])
      (refine wpAny_done (by kernel_rfl) ?_ _)
      go_wp2_with fail
      go_end0
      exact ⟨rfl, HA8.out⟩
    · rw [decide_eq_false hz, if_neg (by simp)]
      have hz1 : (z == 5) = false := beq_eq_false_iff_ne.2 hz
      clear hz
      go_enter Try.func81, Try.ntmps81
      go_wp2_with fail
      refine (HTG2.out _ (Kept.refl _ _)).mono ?_
      rintro y w6 ⟨rfl, hk6⟩
      have hst := HST.out _ hk6
      have HK6 := Lib.hid hk6
      clear hk6
      go_wp2_with fail
      go_end0
      exact ⟨rfl, HA.out.old HK6.out⟩
  · -- mask
    have his := h4 (.inr o)
    obtain ⟨p0, p1, p2, p3⟩ := hasA_lt his
    obtain ⟨k, hkk⟩ : ∃ k : Nat, (regA a t).1 = k := ⟨(regA a t).1.toNat, by omega⟩
    have hkl : k < a.T.length := by rw [hw.tl]; rw [hkk, Int.toNat_natCast] at p1; exact p1
    have hV : doesA a t = a.setT k { a.th k with mask := (a.th t).deed.mask } := by rw [HEQ.out, if_neg (by omega), if_neg (by omega), if_pos o, hkk, Int.toNat_natCast]
    have HTG2 : Hid (∀ W, Kept [] wb W → Calls Try.prog 84 #[.pointer (some ⟨b.g, 0, none⟩), .pointer (some (tA b t)), .agg (ddC (a.th t).deed)] W fun y w' => y = .returned (.pointer (some ⟨gT b, k * 31, none⟩)) ∧ Kept [] W w') := fun W hk => by
      have h1 := HTG.out W hk
      rw [← hreg, tgA_of his, hkk, Int.toNat_natCast] at h1
      exact h1
    have HST := Lib.hid (h.st h01 hkl 4 (by omega) (.int .u64 (a.th t).deed.mask) { a.th k with mask := (a.th t).deed.mask } rfl)
    have HF : Hid (∀ W, Kept [] wb W → (W.cell? ⟨wa.heap.size, 0, none⟩ = some (.int .i64 (a.th t).deed.op) ∧ W.cell? ⟨wa.heap.size, 1, none⟩ = some (.int .i64 (a.th t).deed.a) ∧ W.cell? ⟨wa.heap.size, 2, none⟩ = some (.int .i64 (a.th t).deed.b) ∧ W.cell? ⟨wa.heap.size, 3, none⟩ = some (.int .i64 (a.th t).deed.r) ∧ W.cell? ⟨wa.heap.size, 4, none⟩ = some (.int .u64 (a.th t).deed.n) ∧ W.cell? ⟨wa.heap.size, 5, none⟩ = some (.int .u64 (a.th t).deed.mask) ∧ W.cell? ⟨wa.heap.size, 6, none⟩ = some (.bool (a.th t).deed.loose) ∧ wa.heap.size < W.heap.size) ∧ gT b < W.heap.size) := fun W hk => ⟨(HBX.out W (hk.mono (by simp))).2, (AccAt.tf (AccAt.old h.at' (h01.trans hk)) ht).2.2.2⟩
    rw [hV]
    unfold tA at HTG2 ⊢
    generalize a.setT k { a.th k with mask := (a.th t).deed.mask } = a' at *
    clear h hw hx h2 h4 h11 HTG HEQ hV h0 h1 hBa hBb hBa2 h01 hr hr8 hreg hlt haF ht hk HBX HDa his p0 p1 p2 p3 hkk hkl
    generalize hdd : (a.th t).deed = x at *
    obtain ⟨xo, xa, xb, xr, xn, xm, xl⟩ := x
    simp only at *
    subst o
    clear hdd
    go_enter Try.func81, Try.ntmps81
    go_wp2_with fail
    (refine wp_region_phases (n := 9) (listed := #[false, false, false, false, false, false, false, false, false]) (by kernel_rfl) (by rfl) (by rfl) ?_)
    (refine wpAny_phase (fun W => Kept [] wb W) [(0, false), (1, false), (2, false), (3, false), (4, false), (5, false), (6, false), (7, false)] (f := 1) (listed := #[false, false, false, false, false, false, false, false, false]) (listed' := #[true, true, true, true, true, true, true, true, false]) (by kernel_rfl) (by kernel_rfl) (by rfl) (Kept.refl [] _).drew (fun d _ _ _ _ h => by cases d <;> exact h) ?_)
    iterate 3 (refine wpQL_take (v := ?_) rfl (by rfl) ?_ ?_; rotate_left; (focus ((intro W hC; have hF := HF.out W hC; go_simp); try (with_reducible rfl))); (try dsimp only [Act.put]); (try simp only [List.setIfInBounds_toArray, List.set_cons_zero, List.set_cons_succ]))
    (refine wpQL_call nth_3 (by rfl) ?_ (fun W hC => quiet_call hC (HTG2.out W hC)) ?_; (focus (intro W hC; go_simp; try (with_reducible rfl))); (try dsimp only [Act.put]); (try simp only [List.setIfInBounds_toArray, List.set_cons_zero, List.set_cons_succ]))
    iterate 4 (refine wpQL_take (v := ?_) rfl (by rfl) ?_ ?_; rotate_left; (focus ((intro W hC; have hF := HF.out W hC; go_simp); try (with_reducible rfl))); (try dsimp only [Act.put]); (try simp only [List.setIfInBounds_toArray, List.set_cons_zero, List.set_cons_succ]))
    (refine wpQL_nil ?_)
    (intro wq hq)
    obtain ⟨⟨x5, c5⟩, c7, c8⟩ := HST.out _ hq
    have hgs := (HF.out _ hq).2
    have HA8 := Lib.hid c8
    clear c8
    (refine wpAny_loud 8 (fuel := 0) (listed := #[true, true, true, true, true, true, true, true, false]) (listed' := #[true, true, true, true, true, true, true, true, true]) (by kernel_rfl) (by rfl) nth_8 (fun K hK => ?_))
    go_simp
    (refine hK.out _ _ ?_; clear hK K)
    (try simp only [Act.put, List.setIfInBounds_toArray, List.set_cons_zero, List.set_cons_succ])
    (refine wpAny_done (by kernel_rfl) ?_ _)
    go_wp2_with fail
    go_end0
    exact ⟨rfl, HA8.out⟩
  · -- unlock
    have hV : doesA a t = { a with held := a.held.set (a.th t).deed.a.toNat (-1) } := by rw [HEQ.out, if_neg (by omega), if_neg (by omega), if_neg (by omega), if_pos o]
    have hal := h11 o
    have ha0 := hx.deed.1
    have hal2 : (a.th t).deed.a.toNat < a.held.length := by have := hw.hl; omega
    have hin : (a.th t).deed.a < (a.held.length : Int) := by omega
    obtain ⟨g, hgA, _, _, _⟩ := AccAt.hld h.at' _ hal2
    have HF : Hid (∀ W, Kept [] wb W → ((W.cell? ⟨b.g, 9, none⟩ = some (.pointer (some ⟨b.gr, 0, none⟩)) ∧ W.cell? ⟨b.g, 10, none⟩ = some (.slice b.AT a.T.length b.cT) ∧ W.cell? ⟨b.g, 11, none⟩ = some (.slice b.AH a.held.length b.cH) ∧ b.g < W.heap.size) ∧ W.cell? ⟨wa.heap.size, 1, none⟩ = some (.int .i64 (a.th t).deed.a)) ∧ (∃ v, W.cell? ⟨g, (a.th t).deed.a.toNat, none⟩ = some v) ∧ g < W.heap.size ∧ (∀ j, W.frozen? ⟨g, j, none⟩ = false) ∧ AccIs w0 (W.setCell ⟨g, (a.th t).deed.a.toNat, none⟩ (.int .i64 (-1))) b d { a with held := a.held.set (a.th t).deed.a.toNat (-1) } K) := fun W hk => by
      have e1 := h.old (h01.trans hk)
      obtain ⟨g', e2, e3, e4, e5⟩ := AccAt.hld e1.at' _ hal2
      obtain rfl : g = g' := by rw [hgA] at e2; injection e2 with e2; injection e2
      exact ⟨⟨AccAt.fact h.at' W (h01.trans hk), (HBX.out W (hk.mono (by simp))).2.2.1⟩, ⟨_, e3⟩, e4, e5, e1.setH hgA _ _⟩
    rw [hV]
    rw [hgA] at HF
    generalize ({ a with held := a.held.set (a.th t).deed.a.toNat (-1) } : Acc) = a' at *
    have HF2 : Hid (∀ W, Kept [] wb W → (W.cell? ⟨b.g, 11, none⟩ = some (.slice (some ⟨g, 0, none⟩) a.held.length b.cH) ∧ b.g < W.heap.size) ∧ W.cell? ⟨wa.heap.size, 1, none⟩ = some (.int .i64 (a.th t).deed.a)) := fun W hk => by
      have := (HF.out W hk).1
      exact ⟨⟨this.1.2.2.1, this.1.2.2.2⟩, this.2⟩
    unfold tA
    clear h hw hx h2 h4 h11 HTG HEQ hV h0 h1 hBa hBb hBa2 h01 hr hr8 hreg hlt haF ht hk hal hal2 hgA HA HBX HDa
    generalize hdd : (a.th t).deed = x at *
    obtain ⟨xo, xa, xb, xr, xn, xm, xl⟩ := x
    simp only at *
    subst o
    clear hdd
    go_enter Try.func81, Try.ntmps81
    go_wp2_with fail
    (refine wp_region_phases (n := 8) (listed := #[false, false, false, false, false, false, false, false]) (by kernel_rfl) (by rfl) (by rfl) ?_)
    (refine wpAny_phase (fun W => Kept [] wb W) [(0, false), (1, false), (2, false), (3, false), (4, false), (5, false), (6, false)] (f := 1) (listed := #[false, false, false, false, false, false, false, false]) (listed' := #[true, true, true, true, true, true, true, false]) (by kernel_rfl) (by kernel_rfl) (by rfl) (Kept.refl [] _).drew (fun d _ _ _ _ h => by cases d <;> exact h) ?_)
    iterate 7 (refine wpQL_take (v := ?_) rfl (by rfl) ?_ ?_; rotate_left; (focus ((intro W hC; have hF := HF2.out W hC; go_simp); try (with_reducible rfl))); (try dsimp only [Act.put]); (try simp only [List.setIfInBounds_toArray, List.set_cons_zero, List.set_cons_succ]))
    (refine wpQL_nil ?_)
    (intro wq hq)
    obtain ⟨_, ⟨x5, c5⟩, c6, c7, c8⟩ := HF.out _ hq
    have HA8 := Lib.hid c8
    clear c8
    (refine wpAny_loud 7 (fuel := 0) (listed := #[true, true, true, true, true, true, true, false]) (listed' := #[true, true, true, true, true, true, true, true]) (by kernel_rfl) (by rfl) nth_7 (fun K hK => ?_))
    go_simp
    (refine hK.out _ _ ?_; clear hK K)
    (try simp only [Act.put, List.setIfInBounds_toArray, List.set_cons_zero, List.set_cons_succ])
    (refine wpAny_done (by kernel_rfl) ?_ _)
    go_wp2_with fail
    go_end0
    exact ⟨rfl, HA8.out⟩
  · have hV : doesA a t = a := by rw [HEQ.out, if_neg o2, if_neg o4, if_neg o7, if_neg o11]
    rw [hV]
    unfold tA
    clear h hw hx h2 h4 h11 HTG HEQ hV h0 h1 hBa hBb hBa2 h01 hr hr8 hreg hlt haF ht hk HBX HDa
    generalize hdd : (a.th t).deed = x at *
    obtain ⟨xo, xa, xb, xr, xn, xm, xl⟩ := x
    simp only at *
    have e2 : (xo == 2) = false := beq_eq_false_iff_ne.2 o2
    have e4 : (xo == 4) = false := beq_eq_false_iff_ne.2 o4
    have e7 : (xo == 7) = false := beq_eq_false_iff_ne.2 o7
    have e11 : (xo == 11) = false := beq_eq_false_iff_ne.2 o11
    clear hdd o2 o4 o7 o11
    go_enter Try.func81, Try.ntmps81
    go_wp2_with fail
    go_end0
    exact ⟨rfl, HA.out⟩

end Go.Proofs.Ytccodklfplfleaa
