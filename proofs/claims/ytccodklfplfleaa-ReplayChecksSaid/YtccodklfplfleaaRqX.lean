/- The document's account (layer 35): what OK does (does), walked. -/
import Derived.Test.YtccodklfplfleaaP10
import Derived.Test.YtccodklfplfleaaRqO
namespace Go.Proofs.Ytccodklfplfleaa
open Go.RowKit

theorem doesA_eqR (a : Acc) (t : Nat) : doesA a t =
  if (a.th t).deed.op = 2 then (match freeA a with
    | none => a
    | some i => { a with P := a.P.set i ⟨true, (a.pl i).gen + 1⟩, T := (a.T.set i { newT (a.th t).deed.a (a.th t).deed.mask (a.th t).deed.loose i ((a.pl i).gen + 1) with regs := (newT (a.th t).deed.a (a.th t).deed.mask (a.th t).deed.loose i ((a.pl i).gen + 1)).regs.set 1 ((t : Int), (a.pl t).gen) }).set t { a.th t with regs := (a.th t).regs.set (a.th t).deed.r.toNat ((i : Int), (a.pl i).gen + 1) } })
  else if (a.th t).deed.op = 4 then (if overA a t then freeP a (regA a t).1.toNat else a)
  else if (a.th t).deed.op = 7 then a.setT (regA a t).1.toNat { a.th (regA a t).1.toNat with mask := (a.th t).deed.mask }
  else if (a.th t).deed.op = 11 then { a with held := a.held.set (a.th t).deed.a.toNat (-1) }
  else a := by
  unfold doesA
  rfl
theorem freeA_someR {a : Acc} {i : Nat} (hf : freeA a = some i) : firstP a.P = i ∧ i < a.P.length ∧ (a.pl i).free = true := by
  unfold freeA at hf
  rcases firstP_rng a.P with h2 | ⟨k, h2, h3, h4⟩
  · rw [if_pos h2] at hf; cases hf
  · rw [h2, if_neg (by omega)] at hf
    have : k = i := by simpa using hf
    subst this
    exact ⟨h2, h3, h4⟩
set_option maxHeartbeats 6400000 in
set_option maxRecDepth 100000 in
theorem R35does_any {w0 : Base} {w : World} {b : RqA} {d : Du} {a : Acc} (h : RqIs w0 w b d a) (hw : AWhole d a) {t : Nat} (ht : t < a.T.length) (hk : (a.pl t).taken = true)
    (h2 : (a.th t).deed.op = 2 → (a.th t).deed.a < d.progs.length ∧ freeA a ≠ none) (h4 : (a.th t).deed.op = 4 ∨ (a.th t).deed.op = 7 → isA a t = true) (h11 : (a.th t).deed.op = 11 → (a.th t).deed.a < d.locks) :
    Calls Try.prog 32 #[.pointer (some ⟨b.g, 0, none⟩), .int .i64 t, .agg (ddR (a.th t).deed)] w fun x w' => x = .returned (.tuple #[]) ∧ RqIs w0 w' b d (doesA a t) := by
  have hx := hw.at_ ht
  obtain ⟨r, hr⟩ : ∃ r : Nat, (a.th t).deed.r = r := ⟨(a.th t).deed.r.toNat, by have := hx.deed; omega⟩
  have hr8 : r < 8 := by have := hx.deed; omega
  have hreg : regA a t = (a.th t).regs.getD r (0, 0) := by unfold regA; rw [hr, Int.toNat_natCast]
  -- the deed's box, then the id's
  obtain ⟨wa, hwa⟩ : ∃ wa, w.alloc (.cells (ddR (a.th t).deed) 47) = wa := ⟨_, rfl⟩
  have h0 : Kept [] w wa := by rw [← hwa]; exact (Kept.refl _ _).alloc _
  have hBa : Blk wa w.heap.size 47 (ddR (a.th t).deed) := by rw [← hwa]; exact Blk.new _ _ _
  obtain ⟨wb, hwb⟩ : ∃ wb, (wa.alloc (.cells #[.int .i64 (regA a t).1, .int .u32 (regA a t).2] 53)).drew = wb := ⟨_, rfl⟩
  have h1 : Kept [] wa wb := by rw [← hwb]; exact ((Kept.refl _ _).alloc _).drew
  have hBb : Blk wb wa.heap.size 53 #[.int .i64 (regA a t).1, .int .u32 (regA a t).2] := by rw [← hwb]; exact (Blk.new _ _ _).drew
  have hBa2 := hBa.kept h1 (by simp)
  have h01 := h0.trans h1
  have HA := Lib.hid (h.old h01)
  have HEQ := Lib.hid (doesA_eqR a t)
  have hlt : ∀ k, k ∈ rqF b → k < w.heap.size := fun k hk => RqAt.lt h.at_ hk
  have HBX : Hid (∀ W, Kept (rqF b) wb W → (W.cell? ⟨w.heap.size, 0, none⟩ = some (.int .i64 (a.th t).deed.op) ∧ W.cell? ⟨w.heap.size, 1, none⟩ = some (.int .i64 (a.th t).deed.a) ∧ W.cell? ⟨w.heap.size, 3, none⟩ = some (.int .i64 (a.th t).deed.r) ∧ W.cell? ⟨w.heap.size, 5, none⟩ = some (.int .u64 (a.th t).deed.mask) ∧ W.cell? ⟨w.heap.size, 6, none⟩ = some (.bool (a.th t).deed.loose) ∧ w.heap.size < W.heap.size) ∧ W.cell? ⟨wa.heap.size, 0, none⟩ = some (.int .i64 (regA a t).1) ∧ W.cell? ⟨wa.heap.size, 1, none⟩ = some (.int .u32 (regA a t).2) ∧ wa.heap.size < W.heap.size) := fun W hk => by
    have e1 := hBa2.kept hk (fun hm => by have := hlt _ hm; omega)
    have e2 := hBb.kept hk (fun hm => by have := hlt _ hm; have := h0.size; omega)
    exact ⟨⟨e1.cell 0, e1.cell 1, e1.cell 3, e1.cell 5, e1.cell 6, e1.lt⟩, e2.cell 0, e2.cell 1, e2.lt⟩
  have HFC : Hid (∀ W, Kept [] wb W → (W.cell? ⟨b.g, 9, none⟩ = some (.pointer (some ⟨b.gr, 0, none⟩)) ∧ W.cell? ⟨b.g, 10, none⟩ = some (.slice (some ⟨b.gT, 0, none⟩) a.T.length a.T.length) ∧ W.cell? ⟨b.g, 11, none⟩ = some (.slice b.AH a.held.length b.cH) ∧ b.g < W.heap.size ∧ b.gT < W.heap.size)) := fun W hk => by
    have e := RqAt.old h.at_ (h01.trans hk)
    have c := RqAt.cells e
    exact ⟨c.2.2.2.1, c.2.2.2.2.1, c.2.2.2.2.2.1, c.2.2.2.2.2.2, (RqAt.tf e ht).2.2⟩
  have HFA : Hid (∀ W, Kept [] wa W → (W.cell? ⟨b.g, 10, none⟩ = some (.slice (some ⟨b.gT, 0, none⟩) a.T.length a.T.length) ∧ b.g < W.heap.size) ∧ W.cell? ⟨w.heap.size, 3, none⟩ = some (.int .i64 r) ∧ W.cell? ⟨b.gT, t * 31 + 7 + r * 2, none⟩ = some (.int .i64 (regA a t).1) ∧ W.cell? ⟨b.gT, t * 31 + 7 + r * 2 + 1, none⟩ = some (.int .u32 (regA a t).2) ∧ b.gT < W.heap.size ∧ w.heap.size < W.heap.size) := fun W hk => by
    have e := RqAt.old h.at_ (h0.trans hk)
    have c := RqAt.cells e
    have q := hBa.kept hk (by simp)
    rw [hreg]
    exact ⟨⟨c.2.2.2.2.1, c.2.2.2.2.2.2⟩, by rw [← hr]; exact q.cell 3, (RqAt.rf e ht hr8).1, (RqAt.rf e ht hr8).2, (RqAt.tf e ht).2.2, q.lt⟩
  have HWB := Lib.hid hwb
  have HK1 := Lib.hid h1
  have hr0 : (0 : Int) ≤ (r : Int) := by omega
  have hr1 : (r : Int) < 8 := by omega
  have ht0 : (0 : Int) ≤ (t : Int) := by omega
  have ht1 : (t : Int) < (a.T.length : Int) := by omega
  rcases (by omega : (a.th t).deed.op = 2 ∨ (a.th t).deed.op = 4 ∨ (a.th t).deed.op = 7 ∨ (a.th t).deed.op = 11 ∨ ((a.th t).deed.op ≠ 2 ∧ (a.th t).deed.op ≠ 4 ∧ (a.th t).deed.op ≠ 7 ∧ (a.th t).deed.op ≠ 11)) with o | o | o | o | ⟨o2, o4, o7, o11⟩
  · -- spawn
    obtain ⟨hnp, hfree⟩ := h2 o
    obtain ⟨i, hi⟩ : ∃ i, freeA a = some i := by
      cases hf : freeA a with
      | none => exact absurd hf hfree
      | some i => exact ⟨i, rfl⟩
    obtain ⟨hfp, hil, hifr⟩ := freeA_someR hi
    have hint : (a.pl i).taken = false := by unfold Pl.free at hifr; simp at hifr; exact hifr.1
    have hilT : i < a.T.length := by rw [hw.tl]; exact hil
    have hne : i ≠ t := by rintro rfl; rw [hint] at hk; simp at hk
    obtain ⟨gn, hgn⟩ : ∃ gn, (a.pl i).gen + 1 = gn := ⟨_, rfl⟩
    have hatv : atV a.P t = ((t : Int), (a.pl t).gen) ∧ takenP a.P t = true := by
      have htP : t < a.P.length := by rw [← hw.tl]; exact ht
      have e : takenP a.P t = true := by unfold takenP; rw [Int.toNat_natCast]; unfold Acc.pl at hk; rw [hk, decide_eq_true ⟨by omega, by omega⟩]; rfl
      refine ⟨?_, e⟩
      unfold atV; rw [if_pos e, Int.toNat_natCast]; rfl
    have HAT : Hid (∀ W, Kept [] wb W → Calls Try.prog 46 #[.pointer (some ⟨b.gr, 0, none⟩), .int .i64 t] W fun x w' => x = .returned (.tuple #[.agg #[.int .i64 t, .int .u32 (a.pl t).gen], .bool true]) ∧ Kept [] W w') := fun W hk => by
      have := R20At_any (RqAt.old h.at_ (h01.trans hk)) t
      rw [hatv.1, hatv.2] at this
      exact this
    have HBN : Hid (∀ w4, RqAt w4 b d a → Calls Try.prog 25 #[.pointer (some ⟨b.g, 0, none⟩), .int .i64 (a.th t).deed.a, .int .u64 (a.th t).deed.mask, .bool (a.th t).deed.loose] w4 fun x w' => x = .returned (.tuple #[.agg #[.int .i64 i, .int .u32 gn], .bool true]) ∧ RqIs ⟨w4, rqF b⟩ w' b d (bornA a (a.th t).deed.a (a.th t).deed.mask (a.th t).deed.loose)) := fun w4 e => by
      have := R35born_yes (RqAt.self e) hw hi (a.th t).deed.a (a.th t).deed.mask (a.th t).deed.loose
      rw [hgn] at this
      exact this
    have hb1 : bornA a (a.th t).deed.a (a.th t).deed.mask (a.th t).deed.loose = { a with P := a.P.set i ⟨true, gn⟩, T := a.T.set i (newT (a.th t).deed.a (a.th t).deed.mask (a.th t).deed.loose i gn) } := by
      unfold bornA
      rw [hi, ← hgn]
    obtain ⟨nt, hnt⟩ : ∃ nt, newT (a.th t).deed.a (a.th t).deed.mask (a.th t).deed.loose i gn = nt := ⟨_, rfl⟩
    have hntr : nt.regs.length = 8 := by rw [← hnt]; simp [newT, Th.zero]
    rw [hnt] at hb1
    obtain ⟨a1, ha1⟩ : ∃ a1 : Acc, a1 = { a with P := a.P.set i ⟨true, gn⟩, T := a.T.set i nt } := ⟨_, rfl⟩
    rw [hb1, ← ha1] at HBN
    have hl1 : a1.T.length = a.T.length := by rw [ha1]; simp
    have hth1 : a1.th i = nt := by rw [ha1]; show (a.T.set i nt).getD i Th.zero = nt; rw [getD_set, if_pos ⟨rfl, hilT⟩]
    have hth1t : a1.th t = a.th t := by rw [ha1]; show (a.T.set i nt).getD t Th.zero = _; rw [getD_set, if_neg (by simp [hne])]; rfl
    obtain ⟨a2, ha2⟩ : ∃ a2 : Acc, a2 = a1.setT i { nt with regs := nt.regs.set 1 ((t : Int), (a.pl t).gen) } := ⟨_, rfl⟩
    have hl2 : a2.T.length = a.T.length := by rw [ha2]; simp [Acc.setT, hl1]
    have hth2t : a2.th t = a.th t := by rw [ha2]; show (a1.T.set i _).getD t Th.zero = _; rw [getD_set, if_neg (by simp [hne])]; exact hth1t
    have hV : doesA a t = a2.setT t { a.th t with regs := (a.th t).regs.set r ((i : Int), gn) } := by
      rw [HEQ.out, if_pos o, hi, ha2, ha1]
      simp only [hgn, hr, Int.toNat_natCast, hnt, Acc.setT, List.set_set]
    have HS1 : Hid (∀ B W, RqIs B W b d a1 → ((W.cell? ⟨b.g, 10, none⟩ = some (.slice (some ⟨b.gT, 0, none⟩) a.T.length a.T.length) ∧ b.g < W.heap.size ∧ b.gT < W.heap.size) ∧ (∃ v, W.cell? ⟨b.gT, i * 31 + 9, none⟩ = some v) ∧ (∃ v, W.cell? ⟨b.gT, i * 31 + 10, none⟩ = some v) ∧ ∀ j, W.frozen? ⟨b.gT, j, none⟩ = false) ∧ RqIs B ((W.setCell ⟨b.gT, i * 31 + 9, none⟩ (.int .i64 t)).setCell ⟨b.gT, i * 31 + 10, none⟩ (.int .u32 (a.pl t).gen)) b d a2) := fun B W hA => by
      have hil1 : i < a1.T.length := by rw [hl1]; exact hilT
      obtain ⟨hc, hl, hf⟩ := RqAt.th hA.at_ hil1
      have c := RqAt.cells hA.at_
      have e3 := RqIs.sts hA hil1 [(9, .int .i64 t), (10, .int .u32 (a.pl t).gen)] (by simp) { nt with regs := nt.regs.set 1 ((t : Int), (a.pl t).gen) } (by
        rw [hth1]
        exact (oneL_setreg nt hntr 1 (by omega) ((t : Int), (a.pl t).gen)).symm)
      rw [← ha2] at e3
      exact ⟨⟨⟨by rw [← hl1]; exact c.2.2.2.2.1, c.2.2.2.2.2.2, hl⟩, ⟨_, hc 9 _ rfl⟩, ⟨_, hc 10 _ rfl⟩, hf⟩, e3⟩
    have HS2 : Hid (∀ B W, RqIs B W b d a2 → ((W.cell? ⟨b.g, 10, none⟩ = some (.slice (some ⟨b.gT, 0, none⟩) a.T.length a.T.length) ∧ b.g < W.heap.size ∧ b.gT < W.heap.size) ∧ (∃ v, W.cell? ⟨b.gT, t * 31 + 7 + r * 2, none⟩ = some v) ∧ (∃ v, W.cell? ⟨b.gT, t * 31 + 7 + r * 2 + 1, none⟩ = some v) ∧ (∀ j, W.frozen? ⟨b.gT, j, none⟩ = false)) ∧ RqIs B ((W.setCell ⟨b.gT, t * 31 + 7 + r * 2, none⟩ (.int .i64 i)).setCell ⟨b.gT, t * 31 + 7 + r * 2 + 1, none⟩ (.int .u32 gn)) b d (a2.setT t { a.th t with regs := (a.th t).regs.set r ((i : Int), gn) })) := fun B W hA => by
      have ht2 : t < a2.T.length := by rw [hl2]; exact ht
      have c := RqAt.cells hA.at_
      have e3 := RqIs.sts hA ht2 [(7 + r * 2, .int .i64 i), (7 + r * 2 + 1, .int .u32 gn)] (by simp; omega) { a.th t with regs := (a.th t).regs.set r ((i : Int), gn) } (by
        rw [hth2t]
        exact (oneL_setreg (a.th t) hx.regs r hr8 ((i : Int), gn)).symm)
      simp only [List.foldl_cons, List.foldl_nil, ← Nat.add_assoc] at e3
      have e4 := RqAt.rf hA.at_ ht2 hr8
      exact ⟨⟨⟨by rw [← hl2]; exact c.2.2.2.2.1, c.2.2.2.2.2.2, (RqAt.tf hA.at_ ht2).2.2⟩, ⟨_, e4.1⟩, ⟨_, e4.2⟩, (RqAt.th hA.at_ ht2).2.2⟩, e3⟩
    rw [hV]
    have HRA : Hid (∀ W, Kept [] wb W → RqAt W b d a) := fun W hk => RqAt.old h.at_ (h01.trans hk)
    have HEND : Hid (∀ w4 W a3, Kept [] wb w4 → RqIs ⟨w4, rqF b⟩ W b d a3 → RqIs w0 W b d a3) := fun w4 W a3 hk hA => RqIs.back (h.old (h01.trans hk)) hA
    have hi0 : (0 : Int) ≤ (i : Int) := by omega
    have hi1 : (i : Int) < (a.T.length : Int) := by omega
    have HGT : Hid (b.gT ∈ rqF b) := by show _ ∈ _; simp [rqF]
    have HLT : Hid (∀ k, w.heap.size ≤ k → k ∉ rqF b) := fun k hk hm => by have := hlt _ hm; omega
    have hs0 := h01.size
    have hs1 := h0.size
    generalize a2.setT t { a.th t with regs := (a.th t).regs.set r ((i : Int), gn) } = a3 at *
    generalize a.T.length = nT at *
    generalize a.held.length = nh at *
    generalize hpg : (a.pl t).gen = pg at *
    have HBX2 := HBX
    generalize regA a t = rg at *
    clear h hw hx h2 h4 h11 HEQ hV h0 h1 hBa hBb hBa2 h01 hr8 hreg hlt ht hk hnp hfree hi hil hint hgn hfp hilT hne hb1 hnt hntr ha1 hl1 hth1 hth1t ha2 hl2 hth2t HA hpg hatv hifr hwb HBX
    generalize hdd : (a.th t).deed = x at *
    obtain ⟨xo, xa, xb, xr, xn, xm, xl⟩ := x
    simp only at *
    subst o
    clear hdd
    subst hr
    go_enter Try.func32, Try.ntmps32
    go_wp2_with fail
    try rw [hwa]
    (refine wp_region_held_drew (S := fun W => Kept [] wa W) (by kernel_rfl) (Kept.refl _ _).drew (fun hHeld => ?_))
    (refine held_take (i := 0) (v := ?_) (listed := #[false, false, false, false, false, false, false, false, false, false, false, false, false]) nth_0 (by kernel_rfl) (by kernel_rfl) (by kernel_rfl) (fun _ _ _ h => h) (Or.inl ⟨by rfl, ?_⟩) (by assumption) ?_; rotate_left; (focus ((intro W hC; go_simp); try (with_reducible rfl))); (try dsimp only [Act.put]); (try simp only [List.setIfInBounds_toArray, List.set_cons_zero, List.set_cons_succ]))
    (refine held_take (i := 1) (v := ?_) (listed := #[true, false, false, false, false, false, false, false, false, false, false, false, false]) nth_1 (by kernel_rfl) (by kernel_rfl) (by kernel_rfl) (fun _ _ _ h => h) (Or.inl ⟨by rfl, ?_⟩) (by assumption) ?_; rotate_left; (focus ((intro W hC; go_simp); try (with_reducible rfl))); (try dsimp only [Act.put]); (try simp only [List.setIfInBounds_toArray, List.set_cons_zero, List.set_cons_succ]))
    (refine held_take (i := 2) (v := ?_) (listed := #[true, true, false, false, false, false, false, false, false, false, false, false, false]) nth_2 (by kernel_rfl) (by kernel_rfl) (by kernel_rfl) (fun _ _ _ h => h) (Or.inl ⟨by rfl, ?_⟩) (by assumption) ?_; rotate_left; (focus ((intro W hC; go_simp); try (with_reducible rfl))); (try dsimp only [Act.put]); (try simp only [List.setIfInBounds_toArray, List.set_cons_zero, List.set_cons_succ]))
    (refine held_take (i := 3) (v := ?_) (listed := #[true, true, true, false, false, false, false, false, false, false, false, false, false]) nth_3 (by kernel_rfl) (by kernel_rfl) (by kernel_rfl) (fun _ _ _ h => h) (Or.inl ⟨by rfl, ?_⟩) (by assumption) ?_; rotate_left; (focus ((intro W hC; have hF := HFA.out W hC; go_simp); try (with_reducible rfl))); (try dsimp only [Act.put]); (try simp only [List.setIfInBounds_toArray, List.set_cons_zero, List.set_cons_succ]))
    (refine held_take (i := 4) (v := ?_) (listed := #[true, true, true, true, false, false, false, false, false, false, false, false, false]) nth_4 (by kernel_rfl) (by kernel_rfl) (by kernel_rfl) (fun _ _ _ h => h) (Or.inl ⟨by rfl, ?_⟩) (by assumption) ?_; rotate_left; (focus ((intro W hC; go_simp); try (with_reducible rfl))); (try dsimp only [Act.put]); (try simp only [List.setIfInBounds_toArray, List.set_cons_zero, List.set_cons_succ]))
    (refine held_take (i := 5) (v := ?_) (listed := #[true, true, true, true, true, false, false, false, false, false, false, false, false]) nth_5 (by kernel_rfl) (by kernel_rfl) (by kernel_rfl) (fun _ _ _ h => h) (Or.inl ⟨by rfl, ?_⟩) (by assumption) ?_; rotate_left; (focus ((intro W hC; go_simp); try (with_reducible rfl))); (try dsimp only [Act.put]); (try simp only [List.setIfInBounds_toArray, List.set_cons_zero, List.set_cons_succ]))
    (refine held_take (i := 6) (v := ?_) (listed := #[true, true, true, true, true, true, false, false, false, false, false, false, false]) nth_6 (by kernel_rfl) (by kernel_rfl) (by kernel_rfl) (fun _ _ _ h => h) (Or.inl ⟨by rfl, ?_⟩) (by assumption) ?_; rotate_left; (focus ((intro W hC; have hF := HFA.out W hC; go_simp); try (with_reducible rfl))); (try dsimp only [Act.put]); (try simp only [List.setIfInBounds_toArray, List.set_cons_zero, List.set_cons_succ]))
    (refine held_take (i := 7) (v := ?_) (listed := #[true, true, true, true, true, true, true, false, false, false, false, false, false]) nth_7 (by kernel_rfl) (by kernel_rfl) (by kernel_rfl) (fun _ _ _ h => h) (Or.inl ⟨by rfl, ?_⟩) (by assumption) ?_; rotate_left; (focus ((intro W hC; go_simp); try (with_reducible rfl))); (try dsimp only [Act.put]); (try simp only [List.setIfInBounds_toArray, List.set_cons_zero, List.set_cons_succ]))
    (refine held_take (i := 8) (v := ?_) (listed := #[true, true, true, true, true, true, true, true, false, false, false, false, false]) nth_8 (by kernel_rfl) (by kernel_rfl) (by kernel_rfl) (fun _ _ _ h => h) (Or.inl ⟨by rfl, ?_⟩) (by assumption) ?_; rotate_left; (focus ((intro W hC; go_simp); try (with_reducible rfl))); (try dsimp only [Act.put]); (try simp only [List.setIfInBounds_toArray, List.set_cons_zero, List.set_cons_succ]))
    (refine held_take (i := 9) (v := ?_) (listed := #[true, true, true, true, true, true, true, true, true, false, false, false, false]) nth_9 (by kernel_rfl) (by kernel_rfl) (by kernel_rfl) (fun _ _ _ h => h) (Or.inl ⟨by rfl, ?_⟩) (by assumption) ?_; rotate_left; (focus ((intro W hC; go_simp); try (with_reducible rfl))); (try dsimp only [Act.put]); (try simp only [List.setIfInBounds_toArray, List.set_cons_zero, List.set_cons_succ]))
    (refine held_take (i := 10) (v := ?_) (listed := #[true, true, true, true, true, true, true, true, true, true, false, false, false]) nth_10 (by kernel_rfl) (by kernel_rfl) (by kernel_rfl) (fun _ _ _ h => h) (Or.inl ⟨by rfl, ?_⟩) (by assumption) ?_; rotate_left; (focus ((intro W hC; have hF := HFA.out W hC; go_simp); try (with_reducible rfl))); (try dsimp only [Act.put]); (try simp only [List.setIfInBounds_toArray, List.set_cons_zero, List.set_cons_succ]))
    (refine wpAnyH_ready (rs := [11]) (by kernel_rfl) (by simp) ?_; refine held_cons nth_11 (fun K hK => ?_) AllReadyH.nil)
    go_simp
    (refine hK.out _ _ ((by exact hHeld.alloc _)) (fun hHeld => ?_); clear hK K)
    (try dsimp only [Act.put]); (try simp only [List.setIfInBounds_toArray, List.set_cons_zero, List.set_cons_succ])
    (refine wpAnyH_ready (rs := [12]) (by kernel_rfl) (by simp) ?_; refine held_cons nth_12 (fun K hK => ?_) AllReadyH.nil)
    go_simp
    (refine hK.out _ _ ((by have e := HK1.out; rw [← HWB.out] at e; exact e)) (fun hHeld => ?_); clear hK K)
    (try dsimp only [Act.put]); (try simp only [List.setIfInBounds_toArray, List.set_cons_zero, List.set_cons_succ])
    (refine wpAnyH_done (by kernel_rfl) ?_ _)
    rw [HWB.out]
    have hbx := HBX2.out wb (Kept.refl _ _)
    have hfc := HFC.out wb (Kept.refl _ _)
    clear hwa
    go_wp2_with fail
    refine (HAT.out _ (Kept.refl _ _)).mono ?_
    rintro y w3 ⟨rfl, hk3⟩
    obtain ⟨w4, hw4⟩ : ∃ w4, w3.alloc (.cells #[.int .i64 t, .int .u32 pg] 53) = w4 := ⟨_, rfl⟩
    have hk4 : Kept [] wb w4 := by rw [← hw4]; exact hk3.alloc _
    have hB4 : Blk w4 w3.heap.size 53 #[.int .i64 t, .int .u32 pg] := by rw [← hw4]; exact Blk.new _ _ _
    have hs3 := hk3.size
    clear hbx hfc
    have HW4 := Lib.hid hw4
    clear hw4
    have hbx3 := HBX2.out w3 (hk3.mono (by simp))
    go_wp2_with (fail)
    all_goals (first | rw [HW4.out] | skip)
    have hbx := HBX2.out w4 (hk4.mono (by simp))
    have hfc := HFC.out w4 hk4
    have HK4 := Lib.hid hk4
    have HB4 := Lib.hid hB4
    clear hk3 hk4 hB4 hbx3
    go_wp2_with fail
    refine (HBN.out w4 (HRA.out _ HK4.out)).mono ?_
    rintro y w6 ⟨rfl, hA6⟩
    have hs6 := hA6.kept.size
    have hsz4 := HB4.out.lt
    clear hbx hfc
    obtain ⟨w7, hw7⟩ : ∃ w7, w6.alloc (.cells #[.int .i64 i, .int .u32 gn] 53) = w7 := ⟨_, rfl⟩
    have hk7 : Kept [] w6 w7 := by rw [← hw7]; exact (Kept.refl _ _).alloc _
    have hB7 : Blk w7 w6.heap.size 53 #[.int .i64 i, .int .u32 gn] := by rw [← hw7]; exact Blk.new _ _ _
    have hA7 := hA6.old hk7
    have HW7 := Lib.hid hw7
    clear hw7
    go_wp2_with fail
    rw [HW7.out]
    have HF6 : Hid (∀ W, Kept [] w7 W → (W.cell? ⟨b.g, 10, none⟩ = some (.slice (some ⟨b.gT, 0, none⟩) nT nT) ∧ b.g < W.heap.size ∧ b.gT < W.heap.size) ∧ (W.cell? ⟨w3.heap.size, 0, none⟩ = some (.int .i64 t) ∧ W.cell? ⟨w3.heap.size, 1, none⟩ = some (.int .u32 pg) ∧ w3.heap.size < W.heap.size) ∧ W.cell? ⟨w6.heap.size, 0, none⟩ = some (.int .i64 i) ∧ W.cell? ⟨w6.heap.size, 1, none⟩ = some (.int .u32 gn) ∧ w6.heap.size < W.heap.size) := fun W hk => by
      have h1 := hB7.kept hk (by simp)
      have h2 := HB4.out.kept (hA7.old hk).kept (HLT.out _ (by omega))
      exact ⟨(HS1.out _ _ (hA7.old hk)).1.1, ⟨h2.cell 0, h2.cell 1, h2.lt⟩, h1.cell 0, h1.cell 1, h1.lt⟩
    (refine wp_region_phases (n := 11) (listed := #[false, false, false, false, false, false, false, false, false, false, false]) (by kernel_rfl) (by rfl) (by rfl) ?_)
    (refine wpAny_phase (fun W => Kept [] w7 W) [(0, false), (1, false), (2, false), (3, false), (4, false), (5, false), (6, false), (7, false), (8, false), (9, false)] (f := 1) (listed := #[false, false, false, false, false, false, false, false, false, false, false]) (listed' := #[true, true, true, true, true, true, true, true, true, true, false]) (by kernel_rfl) (by kernel_rfl) (by rfl) (Kept.refl [] _).drew (fun d _ _ _ _ h => by cases d <;> exact h) ?_)
    iterate 10 (refine wpQL_take (v := ?_) rfl (by rfl) ?_ ?_; rotate_left; (focus ((intro W hC; have hF := HF6.out W hC; go_simp); try (with_reducible rfl))); (try dsimp only [Act.put]); (try simp only [List.setIfInBounds_toArray, List.set_cons_zero, List.set_cons_succ]))
    (refine wpQL_nil ?_)
    (intro wq hq)
    obtain ⟨⟨_, ⟨x8, c8⟩, ⟨x9, c9⟩, cf⟩, hA8⟩ := HS1.out _ _ (hA7.old hq)
    have hgq := (HF6.out _ hq).1.2.2
    (refine wpAny_loud 10 (fuel := 0) (listed := #[true, true, true, true, true, true, true, true, true, true, false]) (listed' := #[true, true, true, true, true, true, true, true, true, true, true]) (by kernel_rfl) (by rfl) nth_10 (fun K hK => ?_))
    go_simp
    (refine hK.out _ _ ?_; clear hK K)
    (try simp only [Act.put, List.setIfInBounds_toArray, List.set_cons_zero, List.set_cons_succ])
    (refine wpAny_done (by kernel_rfl) ?_ _)
    have hk8 : Kept [b.gT] wq ((wq.setCell ⟨b.gT, i * 31 + 9, none⟩ (.int .i64 t)).setCell ⟨b.gT, i * 31 + 9 + 1, none⟩ (.int .u32 pg)) := ((Kept.refl _ _).setCell (.inl (by simp)) _).setCell (.inl (by simp)) _
    have hA9 : RqIs ⟨w4, rqF b⟩ ((wq.setCell ⟨b.gT, i * 31 + 9, none⟩ (.int .i64 t)).setCell ⟨b.gT, i * 31 + 9 + 1, none⟩ (.int .u32 pg)) b d a2 := hA8
    have hB9 := (hB7.kept hq (by simp)).kept hk8 (fun hm => by obtain e := List.mem_singleton.1 hm; exact HLT.out w6.heap.size (by omega) (by rw [e]; exact HGT.out))
    generalize ((wq.setCell ⟨b.gT, i * 31 + 9, none⟩ (.int .i64 t)).setCell ⟨b.gT, i * 31 + 9 + 1, none⟩ (.int .u32 pg)) = w9 at *
    have HF7 : Hid (∀ W, Kept [] w9 W → (W.cell? ⟨b.g, 10, none⟩ = some (.slice (some ⟨b.gT, 0, none⟩) nT nT) ∧ b.g < W.heap.size ∧ b.gT < W.heap.size) ∧ (W.cell? ⟨w.heap.size, 3, none⟩ = some (.int .i64 (r : Int)) ∧ w.heap.size < W.heap.size) ∧ W.cell? ⟨w6.heap.size, 0, none⟩ = some (.int .i64 i) ∧ W.cell? ⟨w6.heap.size, 1, none⟩ = some (.int .u32 gn) ∧ w6.heap.size < W.heap.size) := fun W hk => by
      have h1 := hB9.kept hk (by simp)
      have h2 := HBX2.out W ((HK4.out.mono (by simp)).trans (hA9.old hk).kept)
      exact ⟨(HS2.out _ _ (hA9.old hk)).1.1, ⟨h2.1.2.2.1, h2.1.2.2.2.2.2⟩, h1.cell 0, h1.cell 1, h1.lt⟩
    clear HF6 hA7 hA8 hB7 hB9 hk8 hq c8 c9 cf hA6 hk7
    go_wp2_with fail
    (refine wp_region_phases (n := 12) (listed := #[false, false, false, false, false, false, false, false, false, false, false, false]) (by kernel_rfl) (by rfl) (by rfl) ?_)
    (refine wpAny_phase (fun W => Kept [] w9 W) [(0, false), (1, false), (2, false), (3, false), (4, false), (5, false), (6, false), (7, false), (8, false), (9, false), (10, false)] (f := 1) (listed := #[false, false, false, false, false, false, false, false, false, false, false, false]) (listed' := #[true, true, true, true, true, true, true, true, true, true, true, false]) (by kernel_rfl) (by kernel_rfl) (by rfl) (Kept.refl [] _).drew (fun d _ _ _ _ h => by cases d <;> exact h) ?_)
    iterate 11 (refine wpQL_take (v := ?_) rfl (by rfl) ?_ ?_; rotate_left; (focus ((intro W hC; have hF := HF7.out W hC; go_simp); try (with_reducible rfl))); (try dsimp only [Act.put]); (try simp only [List.setIfInBounds_toArray, List.set_cons_zero, List.set_cons_succ]))
    (refine wpQL_nil ?_)
    (intro wq hq)
    obtain ⟨⟨dg, ⟨y8, d8⟩, ⟨y9, d9⟩, df⟩, hA10⟩ := HS2.out _ _ (hA9.old hq)
    have HA10 := Lib.hid hA10
    clear hA10
    (refine wpAny_loud 11 (fuel := 0) (listed := #[true, true, true, true, true, true, true, true, true, true, true, false]) (listed' := #[true, true, true, true, true, true, true, true, true, true, true, true]) (by kernel_rfl) (by rfl) nth_11 (fun K hK => ?_))
    go_simp
    (refine hK.out _ _ ?_; clear hK K)
    (try simp only [Act.put, List.setIfInBounds_toArray, List.set_cons_zero, List.set_cons_succ])
    (refine wpAny_done (by kernel_rfl) ?_ _)
    go_wp2_with fail
    go_end0
    exact ⟨rfl, HEND.out _ _ _ HK4.out HA10.out⟩
  · -- join
    have his := h4 (.inl o)
    obtain ⟨p0, p1, p2, p3⟩ := hasA_lt his
    obtain ⟨k, hkk⟩ : ∃ k : Nat, (regA a t).1 = k := ⟨(regA a t).1.toNat, by omega⟩
    have hkl : k < a.T.length := by rw [hw.tl]; rw [hkk, Int.toNat_natCast] at p1; exact p1
    have hV : doesA a t = if overA a t then freeP a k else a := by rw [HEQ.out, if_neg (by omega), if_pos o, hkk, Int.toNat_natCast]
    have hov : overA a t = decide ((a.th k).state = 5) := by unfold overA; rw [his, hkk, Int.toNat_natCast, Bool.true_and]
    have HF : Hid (∀ W, Kept [] wb W → ((W.cell? ⟨b.g, 9, none⟩ = some (.pointer (some ⟨b.gr, 0, none⟩)) ∧ W.cell? ⟨b.g, 10, none⟩ = some (.slice (some ⟨b.gT, 0, none⟩) a.T.length a.T.length) ∧ W.cell? ⟨b.g, 11, none⟩ = some (.slice b.AH a.held.length b.cH) ∧ b.g < W.heap.size ∧ b.gT < W.heap.size) ∧ W.cell? ⟨b.gT, k * 31 + 2, none⟩ = some (.int .i64 (a.th k).state)) ∧ (W.cell? ⟨w.heap.size, 0, none⟩ = some (.int .i64 (a.th t).deed.op) ∧ w.heap.size < W.heap.size) ∧ W.cell? ⟨wa.heap.size, 0, none⟩ = some (.int .i64 k) ∧ W.cell? ⟨wa.heap.size, 1, none⟩ = some (.int .u32 (regA a t).2) ∧ wa.heap.size < W.heap.size) := fun W hk => by
      have h2 := HBX.out W (hk.mono (by simp))
      rw [hkk] at h2
      exact ⟨⟨HFC.out W hk, (RqAt.tf (RqAt.old h.at_ (h01.trans hk)) hkl).1.2.2.1⟩, ⟨h2.1.1, h2.1.2.2.2.2.2⟩, h2.2⟩
    have HFR : Hid (∀ W, Kept [] wb W → Calls Try.prog 47 #[.pointer (some ⟨b.gr, 0, none⟩), .agg #[.int .i64 k, .int .u32 (regA a t).2]] W fun y w' => y = .returned (.bool true) ∧ RqIs w0 w' b d (freeP a k)) := fun W hk => by
      have hh : hasA a k (regA a t).2 = true := by rw [← hkk]; exact his
      have := R20Free_any (h.old (h01.trans hk)) k (regA a t).2 hh
      rw [Int.toNat_natCast] at this
      exact this
    rw [hV, hov]
    have hk0 : (0 : Int) ≤ (k : Int) := by omega
    have hk1 : (k : Int) < (a.T.length : Int) := by omega
    rw [hkk] at HFA hwb HWB
    generalize (a.th k).state = z at *
    generalize freeP a k = a' at *
    generalize (regA a t).2 = gn at *
    generalize a.T.length = nT at *
    generalize a.held.length = nh at *
    clear h hw hx h2 h4 h11 HEQ hV h0 h1 hBa hBb hBa2 h01 hr8 hreg hlt ht hk HBX his p0 p1 p2 p3 hkk hkl hov hwb HFC
    generalize hdd : (a.th t).deed = x at *
    obtain ⟨xo, xa, xb, xr, xn, xm, xl⟩ := x
    simp only at *
    subst o
    clear hdd
    subst hr
    by_cases hz : z = 5
    · rw [decide_eq_true hz, if_pos rfl]
      rw [hz] at HF
      clear hz HA
      go_enter Try.func32, Try.ntmps32
      go_wp2_with fail
      try rw [hwa]
      (refine wp_region_held_drew (S := fun W => Kept [] wa W) (by kernel_rfl) (Kept.refl _ _).drew (fun hHeld => ?_))
      (refine held_take (i := 0) (v := ?_) (listed := #[false, false, false, false, false, false, false, false, false, false, false, false, false]) nth_0 (by kernel_rfl) (by kernel_rfl) (by kernel_rfl) (fun _ _ _ h => h) (Or.inl ⟨by rfl, ?_⟩) (by assumption) ?_; rotate_left; (focus ((intro W hC; go_simp); try (with_reducible rfl))); (try dsimp only [Act.put]); (try simp only [List.setIfInBounds_toArray, List.set_cons_zero, List.set_cons_succ]))
      (refine held_take (i := 1) (v := ?_) (listed := #[true, false, false, false, false, false, false, false, false, false, false, false, false]) nth_1 (by kernel_rfl) (by kernel_rfl) (by kernel_rfl) (fun _ _ _ h => h) (Or.inl ⟨by rfl, ?_⟩) (by assumption) ?_; rotate_left; (focus ((intro W hC; go_simp); try (with_reducible rfl))); (try dsimp only [Act.put]); (try simp only [List.setIfInBounds_toArray, List.set_cons_zero, List.set_cons_succ]))
      (refine held_take (i := 2) (v := ?_) (listed := #[true, true, false, false, false, false, false, false, false, false, false, false, false]) nth_2 (by kernel_rfl) (by kernel_rfl) (by kernel_rfl) (fun _ _ _ h => h) (Or.inl ⟨by rfl, ?_⟩) (by assumption) ?_; rotate_left; (focus ((intro W hC; go_simp); try (with_reducible rfl))); (try dsimp only [Act.put]); (try simp only [List.setIfInBounds_toArray, List.set_cons_zero, List.set_cons_succ]))
      (refine held_take (i := 3) (v := ?_) (listed := #[true, true, true, false, false, false, false, false, false, false, false, false, false]) nth_3 (by kernel_rfl) (by kernel_rfl) (by kernel_rfl) (fun _ _ _ h => h) (Or.inl ⟨by rfl, ?_⟩) (by assumption) ?_; rotate_left; (focus ((intro W hC; have hF := HFA.out W hC; go_simp); try (with_reducible rfl))); (try dsimp only [Act.put]); (try simp only [List.setIfInBounds_toArray, List.set_cons_zero, List.set_cons_succ]))
      (refine held_take (i := 4) (v := ?_) (listed := #[true, true, true, true, false, false, false, false, false, false, false, false, false]) nth_4 (by kernel_rfl) (by kernel_rfl) (by kernel_rfl) (fun _ _ _ h => h) (Or.inl ⟨by rfl, ?_⟩) (by assumption) ?_; rotate_left; (focus ((intro W hC; go_simp); try (with_reducible rfl))); (try dsimp only [Act.put]); (try simp only [List.setIfInBounds_toArray, List.set_cons_zero, List.set_cons_succ]))
      (refine held_take (i := 5) (v := ?_) (listed := #[true, true, true, true, true, false, false, false, false, false, false, false, false]) nth_5 (by kernel_rfl) (by kernel_rfl) (by kernel_rfl) (fun _ _ _ h => h) (Or.inl ⟨by rfl, ?_⟩) (by assumption) ?_; rotate_left; (focus ((intro W hC; go_simp); try (with_reducible rfl))); (try dsimp only [Act.put]); (try simp only [List.setIfInBounds_toArray, List.set_cons_zero, List.set_cons_succ]))
      (refine held_take (i := 6) (v := ?_) (listed := #[true, true, true, true, true, true, false, false, false, false, false, false, false]) nth_6 (by kernel_rfl) (by kernel_rfl) (by kernel_rfl) (fun _ _ _ h => h) (Or.inl ⟨by rfl, ?_⟩) (by assumption) ?_; rotate_left; (focus ((intro W hC; have hF := HFA.out W hC; go_simp); try (with_reducible rfl))); (try dsimp only [Act.put]); (try simp only [List.setIfInBounds_toArray, List.set_cons_zero, List.set_cons_succ]))
      (refine held_take (i := 7) (v := ?_) (listed := #[true, true, true, true, true, true, true, false, false, false, false, false, false]) nth_7 (by kernel_rfl) (by kernel_rfl) (by kernel_rfl) (fun _ _ _ h => h) (Or.inl ⟨by rfl, ?_⟩) (by assumption) ?_; rotate_left; (focus ((intro W hC; go_simp); try (with_reducible rfl))); (try dsimp only [Act.put]); (try simp only [List.setIfInBounds_toArray, List.set_cons_zero, List.set_cons_succ]))
      (refine held_take (i := 8) (v := ?_) (listed := #[true, true, true, true, true, true, true, true, false, false, false, false, false]) nth_8 (by kernel_rfl) (by kernel_rfl) (by kernel_rfl) (fun _ _ _ h => h) (Or.inl ⟨by rfl, ?_⟩) (by assumption) ?_; rotate_left; (focus ((intro W hC; go_simp); try (with_reducible rfl))); (try dsimp only [Act.put]); (try simp only [List.setIfInBounds_toArray, List.set_cons_zero, List.set_cons_succ]))
      (refine held_take (i := 9) (v := ?_) (listed := #[true, true, true, true, true, true, true, true, true, false, false, false, false]) nth_9 (by kernel_rfl) (by kernel_rfl) (by kernel_rfl) (fun _ _ _ h => h) (Or.inl ⟨by rfl, ?_⟩) (by assumption) ?_; rotate_left; (focus ((intro W hC; go_simp); try (with_reducible rfl))); (try dsimp only [Act.put]); (try simp only [List.setIfInBounds_toArray, List.set_cons_zero, List.set_cons_succ]))
      (refine held_take (i := 10) (v := ?_) (listed := #[true, true, true, true, true, true, true, true, true, true, false, false, false]) nth_10 (by kernel_rfl) (by kernel_rfl) (by kernel_rfl) (fun _ _ _ h => h) (Or.inl ⟨by rfl, ?_⟩) (by assumption) ?_; rotate_left; (focus ((intro W hC; have hF := HFA.out W hC; go_simp); try (with_reducible rfl))); (try dsimp only [Act.put]); (try simp only [List.setIfInBounds_toArray, List.set_cons_zero, List.set_cons_succ]))
      (refine wpAnyH_ready (rs := [11]) (by kernel_rfl) (by simp) ?_; refine held_cons nth_11 (fun K hK => ?_) AllReadyH.nil)
      go_simp
      (refine hK.out _ _ ((by exact hHeld.alloc _)) (fun hHeld => ?_); clear hK K)
      (try dsimp only [Act.put]); (try simp only [List.setIfInBounds_toArray, List.set_cons_zero, List.set_cons_succ])
      (refine wpAnyH_ready (rs := [12]) (by kernel_rfl) (by simp) ?_; refine held_cons nth_12 (fun K hK => ?_) AllReadyH.nil)
      go_simp
      (refine hK.out _ _ ((by have e := HK1.out; rw [← HWB.out] at e; exact e)) (fun hHeld => ?_); clear hK K)
      (try dsimp only [Act.put]); (try simp only [List.setIfInBounds_toArray, List.set_cons_zero, List.set_cons_succ])
      (refine wpAnyH_done (by kernel_rfl) ?_ _)
      rw [HWB.out]
      clear hwa
      have hf := HF.out wb (Kept.refl _ _)
      go_wp2_with fail
      (refine wp_region_phases (n := 10) (listed := #[false, false, false, false, false, false, false, false, false, false]) (by kernel_rfl) (by rfl) (by rfl) ?_)
      (refine wpAny_phase (fun W => Kept [] wb W) [(0, false), (1, false), (2, false), (3, false), (4, false), (5, false), (6, false), (7, false), (8, false), (9, false)] (f := 0) (listed := #[false, false, false, false, false, false, false, false, false, false]) (listed' := #[true, true, true, true, true, true, true, true, true, true]) (by kernel_rfl) (by kernel_rfl) (by rfl) (Kept.refl [] _).drew (fun d _ _ _ _ h => by cases d <;> exact h) ?_)
      iterate 10 (refine wpQL_take (v := ?_) rfl (by rfl) ?_ ?_; rotate_left; (focus ((intro W hC; have hF := HF.out W hC; go_simp); try (with_reducible rfl))); (try dsimp only [Act.put]); (try simp only [List.setIfInBounds_toArray, List.set_cons_zero, List.set_cons_succ]))
      (refine wpQL_nil ?_)
      (intro wq hq)
      (refine wpAny_done (by kernel_rfl) ?_ _)
      go_wp2_with fail
      (refine wp_region_phases (n := 6) (listed := #[false, false, false, false, false, false]) (by kernel_rfl) (by rfl) (by rfl) ?_)
      (refine wpAny_phase (fun W => Kept [] wb W) [(0, false), (1, false), (2, false), (3, false), (4, false)] (f := 1) (listed := #[false, false, false, false, false, false]) (listed' := #[true, true, true, true, true, false]) (by kernel_rfl) (by kernel_rfl) (by rfl) (hq).drew (fun d _ _ _ _ h => by cases d <;> exact h) ?_)
      iterate 5 (refine wpQL_take (v := ?_) rfl (by rfl) ?_ ?_; rotate_left; (focus ((intro W hC; have hF := HF.out W hC; go_simp); try (with_reducible rfl))); (try dsimp only [Act.put]); (try simp only [List.setIfInBounds_toArray, List.set_cons_zero, List.set_cons_succ]))
      (refine wpQL_nil ?_)
      (intro wq hq)
      (refine wpAny_loud 5 (fuel := 0) (listed := #[true, true, true, true, true, false]) (listed' := #[true, true, true, true, true, true]) (by kernel_rfl) (by rfl) nth_5 (fun K hK => ?_))
      go_simp
      refine (HFR.out _ hq).mono ?_
      rintro y w8 ⟨rfl, hA8⟩
      have HA8 := Lib.hid hA8
      clear hA8
      (refine hK.out _ _ ?_; clear hK K)
      (try simp only [Act.put, List.setIfInBounds_toArray, List.set_cons_zero, List.set_cons_succ])
      (refine wpAny_done (by kernel_rfl) ?_ _)
      go_wp2_with fail
      go_end0
      exact ⟨rfl, HA8.out⟩
    · rw [decide_eq_false hz, if_neg (by simp)]
      have hz1 : (z == 5) = false := beq_eq_false_iff_ne.2 hz
      clear hz
      go_enter Try.func32, Try.ntmps32
      go_wp2_with fail
      try rw [hwa]
      (refine wp_region_held_drew (S := fun W => Kept [] wa W) (by kernel_rfl) (Kept.refl _ _).drew (fun hHeld => ?_))
      (refine held_take (i := 0) (v := ?_) (listed := #[false, false, false, false, false, false, false, false, false, false, false, false, false]) nth_0 (by kernel_rfl) (by kernel_rfl) (by kernel_rfl) (fun _ _ _ h => h) (Or.inl ⟨by rfl, ?_⟩) (by assumption) ?_; rotate_left; (focus ((intro W hC; go_simp); try (with_reducible rfl))); (try dsimp only [Act.put]); (try simp only [List.setIfInBounds_toArray, List.set_cons_zero, List.set_cons_succ]))
      (refine held_take (i := 1) (v := ?_) (listed := #[true, false, false, false, false, false, false, false, false, false, false, false, false]) nth_1 (by kernel_rfl) (by kernel_rfl) (by kernel_rfl) (fun _ _ _ h => h) (Or.inl ⟨by rfl, ?_⟩) (by assumption) ?_; rotate_left; (focus ((intro W hC; go_simp); try (with_reducible rfl))); (try dsimp only [Act.put]); (try simp only [List.setIfInBounds_toArray, List.set_cons_zero, List.set_cons_succ]))
      (refine held_take (i := 2) (v := ?_) (listed := #[true, true, false, false, false, false, false, false, false, false, false, false, false]) nth_2 (by kernel_rfl) (by kernel_rfl) (by kernel_rfl) (fun _ _ _ h => h) (Or.inl ⟨by rfl, ?_⟩) (by assumption) ?_; rotate_left; (focus ((intro W hC; go_simp); try (with_reducible rfl))); (try dsimp only [Act.put]); (try simp only [List.setIfInBounds_toArray, List.set_cons_zero, List.set_cons_succ]))
      (refine held_take (i := 3) (v := ?_) (listed := #[true, true, true, false, false, false, false, false, false, false, false, false, false]) nth_3 (by kernel_rfl) (by kernel_rfl) (by kernel_rfl) (fun _ _ _ h => h) (Or.inl ⟨by rfl, ?_⟩) (by assumption) ?_; rotate_left; (focus ((intro W hC; have hF := HFA.out W hC; go_simp); try (with_reducible rfl))); (try dsimp only [Act.put]); (try simp only [List.setIfInBounds_toArray, List.set_cons_zero, List.set_cons_succ]))
      (refine held_take (i := 4) (v := ?_) (listed := #[true, true, true, true, false, false, false, false, false, false, false, false, false]) nth_4 (by kernel_rfl) (by kernel_rfl) (by kernel_rfl) (fun _ _ _ h => h) (Or.inl ⟨by rfl, ?_⟩) (by assumption) ?_; rotate_left; (focus ((intro W hC; go_simp); try (with_reducible rfl))); (try dsimp only [Act.put]); (try simp only [List.setIfInBounds_toArray, List.set_cons_zero, List.set_cons_succ]))
      (refine held_take (i := 5) (v := ?_) (listed := #[true, true, true, true, true, false, false, false, false, false, false, false, false]) nth_5 (by kernel_rfl) (by kernel_rfl) (by kernel_rfl) (fun _ _ _ h => h) (Or.inl ⟨by rfl, ?_⟩) (by assumption) ?_; rotate_left; (focus ((intro W hC; go_simp); try (with_reducible rfl))); (try dsimp only [Act.put]); (try simp only [List.setIfInBounds_toArray, List.set_cons_zero, List.set_cons_succ]))
      (refine held_take (i := 6) (v := ?_) (listed := #[true, true, true, true, true, true, false, false, false, false, false, false, false]) nth_6 (by kernel_rfl) (by kernel_rfl) (by kernel_rfl) (fun _ _ _ h => h) (Or.inl ⟨by rfl, ?_⟩) (by assumption) ?_; rotate_left; (focus ((intro W hC; have hF := HFA.out W hC; go_simp); try (with_reducible rfl))); (try dsimp only [Act.put]); (try simp only [List.setIfInBounds_toArray, List.set_cons_zero, List.set_cons_succ]))
      (refine held_take (i := 7) (v := ?_) (listed := #[true, true, true, true, true, true, true, false, false, false, false, false, false]) nth_7 (by kernel_rfl) (by kernel_rfl) (by kernel_rfl) (fun _ _ _ h => h) (Or.inl ⟨by rfl, ?_⟩) (by assumption) ?_; rotate_left; (focus ((intro W hC; go_simp); try (with_reducible rfl))); (try dsimp only [Act.put]); (try simp only [List.setIfInBounds_toArray, List.set_cons_zero, List.set_cons_succ]))
      (refine held_take (i := 8) (v := ?_) (listed := #[true, true, true, true, true, true, true, true, false, false, false, false, false]) nth_8 (by kernel_rfl) (by kernel_rfl) (by kernel_rfl) (fun _ _ _ h => h) (Or.inl ⟨by rfl, ?_⟩) (by assumption) ?_; rotate_left; (focus ((intro W hC; go_simp); try (with_reducible rfl))); (try dsimp only [Act.put]); (try simp only [List.setIfInBounds_toArray, List.set_cons_zero, List.set_cons_succ]))
      (refine held_take (i := 9) (v := ?_) (listed := #[true, true, true, true, true, true, true, true, true, false, false, false, false]) nth_9 (by kernel_rfl) (by kernel_rfl) (by kernel_rfl) (fun _ _ _ h => h) (Or.inl ⟨by rfl, ?_⟩) (by assumption) ?_; rotate_left; (focus ((intro W hC; go_simp); try (with_reducible rfl))); (try dsimp only [Act.put]); (try simp only [List.setIfInBounds_toArray, List.set_cons_zero, List.set_cons_succ]))
      (refine held_take (i := 10) (v := ?_) (listed := #[true, true, true, true, true, true, true, true, true, true, false, false, false]) nth_10 (by kernel_rfl) (by kernel_rfl) (by kernel_rfl) (fun _ _ _ h => h) (Or.inl ⟨by rfl, ?_⟩) (by assumption) ?_; rotate_left; (focus ((intro W hC; have hF := HFA.out W hC; go_simp); try (with_reducible rfl))); (try dsimp only [Act.put]); (try simp only [List.setIfInBounds_toArray, List.set_cons_zero, List.set_cons_succ]))
      (refine wpAnyH_ready (rs := [11]) (by kernel_rfl) (by simp) ?_; refine held_cons nth_11 (fun K hK => ?_) AllReadyH.nil)
      go_simp
      (refine hK.out _ _ ((by exact hHeld.alloc _)) (fun hHeld => ?_); clear hK K)
      (try dsimp only [Act.put]); (try simp only [List.setIfInBounds_toArray, List.set_cons_zero, List.set_cons_succ])
      (refine wpAnyH_ready (rs := [12]) (by kernel_rfl) (by simp) ?_; refine held_cons nth_12 (fun K hK => ?_) AllReadyH.nil)
      go_simp
      (refine hK.out _ _ ((by have e := HK1.out; rw [← HWB.out] at e; exact e)) (fun hHeld => ?_); clear hK K)
      (try dsimp only [Act.put]); (try simp only [List.setIfInBounds_toArray, List.set_cons_zero, List.set_cons_succ])
      (refine wpAnyH_done (by kernel_rfl) ?_ _)
      rw [HWB.out]
      clear hwa
      have hf := HF.out wb (Kept.refl _ _)
      go_wp2_with fail
      (refine wp_region_phases (n := 10) (listed := #[false, false, false, false, false, false, false, false, false, false]) (by kernel_rfl) (by rfl) (by rfl) ?_)
      (refine wpAny_phase (fun W => Kept [] wb W) [(0, false), (1, false), (2, false), (3, false), (4, false), (5, false), (6, false), (7, false), (8, false), (9, false)] (f := 0) (listed := #[false, false, false, false, false, false, false, false, false, false]) (listed' := #[true, true, true, true, true, true, true, true, true, true]) (by kernel_rfl) (by kernel_rfl) (by rfl) (Kept.refl [] _).drew (fun d _ _ _ _ h => by cases d <;> exact h) ?_)
      iterate 10 (refine wpQL_take (v := ?_) rfl (by rfl) ?_ ?_; rotate_left; (focus ((intro W hC; have hF := HF.out W hC; go_simp); try (with_reducible rfl))); (try dsimp only [Act.put]); (try simp only [List.setIfInBounds_toArray, List.set_cons_zero, List.set_cons_succ]))
      (refine wpQL_nil ?_)
      (intro wq hq)
      (refine wpAny_done (by kernel_rfl) ?_ _)
      have HQ := Lib.hid hq
      clear hq
      go_wp2_with fail
      go_end0
      exact ⟨rfl, HA.out.old HQ.out⟩
  · -- mask
    have his := h4 (.inr o)
    obtain ⟨p0, p1, p2, p3⟩ := hasA_lt his
    obtain ⟨k, hkk⟩ : ∃ k : Nat, (regA a t).1 = k := ⟨(regA a t).1.toNat, by omega⟩
    have hkl : k < a.T.length := by rw [hw.tl]; rw [hkk, Int.toNat_natCast] at p1; exact p1
    have hV : doesA a t = a.setT k { a.th k with mask := (a.th t).deed.mask } := by rw [HEQ.out, if_neg (by omega), if_neg (by omega), if_pos o, hkk, Int.toNat_natCast]
    have HF : Hid (∀ W, Kept [] wb W → (W.cell? ⟨b.g, 10, none⟩ = some (.slice (some ⟨b.gT, 0, none⟩) a.T.length a.T.length) ∧ b.g < W.heap.size ∧ b.gT < W.heap.size) ∧ (W.cell? ⟨w.heap.size, 0, none⟩ = some (.int .i64 (a.th t).deed.op) ∧ W.cell? ⟨w.heap.size, 5, none⟩ = some (.int .u64 (a.th t).deed.mask) ∧ w.heap.size < W.heap.size) ∧ W.cell? ⟨wa.heap.size, 0, none⟩ = some (.int .i64 k) ∧ wa.heap.size < W.heap.size) := fun W hk => by
      have h2 := HBX.out W (hk.mono (by simp))
      have h3 := HFC.out W hk
      rw [hkk] at h2
      exact ⟨⟨h3.2.1, h3.2.2.2.1, h3.2.2.2.2⟩, ⟨h2.1.1, h2.1.2.2.2.1, h2.1.2.2.2.2.2⟩, h2.2.1, h2.2.2.2⟩
    have HST : Hid (∀ W, Kept [] wb W → (∃ v, W.cell? ⟨b.gT, k * 31 + 5, none⟩ = some v) ∧ (∀ j, W.frozen? ⟨b.gT, j, none⟩ = false) ∧ RqIs w0 (W.setCell ⟨b.gT, k * 31 + 5, none⟩ (.int .u64 (a.th t).deed.mask)) b d (a.setT k { a.th k with mask := (a.th t).deed.mask })) := fun W hk => by
      have e := h.old (h01.trans hk)
      obtain ⟨hc, hl, hf⟩ := RqAt.th e.at_ hkl
      exact ⟨⟨_, hc 5 _ rfl⟩, hf, RqIs.sts e hkl [(5, .int .u64 (a.th t).deed.mask)] (by simp) _ (by rfl)⟩
    rw [hV]
    have hk0 : (0 : Int) ≤ (k : Int) := by omega
    have hk1 : (k : Int) < (a.T.length : Int) := by omega
    rw [hkk] at HFA hwb HWB
    generalize a.setT k { a.th k with mask := (a.th t).deed.mask } = a' at *
    generalize (regA a t).2 = gn at *
    generalize a.T.length = nT at *
    generalize a.held.length = nh at *
    clear h hw hx h2 h4 h11 HEQ hV h0 h1 hBa hBb hBa2 h01 hr8 hreg hlt ht hk HBX his p0 p1 p2 p3 hkk hkl hwb HFC HA
    generalize hdd : (a.th t).deed = x at *
    obtain ⟨xo, xa, xb, xr, xn, xm, xl⟩ := x
    simp only at *
    subst o
    clear hdd
    subst hr
    go_enter Try.func32, Try.ntmps32
    go_wp2_with fail
    try rw [hwa]
    (refine wp_region_held_drew (S := fun W => Kept [] wa W) (by kernel_rfl) (Kept.refl _ _).drew (fun hHeld => ?_))
    (refine held_take (i := 0) (v := ?_) (listed := #[false, false, false, false, false, false, false, false, false, false, false, false, false]) nth_0 (by kernel_rfl) (by kernel_rfl) (by kernel_rfl) (fun _ _ _ h => h) (Or.inl ⟨by rfl, ?_⟩) (by assumption) ?_; rotate_left; (focus ((intro W hC; go_simp); try (with_reducible rfl))); (try dsimp only [Act.put]); (try simp only [List.setIfInBounds_toArray, List.set_cons_zero, List.set_cons_succ]))
    (refine held_take (i := 1) (v := ?_) (listed := #[true, false, false, false, false, false, false, false, false, false, false, false, false]) nth_1 (by kernel_rfl) (by kernel_rfl) (by kernel_rfl) (fun _ _ _ h => h) (Or.inl ⟨by rfl, ?_⟩) (by assumption) ?_; rotate_left; (focus ((intro W hC; go_simp); try (with_reducible rfl))); (try dsimp only [Act.put]); (try simp only [List.setIfInBounds_toArray, List.set_cons_zero, List.set_cons_succ]))
    (refine held_take (i := 2) (v := ?_) (listed := #[true, true, false, false, false, false, false, false, false, false, false, false, false]) nth_2 (by kernel_rfl) (by kernel_rfl) (by kernel_rfl) (fun _ _ _ h => h) (Or.inl ⟨by rfl, ?_⟩) (by assumption) ?_; rotate_left; (focus ((intro W hC; go_simp); try (with_reducible rfl))); (try dsimp only [Act.put]); (try simp only [List.setIfInBounds_toArray, List.set_cons_zero, List.set_cons_succ]))
    (refine held_take (i := 3) (v := ?_) (listed := #[true, true, true, false, false, false, false, false, false, false, false, false, false]) nth_3 (by kernel_rfl) (by kernel_rfl) (by kernel_rfl) (fun _ _ _ h => h) (Or.inl ⟨by rfl, ?_⟩) (by assumption) ?_; rotate_left; (focus ((intro W hC; have hF := HFA.out W hC; go_simp); try (with_reducible rfl))); (try dsimp only [Act.put]); (try simp only [List.setIfInBounds_toArray, List.set_cons_zero, List.set_cons_succ]))
    (refine held_take (i := 4) (v := ?_) (listed := #[true, true, true, true, false, false, false, false, false, false, false, false, false]) nth_4 (by kernel_rfl) (by kernel_rfl) (by kernel_rfl) (fun _ _ _ h => h) (Or.inl ⟨by rfl, ?_⟩) (by assumption) ?_; rotate_left; (focus ((intro W hC; go_simp); try (with_reducible rfl))); (try dsimp only [Act.put]); (try simp only [List.setIfInBounds_toArray, List.set_cons_zero, List.set_cons_succ]))
    (refine held_take (i := 5) (v := ?_) (listed := #[true, true, true, true, true, false, false, false, false, false, false, false, false]) nth_5 (by kernel_rfl) (by kernel_rfl) (by kernel_rfl) (fun _ _ _ h => h) (Or.inl ⟨by rfl, ?_⟩) (by assumption) ?_; rotate_left; (focus ((intro W hC; go_simp); try (with_reducible rfl))); (try dsimp only [Act.put]); (try simp only [List.setIfInBounds_toArray, List.set_cons_zero, List.set_cons_succ]))
    (refine held_take (i := 6) (v := ?_) (listed := #[true, true, true, true, true, true, false, false, false, false, false, false, false]) nth_6 (by kernel_rfl) (by kernel_rfl) (by kernel_rfl) (fun _ _ _ h => h) (Or.inl ⟨by rfl, ?_⟩) (by assumption) ?_; rotate_left; (focus ((intro W hC; have hF := HFA.out W hC; go_simp); try (with_reducible rfl))); (try dsimp only [Act.put]); (try simp only [List.setIfInBounds_toArray, List.set_cons_zero, List.set_cons_succ]))
    (refine held_take (i := 7) (v := ?_) (listed := #[true, true, true, true, true, true, true, false, false, false, false, false, false]) nth_7 (by kernel_rfl) (by kernel_rfl) (by kernel_rfl) (fun _ _ _ h => h) (Or.inl ⟨by rfl, ?_⟩) (by assumption) ?_; rotate_left; (focus ((intro W hC; go_simp); try (with_reducible rfl))); (try dsimp only [Act.put]); (try simp only [List.setIfInBounds_toArray, List.set_cons_zero, List.set_cons_succ]))
    (refine held_take (i := 8) (v := ?_) (listed := #[true, true, true, true, true, true, true, true, false, false, false, false, false]) nth_8 (by kernel_rfl) (by kernel_rfl) (by kernel_rfl) (fun _ _ _ h => h) (Or.inl ⟨by rfl, ?_⟩) (by assumption) ?_; rotate_left; (focus ((intro W hC; go_simp); try (with_reducible rfl))); (try dsimp only [Act.put]); (try simp only [List.setIfInBounds_toArray, List.set_cons_zero, List.set_cons_succ]))
    (refine held_take (i := 9) (v := ?_) (listed := #[true, true, true, true, true, true, true, true, true, false, false, false, false]) nth_9 (by kernel_rfl) (by kernel_rfl) (by kernel_rfl) (fun _ _ _ h => h) (Or.inl ⟨by rfl, ?_⟩) (by assumption) ?_; rotate_left; (focus ((intro W hC; go_simp); try (with_reducible rfl))); (try dsimp only [Act.put]); (try simp only [List.setIfInBounds_toArray, List.set_cons_zero, List.set_cons_succ]))
    (refine held_take (i := 10) (v := ?_) (listed := #[true, true, true, true, true, true, true, true, true, true, false, false, false]) nth_10 (by kernel_rfl) (by kernel_rfl) (by kernel_rfl) (fun _ _ _ h => h) (Or.inl ⟨by rfl, ?_⟩) (by assumption) ?_; rotate_left; (focus ((intro W hC; have hF := HFA.out W hC; go_simp); try (with_reducible rfl))); (try dsimp only [Act.put]); (try simp only [List.setIfInBounds_toArray, List.set_cons_zero, List.set_cons_succ]))
    (refine wpAnyH_ready (rs := [11]) (by kernel_rfl) (by simp) ?_; refine held_cons nth_11 (fun K hK => ?_) AllReadyH.nil)
    go_simp
    (refine hK.out _ _ ((by exact hHeld.alloc _)) (fun hHeld => ?_); clear hK K)
    (try dsimp only [Act.put]); (try simp only [List.setIfInBounds_toArray, List.set_cons_zero, List.set_cons_succ])
    (refine wpAnyH_ready (rs := [12]) (by kernel_rfl) (by simp) ?_; refine held_cons nth_12 (fun K hK => ?_) AllReadyH.nil)
    go_simp
    (refine hK.out _ _ ((by have e := HK1.out; rw [← HWB.out] at e; exact e)) (fun hHeld => ?_); clear hK K)
    (try dsimp only [Act.put]); (try simp only [List.setIfInBounds_toArray, List.set_cons_zero, List.set_cons_succ])
    (refine wpAnyH_done (by kernel_rfl) ?_ _)
    rw [HWB.out]
    clear hwa
    have hf := HF.out wb (Kept.refl _ _)
    go_wp2_with fail
    (refine wp_region_phases (n := 11) (listed := #[false, false, false, false, false, false, false, false, false, false, false]) (by kernel_rfl) (by rfl) (by rfl) ?_)
    (refine wpAny_phase (fun W => Kept [] wb W) [(0, false), (1, false), (2, false), (3, false), (4, false), (5, false), (6, false), (7, false), (8, false), (9, false)] (f := 1) (listed := #[false, false, false, false, false, false, false, false, false, false, false]) (listed' := #[true, true, true, true, true, true, true, true, true, true, false]) (by kernel_rfl) (by kernel_rfl) (by rfl) (Kept.refl [] _).drew (fun d _ _ _ _ h => by cases d <;> exact h) ?_)
    iterate 10 (refine wpQL_take (v := ?_) rfl (by rfl) ?_ ?_; rotate_left; (focus ((intro W hC; have hF := HF.out W hC; go_simp); try (with_reducible rfl))); (try dsimp only [Act.put]); (try simp only [List.setIfInBounds_toArray, List.set_cons_zero, List.set_cons_succ]))
    (refine wpQL_nil ?_)
    (intro wq hq)
    obtain ⟨⟨x5, c5⟩, c7, c8⟩ := HST.out _ hq
    have hgs := (HF.out _ hq).1.2.2
    have HA8 := Lib.hid c8
    clear c8
    (refine wpAny_loud 10 (fuel := 0) (listed := #[true, true, true, true, true, true, true, true, true, true, false]) (listed' := #[true, true, true, true, true, true, true, true, true, true, true]) (by kernel_rfl) (by rfl) nth_10 (fun K hK => ?_))
    go_simp
    (refine hK.out _ _ ?_; clear hK K)
    (try simp only [Act.put, List.setIfInBounds_toArray, List.set_cons_zero, List.set_cons_succ])
    (refine wpAny_done (by kernel_rfl) ?_ _)
    go_wp2_with fail
    go_end0
    exact ⟨rfl, HA8.out⟩
  · -- unlock
    have hV : doesA a t = { a with held := a.held.set (a.th t).deed.a.toNat (-1) } := by rw [HEQ.out, if_neg (by omega), if_neg (by omega), if_neg (by omega), if_pos o]
    have hal := h11 o
    have ha0 := hx.deed.1
    have hal2 : (a.th t).deed.a.toNat < a.held.length := by have := hw.hl; omega
    have hin : (a.th t).deed.a < (a.held.length : Int) := by omega
    obtain ⟨g, hgA, _, _, _⟩ := RqAt.hld h.at_ hal2
    have HF : Hid (∀ W, Kept [] wb W → (W.cell? ⟨b.g, 11, none⟩ = some (.slice (some ⟨g, 0, none⟩) a.held.length b.cH) ∧ b.g < W.heap.size) ∧ (W.cell? ⟨w.heap.size, 0, none⟩ = some (.int .i64 (a.th t).deed.op) ∧ W.cell? ⟨w.heap.size, 1, none⟩ = some (.int .i64 (a.th t).deed.a) ∧ w.heap.size < W.heap.size)) := fun W hk => by
      have h2 := HBX.out W (hk.mono (by simp))
      have h3 := HFC.out W hk
      rw [hgA] at h3
      exact ⟨⟨h3.2.2.1, h3.2.2.2.1⟩, h2.1.1, h2.1.2.1, h2.1.2.2.2.2.2⟩
    have HST : Hid (∀ W, Kept [] wb W → (∃ v, W.cell? ⟨g, (a.th t).deed.a.toNat, none⟩ = some v) ∧ g < W.heap.size ∧ (∀ j, W.frozen? ⟨g, j, none⟩ = false) ∧ RqIs w0 (W.setCell ⟨g, (a.th t).deed.a.toNat, none⟩ (.int .i64 (-1))) b d { a with held := a.held.set (a.th t).deed.a.toNat (-1) }) := fun W hk => by
      have e1 := h.old (h01.trans hk)
      obtain ⟨g', e2, e3, e4, e5⟩ := RqAt.hld e1.at_ hal2
      obtain rfl : g = g' := by rw [hgA] at e2; injection e2 with e2; injection e2
      exact ⟨⟨_, e3⟩, e4, e5, RqIs.setH e1 hgA _ _⟩
    rw [hV]
    generalize ({ a with held := a.held.set (a.th t).deed.a.toNat (-1) } : Acc) = a' at *
    generalize (regA a t) = rg at *
    generalize a.T.length = nT at *
    generalize a.held.length = nh at *
    clear h hw hx h2 h4 h11 HEQ hV h0 h1 hBa hBb hBa2 h01 hr8 hreg hlt ht hk hal hal2 hgA HA HBX hwb HFC
    generalize hdd : (a.th t).deed = x at *
    obtain ⟨xo, xa, xb, xr, xn, xm, xl⟩ := x
    simp only at *
    subst o
    clear hdd
    subst hr
    go_enter Try.func32, Try.ntmps32
    go_wp2_with fail
    try rw [hwa]
    (refine wp_region_held_drew (S := fun W => Kept [] wa W) (by kernel_rfl) (Kept.refl _ _).drew (fun hHeld => ?_))
    (refine held_take (i := 0) (v := ?_) (listed := #[false, false, false, false, false, false, false, false, false, false, false, false, false]) nth_0 (by kernel_rfl) (by kernel_rfl) (by kernel_rfl) (fun _ _ _ h => h) (Or.inl ⟨by rfl, ?_⟩) (by assumption) ?_; rotate_left; (focus ((intro W hC; go_simp); try (with_reducible rfl))); (try dsimp only [Act.put]); (try simp only [List.setIfInBounds_toArray, List.set_cons_zero, List.set_cons_succ]))
    (refine held_take (i := 1) (v := ?_) (listed := #[true, false, false, false, false, false, false, false, false, false, false, false, false]) nth_1 (by kernel_rfl) (by kernel_rfl) (by kernel_rfl) (fun _ _ _ h => h) (Or.inl ⟨by rfl, ?_⟩) (by assumption) ?_; rotate_left; (focus ((intro W hC; go_simp); try (with_reducible rfl))); (try dsimp only [Act.put]); (try simp only [List.setIfInBounds_toArray, List.set_cons_zero, List.set_cons_succ]))
    (refine held_take (i := 2) (v := ?_) (listed := #[true, true, false, false, false, false, false, false, false, false, false, false, false]) nth_2 (by kernel_rfl) (by kernel_rfl) (by kernel_rfl) (fun _ _ _ h => h) (Or.inl ⟨by rfl, ?_⟩) (by assumption) ?_; rotate_left; (focus ((intro W hC; go_simp); try (with_reducible rfl))); (try dsimp only [Act.put]); (try simp only [List.setIfInBounds_toArray, List.set_cons_zero, List.set_cons_succ]))
    (refine held_take (i := 3) (v := ?_) (listed := #[true, true, true, false, false, false, false, false, false, false, false, false, false]) nth_3 (by kernel_rfl) (by kernel_rfl) (by kernel_rfl) (fun _ _ _ h => h) (Or.inl ⟨by rfl, ?_⟩) (by assumption) ?_; rotate_left; (focus ((intro W hC; have hF := HFA.out W hC; go_simp); try (with_reducible rfl))); (try dsimp only [Act.put]); (try simp only [List.setIfInBounds_toArray, List.set_cons_zero, List.set_cons_succ]))
    (refine held_take (i := 4) (v := ?_) (listed := #[true, true, true, true, false, false, false, false, false, false, false, false, false]) nth_4 (by kernel_rfl) (by kernel_rfl) (by kernel_rfl) (fun _ _ _ h => h) (Or.inl ⟨by rfl, ?_⟩) (by assumption) ?_; rotate_left; (focus ((intro W hC; go_simp); try (with_reducible rfl))); (try dsimp only [Act.put]); (try simp only [List.setIfInBounds_toArray, List.set_cons_zero, List.set_cons_succ]))
    (refine held_take (i := 5) (v := ?_) (listed := #[true, true, true, true, true, false, false, false, false, false, false, false, false]) nth_5 (by kernel_rfl) (by kernel_rfl) (by kernel_rfl) (fun _ _ _ h => h) (Or.inl ⟨by rfl, ?_⟩) (by assumption) ?_; rotate_left; (focus ((intro W hC; go_simp); try (with_reducible rfl))); (try dsimp only [Act.put]); (try simp only [List.setIfInBounds_toArray, List.set_cons_zero, List.set_cons_succ]))
    (refine held_take (i := 6) (v := ?_) (listed := #[true, true, true, true, true, true, false, false, false, false, false, false, false]) nth_6 (by kernel_rfl) (by kernel_rfl) (by kernel_rfl) (fun _ _ _ h => h) (Or.inl ⟨by rfl, ?_⟩) (by assumption) ?_; rotate_left; (focus ((intro W hC; have hF := HFA.out W hC; go_simp); try (with_reducible rfl))); (try dsimp only [Act.put]); (try simp only [List.setIfInBounds_toArray, List.set_cons_zero, List.set_cons_succ]))
    (refine held_take (i := 7) (v := ?_) (listed := #[true, true, true, true, true, true, true, false, false, false, false, false, false]) nth_7 (by kernel_rfl) (by kernel_rfl) (by kernel_rfl) (fun _ _ _ h => h) (Or.inl ⟨by rfl, ?_⟩) (by assumption) ?_; rotate_left; (focus ((intro W hC; go_simp); try (with_reducible rfl))); (try dsimp only [Act.put]); (try simp only [List.setIfInBounds_toArray, List.set_cons_zero, List.set_cons_succ]))
    (refine held_take (i := 8) (v := ?_) (listed := #[true, true, true, true, true, true, true, true, false, false, false, false, false]) nth_8 (by kernel_rfl) (by kernel_rfl) (by kernel_rfl) (fun _ _ _ h => h) (Or.inl ⟨by rfl, ?_⟩) (by assumption) ?_; rotate_left; (focus ((intro W hC; go_simp); try (with_reducible rfl))); (try dsimp only [Act.put]); (try simp only [List.setIfInBounds_toArray, List.set_cons_zero, List.set_cons_succ]))
    (refine held_take (i := 9) (v := ?_) (listed := #[true, true, true, true, true, true, true, true, true, false, false, false, false]) nth_9 (by kernel_rfl) (by kernel_rfl) (by kernel_rfl) (fun _ _ _ h => h) (Or.inl ⟨by rfl, ?_⟩) (by assumption) ?_; rotate_left; (focus ((intro W hC; go_simp); try (with_reducible rfl))); (try dsimp only [Act.put]); (try simp only [List.setIfInBounds_toArray, List.set_cons_zero, List.set_cons_succ]))
    (refine held_take (i := 10) (v := ?_) (listed := #[true, true, true, true, true, true, true, true, true, true, false, false, false]) nth_10 (by kernel_rfl) (by kernel_rfl) (by kernel_rfl) (fun _ _ _ h => h) (Or.inl ⟨by rfl, ?_⟩) (by assumption) ?_; rotate_left; (focus ((intro W hC; have hF := HFA.out W hC; go_simp); try (with_reducible rfl))); (try dsimp only [Act.put]); (try simp only [List.setIfInBounds_toArray, List.set_cons_zero, List.set_cons_succ]))
    (refine wpAnyH_ready (rs := [11]) (by kernel_rfl) (by simp) ?_; refine held_cons nth_11 (fun K hK => ?_) AllReadyH.nil)
    go_simp
    (refine hK.out _ _ ((by exact hHeld.alloc _)) (fun hHeld => ?_); clear hK K)
    (try dsimp only [Act.put]); (try simp only [List.setIfInBounds_toArray, List.set_cons_zero, List.set_cons_succ])
    (refine wpAnyH_ready (rs := [12]) (by kernel_rfl) (by simp) ?_; refine held_cons nth_12 (fun K hK => ?_) AllReadyH.nil)
    go_simp
    (refine hK.out _ _ ((by have e := HK1.out; rw [← HWB.out] at e; exact e)) (fun hHeld => ?_); clear hK K)
    (try dsimp only [Act.put]); (try simp only [List.setIfInBounds_toArray, List.set_cons_zero, List.set_cons_succ])
    (refine wpAnyH_done (by kernel_rfl) ?_ _)
    rw [HWB.out]
    clear hwa
    have hf := HF.out wb (Kept.refl _ _)
    go_wp2_with fail
    (refine wp_region_phases (n := 8) (listed := #[false, false, false, false, false, false, false, false]) (by kernel_rfl) (by rfl) (by rfl) ?_)
    (refine wpAny_phase (fun W => Kept [] wb W) [(0, false), (1, false), (2, false), (3, false), (4, false), (5, false), (6, false)] (f := 1) (listed := #[false, false, false, false, false, false, false, false]) (listed' := #[true, true, true, true, true, true, true, false]) (by kernel_rfl) (by kernel_rfl) (by rfl) (Kept.refl [] _).drew (fun d _ _ _ _ h => by cases d <;> exact h) ?_)
    iterate 7 (refine wpQL_take (v := ?_) rfl (by rfl) ?_ ?_; rotate_left; (focus ((intro W hC; have hF := HF.out W hC; go_simp); try (with_reducible rfl))); (try dsimp only [Act.put]); (try simp only [List.setIfInBounds_toArray, List.set_cons_zero, List.set_cons_succ]))
    (refine wpQL_nil ?_)
    (intro wq hq)
    obtain ⟨⟨x5, c5⟩, c6, c7, c8⟩ := HST.out _ hq
    have HA8 := Lib.hid c8
    clear c8
    (refine wpAny_loud 7 (fuel := 0) (listed := #[true, true, true, true, true, true, true, false]) (listed' := #[true, true, true, true, true, true, true, true]) (by kernel_rfl) (by rfl) nth_7 (fun K hK => ?_))
    go_simp
    (refine hK.out _ _ ?_; clear hK K)
    (try simp only [Act.put, List.setIfInBounds_toArray, List.set_cons_zero, List.set_cons_succ])
    (refine wpAny_done (by kernel_rfl) ?_ _)
    go_wp2_with fail
    go_end0
    exact ⟨rfl, HA8.out⟩
  · have hV : doesA a t = a := by rw [HEQ.out, if_neg o2, if_neg o4, if_neg o7, if_neg o11]
    rw [hV]
    have HF : Hid (∀ W, Kept [] wb W → W.cell? ⟨w.heap.size, 0, none⟩ = some (.int .i64 (a.th t).deed.op) ∧ w.heap.size < W.heap.size) := fun W hk => by
      have h2 := HBX.out W (hk.mono (by simp))
      exact ⟨h2.1.1, h2.1.2.2.2.2.2⟩
    generalize (regA a t) = rg at *
    generalize a.T.length = nT at *
    clear h hw hx h2 h4 h11 HEQ hV h0 h1 hBa hBb hBa2 h01 hr8 hreg hlt ht hk HBX hwb HFC
    generalize hdd : (a.th t).deed = x at *
    obtain ⟨xo, xa, xb, xr, xn, xm, xl⟩ := x
    simp only at *
    have e2 : (xo == 2) = false := beq_eq_false_iff_ne.2 o2
    have e4 : (xo == 4) = false := beq_eq_false_iff_ne.2 o4
    have e7 : (xo == 7) = false := beq_eq_false_iff_ne.2 o7
    have e11 : (xo == 11) = false := beq_eq_false_iff_ne.2 o11
    clear hdd o2 o4 o7 o11
    subst hr
    go_enter Try.func32, Try.ntmps32
    go_wp2_with fail
    try rw [hwa]
    (refine wp_region_held_drew (S := fun W => Kept [] wa W) (by kernel_rfl) (Kept.refl _ _).drew (fun hHeld => ?_))
    (refine held_take (i := 0) (v := ?_) (listed := #[false, false, false, false, false, false, false, false, false, false, false, false, false]) nth_0 (by kernel_rfl) (by kernel_rfl) (by kernel_rfl) (fun _ _ _ h => h) (Or.inl ⟨by rfl, ?_⟩) (by assumption) ?_; rotate_left; (focus ((intro W hC; go_simp); try (with_reducible rfl))); (try dsimp only [Act.put]); (try simp only [List.setIfInBounds_toArray, List.set_cons_zero, List.set_cons_succ]))
    (refine held_take (i := 1) (v := ?_) (listed := #[true, false, false, false, false, false, false, false, false, false, false, false, false]) nth_1 (by kernel_rfl) (by kernel_rfl) (by kernel_rfl) (fun _ _ _ h => h) (Or.inl ⟨by rfl, ?_⟩) (by assumption) ?_; rotate_left; (focus ((intro W hC; go_simp); try (with_reducible rfl))); (try dsimp only [Act.put]); (try simp only [List.setIfInBounds_toArray, List.set_cons_zero, List.set_cons_succ]))
    (refine held_take (i := 2) (v := ?_) (listed := #[true, true, false, false, false, false, false, false, false, false, false, false, false]) nth_2 (by kernel_rfl) (by kernel_rfl) (by kernel_rfl) (fun _ _ _ h => h) (Or.inl ⟨by rfl, ?_⟩) (by assumption) ?_; rotate_left; (focus ((intro W hC; go_simp); try (with_reducible rfl))); (try dsimp only [Act.put]); (try simp only [List.setIfInBounds_toArray, List.set_cons_zero, List.set_cons_succ]))
    (refine held_take (i := 3) (v := ?_) (listed := #[true, true, true, false, false, false, false, false, false, false, false, false, false]) nth_3 (by kernel_rfl) (by kernel_rfl) (by kernel_rfl) (fun _ _ _ h => h) (Or.inl ⟨by rfl, ?_⟩) (by assumption) ?_; rotate_left; (focus ((intro W hC; have hF := HFA.out W hC; go_simp); try (with_reducible rfl))); (try dsimp only [Act.put]); (try simp only [List.setIfInBounds_toArray, List.set_cons_zero, List.set_cons_succ]))
    (refine held_take (i := 4) (v := ?_) (listed := #[true, true, true, true, false, false, false, false, false, false, false, false, false]) nth_4 (by kernel_rfl) (by kernel_rfl) (by kernel_rfl) (fun _ _ _ h => h) (Or.inl ⟨by rfl, ?_⟩) (by assumption) ?_; rotate_left; (focus ((intro W hC; go_simp); try (with_reducible rfl))); (try dsimp only [Act.put]); (try simp only [List.setIfInBounds_toArray, List.set_cons_zero, List.set_cons_succ]))
    (refine held_take (i := 5) (v := ?_) (listed := #[true, true, true, true, true, false, false, false, false, false, false, false, false]) nth_5 (by kernel_rfl) (by kernel_rfl) (by kernel_rfl) (fun _ _ _ h => h) (Or.inl ⟨by rfl, ?_⟩) (by assumption) ?_; rotate_left; (focus ((intro W hC; go_simp); try (with_reducible rfl))); (try dsimp only [Act.put]); (try simp only [List.setIfInBounds_toArray, List.set_cons_zero, List.set_cons_succ]))
    (refine held_take (i := 6) (v := ?_) (listed := #[true, true, true, true, true, true, false, false, false, false, false, false, false]) nth_6 (by kernel_rfl) (by kernel_rfl) (by kernel_rfl) (fun _ _ _ h => h) (Or.inl ⟨by rfl, ?_⟩) (by assumption) ?_; rotate_left; (focus ((intro W hC; have hF := HFA.out W hC; go_simp); try (with_reducible rfl))); (try dsimp only [Act.put]); (try simp only [List.setIfInBounds_toArray, List.set_cons_zero, List.set_cons_succ]))
    (refine held_take (i := 7) (v := ?_) (listed := #[true, true, true, true, true, true, true, false, false, false, false, false, false]) nth_7 (by kernel_rfl) (by kernel_rfl) (by kernel_rfl) (fun _ _ _ h => h) (Or.inl ⟨by rfl, ?_⟩) (by assumption) ?_; rotate_left; (focus ((intro W hC; go_simp); try (with_reducible rfl))); (try dsimp only [Act.put]); (try simp only [List.setIfInBounds_toArray, List.set_cons_zero, List.set_cons_succ]))
    (refine held_take (i := 8) (v := ?_) (listed := #[true, true, true, true, true, true, true, true, false, false, false, false, false]) nth_8 (by kernel_rfl) (by kernel_rfl) (by kernel_rfl) (fun _ _ _ h => h) (Or.inl ⟨by rfl, ?_⟩) (by assumption) ?_; rotate_left; (focus ((intro W hC; go_simp); try (with_reducible rfl))); (try dsimp only [Act.put]); (try simp only [List.setIfInBounds_toArray, List.set_cons_zero, List.set_cons_succ]))
    (refine held_take (i := 9) (v := ?_) (listed := #[true, true, true, true, true, true, true, true, true, false, false, false, false]) nth_9 (by kernel_rfl) (by kernel_rfl) (by kernel_rfl) (fun _ _ _ h => h) (Or.inl ⟨by rfl, ?_⟩) (by assumption) ?_; rotate_left; (focus ((intro W hC; go_simp); try (with_reducible rfl))); (try dsimp only [Act.put]); (try simp only [List.setIfInBounds_toArray, List.set_cons_zero, List.set_cons_succ]))
    (refine held_take (i := 10) (v := ?_) (listed := #[true, true, true, true, true, true, true, true, true, true, false, false, false]) nth_10 (by kernel_rfl) (by kernel_rfl) (by kernel_rfl) (fun _ _ _ h => h) (Or.inl ⟨by rfl, ?_⟩) (by assumption) ?_; rotate_left; (focus ((intro W hC; have hF := HFA.out W hC; go_simp); try (with_reducible rfl))); (try dsimp only [Act.put]); (try simp only [List.setIfInBounds_toArray, List.set_cons_zero, List.set_cons_succ]))
    (refine wpAnyH_ready (rs := [11]) (by kernel_rfl) (by simp) ?_; refine held_cons nth_11 (fun K hK => ?_) AllReadyH.nil)
    go_simp
    (refine hK.out _ _ ((by exact hHeld.alloc _)) (fun hHeld => ?_); clear hK K)
    (try dsimp only [Act.put]); (try simp only [List.setIfInBounds_toArray, List.set_cons_zero, List.set_cons_succ])
    (refine wpAnyH_ready (rs := [12]) (by kernel_rfl) (by simp) ?_; refine held_cons nth_12 (fun K hK => ?_) AllReadyH.nil)
    go_simp
    (refine hK.out _ _ ((by have e := HK1.out; rw [← HWB.out] at e; exact e)) (fun hHeld => ?_); clear hK K)
    (try dsimp only [Act.put]); (try simp only [List.setIfInBounds_toArray, List.set_cons_zero, List.set_cons_succ])
    (refine wpAnyH_done (by kernel_rfl) ?_ _)
    rw [HWB.out]
    clear hwa
    have hf := HF.out wb (Kept.refl _ _)
    go_wp2_with fail
    go_end0
    exact ⟨rfl, HA.out⟩

end Go.Proofs.Ytccodklfplfleaa
