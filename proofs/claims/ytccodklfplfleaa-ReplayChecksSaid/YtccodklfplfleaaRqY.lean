/- The document's account (layer 35): exits, walked. -/
import Derived.Test.YtccodklfplfleaaRqX
import Derived.Test.YtccodklfplfleaaRpZ
import Derived.Test.YtccodklfplfleaaP10
namespace Go.Proofs.Ytccodklfplfleaa
open Go.RowKit

theorem heldO_T (a : Acc) (t : Int) (k : Nat) : (heldO a t k).T = a.T := rfl
theorem heldO_P (a : Acc) (t : Int) (k : Nat) : (heldO a t k).P = a.P := rfl
theorem exitsA_eqR (a : Acc) (t : Nat) : exitsA a t = if (a.th t).loose || joinK a t (a.pl t).gen a.P.length then freeP ((heldO a t a.held.length).setT t { a.th t with state := 5 }) t else (heldO a t a.held.length).setT t { a.th t with state := 5 } := by
  unfold exitsA heldO Acc.setT
  rw [offK_end]
set_option maxHeartbeats 6400000 in
set_option maxRecDepth 100000 in
theorem R35exits_any {w0 : Base} {w : World} {b : RqA} {d : Du} {a : Acc} (h : RqIs w0 w b d a) (hw : AWhole d a) {t : Nat} (ht : t < a.T.length) (hk : (a.pl t).taken = true) :
    Calls Try.prog 34 #[.pointer (some ⟨b.g, 0, none⟩), .int .i64 t] w fun x w' => x = .returned (.tuple #[]) ∧ RqIs w0 w' b d (exitsA a t) := by
  have htP : t < a.P.length := by rw [← hw.tl]; exact ht
  have hatv : atV a.P t = ((t : Int), (a.pl t).gen) ∧ takenP a.P t = true := by
    have e : takenP a.P t = true := by unfold takenP; rw [Int.toNat_natCast]; unfold Acc.pl at hk; rw [hk, decide_eq_true ⟨by omega, by omega⟩]; rfl
    refine ⟨?_, e⟩
    unfold atV; rw [if_pos e, Int.toNat_natCast]; rfl
  have HAT := Lib.hid (R20At_any h.at_ t)
  rw [hatv.1, hatv.2] at HAT
  have c := RqAt.cells h.at_
  have c9 := c.2.2.2.1
  have cl := c.2.2.2.2.2.2
  obtain ⟨nh, hnh⟩ : ∃ nh, a.held.length = nh := ⟨_, rfl⟩
  obtain ⟨nT, hnT⟩ : ∃ nT, a.T.length = nT := ⟨_, rfl⟩
  have hnP : a.P.length = nT := by rw [← hw.tl]; exact hnT
  have hn64 : nT ≤ 64 := by have := hw.n64; omega
  have hh64 : nh ≤ 64 := by have := hw.h64; omega
  have hlt : ∀ k, k ∈ rqF b → k < w.heap.size := fun k hk => RqAt.lt h.at_ hk
  have HSELF : Hid (∀ wb, Kept [] w wb → RqIs ⟨wb, rqF b⟩ wb b d (heldO a t 0)) := fun wb hk => by rw [heldO_zero]; exact RqAt.self (h.old hk).at_
  have HH : Hid (∀ B W k, RqIs B W b d (heldO a t k) → (W.cell? ⟨b.g, 11, none⟩ = some (.slice b.AH nh b.cH) ∧ b.g < W.heap.size) ∧ (k < nh → ∃ g, b.AH = some ⟨g, 0, none⟩ ∧ W.cell? ⟨g, k, none⟩ = some (.int .i64 (a.hl k)) ∧ g < W.heap.size ∧ (∀ j, W.frozen? ⟨g, j, none⟩ = false) ∧ RqIs B (if a.hl k = t then W.setCell ⟨g, k, none⟩ (.int .i64 (-1)) else W) b d (heldO a t (k + 1)))) := fun B W k hA => by
    have hl : (heldO a t k).held.length = nh := by unfold heldO; simp only [offK_len]; exact hnh
    have cc := RqAt.cells hA.at_
    refine ⟨⟨by rw [← hl]; exact cc.2.2.2.2.2.1, cc.2.2.2.2.2.2⟩, fun hk => ?_⟩
    obtain ⟨g, e1, e2, e3, e4⟩ := RqAt.hld hA.at_ (l := k) (by rw [hl]; exact hk)
    have e5 : (heldO a t k).hl k = a.hl k := by unfold heldO Acc.hl; exact offK_at (by rw [hnh]; exact hk)
    rw [e5] at e2
    refine ⟨g, e1, e2, e3, e4, ?_⟩
    rw [heldO_succ (by rw [hnh]; exact hk)]
    split
    · exact RqIs.setH hA e1 k (-1)
    · exact hA
  have HT : Hid (∀ B W, RqIs B W b d (heldO a t nh) → (W.cell? ⟨b.g, 9, none⟩ = some (.pointer (some ⟨b.gr, 0, none⟩)) ∧ W.cell? ⟨b.g, 10, none⟩ = some (.slice (some ⟨b.gT, 0, none⟩) nT nT) ∧ b.g < W.heap.size ∧ b.gT < W.heap.size) ∧ W.cell? ⟨b.gT, t * 31 + 6, none⟩ = some (.bool (a.th t).loose) ∧ (∃ v, W.cell? ⟨b.gT, t * 31 + 2, none⟩ = some v) ∧ (∀ j, W.frozen? ⟨b.gT, j, none⟩ = false) ∧ RqIs B (W.setCell ⟨b.gT, t * 31 + 2, none⟩ (.int .i64 5)) b d ((heldO a t nh).setT t { a.th t with state := 5 })) := fun B W hA => by
    have cc := RqAt.cells hA.at_
    obtain ⟨hc, hl, hf⟩ := RqAt.th hA.at_ (k := t) (by rw [heldO_T]; exact ht)
    have hth : (heldO a t nh).th t = a.th t := rfl
    rw [hth] at hc
    exact ⟨⟨cc.2.2.2.1, by rw [← hnT]; exact cc.2.2.2.2.1, cc.2.2.2.2.2.2, hl⟩, hc 6 _ rfl, ⟨_, hc 2 _ rfl⟩, hf, RqIs.sts hA (by rw [heldO_T]; exact ht) [(2, .int .i64 5)] (by simp) _ (by rfl)⟩
  have HU : Hid (∀ B W, RqIs B W b d (heldO a t nh) → (W.cell? ⟨b.gr, 0, none⟩ = some (.slice (some ⟨b.gP, 0, none⟩) nT nT) ∧ b.gr < W.heap.size ∧ b.gP < W.heap.size) ∧ ∀ u, u < nT → W.cell? ⟨b.gP, u, none⟩ = some (.bool (a.pl u).taken) ∧ W.rangeAt b.gT (u * 31) (oneL (a.th u))) := fun B W hA => by
    have r := RqAt.rolc hA.at_
    have bl := RqAt.bl hA.at_
    refine ⟨⟨by rw [← hnP]; exact r.1, r.2.2, bl.2.2.1⟩, fun u hu => ?_⟩
    exact ⟨(RqAt.pl hA.at_ (k := u) (by rw [heldO_P, hnP]; exact hu)).1, (RqAt.th hA.at_ (k := u) (by rw [heldO_T, hnT]; exact hu)).1⟩
  have HFR : Hid (∀ B W, RqIs B W b d ((heldO a t nh).setT t { a.th t with state := 5 }) → Calls Try.prog 47 #[.pointer (some ⟨b.gr, 0, none⟩), .agg #[.int .i64 t, .int .u32 (a.pl t).gen]] W fun y w' => y = .returned (.bool true) ∧ RqIs B w' b d (freeP ((heldO a t nh).setT t { a.th t with state := 5 }) t)) := fun B W hA => by
    have hh : hasA ((heldO a t nh).setT t { a.th t with state := 5 }) t (a.pl t).gen = true := by
      show hasP a.P t (a.pl t).gen = true
      unfold hasP
      rw [Int.toNat_natCast, decide_eq_true ⟨by omega, by omega⟩]
      unfold Acc.pl at hk ⊢
      rw [hk]; simp
    have := R20Free_any hA t (a.pl t).gen hh
    rw [Int.toNat_natCast] at this
    exact this
  obtain ⟨V, hV⟩ : ∃ V, exitsA a t = V := ⟨_, rfl⟩
  rw [hV]
  have HV : Hid (V = if (a.th t).loose || joinK a t (a.pl t).gen nT then freeP ((heldO a t nh).setT t { a.th t with state := 5 }) t else (heldO a t nh).setT t { a.th t with state := 5 }) := by
    show V = _; rw [← hV, exitsA_eqR, hnP, hnh]
  have HEND : Hid (∀ wb W a3, Kept [] w wb → RqIs ⟨wb, rqF b⟩ W b d a3 → RqIs w0 W b d a3) := fun wb W a3 hk hA => RqIs.back (h.old hk) hA
  have HJ : Hid (∀ u, joinK a t (a.pl t).gen (u + 1) = (joinK a t (a.pl t).gen u || ((a.pl u).taken && (decide ((a.th u).call = 3) && (decide ((a.th u).deed.op = 4) && regA a u == ((t : Int), (a.pl t).gen)))))) := fun _ => rfl
  have HJ0 : Hid (joinK a t (a.pl t).gen 0 = false) := rfl
  have HRG : Hid (∀ u, u < nT → (0 ≤ (a.th u).deed.r ∧ (a.th u).deed.r < 8) ∧ (oneL (a.th u))[7 + (a.th u).deed.r.toNat * 2]? = some (.int .i64 (regA a u).1) ∧ (oneL (a.th u))[7 + (a.th u).deed.r.toNat * 2 + 1]? = some (.int .u32 (regA a u).2)) := fun u hu => by
    have hx := (hw.at_ (t := u) (by rw [hnT]; exact hu)).deed
    have := oneL_reg (a.th u) (a.th u).deed.r.toNat (by omega)
    exact ⟨⟨hx.2.1, hx.2.2⟩, this.1, this.2⟩
  have HNI : Hid (∀ k, w.heap.size ≤ k → k ∉ rqF b) := fun k hk hm => by have := hlt _ hm; omega
  have HGT : Hid (b.gT ∈ rqF b) := by show _ ∈ _; simp [rqF]
  have HAH : Hid (∀ g, b.AH = some ⟨g, 0, none⟩ → g ∈ rqF b) := fun g hg => by simp [rqF, hg]
  have ht0 : (0 : Int) ≤ (t : Int) := by omega
  have ht1 : (t : Int) < (nT : Int) := by omega
  generalize hpg : (a.pl t).gen = pg at *
  generalize hlo : (a.th t).loose = lo at *
  generalize (heldO a t nh).setT t { a.th t with state := 5 } = a5 at *
  generalize freeP a5 t = a6 at *
  clear h hw ht hk htP hatv c hnh hnT hnP hlt hV hpg hlo
  go_enter Try.func34, Try.ntmps34
  go_wp2_with fail
  refine (HAT.out).mono ?_
  rintro y w3 ⟨rfl, hk3⟩
  obtain ⟨wb, hw4⟩ : ∃ wb, w3.alloc (.cells #[.int .i64 t, .int .u32 pg] 53) = wb := ⟨_, rfl⟩
  have hk4 : Kept [] w wb := by rw [← hw4]; exact hk3.alloc _
  have hB4 : Blk wb w3.heap.size 53 #[.int .i64 t, .int .u32 pg] := by rw [← hw4]; exact Blk.new _ _ _
  have hs3 := hk3.size
  have HW4 := Lib.hid hw4
  have HK4 := Lib.hid hk4
  have HB4 := Lib.hid hB4
  clear hw4 hk3 hk4 hB4 c9 cl
  go_wp2_with fail
  try rw [HW4.out]
  go_loopw [6] (fun kv wr => ∃ k : Nat, k ≤ nh ∧ kv = .int .i64 k ∧ Hid (RqIs ⟨wb, rqF b⟩ wr b d (heldO a t k))) (fun k _ => nh - (intOf k).toNat)
  case atStart => exact ⟨0, by omega, rfl, HSELF.out _ HK4.out⟩
  case round =>
    obtain ⟨k, hk1, rfl, HA⟩ := hrel
    obtain ⟨⟨q1, q2⟩, HN⟩ := HH.out _ wr k HA.out
    by_cases hkl : k < nh
    · obtain ⟨g, hg, e2, e3, e4, e6⟩ := HN hkl
      rw [hg] at q1
      have hki : (k : Int) < (nh : Int) := by omega
      have hk0 : (0 : Int) ≤ (k : Int) := by omega
      by_cases hh : a.hl k = t
      · rw [if_pos hh] at e6
        have hb : (a.hl k == (t : Int)) = true := beq_iff_eq.2 hh
        have HA6 := Lib.hid e6
        rw [hh] at e2
        clear e6 hh HN hg
        go_wp2_with fail
        go_roundw
        case rel => exact ⟨k + 1, by omega, by go_num, HA6.out⟩
        case measure => simp [intOf]; omega
      · rw [if_neg hh] at e6
        have hb : (a.hl k == (t : Int)) = false := beq_eq_false_iff_ne.2 hh
        have HA6 := Lib.hid e6
        clear e6 hh HN hg
        generalize a.hl k = hv at *
        go_wp2_with fail
        go_roundw
        case rel => exact ⟨k + 1, by omega, by go_num, HA6.out⟩
        case measure => simp [intOf]; omega
    · obtain rfl : k = nh := by omega
      clear HN
      obtain ⟨⟨f9, f10, fl, fT⟩, f6, _⟩ := HT.out _ wr HA.out
      have HKB := Lib.hid HA.out.kept
      go_wp2_with fail
      obtain ⟨w6, hw6⟩ : ∃ w6 : World, w6 = wr := ⟨_, rfl⟩
      rw [← hw6] at HA HKB ⊢
      clear f9 f10 fl fT f6 q1 q2 hw6
      go_loopw [7, 8] (fun fv uv wr => ∃ u : Nat, u ≤ nT ∧ uv = .int .i64 u ∧ fv = .bool (lo || joinK a t pg u) ∧ Hid (Kept [] w6 wr)) (fun _ u _ => nT - (intOf u).toNat)
      case atStart => exact ⟨0, by omega, rfl, by rw [HJ0.out, Bool.or_false], Kept.refl _ _⟩
      case round =>
        obtain ⟨u, hu1, rfl, rfl, HK⟩ := hrel
        have HAr := Lib.hid (HA.out.old HK.out)
        obtain ⟨⟨f9, f10, fl, fT⟩, _, ⟨xs, fx⟩, ff, HA5⟩ := HT.out _ wr HAr.out
        by_cases hul : u < nT
        · obtain ⟨⟨r0, rl, rP⟩, hu2⟩ := HU.out _ wr HAr.out
          obtain ⟨p0, hrng⟩ := hu2 u hul
          obtain ⟨⟨g0, g1⟩, o1, o2⟩ := HRG.out u hul
          have hj := HJ.out u
          have hui : (u : Int) < (nT : Int) := by omega
          have hu0 : (0 : Int) ≤ (u : Int) := by omega
          have hidb := (HB4.out.kept (HKB.out.trans (HK.out.mono (by simp))) (HNI.out _ (by omega)))
          generalize (a.pl u).taken = tk at *
          generalize regA a u = rg at *
          obtain ⟨rs, rgn⟩ := rg
          generalize a.th u = x at *
          have HRNG := Lib.hid hrng
          have HIDB := Lib.hid hidb
          have HO := Lib.hid (And.intro o1 o2)
          obtain ⟨rr, hrr⟩ : ∃ rr : Nat, x.deed.r = rr := ⟨x.deed.r.toNat, by omega⟩
          rw [hrr, Int.toNat_natCast] at HO
          rw [hrr] at g0 g1
          generalize hjv : joinK a t pg u = jv at *
          have HJV := Lib.hid hj
          clear hrng hidb o1 o2 HA5 hu2 hj hjv
          go_upto_region 11 with (first | (refine wpList_load_mid rfl 79 _ rfl b.gT (u * 31) rfl (oneL x) _ HRNG.out Try.underlying79 rfl (by kernel_rfl) ?_) | (refine wpList_store_blk rfl 79 _ _ rfl wr.heap.size (oneL x).toArray rfl rfl 79 (oneL Th.zero).toArray (Blk.new wr 79 (oneL Th.zero).toArray) (by kernel_rfl) rfl (all_oneCell_toArray (oneL_one x)) ?_; intro W2 hB2 hK2; have HB2 := Lib.hid hB2; have HK2 := Lib.hid (((Kept.refl [] wr).alloc _).trans' hK2 (fun k hk => .inr (by simp at hk; omega))); clear hB2 hK2) | fail)
          (try dsimp only [Act.put])
          have HF11 : Hid (∀ W, Kept [] W2 W → (W.cell? ⟨b.g, 9, none⟩ = some (.pointer (some ⟨b.gr, 0, none⟩)) ∧ b.g < W.heap.size ∧ W.cell? ⟨b.gr, 0, none⟩ = some (.slice (some ⟨b.gP, 0, none⟩) nT nT) ∧ W.cell? ⟨b.gP, u, none⟩ = some (.bool tk)) ∧ (W.cell? ⟨wr.heap.size, 4, none⟩ = some (.int .i64 x.call) ∧ W.cell? ⟨wr.heap.size, 23, none⟩ = some (.int .i64 x.deed.op) ∧ W.cell? ⟨wr.heap.size, 26, none⟩ = some (.int .i64 rr) ∧ W.cell? ⟨wr.heap.size, 7 + rr * 2, none⟩ = some (.int .i64 rs) ∧ W.cell? ⟨wr.heap.size, 7 + rr * 2 + 1, none⟩ = some (.int .u32 rgn) ∧ wr.heap.size < W.heap.size) ∧ (W.cell? ⟨w3.heap.size, 0, none⟩ = some (.int .i64 t) ∧ W.cell? ⟨w3.heap.size, 1, none⟩ = some (.int .u32 pg) ∧ w3.heap.size < W.heap.size)) := fun W hk => by
            have hk2 := HK2.out.trans hk
            have e1 := HB2.out.kept hk (by simp)
            have e2 := HIDB.out.kept hk2 (by simp)
            refine ⟨⟨hk2.cell_some f9 (by simp), Nat.lt_of_lt_of_le fl hk2.size, hk2.cell_some r0 (by simp), hk2.cell_some p0 (by simp)⟩, ⟨e1.cell 4, e1.cell 23, ?_, ?_, ?_, e1.lt⟩, e2.cell 0, e2.cell 1, e2.lt⟩
            · rw [e1.cell 26, ← hrr]; rfl
            · rw [e1.cell, List.getElem?_toArray]; exact HO.out.1
            · rw [e1.cell, List.getElem?_toArray]; exact HO.out.2
          have HKX : Hid (∀ W, Kept [] W2 W → Kept [] w6 W) := fun W hk => HK.out.trans (HK2.out.trans hk)
          clear f9 f10 fl fT fx r0 rl rP p0 HRNG HIDB HO HB2 HK2 ff HAr HK hrr
          generalize x.call = zc at *
          generalize x.deed.op = zo at *
          cases tk with
          | false =>
            have HR : Hid (joinK a t pg (u + 1) = jv) := by show _ = _; rw [HJV.out]; simp
            clear HJV
            (refine wp_region_phases (n := 31) (listed := #[false, false, false, false, false, false, false, false, false, false, false, false, false, false, false, false, false, false, false, false, false, false, false, false, false, false, false, false, false, false, false]) (by kernel_rfl) (by rfl) (by rfl) ?_)
            (refine wpAny_phase (fun W => Kept [] W2 W) [(0, false), (1, false), (2, false), (3, false), (4, false), (5, false), (6, false), (7, false), (8, false), (9, false), (10, false), (11, false), (12, false), (13, false), (14, false), (15, false), (16, false), (17, false), (18, false), (19, false), (20, false), (21, false), (22, false), (23, false), (24, false), (25, false), (26, false), (27, false), (28, false), (29, false), (30, false)] (f := 0) (listed := #[false, false, false, false, false, false, false, false, false, false, false, false, false, false, false, false, false, false, false, false, false, false, false, false, false, false, false, false, false, false, false]) (listed' := #[true, true, true, true, true, true, true, true, true, true, true, true, true, true, true, true, true, true, true, true, true, true, true, true, true, true, true, true, true, true, true]) (by kernel_rfl) (by kernel_rfl) (by rfl) (Kept.refl [] _).drew (fun d _ _ _ _ h => by cases d <;> exact h) ?_)
            iterate 31 (first | (refine wpQL_take (v := ?_) rfl ?_ ?_ ?_; rotate_left; (focus (first | rfl | (go_simp; done))); (focus ((intro W hC; have hF := HF11.out W hC; go_simp); try (with_reducible rfl))); (try dsimp only [Act.put]); (try simp only [List.setIfInBounds_toArray, List.set_cons_zero, List.set_cons_succ])) | (refine wpQL_not rfl ?_ ?_; (focus (go_simp; done)); (try dsimp only [Act.put]); (try simp only [List.setIfInBounds_toArray, List.set_cons_zero, List.set_cons_succ])))
            (refine wpQL_nil ?_)
            (intro wq hq)
            (refine wpAny_done (by kernel_rfl) ?_ _)
            have HQ := Lib.hid hq
            clear hq
            go_wp2_with fail
            go_roundw
            case rel => exact ⟨u + 1, by omega, by go_num, by rw [HR.out], HKX.out _ HQ.out⟩
            case measure => simp [intOf]; omega
          | true =>
            by_cases g1 : zc = 3
            · by_cases g2 : zo = 4
              · subst g1
                subst g2
                by_cases g3 : rs = t ∧ rgn = pg
                · have HR : Hid (joinK a t pg (u + 1) = true) := by show _ = _; rw [HJV.out]; simp [g3]
                  obtain ⟨rfl, rfl⟩ := g3
                  clear HJV
                  (refine wp_region_phases (n := 31) (listed := #[false, false, false, false, false, false, false, false, false, false, false, false, false, false, false, false, false, false, false, false, false, false, false, false, false, false, false, false, false, false, false]) (by kernel_rfl) (by rfl) (by rfl) ?_)
                  (refine wpAny_phase (fun W => Kept [] W2 W) [(0, false), (1, false), (2, false), (3, false), (4, false), (5, false), (6, false), (7, false), (8, false), (9, false), (10, false), (11, false), (12, false), (13, false), (14, false), (15, false), (16, false), (17, false), (18, false), (19, false), (20, false), (21, false), (22, false), (23, false), (24, false), (25, false), (26, false), (27, false), (28, false), (29, false), (30, false)] (f := 0) (listed := #[false, false, false, false, false, false, false, false, false, false, false, false, false, false, false, false, false, false, false, false, false, false, false, false, false, false, false, false, false, false, false]) (listed' := #[true, true, true, true, true, true, true, true, true, true, true, true, true, true, true, true, true, true, true, true, true, true, true, true, true, true, true, true, true, true, true]) (by kernel_rfl) (by kernel_rfl) (by rfl) (Kept.refl [] _).drew (fun d _ _ _ _ h => by cases d <;> exact h) ?_)
                  iterate 31 (first | (refine wpQL_take (v := ?_) rfl ?_ ?_ ?_; rotate_left; (focus (first | rfl | (go_simp; done))); (focus ((intro W hC; have hF := HF11.out W hC; go_simp); try (with_reducible rfl))); (try dsimp only [Act.put]); (try simp only [List.setIfInBounds_toArray, List.set_cons_zero, List.set_cons_succ])) | (refine wpQL_not rfl ?_ ?_; (focus (go_simp; done)); (try dsimp only [Act.put]); (try simp only [List.setIfInBounds_toArray, List.set_cons_zero, List.set_cons_succ])))
                  (refine wpQL_nil ?_)
                  (intro wq hq)
                  (refine wpAny_done (by kernel_rfl) ?_ _)
                  have HQ := Lib.hid hq
                  clear hq
                  go_wp2_with fail
                  go_roundw
                  case rel => exact ⟨u + 1, by omega, by go_num, by rw [HR.out]; simp, HKX.out _ HQ.out⟩
                  case measure => simp [intOf]; omega
                · have HR : Hid (joinK a t pg (u + 1) = jv) := by
                    show _ = _
                    rw [HJV.out]
                    have : ((rs, rgn) == ((t : Int), pg)) = false := beq_eq_false_iff_ne.2 (fun hh => g3 ⟨congrArg Prod.fst hh, congrArg Prod.snd hh⟩)
                    rw [this]; simp
                  clear HJV
                  by_cases g4 : rs = t
                  · have g5 : rgn ≠ pg := fun hh => g3 ⟨g4, hh⟩
                    have g6 : ((rgn : Int) == (pg : Int)) = false := beq_eq_false_iff_ne.2 (fun hh => g5 (by omega))
                    subst g4
                    clear g3
                    (refine wp_region_phases (n := 31) (listed := #[false, false, false, false, false, false, false, false, false, false, false, false, false, false, false, false, false, false, false, false, false, false, false, false, false, false, false, false, false, false, false]) (by kernel_rfl) (by rfl) (by rfl) ?_)
                    (refine wpAny_phase (fun W => Kept [] W2 W) [(0, false), (1, false), (2, false), (3, false), (4, false), (5, false), (6, false), (7, false), (8, false), (9, false), (10, false), (11, false), (12, false), (13, false), (14, false), (15, false), (16, false), (17, false), (18, false), (19, false), (20, false), (21, false), (22, false), (23, false), (24, false), (25, false), (26, false), (27, false), (28, false), (29, false), (30, false)] (f := 0) (listed := #[false, false, false, false, false, false, false, false, false, false, false, false, false, false, false, false, false, false, false, false, false, false, false, false, false, false, false, false, false, false, false]) (listed' := #[true, true, true, true, true, true, true, true, true, true, true, true, true, true, true, true, true, true, true, true, true, true, true, true, true, true, true, true, true, true, true]) (by kernel_rfl) (by kernel_rfl) (by rfl) (Kept.refl [] _).drew (fun d _ _ _ _ h => by cases d <;> exact h) ?_)
                    iterate 31 (first | (refine wpQL_take (v := ?_) rfl ?_ ?_ ?_; rotate_left; (focus (first | rfl | (go_simp; done))); (focus ((intro W hC; have hF := HF11.out W hC; go_simp); try (with_reducible rfl))); (try dsimp only [Act.put]); (try simp only [List.setIfInBounds_toArray, List.set_cons_zero, List.set_cons_succ])) | (refine wpQL_not rfl ?_ ?_; (focus (go_simp; done)); (try dsimp only [Act.put]); (try simp only [List.setIfInBounds_toArray, List.set_cons_zero, List.set_cons_succ])))
                    (refine wpQL_nil ?_)
                    (intro wq hq)
                    (refine wpAny_done (by kernel_rfl) ?_ _)
                    have HQ := Lib.hid hq
                    clear hq
                    go_wp2_with fail
                    go_roundw
                    case rel => exact ⟨u + 1, by omega, by go_num, by rw [HR.out], HKX.out _ HQ.out⟩
                    case measure => simp [intOf]; omega
                  · have g6 : (rs == (t : Int)) = false := beq_eq_false_iff_ne.2 g4
                    clear g3 g4
                    (refine wp_region_phases (n := 31) (listed := #[false, false, false, false, false, false, false, false, false, false, false, false, false, false, false, false, false, false, false, false, false, false, false, false, false, false, false, false, false, false, false]) (by kernel_rfl) (by rfl) (by rfl) ?_)
                    (refine wpAny_phase (fun W => Kept [] W2 W) [(0, false), (1, false), (2, false), (3, false), (4, false), (5, false), (6, false), (7, false), (8, false), (9, false), (10, false), (11, false), (12, false), (13, false), (14, false), (15, false), (16, false), (17, false), (18, false), (19, false), (20, false), (21, false), (22, false), (23, false), (24, false), (25, false), (26, false), (27, false), (28, false), (29, false), (30, false)] (f := 0) (listed := #[false, false, false, false, false, false, false, false, false, false, false, false, false, false, false, false, false, false, false, false, false, false, false, false, false, false, false, false, false, false, false]) (listed' := #[true, true, true, true, true, true, true, true, true, true, true, true, true, true, true, true, true, true, true, true, true, true, true, true, true, true, true, true, true, true, true]) (by kernel_rfl) (by kernel_rfl) (by rfl) (Kept.refl [] _).drew (fun d _ _ _ _ h => by cases d <;> exact h) ?_)
                    iterate 31 (first | (refine wpQL_take (v := ?_) rfl ?_ ?_ ?_; rotate_left; (focus (first | rfl | (go_simp; done))); (focus ((intro W hC; have hF := HF11.out W hC; go_simp); try (with_reducible rfl))); (try dsimp only [Act.put]); (try simp only [List.setIfInBounds_toArray, List.set_cons_zero, List.set_cons_succ])) | (refine wpQL_not rfl ?_ ?_; (focus (go_simp; done)); (try dsimp only [Act.put]); (try simp only [List.setIfInBounds_toArray, List.set_cons_zero, List.set_cons_succ])))
                    (refine wpQL_nil ?_)
                    (intro wq hq)
                    (refine wpAny_done (by kernel_rfl) ?_ _)
                    have HQ := Lib.hid hq
                    clear hq
                    go_wp2_with fail
                    go_roundw
                    case rel => exact ⟨u + 1, by omega, by go_num, by rw [HR.out], HKX.out _ HQ.out⟩
                    case measure => simp [intOf]; omega
              · have f2 : (zo == 4) = false := beq_eq_false_iff_ne.2 g2
                have HR : Hid (joinK a t pg (u + 1) = jv) := by show _ = _; rw [HJV.out]; simp [g2]
                clear g2 HJV
                subst g1
                (refine wp_region_phases (n := 31) (listed := #[false, false, false, false, false, false, false, false, false, false, false, false, false, false, false, false, false, false, false, false, false, false, false, false, false, false, false, false, false, false, false]) (by kernel_rfl) (by rfl) (by rfl) ?_)
                (refine wpAny_phase (fun W => Kept [] W2 W) [(0, false), (1, false), (2, false), (3, false), (4, false), (5, false), (6, false), (7, false), (8, false), (9, false), (10, false), (11, false), (12, false), (13, false), (14, false), (15, false), (16, false), (17, false), (18, false), (19, false), (20, false), (21, false), (22, false), (23, false), (24, false), (25, false), (26, false), (27, false), (28, false), (29, false), (30, false)] (f := 0) (listed := #[false, false, false, false, false, false, false, false, false, false, false, false, false, false, false, false, false, false, false, false, false, false, false, false, false, false, false, false, false, false, false]) (listed' := #[true, true, true, true, true, true, true, true, true, true, true, true, true, true, true, true, true, true, true, true, true, true, true, true, true, true, true, true, true, true, true]) (by kernel_rfl) (by kernel_rfl) (by rfl) (Kept.refl [] _).drew (fun d _ _ _ _ h => by cases d <;> exact h) ?_)
                iterate 31 (first | (refine wpQL_take (v := ?_) rfl ?_ ?_ ?_; rotate_left; (focus (first | rfl | (go_simp; done))); (focus ((intro W hC; have hF := HF11.out W hC; go_simp); try (with_reducible rfl))); (try dsimp only [Act.put]); (try simp only [List.setIfInBounds_toArray, List.set_cons_zero, List.set_cons_succ])) | (refine wpQL_not rfl ?_ ?_; (focus (go_simp; done)); (try dsimp only [Act.put]); (try simp only [List.setIfInBounds_toArray, List.set_cons_zero, List.set_cons_succ])))
                (refine wpQL_nil ?_)
                (intro wq hq)
                (refine wpAny_done (by kernel_rfl) ?_ _)
                have HQ := Lib.hid hq
                clear hq
                go_wp2_with fail
                go_roundw
                case rel => exact ⟨u + 1, by omega, by go_num, by rw [HR.out], HKX.out _ HQ.out⟩
                case measure => simp [intOf]; omega
            · have f1 : (zc == 3) = false := beq_eq_false_iff_ne.2 g1
              have HR : Hid (joinK a t pg (u + 1) = jv) := by show _ = _; rw [HJV.out]; simp [g1]
              clear g1 HJV
              (refine wp_region_phases (n := 31) (listed := #[false, false, false, false, false, false, false, false, false, false, false, false, false, false, false, false, false, false, false, false, false, false, false, false, false, false, false, false, false, false, false]) (by kernel_rfl) (by rfl) (by rfl) ?_)
              (refine wpAny_phase (fun W => Kept [] W2 W) [(0, false), (1, false), (2, false), (3, false), (4, false), (5, false), (6, false), (7, false), (8, false), (9, false), (10, false), (11, false), (12, false), (13, false), (14, false), (15, false), (16, false), (17, false), (18, false), (19, false), (20, false), (21, false), (22, false), (23, false), (24, false), (25, false), (26, false), (27, false), (28, false), (29, false), (30, false)] (f := 0) (listed := #[false, false, false, false, false, false, false, false, false, false, false, false, false, false, false, false, false, false, false, false, false, false, false, false, false, false, false, false, false, false, false]) (listed' := #[true, true, true, true, true, true, true, true, true, true, true, true, true, true, true, true, true, true, true, true, true, true, true, true, true, true, true, true, true, true, true]) (by kernel_rfl) (by kernel_rfl) (by rfl) (Kept.refl [] _).drew (fun d _ _ _ _ h => by cases d <;> exact h) ?_)
              iterate 31 (first | (refine wpQL_take (v := ?_) rfl ?_ ?_ ?_; rotate_left; (focus (first | rfl | (go_simp; done))); (focus ((intro W hC; have hF := HF11.out W hC; go_simp); try (with_reducible rfl))); (try dsimp only [Act.put]); (try simp only [List.setIfInBounds_toArray, List.set_cons_zero, List.set_cons_succ])) | (refine wpQL_not rfl ?_ ?_; (focus (go_simp; done)); (try dsimp only [Act.put]); (try simp only [List.setIfInBounds_toArray, List.set_cons_zero, List.set_cons_succ])))
              (refine wpQL_nil ?_)
              (intro wq hq)
              (refine wpAny_done (by kernel_rfl) ?_ _)
              have HQ := Lib.hid hq
              clear hq
              go_wp2_with fail
              go_roundw
              case rel => exact ⟨u + 1, by omega, by go_num, by rw [HR.out], HKX.out _ HQ.out⟩
              case measure => simp [intOf]; omega
        · obtain rfl : u = nT := by omega
          obtain ⟨q, hqq⟩ : ∃ q, (lo || joinK a t pg u) = q := ⟨_, rfl⟩
          have HVR := Lib.hid HV.out
          rw [hqq] at HVR ⊢
          have HA6 := Lib.hid HA5
          obtain ⟨w7, hw7⟩ : ∃ w7, wr.setCell ⟨b.gT, t * 31 + 2, none⟩ (.int .i64 5) = w7 := ⟨_, rfl⟩
          rw [hw7] at HA6
          have HW7 := Lib.hid hw7
          clear HA5 hqq hw7
          cases q with
          | false =>
            rw [if_neg (by simp)] at HVR
            go_wp2_with fail
            go_end0
            exact ⟨rfl, by rw [HVR.out, HW7.out]; exact HEND.out _ _ _ HK4.out HA6.out⟩
          | true =>
            rw [if_pos rfl] at HVR
            have HF15 : Hid (∀ W, Kept [] w7 W → (W.cell? ⟨b.g, 9, none⟩ = some (.pointer (some ⟨b.gr, 0, none⟩)) ∧ b.g < W.heap.size) ∧ (W.cell? ⟨w3.heap.size, 0, none⟩ = some (.int .i64 t) ∧ W.cell? ⟨w3.heap.size, 1, none⟩ = some (.int .u32 pg) ∧ w3.heap.size < W.heap.size)) := fun W hk => by
              have e0 := HA6.out.old hk
              have e1 := RqAt.cells e0.at_
              have e2 := HB4.out.kept e0.kept (HNI.out _ (by omega))
              exact ⟨⟨e1.2.2.2.1, e1.2.2.2.2.2.2⟩, e2.cell 0, e2.cell 1, e2.lt⟩
            have HFR2 : Hid (∀ W, Kept [] w7 W → Calls Try.prog 47 #[.pointer (some ⟨b.gr, 0, none⟩), .agg #[.int .i64 t, .int .u32 pg]] W fun y w' => y = .returned (.bool true) ∧ RqIs ⟨wb, rqF b⟩ w' b d a6) := fun W hk => HFR.out _ W (HA6.out.old hk)
            go_upto_region 15 with fail
            rw [HW7.out]
            (refine wp_region_phases (n := 6) (listed := #[false, false, false, false, false, false]) (by kernel_rfl) (by rfl) (by rfl) ?_)
            (refine wpAny_phase (fun W => Kept [] w7 W) [(0, false), (1, false), (2, false), (3, false), (4, false)] (f := 1) (listed := #[false, false, false, false, false, false]) (listed' := #[true, true, true, true, true, false]) (by kernel_rfl) (by kernel_rfl) (by rfl) (Kept.refl [] _).drew (fun d _ _ _ _ h => by cases d <;> exact h) ?_)
            iterate 5 (refine wpQL_take (v := ?_) rfl (by rfl) ?_ ?_; rotate_left; (focus ((intro W hC; have hF := HF15.out W hC; go_simp); try (with_reducible rfl))); (try dsimp only [Act.put]); (try simp only [List.setIfInBounds_toArray, List.set_cons_zero, List.set_cons_succ]))
            (refine wpQL_nil ?_)
            (intro wq hq)
            (refine wpAny_loud 5 (fuel := 0) (listed := #[true, true, true, true, true, false]) (listed' := #[true, true, true, true, true, true]) (by kernel_rfl) (by rfl) nth_5 (fun K hK => ?_))
            go_simp
            refine (HFR2.out _ hq).mono ?_
            rintro y w8 ⟨rfl, hA8⟩
            have HA8 := Lib.hid hA8
            clear hA8
            (refine hK.out _ _ ?_; clear hK K)
            (try simp only [Act.put, List.setIfInBounds_toArray, List.set_cons_zero, List.set_cons_succ])
            (refine wpAny_done (by kernel_rfl) ?_ _)
            go_wp2_with fail
            go_end0
            exact ⟨rfl, by rw [HVR.out]; exact HEND.out _ _ _ HK4.out HA8.out⟩

end Go.Proofs.Ytccodklfplfleaa
