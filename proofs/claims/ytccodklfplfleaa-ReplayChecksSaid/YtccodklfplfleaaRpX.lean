/- Package replay: waits, walked. -/
import Derived.Test.YtccodklfplfleaaRpS
namespace Go.Proofs.Ytccodklfplfleaa
open Go.RowKit

theorem stepA_wait {d : Du} {a : Acc} {e : Ev} (hk : e.kind = 9) : stepA d a e = if runsA a e = false then none else if (a.th e.slot.toNat).call = 2 ∧ (a.th e.slot.toNat).code = 0 ∧ wantA a e.slot.toNat ≠ 0 ∧ wantA a e.slot.toNat = e.n then some (a.setT e.slot.toNat { a.th e.slot.toNat with state := 4, call := 3 }) else none := by
  unfold stepA stepB
  rw [if_neg (by omega), if_neg (by omega), if_neg (by omega), if_neg (by omega)]
  by_cases h : runsA a e = false
  · rw [if_pos h, if_pos h]
  · rw [if_neg h, if_neg h, if_neg (by omega), if_neg (by omega), if_pos hk]

set_option maxHeartbeats 6400000 in
set_option maxRecDepth 100000 in
theorem rpwaits_h : HandlesU 64 9 := by
  intro w0 w b d a K h hw hd hu hfit e hk hg
  have hs := stepA_wait (d := d) (a := a) hk
  obtain ⟨wb, hwb⟩ : ∃ wb, w.alloc (.cells (eC e.step e.cpu e.kind e.slot e.gen e.op e.code e.n) 55) = wb := ⟨_, rfl⟩
  have h0 : Kept [] w wb := by rw [← hwb]; exact (Kept.refl _ _).alloc _
  have HRU := Lib.hid (rpruns_any (AccAt.old h.at' h0) hw e)
  have HEV := Lib.hid (ev_box hwb)
  have hev := HEV.out wb (Kept.refl _ _)
  have HFIN : Hid (∀ W, Kept [] wb W → AccIs w0 W b d a K) := fun W hk => h.old (h0.trans hk)
  cases hr : runsA a e with
  | false =>
    rw [hr, if_neg (by simp)] at HRU
    rw [hr, if_pos rfl] at hs
    obtain ⟨v1, v2⟩ := step_no hs
    rw [v1, v2]
    clear h hw hd hs h0 hk hg hr v1 v2 hu hfit
    go_enter Try.func64, Try.ntmps64
    go_wp2_with fail
    try rw [hwb]
    go_wp2_with fail
    refine (HRU.out).mono ?_
    rintro x w1 ⟨rfl, hk1⟩
    have HK1 := Lib.hid hk1
    clear hk1
    go_wp2_with fail
    go_ret
    exact ⟨rfl, HFIN.out _ HK1.out⟩
  | true =>
    rw [hr, if_pos rfl] at HRU
    rw [hr, if_neg (by simp)] at hs
    obtain ⟨p0, p1, p2, p3⟩ := hasA_lt (runsA_has hr)
    have ht : e.slot.toNat < a.T.length := by rw [hw.tl]; exact p1
    have hx := hw.at_ ht
    obtain ⟨r, hrr⟩ : ∃ r : Nat, (a.th e.slot.toNat).deed.r = r := ⟨(a.th e.slot.toNat).deed.r.toNat, by have := hx.deed; omega⟩
    have hr8 : r < 8 := by have := hx.deed; omega
    have hreg : regA a e.slot.toNat = (a.th e.slot.toNat).regs.getD r (0, 0) := by unfold regA; rw [hrr, Int.toNat_natCast]
    have HF : Hid (∀ W, Kept [] wb W → W.cell? ⟨gT b, e.slot.toNat * 31 + 22, none⟩ = some (.int .i64 (a.th e.slot.toNat).call) ∧ W.cell? ⟨gT b, e.slot.toNat * 31 + 30, none⟩ = some (.int .i64 (a.th e.slot.toNat).code) ∧ W.cell? ⟨gT b, e.slot.toNat * 31 + 23, none⟩ = some (.int .i64 (a.th e.slot.toNat).deed.op) ∧ W.cell? ⟨gT b, e.slot.toNat * 31 + 24, none⟩ = some (.int .i64 (a.th e.slot.toNat).deed.a) ∧ W.cell? ⟨gT b, e.slot.toNat * 31 + 25, none⟩ = some (.int .i64 (a.th e.slot.toNat).deed.b) ∧ W.cell? ⟨gT b, e.slot.toNat * 31 + 26, none⟩ = some (.int .i64 (a.th e.slot.toNat).deed.r) ∧ W.cell? ⟨gT b, e.slot.toNat * 31 + 27, none⟩ = some (.int .u64 (a.th e.slot.toNat).deed.n) ∧ W.cell? ⟨gT b, e.slot.toNat * 31 + 28, none⟩ = some (.int .u64 (a.th e.slot.toNat).deed.mask) ∧ W.cell? ⟨gT b, e.slot.toNat * 31 + 29, none⟩ = some (.bool (a.th e.slot.toNat).deed.loose) ∧ gT b < W.heap.size) := fun W hk => by
      have h1 := AccAt.old h.at' (h0.trans hk)
      have k8 := AccAt.tf h1 ht
      obtain ⟨k1, k2, k3, k4, k5, k6, k7⟩ := AccAt.df h1 ht
      exact ⟨k8.2.1, k8.2.2.1, k1, k2, k3, k4, k5, k6, k7, k8.2.2.2⟩
    have HST : Hid (∀ W, Kept [] wb W → ((∃ v, W.cell? ⟨gT b, e.slot.toNat * 31 + 2, none⟩ = some v) ∧ (∃ v, W.cell? ⟨gT b, e.slot.toNat * 31 + 22, none⟩ = some v) ∧ (∀ j, W.frozen? ⟨gT b, j, none⟩ = false) ∧ gT b < W.heap.size) ∧ AccIs w0 (((W.setCell ⟨gT b, e.slot.toNat * 31 + 2, none⟩ (.int .i64 4)).setCell ⟨gT b, e.slot.toNat * 31 + 22, none⟩ (.int .i64 3))) b d (a.setT e.slot.toNat { a.th e.slot.toNat with state := 4, call := 3 }) K) := fun W hk => by
      have h1 := h.old (h0.trans hk)
      have k8 := AccAt.tf h1.at' ht
      exact ⟨⟨⟨_, k8.1.2.2.1⟩, ⟨_, k8.2.1⟩, AccAt.frz h1.at' ht, k8.2.2.2⟩, h1.sts ht [(2, .int .i64 4), (22, .int .i64 3)] (by simp) { a.th e.slot.toNat with state := 4, call := 3 } (by rfl)⟩
    unfold tA at HRU
    by_cases hc : (a.th e.slot.toNat).call = 2
    · by_cases hz0 : (a.th e.slot.toNat).code = 0
      · have hwd : wantA a e.slot.toNat = if (a.th e.slot.toNat).deed.op = 6 then (if 0 < (a.th e.slot.toNat).deed.n then 3 else 0) else if (a.th e.slot.toNat).deed.op = 9 then 4 else if (a.th e.slot.toNat).deed.op = 10 then (if 0 < (a.th e.slot.toNat).deed.n then 4 else 0) else if (a.th e.slot.toNat).deed.op = 4 then (if isA a e.slot.toNat && !overA a e.slot.toNat then 5 else 0) else 0 := rfl
        have HTG := Lib.hid (fun W (hk : Kept [] wb W) => rptarget_any (AccAt.old h.at' (h0.trans hk)) hw ht (a.th e.slot.toNat).deed hrr hr8)
        rw [← hreg] at HTG
        have HSTA : Hid (isA a e.slot.toNat = true → ∀ W, Kept [] wb W → W.cell? ⟨gT b, (regA a e.slot.toNat).1.toNat * 31 + 2, none⟩ = some (.int .i64 (a.th (regA a e.slot.toNat).1.toNat).state) ∧ gT b < W.heap.size) := fun hi W hk => by
          obtain ⟨_, p1, _⟩ := hasA_lt hi
          have h2 := AccAt.tf (AccAt.old h.at' (h0.trans hk)) (k := (regA a e.slot.toNat).1.toNat) (by rw [hw.tl]; exact p1)
          exact ⟨h2.1.2.2.1, h2.2.2.2⟩
        have hov : overA a e.slot.toNat = (isA a e.slot.toNat && decide ((a.th (regA a e.slot.toNat).1.toNat).state = 5)) := rfl
        have his : isA a e.slot.toNat = hasA a (regA a e.slot.toNat).1 (regA a e.slot.toNat).2 := rfl
        have HW0 : Hid (wantA a e.slot.toNat = 0 → (stepA d a e).isSome = false ∧ (stepA d a e).getD a = a) := fun hn => by
          rw [if_neg (by rw [hn]; simp)] at hs
          exact step_no hs
        have HWN : Hid (wantA a e.slot.toNat ≠ e.n → (stepA d a e).isSome = false ∧ (stepA d a e).getD a = a) := fun hn => by
          rw [if_neg (by simp [hn])] at hs
          exact step_no hs
        have HWY : Hid (wantA a e.slot.toNat ≠ 0 → wantA a e.slot.toNat = e.n → (stepA d a e).isSome = true ∧ (stepA d a e).getD a = a.setT e.slot.toNat { a.th e.slot.toNat with state := 4, call := 3 }) := fun hn hy => by
          rw [if_pos ⟨hc, hz0, hn, hy⟩] at hs
          exact step_yes hs
        rw [hc, hz0] at HF
        generalize a.setT e.slot.toNat { a.th e.slot.toNat with state := 4, call := 3 } = a1 at *
        generalize (stepA d a e).getD a = aR at *
        generalize (stepA d a e).isSome = bR at *
        generalize (regA a e.slot.toNat) = rg at *
        generalize (a.th rg.1.toNat).state = zs at *
        generalize overA a e.slot.toNat = ov at *
        generalize isA a e.slot.toNat = is at *
        generalize wantA a e.slot.toNat = wn at *
        generalize hdd : (a.th e.slot.toNat).deed = x at *
        obtain ⟨xo, xa, xb, xr, xn, xm, xl⟩ := x
        simp only at *
        generalize e.slot.toNat = t at *
        clear h hw hd hs h0 hk hg hr hu hfit p0 p1 p2 p3 ht hx hc hz0 hreg hr8 hdd
        subst hrr
        rcases (by omega : xo = 6 ∨ xo = 9 ∨ xo = 10 ∨ xo = 4 ∨ (xo ≠ 6 ∧ xo ≠ 9 ∧ xo ≠ 10 ∧ xo ≠ 4)) with rfl | rfl | rfl | rfl | ⟨o6, o9, o10, o4⟩
        · by_cases hn : 0 < xn
          · have hn1 : (0 : Int) < (xn : Int) := by omega
            have hw0 : wn = 3 := by rw [hwd]; simp [*]
            by_cases hen : e.n = 3
            · obtain ⟨v1, v2⟩ := HWY.out (by omega) (by omega)
              rw [v1, v2]
              have HEN := Lib.hid hen
              clear v1 v2 hw0 hwd hen
              go_enter Try.func64, Try.ntmps64
              go_wp2_with fail
              try rw [hwb]
              go_wp2_with fail
              refine (HRU.out).mono ?_
              rintro x w1 ⟨rfl, hk1⟩
              have hf := HF.out _ hk1
              have h5 : Kept [] wb (w1.alloc (.cells (ddC ⟨6, xa, xb, (r : Int), xn, xm, xl⟩) 47)) := hk1.alloc _
              have hev5 := HEV.out _ h5
              have H5 := Lib.hid h5
              obtain ⟨⟨⟨y2, d2⟩, ⟨y22, d22⟩, df, dg⟩, hA1⟩ := HST.out _ hk1
              have HA5 := Lib.hid (fun ob => hA1.old ((Kept.refl _ _).alloc ob))
              clear hA1
              clear hk1
              rw [HEN.out] at hev5
              clear h5
              go_wp2_with fail
              go_ret
              exact ⟨rfl, HA5.out _⟩
            · obtain ⟨v1, v2⟩ := HWN.out (by omega)
              rw [v1, v2]
              have hen1 : ((e.n : Int) != 3) = true := bne_iff_ne.2 (by omega)
              have hen2 : ¬ (e.n : Int) = 3 := by omega
              have hen4 : (e.n != 3) = true := bne_iff_ne.2 hen
              clear v1 v2 hw0 hwd HST
              go_enter Try.func64, Try.ntmps64
              go_wp2_with fail
              try rw [hwb]
              go_wp2_with fail
              refine (HRU.out).mono ?_
              rintro x w1 ⟨rfl, hk1⟩
              have hf := HF.out _ hk1
              have h5 : Kept [] wb (w1.alloc (.cells (ddC ⟨6, xa, xb, (r : Int), xn, xm, xl⟩) 47)) := hk1.alloc _
              have hev5 := HEV.out _ h5
              have H5 := Lib.hid h5
              clear hk1
              go_wp2_with fail
              go_ret
              exact ⟨rfl, HFIN.out _ H5.out⟩
          · obtain rfl : xn = 0 := by omega
            have hw0 : wn = 0 := by rw [hwd]; simp [*]
            obtain ⟨v1, v2⟩ := HW0.out hw0
            rw [v1, v2]
            clear v1 v2 hw0 hwd HST
            go_enter Try.func64, Try.ntmps64
            go_wp2_with fail
            try rw [hwb]
            go_wp2_with fail
            refine (HRU.out).mono ?_
            rintro x w1 ⟨rfl, hk1⟩
            have hf := HF.out _ hk1
            have h5 : Kept [] wb (w1.alloc (.cells (ddC ⟨6, xa, xb, (r : Int), 0, xm, xl⟩) 47)) := hk1.alloc _
            have hev5 := HEV.out _ h5
            have H5 := Lib.hid h5
            clear hk1
            go_wp2_with fail
            go_ret
            exact ⟨rfl, HFIN.out _ H5.out⟩
        · have hw0 : wn = 4 := by rw [hwd]; simp [*]
          by_cases hen : e.n = 4
          · obtain ⟨v1, v2⟩ := HWY.out (by omega) (by omega)
            rw [v1, v2]
            have HEN := Lib.hid hen
            clear v1 v2 hw0 hwd hen
            go_enter Try.func64, Try.ntmps64
            go_wp2_with fail
            try rw [hwb]
            go_wp2_with fail
            refine (HRU.out).mono ?_
            rintro x w1 ⟨rfl, hk1⟩
            have hf := HF.out _ hk1
            have h5 : Kept [] wb (w1.alloc (.cells (ddC ⟨9, xa, xb, (r : Int), xn, xm, xl⟩) 47)) := hk1.alloc _
            have hev5 := HEV.out _ h5
            have H5 := Lib.hid h5
            obtain ⟨⟨⟨y2, d2⟩, ⟨y22, d22⟩, df, dg⟩, hA1⟩ := HST.out _ hk1
            have HA5 := Lib.hid (fun ob => hA1.old ((Kept.refl _ _).alloc ob))
            clear hA1
            clear hk1
            rw [HEN.out] at hev5
            clear h5
            go_wp2_with fail
            go_ret
            exact ⟨rfl, HA5.out _⟩
          · obtain ⟨v1, v2⟩ := HWN.out (by omega)
            rw [v1, v2]
            have hen1 : ((e.n : Int) != 4) = true := bne_iff_ne.2 (by omega)
            have hen2 : ¬ (e.n : Int) = 4 := by omega
            have hen4 : (e.n != 4) = true := bne_iff_ne.2 hen
            clear v1 v2 hw0 hwd HST
            go_enter Try.func64, Try.ntmps64
            go_wp2_with fail
            try rw [hwb]
            go_wp2_with fail
            refine (HRU.out).mono ?_
            rintro x w1 ⟨rfl, hk1⟩
            have hf := HF.out _ hk1
            have h5 : Kept [] wb (w1.alloc (.cells (ddC ⟨9, xa, xb, (r : Int), xn, xm, xl⟩) 47)) := hk1.alloc _
            have hev5 := HEV.out _ h5
            have H5 := Lib.hid h5
            clear hk1
            go_wp2_with fail
            go_ret
            exact ⟨rfl, HFIN.out _ H5.out⟩
        · by_cases hn : 0 < xn
          · have hn1 : (0 : Int) < (xn : Int) := by omega
            have hw0 : wn = 4 := by rw [hwd]; simp [*]
            by_cases hen : e.n = 4
            · obtain ⟨v1, v2⟩ := HWY.out (by omega) (by omega)
              rw [v1, v2]
              have HEN := Lib.hid hen
              clear v1 v2 hw0 hwd hen
              go_enter Try.func64, Try.ntmps64
              go_wp2_with fail
              try rw [hwb]
              go_wp2_with fail
              refine (HRU.out).mono ?_
              rintro x w1 ⟨rfl, hk1⟩
              have hf := HF.out _ hk1
              have h5 : Kept [] wb (w1.alloc (.cells (ddC ⟨10, xa, xb, (r : Int), xn, xm, xl⟩) 47)) := hk1.alloc _
              have hev5 := HEV.out _ h5
              have H5 := Lib.hid h5
              obtain ⟨⟨⟨y2, d2⟩, ⟨y22, d22⟩, df, dg⟩, hA1⟩ := HST.out _ hk1
              have HA5 := Lib.hid (fun ob => hA1.old ((Kept.refl _ _).alloc ob))
              clear hA1
              clear hk1
              rw [HEN.out] at hev5
              clear h5
              go_wp2_with fail
              go_ret
              exact ⟨rfl, HA5.out _⟩
            · obtain ⟨v1, v2⟩ := HWN.out (by omega)
              rw [v1, v2]
              have hen1 : ((e.n : Int) != 4) = true := bne_iff_ne.2 (by omega)
              have hen2 : ¬ (e.n : Int) = 4 := by omega
              have hen4 : (e.n != 4) = true := bne_iff_ne.2 hen
              clear v1 v2 hw0 hwd HST
              go_enter Try.func64, Try.ntmps64
              go_wp2_with fail
              try rw [hwb]
              go_wp2_with fail
              refine (HRU.out).mono ?_
              rintro x w1 ⟨rfl, hk1⟩
              have hf := HF.out _ hk1
              have h5 : Kept [] wb (w1.alloc (.cells (ddC ⟨10, xa, xb, (r : Int), xn, xm, xl⟩) 47)) := hk1.alloc _
              have hev5 := HEV.out _ h5
              have H5 := Lib.hid h5
              clear hk1
              go_wp2_with fail
              go_ret
              exact ⟨rfl, HFIN.out _ H5.out⟩
          · obtain rfl : xn = 0 := by omega
            have hw0 : wn = 0 := by rw [hwd]; simp [*]
            obtain ⟨v1, v2⟩ := HW0.out hw0
            rw [v1, v2]
            clear v1 v2 hw0 hwd HST
            go_enter Try.func64, Try.ntmps64
            go_wp2_with fail
            try rw [hwb]
            go_wp2_with fail
            refine (HRU.out).mono ?_
            rintro x w1 ⟨rfl, hk1⟩
            have hf := HF.out _ hk1
            have h5 : Kept [] wb (w1.alloc (.cells (ddC ⟨10, xa, xb, (r : Int), 0, xm, xl⟩) 47)) := hk1.alloc _
            have hev5 := HEV.out _ h5
            have H5 := Lib.hid h5
            clear hk1
            go_wp2_with fail
            go_ret
            exact ⟨rfl, HFIN.out _ H5.out⟩
        · cases hi : hasA a rg.1 rg.2 with
          | false =>
            rw [tgA_not hi] at HTG
            rw [hi] at his
            subst his
            clear hi HSTA
            have hw0 : wn = 0 := by rw [hwd]; simp [*]
            obtain ⟨v1, v2⟩ := HW0.out hw0
            rw [v1, v2]
            clear v1 v2 hw0 hwd HST
            go_enter Try.func64, Try.ntmps64
            go_wp2_with fail
            try rw [hwb]
            go_wp2_with fail
            refine (HRU.out).mono ?_
            rintro x w1 ⟨rfl, hk1⟩
            have hf := HF.out _ hk1
            have h5 : Kept [] wb (w1.alloc (.cells (ddC ⟨4, xa, xb, (r : Int), xn, xm, xl⟩) 47)) := hk1.alloc _
            have hev5 := HEV.out _ h5
            have H5 := Lib.hid h5
            clear hk1
            have HT5 := Lib.hid (HTG.out _ h5)
            go_wp2_with fail
            refine (HT5.out).mono ?_
            rintro y w6 ⟨rfl, hk6⟩
            have h6 := h5.trans hk6
            have hev5 := HEV.out _ h6
            have h5 := h6
            have H5 := Lib.hid h6
            clear hk6
            go_wp2_with fail
            go_ret
            exact ⟨rfl, HFIN.out _ H5.out⟩
          | true =>
            rw [tgA_of hi] at HTG
            unfold tA at HTG
            rw [hi] at his
            subst his
            rw [Bool.true_and] at hov
            clear hi
            by_cases hz : zs = 5
            · rw [decide_eq_true hz] at hov
              subst hov
              rw [hz] at HSTA
              clear hz
              have hw0 : wn = 0 := by rw [hwd]; simp [*]
              obtain ⟨v1, v2⟩ := HW0.out hw0
              rw [v1, v2]
              clear v1 v2 hw0 hwd HST
              go_enter Try.func64, Try.ntmps64
              go_wp2_with fail
              try rw [hwb]
              go_wp2_with fail
              refine (HRU.out).mono ?_
              rintro x w1 ⟨rfl, hk1⟩
              have hf := HF.out _ hk1
              have h5 : Kept [] wb (w1.alloc (.cells (ddC ⟨4, xa, xb, (r : Int), xn, xm, xl⟩) 47)) := hk1.alloc _
              have hev5 := HEV.out _ h5
              have H5 := Lib.hid h5
              clear hk1
              have HT5 := Lib.hid (HTG.out _ h5)
              go_wp2_with fail
              refine (HT5.out).mono ?_
              rintro y w6 ⟨rfl, hk6⟩
              have h6 := h5.trans hk6
              have hev5 := HEV.out _ h6
              have h5 := h6
              have H5 := Lib.hid h6
              clear hk6
              have hst := HSTA.out (by trivial) _ H5.out
              go_wp2_with fail
              go_ret
              exact ⟨rfl, HFIN.out _ H5.out⟩
            · rw [decide_eq_false hz] at hov
              subst hov
              have hz1 : (zs != 5) = true := bne_iff_ne.2 hz
              clear hz
              have hw0 : wn = 5 := by rw [hwd]; simp [*]
              by_cases hen : e.n = 5
              · obtain ⟨v1, v2⟩ := HWY.out (by omega) (by omega)
                rw [v1, v2]
                have HEN := Lib.hid hen
                clear v1 v2 hw0 hwd hen
                go_enter Try.func64, Try.ntmps64
                go_wp2_with fail
                try rw [hwb]
                go_wp2_with fail
                refine (HRU.out).mono ?_
                rintro x w1 ⟨rfl, hk1⟩
                have hf := HF.out _ hk1
                have h5 : Kept [] wb (w1.alloc (.cells (ddC ⟨4, xa, xb, (r : Int), xn, xm, xl⟩) 47)) := hk1.alloc _
                have hev5 := HEV.out _ h5
                have H5 := Lib.hid h5
                clear hk1
                have HT5 := Lib.hid (HTG.out _ h5)
                go_wp2_with fail
                refine (HT5.out).mono ?_
                rintro y w6 ⟨rfl, hk6⟩
                have h6 := h5.trans hk6
                have hev5 := HEV.out _ h6
                have h5 := h6
                have H5 := Lib.hid h6
                clear hk6
                have hst := HSTA.out (by trivial) _ H5.out
                rw [HEN.out] at hev5
                obtain ⟨⟨⟨x2, c2⟩, ⟨x22, c22⟩, cf, cg⟩, hA5⟩ := HST.out _ h5
                have HA5 := Lib.hid hA5
                clear hA5 h5
                go_wp2_with fail
                go_ret
                exact ⟨rfl, HA5.out⟩
              · obtain ⟨v1, v2⟩ := HWN.out (by omega)
                rw [v1, v2]
                have hen1 : ((e.n : Int) != 5) = true := bne_iff_ne.2 (by omega)
                have hen2 : ¬ (e.n : Int) = 5 := by omega
                have hen4 : (e.n != 5) = true := bne_iff_ne.2 hen
                clear v1 v2 hw0 hwd HST
                go_enter Try.func64, Try.ntmps64
                go_wp2_with fail
                try rw [hwb]
                go_wp2_with fail
                refine (HRU.out).mono ?_
                rintro x w1 ⟨rfl, hk1⟩
                have hf := HF.out _ hk1
                have h5 : Kept [] wb (w1.alloc (.cells (ddC ⟨4, xa, xb, (r : Int), xn, xm, xl⟩) 47)) := hk1.alloc _
                have hev5 := HEV.out _ h5
                have H5 := Lib.hid h5
                clear hk1
                have HT5 := Lib.hid (HTG.out _ h5)
                go_wp2_with fail
                refine (HT5.out).mono ?_
                rintro y w6 ⟨rfl, hk6⟩
                have h6 := h5.trans hk6
                have hev5 := HEV.out _ h6
                have h5 := h6
                have H5 := Lib.hid h6
                clear hk6
                have hst := HSTA.out (by trivial) _ H5.out
                go_wp2_with fail
                go_ret
                exact ⟨rfl, HFIN.out _ H5.out⟩
        · have e6 : (xo == 6) = false := beq_eq_false_iff_ne.2 o6
          have e9 : (xo == 9) = false := beq_eq_false_iff_ne.2 o9
          have e10 : (xo == 10) = false := beq_eq_false_iff_ne.2 o10
          have e4 : (xo == 4) = false := beq_eq_false_iff_ne.2 o4
          have hw0 : wn = 0 := by rw [hwd]; simp [*]
          obtain ⟨v1, v2⟩ := HW0.out hw0
          rw [v1, v2]
          clear v1 v2 hw0 hwd HST
          clear o6 o9 o10 o4
          go_enter Try.func64, Try.ntmps64
          go_wp2_with fail
          try rw [hwb]
          go_wp2_with fail
          refine (HRU.out).mono ?_
          rintro x w1 ⟨rfl, hk1⟩
          have hf := HF.out _ hk1
          have h5 : Kept [] wb (w1.alloc (.cells (ddC ⟨xo, xa, xb, (r : Int), xn, xm, xl⟩) 47)) := hk1.alloc _
          have hev5 := HEV.out _ h5
          have H5 := Lib.hid h5
          clear hk1
          go_wp2_with fail
          go_ret
          exact ⟨rfl, HFIN.out _ H5.out⟩
      · rw [if_neg (by simp [hz0])] at hs
        obtain ⟨v1, v2⟩ := step_no hs
        rw [v1, v2]
        rw [hc] at HF
        have hz1 : ((a.th e.slot.toNat).code != 0) = true := bne_iff_ne.2 hz0
        generalize (a.th e.slot.toNat).code = zc at *
        generalize e.slot.toNat = t at *
        clear h hw hd hs h0 hk hg hr v1 v2 hu hfit p0 p1 p2 p3 ht hx hc hz0
        go_enter Try.func64, Try.ntmps64
        go_wp2_with fail
        try rw [hwb]
        go_wp2_with fail
        refine (HRU.out).mono ?_
        rintro x w1 ⟨rfl, hk1⟩
        have hf := HF.out _ hk1
        have HK1 := Lib.hid hk1
        clear hk1
        go_wp2_with fail
        go_ret
        exact ⟨rfl, HFIN.out _ HK1.out⟩
    · rw [if_neg (by simp [hc])] at hs
      obtain ⟨v1, v2⟩ := step_no hs
      rw [v1, v2]
      have hz1 : ((a.th e.slot.toNat).call != 2) = true := bne_iff_ne.2 hc
      generalize (a.th e.slot.toNat).call = zc at *
      generalize e.slot.toNat = t at *
      clear h hw hd hs h0 hk hg hr v1 v2 hu hfit p0 p1 p2 p3 ht hx hc
      go_enter Try.func64, Try.ntmps64
      go_wp2_with fail
      try rw [hwb]
      go_wp2_with fail
      refine (HRU.out).mono ?_
      rintro x w1 ⟨rfl, hk1⟩
      have hf := HF.out _ hk1
      have HK1 := Lib.hid hk1
      clear hk1
      go_wp2_with fail
      go_ret
      exact ⟨rfl, HFIN.out _ HK1.out⟩

end Go.Proofs.Ytccodklfplfleaa
