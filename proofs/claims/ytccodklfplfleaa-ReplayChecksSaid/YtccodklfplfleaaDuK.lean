/- Package duty: Check. -/
import Derived.Test.YtccodklfplfleaaP43
namespace Go.Proofs.Ytccodklfplfleaa
open Go.RowKit

theorem gis_any (l : Int) (w : World) : Calls Try.prog 52 #[.int .i64 l] w fun e w' => e = .returned (.bool (decide (0 ≤ l ∧ l ≤ 7))) ∧ w = w' := by
  by_cases h1 : 0 ≤ l
  · have b1 : decide (0 ≤ l) = true := by simpa using h1
    go_enter Try.func52, Try.ntmps52
    go_wp2_with fail
    go_ret
    exact ⟨ret_bool (by simp [h1]; omega), rfl⟩
  · have b1 : decide (0 ≤ l) = false := by simpa using h1
    go_enter Try.func52, Try.ntmps52
    go_wp2_with fail
    go_ret
    exact ⟨ret_bool (by simp [h1]), rfl⟩

theorem check1_any (A : Option Addr) (n c : Nat) (l : List Dd) (w : World) (hr : ReadsD w A n l) (hn : n ≤ 9223372036854775807) : Calls Try.prog 49 #[.slice A n c] w fun e w' => e = .returned (.bool (checkP l != 0)) ∧ Kept [] w w' := by
  have HC := Lib.hid (pcheck_any A n c l w hr hn)
  clear hr
  generalize checkP l = k at *
  go_enter Try.func49, Try.ntmps49
  go_wp2_with fail
  refine (HC.out).mono ?_
  rintro e w1 ⟨rfl, hk1⟩
  go_wp2_with fail
  go_ret
  exact ⟨rfl, hk1⟩

theorem take_snocA {α : Type} {l : List α} {k : Nat} {d : α} (h : l[k]? = some d) : l.take (k + 1) = l.take k ++ [d] := by rw [List.take_add_one, h]; rfl

set_option maxHeartbeats 1600000 in
theorem indexPP_any (A : Option Addr) (n c : Nat) (l : List (List Dd)) (w : World) (hr : ReadsPP w A n l) (hl : l.length ≤ 100000) (hb : ∀ p ∈ l, p.length ≤ 9223372036854775807) :
    Calls Try.prog 51 #[.slice A n c, .func (.func 49) #[] #[]] w fun e w' => ∃ i : Int, e = .returned (.int .i64 i) ∧ Kept [] w w' ∧ ((i = -1 ∧ badP l = 0) ∨ ∃ (k : Nat) (p : List Dd), i = k ∧ l[k]? = some p ∧ checkP p ≠ 0 ∧ badP l = checkP p) := by
  obtain rfl := hr.len
  have HR := Lib.hid hr
  have HB := Lib.hid hb
  clear hr hb
  go_enter Try.func51, Try.ntmps51
  go_wp2_with fail
  go_loopw [8] (fun iv wr => ∃ k : Nat, k ≤ l.length ∧ iv = .int .i64 k ∧ Hid (badP (l.take k) = 0) ∧ Hid (Kept [] w wr)) (fun i _ => l.length - (intOf i).toNat)
  case atStart => exact ⟨0, by omega, rfl, rfl, Kept.refl _ _⟩
  case round =>
    obtain ⟨k, hk, rfl, HBK, HK⟩ := hrel
    by_cases hlt : k < l.length
    · obtain ⟨p, b, o, Ai, ni, ci, rfl, hx, hb, hc0, hrp⟩ := (HR.out.old HK.out).at_ hlt
      have hi0 : (0 : Int) ≤ (k : Int) := by omega
      have hi1 : (k : Int) < (l.length : Int) := by omega
      have hpl := HB.out p (List.mem_of_getElem? hx)
      have hnl := hrp.len
      have HC := Lib.hid (check1_any Ai ni ci p wr hrp (by omega))
      have HX := Lib.hid hx
      clear hx hrp hnl
      by_cases h0 : checkP p = 0
      · have hc : (checkP p != 0) = false := by simp [h0]
        rw [hc] at HC
        have HS : Hid (badP (l.take (k + 1)) = 0) := by show _ = _; rw [take_snocA HX.out, badP_snoc, HBK.out, h0]; rfl
        clear h0 hc
        go_wp2_with fail
        refine (HC.out).mono ?_
        rintro e w1 ⟨rfl, hk1⟩
        have HK1 := Lib.hid (HK.out.trans hk1)
        clear hk1
        go_wp2_with fail
        go_roundw
        case rel => exact ⟨k + 1, by omega, by go_num, HS, HK1⟩
        case measure => simp [intOf]; omega
      · have hc : (checkP p != 0) = true := by simp [h0]
        rw [hc] at HC
        have HS : Hid (badP l = checkP p) := badP_at HX.out HBK.out h0
        have H0 := Lib.hid h0
        clear h0 hc
        go_wp2_with fail
        refine (HC.out).mono ?_
        rintro e w1 ⟨rfl, hk1⟩
        have HK1 := Lib.hid (HK.out.trans hk1)
        clear hk1
        go_wp2_with fail
        go_ret
        exact ⟨k, rfl, HK1.out, .inr ⟨k, p, rfl, HX.out, H0.out, HS.out⟩⟩
    · obtain rfl : k = l.length := by omega
      rw [List.take_of_length_le (Nat.le_refl _)] at HBK
      go_wp2_with fail
      go_ret
      exact ⟨-1, rfl, HK.out, .inl ⟨rfl, HBK.out⟩⟩

/-- The cells that Check looks at. -/
theorem startC_bad {np : Nat} {cpus : Int} {s : St} (h : s.prog < 0 ∨ (np : Int) ≤ s.prog ∨ s.grade < 0 ∨ 7 < s.grade) : startC np cpus s = 1 := by rw [startC, if_pos h]
theorem startC_mask {np : Nat} {cpus : Int} {s : St} (h : ¬ (s.prog < 0 ∨ (np : Int) ≤ s.prog ∨ s.grade < 0 ∨ 7 < s.grade)) : startC np cpus s = if s.mask &&& (2 ^ cpus.toNat - 1) = 0 then 10 else 0 := by rw [startC, if_neg h]
theorem checkU_size {d : Du} (h : sizedU d = false) : checkU d = 5 := by rw [checkU, if_pos h]
theorem checkU_long {d : Du} (h : sizedU d = true) (h2 : 64 < d.progs.length ∨ 64 < d.starts.length) : checkU d = 4 := by rw [checkU, if_neg (by simp [h]), if_pos h2]
theorem checkU_prog {d : Du} (h : sizedU d = true) (h2 : ¬ (64 < d.progs.length ∨ 64 < d.starts.length)) (h3 : badP d.progs ≠ 0) : checkU d = badP d.progs := by rw [checkU, if_neg (by simp [h]), if_neg h2, if_pos h3]
theorem checkU_start {d : Du} (h : sizedU d = true) (h2 : ¬ (64 < d.progs.length ∨ 64 < d.starts.length)) (h3 : badP d.progs = 0) : checkU d = badS d.progs.length d.cpus d.starts := by rw [checkU, if_neg (by simp [h]), if_neg h2, if_neg (by simp [h3])]
theorem sizedU_cpus {d : Du} (h : sizedU d = true) : 1 ≤ d.cpus ∧ d.cpus ≤ 64 := by
  rw [sizedU_eq] at h
  simp only [Bool.and_eq_true, decide_eq_true_eq] at h
  exact h.1

set_option maxHeartbeats 3200000 in
set_option maxRecDepth 100000 in
theorem ucheck_all (d : Du) (A : Option Addr) (n c : Nat) (B : Option Addr) (m e : Nat) (w : World) (hu : IsU w d A n B m) (hb : ∀ p ∈ d.progs, p.length ≤ 9223372036854775807) (hm : ∀ s ∈ d.starts, s.mask < 18446744073709551616) :
    Calls Try.prog 36 #[.agg (uC d A n c B m e)] w fun e w' => e = .returned (.int .i64 (checkU d)) ∧ Kept [] w w' := by
  have HS := Lib.hid (fun w => sized_any d A n c B m e w)
  obtain ⟨hu1, hu2⟩ := hu
  have hn := hu1.len
  have hmm := hu2.len
  have HU1 := Lib.hid hu1
  have HU2 := Lib.hid hu2
  have HIX := Lib.hid (fun w h hl => indexPP_any A n c d.progs w h hl hb)
  have HBL := Lib.hid hb
  have HMM := Lib.hid hm
  have HSZ := Lib.hid (@sizedU_cpus d)
  have HC1 := Lib.hid (@checkU_size d)
  have HC2 := Lib.hid (@checkU_long d)
  have HC3 := Lib.hid (@checkU_prog d)
  have HC4 := Lib.hid (@checkU_start d)
  generalize checkU d = ck at *
  generalize sizedU d = sz at *
  obtain ⟨cpus, threads, locks, cap, boost, keep, ratio, progs, starts⟩ := d
  simp only [uC] at HS ⊢
  simp only at HU1 HU2 HIX HBL HMM HSZ HC1 HC2 HC3 HC4 hn hmm
  subst hn hmm
  clear hu1 hu2 hb hm
  have HB : Hid (Blk (w.alloc (.cells #[.int .i64 cpus, .int .i64 threads, .int .i64 locks, .int .i64 cap, .int .u64 boost, .float .f64 keep, .float .f64 ratio, .slice A progs.length c, .slice B starts.length e] 27)) w.heap.size 27 #[.int .i64 cpus, .int .i64 threads, .int .i64 locks, .int .i64 cap, .int .u64 boost, .float .f64 keep, .float .f64 ratio, .slice A progs.length c, .slice B starts.length e]) := Blk.new _ _ _
  have HK := Lib.hid ((Kept.refl [] w).alloc (.cells #[.int .i64 cpus, .int .i64 threads, .int .i64 locks, .int .i64 cap, .int .u64 boost, .float .f64 keep, .float .f64 ratio, .slice A progs.length c, .slice B starts.length e] 27))
  have hc := HB.out.cell
  have hlt := HB.out.lt
  cases sz with
  | false =>
    have HV := Lib.hid (HC1.out rfl)
    clear HC1 HC2 HC3 HC4
    go_enter Try.func36, Try.ntmps36
    go_wp2_with fail
    refine (HS.out _).mono ?_
    rintro e w1 ⟨rfl, hk1⟩
    have HK1 := Lib.hid (HK.out.trans hk1)
    clear hk1
    go_wp2_with fail
    go_ret
    exact ⟨ret_int HV.out.symm, HK1.out⟩
  | true =>
    have hcp := HSZ.out rfl
    by_cases h1 : 64 < progs.length ∨ 64 < starts.length
    · have HV := Lib.hid (HC2.out rfl h1)
      clear HC1 HC2 HC3 HC4
      by_cases h2 : 64 < progs.length
      · have b2 : decide ((64 : Int) < (progs.length : Int)) = true := by simp; omega
        clear h1 h2
        go_enter Try.func36, Try.ntmps36
        go_wp2_with fail
        refine (HS.out _).mono ?_
        rintro e w1 ⟨rfl, hk1⟩
        have HB1 := Lib.hid (HB.out.kept hk1 (by simp))
        have hc1 := HB1.out.cell
        have hlt1 := HB1.out.lt
        have HK1 := Lib.hid (HK.out.trans hk1)
        clear hk1 hc hlt
        go_wp2_with fail
        go_ret
        exact ⟨ret_int HV.out.symm, HK1.out⟩
      · have b2 : decide ((64 : Int) < (progs.length : Int)) = false := by simp; omega
        have b3 : decide ((64 : Int) < (starts.length : Int)) = true := by simp; omega
        clear h1 h2
        go_enter Try.func36, Try.ntmps36
        go_wp2_with fail
        refine (HS.out _).mono ?_
        rintro e w1 ⟨rfl, hk1⟩
        have HB1 := Lib.hid (HB.out.kept hk1 (by simp))
        have hc1 := HB1.out.cell
        have hlt1 := HB1.out.lt
        have HK1 := Lib.hid (HK.out.trans hk1)
        clear hk1 hc hlt
        go_wp2_with fail
        go_ret
        exact ⟨ret_int HV.out.symm, HK1.out⟩
    · have HC3' := Lib.hid (HC3.out rfl h1)
      have HC4' := Lib.hid (HC4.out rfl h1)
      have hl1 : progs.length ≤ 64 := by omega
      have hl2 : starts.length ≤ 64 := by omega
      have b2 : decide ((64 : Int) < (progs.length : Int)) = false := by simp; omega
      have b3 : decide ((64 : Int) < (starts.length : Int)) = false := by simp; omega
      clear h1 HC1 HC2 HC3 HC4
      obtain ⟨cp, rfl⟩ := Int.eq_ofNat_of_zero_le (show 0 ≤ cpus by omega)
      go_enter Try.func36, Try.ntmps36
      go_wp2_with fail
      refine (HS.out _).mono ?_
      rintro e w1 ⟨rfl, hk1⟩
      have HB1 := Lib.hid (HB.out.kept hk1 (by simp))
      have hc1 := HB1.out.cell
      have hlt1 := HB1.out.lt
      have HK1 := Lib.hid (HK.out.trans hk1)
      clear hk1 hc hlt
      go_wp2_with fail
      refine (HIX.out _ (HU1.out.old HK1.out) (by omega)).mono ?_
      rintro e w2 ⟨i, rfl, hk2, hi⟩
      have HB2 := Lib.hid (HB1.out.kept hk2 (by simp))
      have hc2 := HB2.out.cell
      have hlt2 := HB2.out.lt
      have HK2 := Lib.hid (HK1.out.trans hk2)
      clear hk2 hc1 hlt1
      rcases hi with ⟨rfl, h0⟩ | ⟨k, p, rfl, hx, h0, h2⟩
      · have HV := Lib.hid (HC4'.out h0)
        clear HC3' HC4' h0
        go_wp2_with fail
        go_loopw [37] (fun iv wr => ∃ k : Nat, k ≤ starts.length ∧ iv = .int .i64 k ∧ Hid (badS progs.length (cp : Int) (starts.take k) = 0) ∧ Hid (Kept [] w2 wr)) (fun i _ => starts.length - (intOf i).toNat)
        case atStart => exact ⟨0, by omega, rfl, rfl, Kept.refl _ _⟩
        case round =>
          obtain ⟨k, hk, rfl, HBS, HKR⟩ := hrel
          have HBR := Lib.hid (HB2.out.kept HKR.out (by simp))
          have hcr := HBR.out.cell
          have hltr := HBR.out.lt
          have HKW := Lib.hid (HK2.out.trans HKR.out)
          clear hc2 hlt2
          by_cases hlt : k < starts.length
          · obtain ⟨s, b, o, rfl, hx, hb, hs0, hs1, hs2⟩ := (HU2.out.old HKW.out).at_ hlt
            have hi0 : (0 : Int) ≤ (k : Int) := by omega
            have hi1 : (k : Int) < (starts.length : Int) := by omega
            have hml := HMM.out s (List.mem_of_getElem? hx)
            have HX := Lib.hid hx
            have HSC := Lib.hid (@startC_bad progs.length (cp : Int) s)
            have HSM := Lib.hid (@startC_mask progs.length (cp : Int) s)
            have HAT : Hid (startC progs.length (cp : Int) s ≠ 0 → badS progs.length (cp : Int) starts = startC progs.length (cp : Int) s) := fun h => badS_at HX.out HBS.out h
            have HSN : Hid (startC progs.length (cp : Int) s = 0 → badS progs.length (cp : Int) (starts.take (k + 1)) = 0) := fun h => by rw [take_snocA HX.out, badS_snoc, HBS.out, h]; rfl
            obtain ⟨pg, gr, mk⟩ := s
            simp only at hs0 hs1 hs2 hml HSC HSM
            have HG := Lib.hid (fun w => gis_any gr w)
            generalize startC progs.length (cp : Int) ⟨pg, gr, mk⟩ = sc at *
            clear hx HX
            have hqi : ((wr.alloc (.cells #[.int .i64 pg, .int .i64 gr, .int .u64 mk] 50))).heap.size = wr.heap.size + 1 := by simp
            by_cases h4 : pg < 0 ∨ (progs.length : Int) ≤ pg ∨ gr < 0 ∨ 7 < gr
            · have h1 := HSC.out h4
              have HV2 : Hid (ck = 1) := by show _ = _; rw [HV.out, HAT.out (by omega), h1]
              clear HSC HSM HAT HSN h1
              by_cases h5 : pg < 0
              · have b5 : decide (pg < 0) = true := by simpa using h5
                clear h4 h5
                go_wp2_with fail
                go_ret
                exact ⟨ret_int HV2.out.symm, HKW.out.alloc _⟩
              · have b5 : decide (pg < 0) = false := by simpa using h5
                by_cases h6 : (progs.length : Int) ≤ pg
                · have b6 : decide ((progs.length : Int) ≤ pg) = true := by simpa using h6
                  clear h4 h5 h6
                  go_wp2_with fail
                  go_ret
                  exact ⟨ret_int HV2.out.symm, HKW.out.alloc _⟩
                · have b6 : decide ((progs.length : Int) ≤ pg) = false := by simpa using h6
                  rw [decide_eq_false (by omega)] at HG
                  clear h4 h5 h6
                  go_wp2_with fail
                  refine (HG.out _).mono ?_
                  rintro e w3 ⟨rfl, rfl⟩
                  go_wp2_with fail
                  go_ret
                  exact ⟨ret_int HV2.out.symm, HKW.out.alloc _⟩
            · have hsm := HSM.out h4
              have b5 : decide (pg < 0) = false := by simp; omega
              have b6 : decide ((progs.length : Int) ≤ pg) = false := by simp; omega
              rw [decide_eq_true (by omega)] at HG
              have hp2 : 2 ^ cp - 1 < 18446744073709551616 := by
                have : 2 ^ cp ≤ 2 ^ 64 := Nat.pow_le_pow_right (by omega) (by omega)
                omega
              have HSA : Hid (∀ w, Calls Try.prog 53 #[.int .i64 cp] w fun e w' => e = .returned (.int .u64 (2 ^ cp - 1 : Nat)) ∧ w' = w) := fun w => (sall_any cp w (by omega) (by omega)).mono (fun e w' h => ⟨h.1, h.2.symm⟩)
              simp only [Int.toNat_natCast] at hsm
              have hsm0 : mk &&& (2 ^ cp - 1) = 0 → sc = 10 := fun h => by rw [hsm, if_pos h]
              have hsm1 : mk &&& (2 ^ cp - 1) ≠ 0 → sc = 0 := fun h => by rw [hsm, if_neg h]
              clear hsm
              generalize 2 ^ cp - 1 = all at *
              have hand := u64_and_nat mk all hml hp2
              generalize mk &&& all = an at *
              clear h4 HSC HSM
              by_cases h0 : an = 0
              · subst h0
                have hsm := hsm0 rfl
                have HV2 : Hid (ck = 10) := by show _ = _; rw [HV.out, HAT.out (by omega), hsm]
                clear hsm hsm0 hsm1 HAT HSN
                go_wp2_with fail
                refine (HG.out _).mono ?_
                rintro e w3 ⟨rfl, rfl⟩
                go_wp2_with fail
                go_quiet ((go_at_call 53; refine Calls.quiet_of_same (HSA.out _)))
                go_wp2_with fail
                go_ret
                exact ⟨ret_int HV2.out.symm, HKW.out.trans (by (repeat (first | (with_reducible exact Kept.refl _ _) | (with_reducible assumption) | (with_reducible refine Kept.alloc ?_ _) | (with_reducible refine Kept.drew ?_) | (with_reducible refine Kept.drewN ?_ _) | (with_reducible refine Kept.setCell ?_ ?_ _) | (exact .inr (Nat.le_refl _)) | (exact .inr (by simp only; omega)) | (exact .inr (by omega)))))⟩
              · have ba : ((an : Int) == 0) = false := by simp; omega
                have hsm := hsm1 h0
                have HV2 := Lib.hid (HSN.out hsm)
                clear hsm hsm0 hsm1 HAT HSN h0
                go_wp2_with fail
                refine (HG.out _).mono ?_
                rintro e w3 ⟨rfl, rfl⟩
                go_wp2_with fail
                go_quiet ((go_at_call 53; refine Calls.quiet_of_same (HSA.out _)))
                go_wp2_with fail
                go_roundw
                case rel => exact ⟨k + 1, by omega, by go_num, HV2, HKR.out.trans (by (repeat (first | (with_reducible exact Kept.refl _ _) | (with_reducible assumption) | (with_reducible refine Kept.alloc ?_ _) | (with_reducible refine Kept.drew ?_) | (with_reducible refine Kept.drewN ?_ _) | (with_reducible refine Kept.setCell ?_ ?_ _) | (exact .inr (Nat.le_refl _)) | (exact .inr (by simp only; omega)) | (exact .inr (by omega)))))⟩
                case measure => simp [intOf]; omega
          · obtain rfl : k = starts.length := by omega
            rw [List.take_of_length_le (Nat.le_refl _)] at HBS
            have HV2 : Hid (ck = 0) := by show _ = _; rw [HV.out, HBS.out]
            go_wp2_with fail
            go_ret
            exact ⟨ret_int HV2.out.symm, HKW.out⟩
      · have HV := Lib.hid (HC3'.out (by rw [h2]; exact h0))
        rw [h2] at HV
        obtain ⟨p', b, o, Ai, ni, ci, rfl, hx', hb, hc0, hrp⟩ := (HU1.out.old HK2.out).at_ (List.getElem?_eq_some_iff.1 hx).1
        rw [hx] at hx'
        injection hx' with hx'
        subst hx'
        have hpl := HBL.out p (List.mem_of_getElem? hx)
        have hnl := hrp.len
        have HC := Lib.hid (pcheck_any Ai ni ci p w2 hrp (by omega))
        have hi0 : (0 : Int) ≤ (k : Int) := by omega
        have hi1 : (k : Int) < (progs.length : Int) := by have := (List.getElem?_eq_some_iff.1 hx).1; omega
        clear hx hrp hnl HC3' HC4' h2 h0
        go_wp2_with fail
        refine (HC.out).mono ?_
        rintro e w3 ⟨rfl, hk3⟩
        have HK3 := Lib.hid (HK2.out.trans hk3)
        clear hk3
        go_wp2_with fail
        go_ret
        exact ⟨ret_int HV.out.symm, HK3.out⟩

end Go.Proofs.Ytccodklfplfleaa
