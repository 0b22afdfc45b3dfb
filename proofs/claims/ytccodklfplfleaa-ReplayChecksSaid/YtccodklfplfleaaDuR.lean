/- The document's Check of a duty. -/
import Derived.Test.YtccodklfplfleaaDuK
import Derived.Deep.RegionHeld3
namespace Go.Proofs.Ytccodklfplfleaa
open Go.RowKit

theorem pow2_of {x : Int} {j : Nat} (hj : j < 8) (h : x = ((2 ^ (j + 1) : Nat) : Int)) : pow2 x = true := by
  unfold pow2
  match j, hj with
  | 0, _ => simp [h]
  | 1, _ => simp [h]
  | 2, _ => simp [h]
  | 3, _ => simp [h]
  | 4, _ => simp [h]
  | 5, _ => simp [h]
  | 6, _ => simp [h]
  | 7, _ => simp [h]
theorem pow2_not {x : Int} (h : ∀ j, j < 8 → x ≠ ((2 ^ (j + 1) : Nat) : Int)) : pow2 x = false := by
  have h0 : x ≠ 2 := h 0 (by omega)
  have h1 : x ≠ 4 := h 1 (by omega)
  have h2 : x ≠ 8 := h 2 (by omega)
  have h3 : x ≠ 16 := h 3 (by omega)
  have h4 : x ≠ 32 := h 4 (by omega)
  have h5 : x ≠ 64 := h 5 (by omega)
  have h6 : x ≠ 128 := h 6 (by omega)
  have h7 : x ≠ 256 := h 7 (by omega)
  unfold pow2
  rw [decide_eq_false_iff_not]
  omega

set_option maxHeartbeats 800000 in
theorem refPower (x : Int) (w : World) : Calls Try.prog 21 #[.int .i64 x] w fun e w' => e = .returned (.bool (pow2 x)) ∧ w = w' := by
  go_enter Try.func21, Try.ntmps21
  go_wp2_with fail
  go_loop [3] (fun pv => ∃ (k p : Nat), k ≤ 8 ∧ pv = .int .i64 p ∧ Hid (p = 2 ^ (k + 1)) ∧ Hid (∀ j, j < k → x ≠ ((2 ^ (j + 1) : Nat) : Int))) (fun pv => 600 - (intOf pv).toNat)
  case atStart => exact ⟨0, 2, by omega, rfl, rfl, fun j hj => by omega⟩
  case round =>
    obtain ⟨k, p, hk, rfl, HP, HN⟩ := hrel
    by_cases hlt : k < 8
    · have hp : p ≤ 256 ∧ 2 ≤ p := by
        have h1 : 2 ^ (k + 1) ≤ 2 ^ 8 := Nat.pow_le_pow_right (by omega) (by omega)
        have h2 : 2 ^ 1 ≤ 2 ^ (k + 1) := Nat.pow_le_pow_right (by omega) (by omega)
        have := HP.out
        omega
      have b1 : decide ((p : Int) ≤ 256) = true := by simp; omega
      by_cases hx : x = p
      · have HV : Hid (pow2 x = true) := pow2_of hlt (by rw [← HP.out]; exact hx)
        have b2 : (x == (p : Int)) = true := by simpa using hx
        clear hx
        go_wp2_with fail
        go_ret
        exact ⟨ret_bool HV.out.symm, rfl⟩
      · have b2 : (x == (p : Int)) = false := by simpa using hx
        have HV : Hid (∀ j, j < k + 1 → x ≠ ((2 ^ (j + 1) : Nat) : Int)) := fun j hj => by
          rcases Nat.lt_or_ge j k with h | h
          · exact HN.out j h
          · obtain rfl : j = k := by omega
            rw [← HP.out]; exact hx
        clear hx
        go_wp2_with fail
        exact ⟨⟨k + 1, p * 2, by omega, by go_num, by show _ = _; rw [HP.out, Nat.pow_succ 2 (k + 1)], HV⟩, by simp [intOf]; omega⟩
    · obtain rfl : k = 8 := by omega
      have hp : p = 512 := HP.out
      have b1 : decide ((p : Int) ≤ 256) = false := by simp; omega
      have HV : Hid (pow2 x = false) := pow2_not HN.out
      go_wp2_with fail
      go_ret
      exact ⟨ret_bool HV.out.symm, rfl⟩

set_option maxHeartbeats 6400000 in
set_option maxRecDepth 100000 in
theorem refCheck9_all (d : Du) (A : Option Addr) (n c : Nat) (B : Option Addr) (m e : Nat) (w : World) (hu : IsU w d A n B m) (hb : ∀ p ∈ d.progs, p.length ≤ 9223372036854775807) (hm : ∀ s ∈ d.starts, s.mask < 18446744073709551616) :
    Calls Try.prog 13 #[.agg (uC d A n c B m e)] w fun e w' => e = .returned (.int .i64 (checkU d)) ∧ Kept [] w w' := by
  obtain ⟨hu1, hu2⟩ := hu
  have hn := hu1.len
  have hmm := hu2.len
  have HU1 := Lib.hid hu1
  have HU2 := Lib.hid hu2
  have HBL := Lib.hid hb
  have HMM := Lib.hid hm
  have HC1 := Lib.hid (@checkU_size d)
  have HC2 := Lib.hid (@checkU_long d)
  have HC3 := Lib.hid (@checkU_prog d)
  have HC4 := Lib.hid (@checkU_start d)
  generalize checkU d = ck at *
  obtain ⟨cpus, threads, locks, cap, boost, keep, ratio, progs, starts⟩ := d
  simp only [uC]
  simp only at HU1 HU2 HBL HMM HC1 HC2 HC3 HC4 hn hmm
  subst hn hmm
  clear hu1 hu2 hb hm
  have HPW := Lib.hid (fun w => refPower cap w)
  have HB : Hid (Blk (w.alloc (.cells #[.int .i64 cpus, .int .i64 threads, .int .i64 locks, .int .i64 cap, .int .u64 boost, .float .f64 keep, .float .f64 ratio, .slice A progs.length c, .slice B starts.length e] 27)) w.heap.size 27 #[.int .i64 cpus, .int .i64 threads, .int .i64 locks, .int .i64 cap, .int .u64 boost, .float .f64 keep, .float .f64 ratio, .slice A progs.length c, .slice B starts.length e]) := Blk.new _ _ _
  have HK := Lib.hid ((Kept.refl [] w).alloc (.cells #[.int .i64 cpus, .int .i64 threads, .int .i64 locks, .int .i64 cap, .int .u64 boost, .float .f64 keep, .float .f64 ratio, .slice A progs.length c, .slice B starts.length e] 27))
  have hc := HB.out.cell
  have hlt := HB.out.lt
  by_cases h1 : 1 ≤ cpus ∧ cpus ≤ 64
  · have H1 : Hid (∀ w, Calls Try.prog 20 #[.int .i64 cpus, .int .i64 1, .int .i64 64] w fun e w' => e = .returned (.bool true) ∧ w = w') := fun w => by have := refIn (cpus) (1) (64) w; rwa [decide_eq_true h1] at this
    by_cases h2 : 1 ≤ threads ∧ threads ≤ 64
    · have H2 : Hid (∀ w, Calls Try.prog 20 #[.int .i64 threads, .int .i64 1, .int .i64 64] w fun e w' => e = .returned (.bool true) ∧ w = w') := fun w => by have := refIn (threads) (1) (64) w; rwa [decide_eq_true h2] at this
      by_cases h3 : 0 ≤ locks ∧ locks ≤ 64
      · have H3 : Hid (∀ w, Calls Try.prog 20 #[.int .i64 locks, .int .i64 0, .int .i64 64] w fun e w' => e = .returned (.bool true) ∧ w = w') := fun w => by have := refIn (locks) (0) (64) w; rwa [decide_eq_true h3] at this
        cases hpw : pow2 cap with
        | false =>
          have HV := Lib.hid (HC1.out (by simp only [sizedU, hpw, Bool.false_and, Bool.and_false]))
          rw [hpw] at HPW
          have H4 := HPW
          clear HC1 HC2 HC3 HC4 h1 h2 h3 hpw
          go_enter Try.func13, Try.ntmps13
          go_wp2_with fail
          refine (H1.out _).mono ?_
          rintro e w1 ⟨rfl, rfl⟩
          go_wp2_with fail
          refine (H2.out _).mono ?_
          rintro e w1 ⟨rfl, rfl⟩
          go_wp2_with fail
          refine (H3.out _).mono ?_
          rintro e w1 ⟨rfl, rfl⟩
          go_wp2_with fail
          refine (H4.out _).mono ?_
          rintro e w1 ⟨rfl, rfl⟩
          go_wp2_with fail
          go_ret
          exact ⟨ret_int HV.out.symm, HK.out⟩
        | true =>
          rw [hpw] at HPW
          have H4 := HPW
          by_cases h5 : threads ≤ cap
          · have b5 : decide (cap < threads) = false := by simp; omega
            by_cases h6 : 1 ≤ boost
            · have b6 : decide ((boost : Int) < 1) = false := by simp; omega
              by_cases h7 : boost ≤ 65536
              · have b7 : decide ((65536 : Int) < (boost : Int)) = false := by simp; omega
                have hsz : sizedU ⟨cpus, threads, locks, cap, boost, keep, ratio, progs, starts⟩ = true := by simp only [sizedU, h1, h2, h3, hpw, h5, h6, h7, and_self, decide_true, Bool.and_self]
                have HC2' := Lib.hid (HC2.out hsz)
                have HC3' := Lib.hid (HC3.out hsz)
                have HC4' := Lib.hid (HC4.out hsz)
                obtain ⟨cp, rfl⟩ := Int.eq_ofNat_of_zero_le (show 0 ≤ cpus by omega)
                have hcp1 : 1 ≤ cp := by omega
                have hcp2 : cp ≤ 64 := by omega
                clear HC1 HC2 HC3 HC4 h1 h2 h3 hpw h5 h6 h7 hsz
                by_cases hl : 64 < progs.length ∨ 64 < starts.length
                · have HV := Lib.hid (HC2'.out hl)
                  clear HC2' HC3' HC4'
                  by_cases h2 : 64 < progs.length
                  · have b2 : decide ((64 : Int) < (progs.length : Int)) = true := by simp; omega
                    clear hl h2
                    go_enter Try.func13, Try.ntmps13
                    go_wp2_with fail
                    refine (H1.out _).mono ?_
                    rintro e w1 ⟨rfl, rfl⟩
                    go_wp2_with fail
                    refine (H2.out _).mono ?_
                    rintro e w1 ⟨rfl, rfl⟩
                    go_wp2_with fail
                    refine (H3.out _).mono ?_
                    rintro e w1 ⟨rfl, rfl⟩
                    go_wp2_with fail
                    refine (H4.out _).mono ?_
                    rintro e w1 ⟨rfl, rfl⟩
                    go_wp2_with fail
                    go_ret
                    exact ⟨ret_int HV.out.symm, HK.out⟩
                  · have b2 : decide ((64 : Int) < (progs.length : Int)) = false := by simp; omega
                    have b3 : decide ((64 : Int) < (starts.length : Int)) = true := by simp; omega
                    clear hl h2
                    go_enter Try.func13, Try.ntmps13
                    go_wp2_with fail
                    refine (H1.out _).mono ?_
                    rintro e w1 ⟨rfl, rfl⟩
                    go_wp2_with fail
                    refine (H2.out _).mono ?_
                    rintro e w1 ⟨rfl, rfl⟩
                    go_wp2_with fail
                    refine (H3.out _).mono ?_
                    rintro e w1 ⟨rfl, rfl⟩
                    go_wp2_with fail
                    refine (H4.out _).mono ?_
                    rintro e w1 ⟨rfl, rfl⟩
                    go_wp2_with fail
                    go_ret
                    exact ⟨ret_int HV.out.symm, HK.out⟩
                · have HC3'' := Lib.hid (HC3'.out hl)
                  have HC4'' := Lib.hid (HC4'.out hl)
                  have hl1 : progs.length ≤ 64 := by omega
                  have hl2 : starts.length ≤ 64 := by omega
                  have b2 : decide ((64 : Int) < (progs.length : Int)) = false := by simp; omega
                  have b3 : decide ((64 : Int) < (starts.length : Int)) = false := by simp; omega
                  clear hl HC2' HC3' HC4'
                  go_enter Try.func13, Try.ntmps13
                  go_wp2_with fail
                  refine (H1.out _).mono ?_
                  rintro e w1 ⟨rfl, rfl⟩
                  go_wp2_with fail
                  refine (H2.out _).mono ?_
                  rintro e w1 ⟨rfl, rfl⟩
                  go_wp2_with fail
                  refine (H3.out _).mono ?_
                  rintro e w1 ⟨rfl, rfl⟩
                  go_wp2_with fail
                  refine (H4.out _).mono ?_
                  rintro e w1 ⟨rfl, rfl⟩
                  go_wp2_with fail
                  generalize w.alloc (.cells #[.int .i64 (cp : Int), .int .i64 threads, .int .i64 locks, .int .i64 cap, .int .u64 boost, .float .f64 keep, .float .f64 ratio, .slice A progs.length c, .slice B starts.length e] 27) = w1 at *
                  go_loopw [3] (fun iv wr => ∃ k : Nat, k ≤ progs.length ∧ iv = .int .i64 k ∧ Hid (badP (progs.take k) = 0) ∧ Hid (Kept [] w1 wr)) (fun i _ => progs.length - (intOf i).toNat)
                  case atStart => exact ⟨0, by omega, rfl, rfl, Kept.refl _ _⟩
                  case round =>
                    obtain ⟨k, hk, rfl, HBK, HKR⟩ := hrel
                    have HBR := Lib.hid (HB.out.kept HKR.out (by simp))
                    have hcr := HBR.out.cell
                    have hltr := HBR.out.lt
                    have HKW := Lib.hid (HK.out.trans HKR.out)
                    clear hc hlt
                    by_cases hlt : k < progs.length
                    · obtain ⟨p, b, o, Ai, ni, ci, rfl, hx, hb, hc0, hrp⟩ := (HU1.out.old HKW.out).at_ hlt
                      have hi0 : (0 : Int) ≤ (k : Int) := by omega
                      have hi1 : (k : Int) < (progs.length : Int) := by omega
                      have hpl := HBL.out p (List.mem_of_getElem? hx)
                      have hnl := hrp.len
                      have HC := Lib.hid (refCheckP Ai ni ci p wr hrp (by omega))
                      have HX := Lib.hid hx
                      clear hx hrp hnl
                      by_cases h0 : checkP p = 0
                      · rw [h0] at HC
                        have HS : Hid (badP (progs.take (k + 1)) = 0) := by show _ = _; rw [take_snocA HX.out, badP_snoc, HBK.out, h0]; rfl
                        clear h0
                        go_wp2_with fail
                        refine (HC.out).mono ?_
                        rintro e w2 ⟨rfl, hk2⟩
                        have HK2 := Lib.hid (HKR.out.trans hk2)
                        clear hk2
                        go_wp2_with fail
                        go_roundw
                        case rel => exact ⟨k + 1, by omega, by go_num, HS, HK2⟩
                        case measure => simp [intOf]; omega
                      · have hcb : (checkP p != 0) = true := by simp [h0]
                        have HS := badP_at HX.out HBK.out h0
                        have HV : Hid (ck = checkP p) := by show _ = _; rw [HC3''.out (by rw [HS]; exact h0), HS]
                        generalize checkP p = kk at *
                        clear h0 HS
                        go_wp2_with fail
                        refine (HC.out).mono ?_
                        rintro e w2 ⟨rfl, hk2⟩
                        have HK2 := Lib.hid (HKW.out.trans hk2)
                        clear hk2
                        go_wp2_with fail
                        go_ret
                        exact ⟨ret_int HV.out.symm, HK2.out⟩
                    · obtain rfl : k = progs.length := by omega
                      rw [List.take_of_length_le (Nat.le_refl _)] at HBK
                      have HV := Lib.hid (HC4''.out HBK.out)
                      clear HBK HC3'' HC4''
                      go_wp2_with fail
                      generalize wr = w2 at *
                      have HB2 := HBR
                      have HK2 := HKW
                      go_loopw [5] (fun iv wr => ∃ k : Nat, k ≤ starts.length ∧ iv = .int .i64 k ∧ Hid (badS progs.length (cp : Int) (starts.take k) = 0) ∧ Hid (Kept [] w2 wr)) (fun i _ => starts.length - (intOf i).toNat)
                      case atStart => exact ⟨0, by omega, rfl, rfl, Kept.refl _ _⟩
                      case round =>
                        obtain ⟨k, hk, rfl, HBS, HKS⟩ := hrel
                        have HBR2 := Lib.hid (HB2.out.kept HKS.out (by simp))
                        have hcr2 := HBR2.out.cell
                        have hltr2 := HBR2.out.lt
                        have HKW2 := Lib.hid (HK2.out.trans HKS.out)
                        clear hcr hltr
                        by_cases hlt : k < starts.length
                        · obtain ⟨s, b, o, rfl, hx, hb, hs0, hs1, hs2⟩ := (HU2.out.old HKW2.out).at_ hlt
                          have hi0 : (0 : Int) ≤ (k : Int) := by omega
                          have hi1 : (k : Int) < (starts.length : Int) := by omega
                          have hml := HMM.out s (List.mem_of_getElem? hx)
                          have HX := Lib.hid hx
                          have HSC := Lib.hid (@startC_bad progs.length (cp : Int) s)
                          have HSM := Lib.hid (@startC_mask progs.length (cp : Int) s)
                          have HAT : Hid (startC progs.length (cp : Int) s ≠ 0 → badS progs.length (cp : Int) starts = startC progs.length (cp : Int) s) := fun h => badS_at HX.out HBS.out h
                          have HSN : Hid (startC progs.length (cp : Int) s = 0 → badS progs.length (cp : Int) (starts.take (k + 1)) = 0) := fun h => by rw [take_snocA HX.out, badS_snoc, HBS.out, h]; rfl
                          obtain ⟨pg, gr, mk⟩ := s
                          simp only at hs0 hs1 hs2 hml HSC HSM
                          have HG1 := Lib.hid (fun w => refIn pg 0 ((progs.length : Int) - 1) w)
                          have HG2 := Lib.hid (fun w => refIn gr 0 7 w)
                          generalize startC progs.length (cp : Int) ⟨pg, gr, mk⟩ = sc at *
                          clear hx HX
                          have hwl : IntKind.i64.wrap ((progs.length : Int) - 1) = (progs.length : Int) - 1 := IntWalk.i64_in _ (by omega)
                          by_cases h4 : pg < 0 ∨ (progs.length : Int) ≤ pg ∨ gr < 0 ∨ 7 < gr
                          · have h1 := HSC.out h4
                            have HV2 : Hid (ck = 1) := by show _ = _; rw [HV.out, HAT.out (by omega), h1]
                            clear HSC HSM HAT HSN h1
                            by_cases h5 : 0 ≤ pg ∧ pg ≤ (progs.length : Int) - 1
                            · rw [decide_eq_true h5] at HG1
                              rw [decide_eq_false (by omega)] at HG2
                              clear h4 h5
                              go_wp2_with fail
                              refine (HG1.out _).mono ?_
                              rintro e w3 ⟨rfl, rfl⟩
                              go_wp2_with fail
                              refine (HG2.out _).mono ?_
                              rintro e w3 ⟨rfl, rfl⟩
                              go_wp2_with fail
                              go_ret
                              exact ⟨ret_int HV2.out.symm, HKW2.out.alloc _⟩
                            · rw [decide_eq_false h5] at HG1
                              clear h4 h5
                              go_wp2_with fail
                              refine (HG1.out _).mono ?_
                              rintro e w3 ⟨rfl, rfl⟩
                              go_wp2_with fail
                              go_ret
                              exact ⟨ret_int HV2.out.symm, HKW2.out.alloc _⟩
                          · have hsm := HSM.out h4
                            rw [decide_eq_true (by omega)] at HG1 HG2
                            have hp2 : 2 ^ cp - 1 < 18446744073709551616 := by
                              have : 2 ^ cp ≤ 2 ^ 64 := Nat.pow_le_pow_right (by omega) (by omega)
                              omega
                            have HSA := Lib.hid (fun w => refAll1 cp w hcp1 hcp2)
                            simp only [Int.toNat_natCast] at hsm
                            have hsm0 : mk &&& (2 ^ cp - 1) = 0 → sc = 10 := fun h => by rw [hsm, if_pos h]
                            have hsm1 : mk &&& (2 ^ cp - 1) ≠ 0 → sc = 0 := fun h => by rw [hsm, if_neg h]
                            clear hsm
                            generalize 2 ^ cp - 1 = all at *
                            have hand := u64_and_nat mk all hml hp2
                            generalize mk &&& all = an at *
                            clear h4 HSC HSM
                            by_cases h0 : an = 0
                            · subst h0
                              have hsm := hsm0 rfl
                              have HV2 : Hid (ck = 10) := by show _ = _; rw [HV.out, HAT.out (by omega), hsm]
                              clear hsm hsm0 hsm1 HAT HSN
                              go_wp2_with fail
                              refine (HG1.out _).mono ?_
                              rintro e w3 ⟨rfl, rfl⟩
                              go_wp2_with fail
                              refine (HG2.out _).mono ?_
                              rintro e w3 ⟨rfl, rfl⟩
                              have hB := Lib.hid (Blk.new wr 50 #[.int .i64 pg, .int .i64 gr, .int .u64 mk])
                              have hD := Lib.hid (HBR2.out.alloc (.cells #[.int .i64 pg, .int .i64 gr, .int .u64 mk] 50))
                              have hK := Lib.hid (HKS.out.alloc (.cells #[.int .i64 pg, .int .i64 gr, .int .u64 mk] 50))
                              have hcB := hB.out.cell
                              have hcD := hD.out.cell
                              go_wp2_with fail
                              go_region_held3 (fun w' => w'.cell? ⟨wr.heap.size, 2, none⟩ = some (.int .u64 mk) ∧ w'.cell? ⟨w.heap.size, 0, none⟩ = some (.int .i64 (cp : Int))) (go_keep) ((go_at_call 23; refine (HSA.out _).mono ?_; rintro e w4 ⟨rfl, hk1⟩; have hB := Lib.hid (Blk.kept (hk := hk1) (h := by exact hB.out) (hg := by simp)); have hD := Lib.hid (Blk.kept (hk := hk1) (h := by exact hD.out) (hg := by simp)); have hcB := hB.out.cell; have hcD := hD.out.cell; have hK := Lib.hid (Kept.trans (h := by first | exact hK.out | exact hK.out.drew) (h' := hk1)); clear hk1))
                              all_goals
                                go_wp2_with fail
                                go_ret
                                exact ⟨ret_int HV2.out.symm, HK2.out.trans (by first | exact hK.out | exact hK.out.drew)⟩
                            · have ba : ((an : Int) == 0) = false := by simp; omega
                              have hsm := hsm1 h0
                              have HV2 := Lib.hid (HSN.out hsm)
                              clear hsm hsm0 hsm1 HAT HSN h0
                              go_wp2_with fail
                              refine (HG1.out _).mono ?_
                              rintro e w3 ⟨rfl, rfl⟩
                              go_wp2_with fail
                              refine (HG2.out _).mono ?_
                              rintro e w3 ⟨rfl, rfl⟩
                              have hB := Lib.hid (Blk.new wr 50 #[.int .i64 pg, .int .i64 gr, .int .u64 mk])
                              have hD := Lib.hid (HBR2.out.alloc (.cells #[.int .i64 pg, .int .i64 gr, .int .u64 mk] 50))
                              have hK := Lib.hid (HKS.out.alloc (.cells #[.int .i64 pg, .int .i64 gr, .int .u64 mk] 50))
                              have hcB := hB.out.cell
                              have hcD := hD.out.cell
                              go_wp2_with fail
                              go_region_held3 (fun w' => w'.cell? ⟨wr.heap.size, 2, none⟩ = some (.int .u64 mk) ∧ w'.cell? ⟨w.heap.size, 0, none⟩ = some (.int .i64 (cp : Int))) (go_keep) ((go_at_call 23; refine (HSA.out _).mono ?_; rintro e w4 ⟨rfl, hk1⟩; have hB := Lib.hid (Blk.kept (hk := hk1) (h := by exact hB.out) (hg := by simp)); have hD := Lib.hid (Blk.kept (hk := hk1) (h := by exact hD.out) (hg := by simp)); have hcB := hB.out.cell; have hcD := hD.out.cell; have hK := Lib.hid (Kept.trans (h := by first | exact hK.out | exact hK.out.drew) (h' := hk1)); clear hk1))
                              all_goals
                                go_wp2_with fail
                                go_roundw
                                case rel => exact ⟨k + 1, by omega, by go_num, HV2, by first | exact hK | exact Lib.hid (hK.out.drew)⟩
                                case measure => simp [intOf]; omega
                        · obtain rfl : k = starts.length := by omega
                          rw [List.take_of_length_le (Nat.le_refl _)] at HBS
                          have HV2 : Hid (ck = 0) := by show _ = _; rw [HV.out, HBS.out]
                          go_wp2_with fail
                          go_ret
                          exact ⟨ret_int HV2.out.symm, HKW2.out⟩
              · have b7 : decide ((65536 : Int) < (boost : Int)) = true := by simp; omega
                have HV := Lib.hid (HC1.out (by simp only [sizedU, h7, decide_false, Bool.and_false, and_false]))
                clear HC1 HC2 HC3 HC4 h1 h2 h3 hpw h5 h6 h7
                go_enter Try.func13, Try.ntmps13
                go_wp2_with fail
                refine (H1.out _).mono ?_
                rintro e w1 ⟨rfl, rfl⟩
                go_wp2_with fail
                refine (H2.out _).mono ?_
                rintro e w1 ⟨rfl, rfl⟩
                go_wp2_with fail
                refine (H3.out _).mono ?_
                rintro e w1 ⟨rfl, rfl⟩
                go_wp2_with fail
                refine (H4.out _).mono ?_
                rintro e w1 ⟨rfl, rfl⟩
                go_wp2_with fail
                go_ret
                exact ⟨ret_int HV.out.symm, HK.out⟩
            · have b6 : decide ((boost : Int) < 1) = true := by simp; omega
              have HV := Lib.hid (HC1.out (by simp only [sizedU, h6, decide_false, Bool.and_false, false_and]))
              clear HC1 HC2 HC3 HC4 h1 h2 h3 hpw h5 h6
              go_enter Try.func13, Try.ntmps13
              go_wp2_with fail
              refine (H1.out _).mono ?_
              rintro e w1 ⟨rfl, rfl⟩
              go_wp2_with fail
              refine (H2.out _).mono ?_
              rintro e w1 ⟨rfl, rfl⟩
              go_wp2_with fail
              refine (H3.out _).mono ?_
              rintro e w1 ⟨rfl, rfl⟩
              go_wp2_with fail
              refine (H4.out _).mono ?_
              rintro e w1 ⟨rfl, rfl⟩
              go_wp2_with fail
              go_ret
              exact ⟨ret_int HV.out.symm, HK.out⟩
          · have b5 : decide (cap < threads) = true := by simp; omega
            have HV := Lib.hid (HC1.out (by simp only [sizedU, h5, decide_false, Bool.false_and, Bool.and_false]))
            clear HC1 HC2 HC3 HC4 h1 h2 h3 hpw h5
            go_enter Try.func13, Try.ntmps13
            go_wp2_with fail
            refine (H1.out _).mono ?_
            rintro e w1 ⟨rfl, rfl⟩
            go_wp2_with fail
            refine (H2.out _).mono ?_
            rintro e w1 ⟨rfl, rfl⟩
            go_wp2_with fail
            refine (H3.out _).mono ?_
            rintro e w1 ⟨rfl, rfl⟩
            go_wp2_with fail
            refine (H4.out _).mono ?_
            rintro e w1 ⟨rfl, rfl⟩
            go_wp2_with fail
            go_ret
            exact ⟨ret_int HV.out.symm, HK.out⟩
      · have H3 : Hid (∀ w, Calls Try.prog 20 #[.int .i64 locks, .int .i64 0, .int .i64 64] w fun e w' => e = .returned (.bool false) ∧ w = w') := fun w => by have := refIn (locks) (0) (64) w; rwa [decide_eq_false h3] at this
        have HV := Lib.hid (HC1.out (by simp only [sizedU, h3, decide_false, Bool.false_and, Bool.and_false]))
        clear HC1 HC2 HC3 HC4 h1 h2 h3
        go_enter Try.func13, Try.ntmps13
        go_wp2_with fail
        refine (H1.out _).mono ?_
        rintro e w1 ⟨rfl, rfl⟩
        go_wp2_with fail
        refine (H2.out _).mono ?_
        rintro e w1 ⟨rfl, rfl⟩
        go_wp2_with fail
        refine (H3.out _).mono ?_
        rintro e w1 ⟨rfl, rfl⟩
        go_wp2_with fail
        go_ret
        exact ⟨ret_int HV.out.symm, HK.out⟩
    · have H2 : Hid (∀ w, Calls Try.prog 20 #[.int .i64 threads, .int .i64 1, .int .i64 64] w fun e w' => e = .returned (.bool false) ∧ w = w') := fun w => by have := refIn (threads) (1) (64) w; rwa [decide_eq_false h2] at this
      have HV := Lib.hid (HC1.out (by simp only [sizedU, h2, decide_false, Bool.false_and, Bool.and_false]))
      clear HC1 HC2 HC3 HC4 h1 h2
      go_enter Try.func13, Try.ntmps13
      go_wp2_with fail
      refine (H1.out _).mono ?_
      rintro e w1 ⟨rfl, rfl⟩
      go_wp2_with fail
      refine (H2.out _).mono ?_
      rintro e w1 ⟨rfl, rfl⟩
      go_wp2_with fail
      go_ret
      exact ⟨ret_int HV.out.symm, HK.out⟩
  · have H1 : Hid (∀ w, Calls Try.prog 20 #[.int .i64 cpus, .int .i64 1, .int .i64 64] w fun e w' => e = .returned (.bool false) ∧ w = w') := fun w => by have := refIn (cpus) (1) (64) w; rwa [decide_eq_false h1] at this
    have HV := Lib.hid (HC1.out (by simp only [sizedU, h1, decide_false, Bool.false_and]))
    clear HC1 HC2 HC3 HC4 h1
    go_enter Try.func13, Try.ntmps13
    go_wp2_with fail
    refine (H1.out _).mono ?_
    rintro e w1 ⟨rfl, rfl⟩
    go_wp2_with fail
    go_ret
    exact ⟨ret_int HV.out.symm, HK.out⟩

end Go.Proofs.Ytccodklfplfleaa
