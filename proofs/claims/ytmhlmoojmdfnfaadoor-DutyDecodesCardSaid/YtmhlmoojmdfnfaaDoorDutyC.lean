/- The document's Check of a duty; The document's Decode of a duty. -/
import Derived.Test.YtmhlmoojmdfnfaaDoorDutyA
import Derived.Deep.RegionHeld3
import Derived.Test.YtmhlmoojmdfnfaaDoorDutyB
import Derived.Deep.DeepCutAuto

/- The document's Check of a duty. -/
namespace Go.Proofs.YtmhlmoojmdfnfaaDoor
open Go.RowKit

theorem pow2_of {x : Int} {j : Nat} (hj : j < 8) (h : x = ((2 ^ (j + 1) : Nat) : Int)) : pow2 x = true := by
  unfold pow2
  match j, hj with
  | 0, _ => simp [h]
  | 1, _ => simp [h]
  | 2, _ => simp [h]
  | 3, _ => simp [h]
  | 4, _ => simp [h]
  | 5, _ => simp [h]
  | 6, _ => simp [h]
  | 7, _ => simp [h]
theorem pow2_not {x : Int} (h : ∀ j, j < 8 → x ≠ ((2 ^ (j + 1) : Nat) : Int)) : pow2 x = false := by
  have h0 : x ≠ 2 := h 0 (by omega)
  have h1 : x ≠ 4 := h 1 (by omega)
  have h2 : x ≠ 8 := h 2 (by omega)
  have h3 : x ≠ 16 := h 3 (by omega)
  have h4 : x ≠ 32 := h 4 (by omega)
  have h5 : x ≠ 64 := h 5 (by omega)
  have h6 : x ≠ 128 := h 6 (by omega)
  have h7 : x ≠ 256 := h 7 (by omega)
  unfold pow2
  rw [decide_eq_false_iff_not]
  omega

set_option maxHeartbeats 800000 in
theorem refPower (x : Int) (w : World) : Calls Tryd.prog 139 #[.int .i64 x] w fun e w' => e = .returned (.bool (pow2 x)) ∧ w = w' := by
  go_enter Tryd.func139, Tryd.ntmps139
  go_wp2_with fail
  go_loop [3] (fun pv => ∃ (k p : Nat), k ≤ 8 ∧ pv = .int .i64 p ∧ Hid (p = 2 ^ (k + 1)) ∧ Hid (∀ j, j < k → x ≠ ((2 ^ (j + 1) : Nat) : Int))) (fun pv => 600 - (intOf pv).toNat)
  case atStart => exact ⟨0, 2, by omega, rfl, rfl, fun j hj => by omega⟩
  case round =>
    obtain ⟨k, p, hk, rfl, HP, HN⟩ := hrel
    by_cases hlt : k < 8
    · have hp : p ≤ 256 ∧ 2 ≤ p := by
        have h1 : 2 ^ (k + 1) ≤ 2 ^ 8 := Nat.pow_le_pow_right (by omega) (by omega)
        have h2 : 2 ^ 1 ≤ 2 ^ (k + 1) := Nat.pow_le_pow_right (by omega) (by omega)
        have := HP.out
        omega
      have b1 : decide ((p : Int) ≤ 256) = true := by simp; omega
      by_cases hx : x = p
      · have HV : Hid (pow2 x = true) := pow2_of hlt (by rw [← HP.out]; exact hx)
        have b2 : (x == (p : Int)) = true := by simpa using hx
        clear hx
        go_wp2_with fail
        go_ret
        exact ⟨ret_bool HV.out.symm, rfl⟩
      · have b2 : (x == (p : Int)) = false := by simpa using hx
        have HV : Hid (∀ j, j < k + 1 → x ≠ ((2 ^ (j + 1) : Nat) : Int)) := fun j hj => by
          rcases Nat.lt_or_ge j k with h | h
          · exact HN.out j h
          · obtain rfl : j = k := by omega
            rw [← HP.out]; exact hx
        clear hx
        go_wp2_with fail
        exact ⟨⟨k + 1, p * 2, by omega, by go_num, by show _ = _; rw [HP.out, Nat.pow_succ 2 (k + 1)], HV⟩, by simp [intOf]; omega⟩
    · obtain rfl : k = 8 := by omega
      have hp : p = 512 := HP.out
      have b1 : decide ((p : Int) ≤ 256) = false := by simp; omega
      have HV : Hid (pow2 x = false) := pow2_not HN.out
      go_wp2_with fail
      go_ret
      exact ⟨ret_bool HV.out.symm, rfl⟩

set_option maxHeartbeats 6400000 in
set_option maxRecDepth 100000 in
theorem refCheck9 (d : Du) (A : Option Addr) (n c : Nat) (B : Option Addr) (m e : Nat) (w : World) (hu : IsU w d A n B m) (hp : d.progs.length ≤ 100000) (hs : d.starts.length ≤ 100000) (hb : ∀ p ∈ d.progs, p.length ≤ 9223372036854775807) (hm : ∀ s ∈ d.starts, s.mask < 18446744073709551616) :
    Calls Tryd.prog 99 #[.agg (uC d A n c B m e)] w fun e w' => e = .returned (.int .i64 (checkU d)) ∧ Kept [] w w' := by
  obtain ⟨hu1, hu2⟩ := hu
  have hn := hu1.len
  have hmm := hu2.len
  have HU1 := Lib.hid hu1
  have HU2 := Lib.hid hu2
  have HBL := Lib.hid hb
  have HMM := Lib.hid hm
  have HC1 := Lib.hid (@checkU_size d)
  have HC2 := Lib.hid (@checkU_long d)
  have HC3 := Lib.hid (@checkU_prog d)
  have HC4 := Lib.hid (@checkU_start d)
  generalize checkU d = ck at *
  obtain ⟨cpus, threads, locks, cap, boost, keep, ratio, progs, starts⟩ := d
  simp only [uC]
  simp only at HU1 HU2 HBL HMM HC1 HC2 HC3 HC4 hp hs hn hmm
  subst hn hmm
  clear hu1 hu2 hb hm
  have HPW := Lib.hid (fun w => refPower cap w)
  have HB : Hid (Blk (w.alloc (.cells #[.int .i64 cpus, .int .i64 threads, .int .i64 locks, .int .i64 cap, .int .u64 boost, .float .f64 keep, .float .f64 ratio, .slice A progs.length c, .slice B starts.length e] 54)) w.heap.size 54 #[.int .i64 cpus, .int .i64 threads, .int .i64 locks, .int .i64 cap, .int .u64 boost, .float .f64 keep, .float .f64 ratio, .slice A progs.length c, .slice B starts.length e]) := Blk.new _ _ _
  have HK := Lib.hid ((Kept.refl [] w).alloc (.cells #[.int .i64 cpus, .int .i64 threads, .int .i64 locks, .int .i64 cap, .int .u64 boost, .float .f64 keep, .float .f64 ratio, .slice A progs.length c, .slice B starts.length e] 54))
  have hc := HB.out.cell
  have hlt := HB.out.lt
  by_cases h1 : 1 ≤ cpus ∧ cpus ≤ 64
  · have H1 : Hid (∀ w, Calls Tryd.prog 138 #[.int .i64 cpus, .int .i64 1, .int .i64 64] w fun e w' => e = .returned (.bool true) ∧ w = w') := fun w => by have := refIn (cpus) (1) (64) w; rwa [decide_eq_true h1] at this
    by_cases h2 : 1 ≤ threads ∧ threads ≤ 64
    · have H2 : Hid (∀ w, Calls Tryd.prog 138 #[.int .i64 threads, .int .i64 1, .int .i64 64] w fun e w' => e = .returned (.bool true) ∧ w = w') := fun w => by have := refIn (threads) (1) (64) w; rwa [decide_eq_true h2] at this
      by_cases h3 : 0 ≤ locks ∧ locks ≤ 64
      · have H3 : Hid (∀ w, Calls Tryd.prog 138 #[.int .i64 locks, .int .i64 0, .int .i64 64] w fun e w' => e = .returned (.bool true) ∧ w = w') := fun w => by have := refIn (locks) (0) (64) w; rwa [decide_eq_true h3] at this
        cases hpw : pow2 cap with
        | false =>
          have HV := Lib.hid (HC1.out (by simp only [sizedU, hpw, Bool.false_and, Bool.and_false]))
          rw [hpw] at HPW
          have H4 := HPW
          clear HC1 HC2 HC3 HC4 h1 h2 h3 hpw
          go_enter Tryd.func99, Tryd.ntmps99
          go_wp2_with fail
          refine (H1.out _).mono ?_
          rintro e w1 ⟨rfl, rfl⟩
          go_wp2_with fail
          refine (H2.out _).mono ?_
          rintro e w1 ⟨rfl, rfl⟩
          go_wp2_with fail
          refine (H3.out _).mono ?_
          rintro e w1 ⟨rfl, rfl⟩
          go_wp2_with fail
          refine (H4.out _).mono ?_
          rintro e w1 ⟨rfl, rfl⟩
          go_wp2_with fail
          go_ret
          exact ⟨ret_int HV.out.symm, HK.out⟩
        | true =>
          rw [hpw] at HPW
          have H4 := HPW
          by_cases h5 : threads ≤ cap
          · have b5 : decide (cap < threads) = false := by simp; omega
            by_cases h6 : 1 ≤ boost
            · have b6 : decide ((boost : Int) < 1) = false := by simp; omega
              by_cases h7 : boost ≤ 65536
              · have b7 : decide ((65536 : Int) < (boost : Int)) = false := by simp; omega
                have hsz : sizedU ⟨cpus, threads, locks, cap, boost, keep, ratio, progs, starts⟩ = true := by simp only [sizedU, h1, h2, h3, hpw, h5, h6, h7, and_self, decide_true, Bool.and_self]
                have HC2' := Lib.hid (HC2.out hsz)
                have HC3' := Lib.hid (HC3.out hsz)
                have HC4' := Lib.hid (HC4.out hsz)
                obtain ⟨cp, rfl⟩ := Int.eq_ofNat_of_zero_le (show 0 ≤ cpus by omega)
                have hcp1 : 1 ≤ cp := by omega
                have hcp2 : cp ≤ 64 := by omega
                clear HC1 HC2 HC3 HC4 h1 h2 h3 hpw h5 h6 h7 hsz
                by_cases hl : 64 < progs.length ∨ 64 < starts.length
                · have HV := Lib.hid (HC2'.out hl)
                  clear HC2' HC3' HC4'
                  by_cases h2 : 64 < progs.length
                  · have b2 : decide ((64 : Int) < (progs.length : Int)) = true := by simp; omega
                    clear hl h2
                    go_enter Tryd.func99, Tryd.ntmps99
                    go_wp2_with fail
                    refine (H1.out _).mono ?_
                    rintro e w1 ⟨rfl, rfl⟩
                    go_wp2_with fail
                    refine (H2.out _).mono ?_
                    rintro e w1 ⟨rfl, rfl⟩
                    go_wp2_with fail
                    refine (H3.out _).mono ?_
                    rintro e w1 ⟨rfl, rfl⟩
                    go_wp2_with fail
                    refine (H4.out _).mono ?_
                    rintro e w1 ⟨rfl, rfl⟩
                    go_wp2_with fail
                    go_ret
                    exact ⟨ret_int HV.out.symm, HK.out⟩
                  · have b2 : decide ((64 : Int) < (progs.length : Int)) = false := by simp; omega
                    have b3 : decide ((64 : Int) < (starts.length : Int)) = true := by simp; omega
                    clear hl h2
                    go_enter Tryd.func99, Tryd.ntmps99
                    go_wp2_with fail
                    refine (H1.out _).mono ?_
                    rintro e w1 ⟨rfl, rfl⟩
                    go_wp2_with fail
                    refine (H2.out _).mono ?_
                    rintro e w1 ⟨rfl, rfl⟩
                    go_wp2_with fail
                    refine (H3.out _).mono ?_
                    rintro e w1 ⟨rfl, rfl⟩
                    go_wp2_with fail
                    refine (H4.out _).mono ?_
                    rintro e w1 ⟨rfl, rfl⟩
                    go_wp2_with fail
                    go_ret
                    exact ⟨ret_int HV.out.symm, HK.out⟩
                · have HC3'' := Lib.hid (HC3'.out hl)
                  have HC4'' := Lib.hid (HC4'.out hl)
                  have hl1 : progs.length ≤ 64 := by omega
                  have hl2 : starts.length ≤ 64 := by omega
                  have b2 : decide ((64 : Int) < (progs.length : Int)) = false := by simp; omega
                  have b3 : decide ((64 : Int) < (starts.length : Int)) = false := by simp; omega
                  clear hl HC2' HC3' HC4'
                  go_enter Tryd.func99, Tryd.ntmps99
                  go_wp2_with fail
                  refine (H1.out _).mono ?_
                  rintro e w1 ⟨rfl, rfl⟩
                  go_wp2_with fail
                  refine (H2.out _).mono ?_
                  rintro e w1 ⟨rfl, rfl⟩
                  go_wp2_with fail
                  refine (H3.out _).mono ?_
                  rintro e w1 ⟨rfl, rfl⟩
                  go_wp2_with fail
                  refine (H4.out _).mono ?_
                  rintro e w1 ⟨rfl, rfl⟩
                  go_wp2_with fail
                  generalize w.alloc (.cells #[.int .i64 (cp : Int), .int .i64 threads, .int .i64 locks, .int .i64 cap, .int .u64 boost, .float .f64 keep, .float .f64 ratio, .slice A progs.length c, .slice B starts.length e] 54) = w1 at *
                  go_loopw [3] (fun iv wr => ∃ k : Nat, k ≤ progs.length ∧ iv = .int .i64 k ∧ Hid (badP (progs.take k) = 0) ∧ Hid (Kept [] w1 wr)) (fun i _ => progs.length - (intOf i).toNat)
                  case atStart => exact ⟨0, by omega, rfl, rfl, Kept.refl _ _⟩
                  case round =>
                    obtain ⟨k, hk, rfl, HBK, HKR⟩ := hrel
                    have HBR := Lib.hid (HB.out.kept HKR.out (by simp))
                    have hcr := HBR.out.cell
                    have hltr := HBR.out.lt
                    have HKW := Lib.hid (HK.out.trans HKR.out)
                    clear hc hlt
                    by_cases hlt : k < progs.length
                    · obtain ⟨p, b, o, Ai, ni, ci, rfl, hx, hb, hc0, hrp⟩ := (HU1.out.old HKW.out).at_ hlt
                      have hi0 : (0 : Int) ≤ (k : Int) := by omega
                      have hi1 : (k : Int) < (progs.length : Int) := by omega
                      have hpl := HBL.out p (List.mem_of_getElem? hx)
                      have hnl := hrp.len
                      have HC := Lib.hid (refCheckP Ai ni ci p wr hrp (by omega))
                      have HX := Lib.hid hx
                      clear hx hrp hnl
                      by_cases h0 : checkP p = 0
                      · rw [h0] at HC
                        have HS : Hid (badP (progs.take (k + 1)) = 0) := by show _ = _; rw [take_snocA HX.out, badP_snoc, HBK.out, h0]; rfl
                        clear h0
                        go_wp2_with fail
                        refine (HC.out).mono ?_
                        rintro e w2 ⟨rfl, hk2⟩
                        have HK2 := Lib.hid (HKR.out.trans hk2)
                        clear hk2
                        go_wp2_with fail
                        go_roundw
                        case rel => exact ⟨k + 1, by omega, by go_num, HS, HK2⟩
                        case measure => simp [intOf]; omega
                      · have hcb : (checkP p != 0) = true := by simp [h0]
                        have HS := badP_at HX.out HBK.out h0
                        have HV : Hid (ck = checkP p) := by show _ = _; rw [HC3''.out (by rw [HS]; exact h0), HS]
                        generalize checkP p = kk at *
                        clear h0 HS
                        go_wp2_with fail
                        refine (HC.out).mono ?_
                        rintro e w2 ⟨rfl, hk2⟩
                        have HK2 := Lib.hid (HKW.out.trans hk2)
                        clear hk2
                        go_wp2_with fail
                        go_ret
                        exact ⟨ret_int HV.out.symm, HK2.out⟩
                    · obtain rfl : k = progs.length := by omega
                      rw [List.take_of_length_le (Nat.le_refl _)] at HBK
                      have HV := Lib.hid (HC4''.out HBK.out)
                      clear HBK HC3'' HC4''
                      go_wp2_with fail
                      generalize wr = w2 at *
                      have HB2 := HBR
                      have HK2 := HKW
                      go_loopw [5] (fun iv wr => ∃ k : Nat, k ≤ starts.length ∧ iv = .int .i64 k ∧ Hid (badS progs.length (cp : Int) (starts.take k) = 0) ∧ Hid (Kept [] w2 wr)) (fun i _ => starts.length - (intOf i).toNat)
                      case atStart => exact ⟨0, by omega, rfl, rfl, Kept.refl _ _⟩
                      case round =>
                        obtain ⟨k, hk, rfl, HBS, HKS⟩ := hrel
                        have HBR2 := Lib.hid (HB2.out.kept HKS.out (by simp))
                        have hcr2 := HBR2.out.cell
                        have hltr2 := HBR2.out.lt
                        have HKW2 := Lib.hid (HK2.out.trans HKS.out)
                        clear hcr hltr
                        by_cases hlt : k < starts.length
                        · obtain ⟨s, b, o, rfl, hx, hb, hs0, hs1, hs2⟩ := (HU2.out.old HKW2.out).at_ hlt
                          have hi0 : (0 : Int) ≤ (k : Int) := by omega
                          have hi1 : (k : Int) < (starts.length : Int) := by omega
                          have hml := HMM.out s (List.mem_of_getElem? hx)
                          have HX := Lib.hid hx
                          have HSC := Lib.hid (@startC_bad progs.length (cp : Int) s)
                          have HSM := Lib.hid (@startC_mask progs.length (cp : Int) s)
                          have HAT : Hid (startC progs.length (cp : Int) s ≠ 0 → badS progs.length (cp : Int) starts = startC progs.length (cp : Int) s) := fun h => badS_at HX.out HBS.out h
                          have HSN : Hid (startC progs.length (cp : Int) s = 0 → badS progs.length (cp : Int) (starts.take (k + 1)) = 0) := fun h => by rw [take_snocA HX.out, badS_snoc, HBS.out, h]; rfl
                          obtain ⟨pg, gr, mk⟩ := s
                          simp only at hs0 hs1 hs2 hml HSC HSM
                          have HG1 := Lib.hid (fun w => refIn pg 0 ((progs.length : Int) - 1) w)
                          have HG2 := Lib.hid (fun w => refIn gr 0 7 w)
                          generalize startC progs.length (cp : Int) ⟨pg, gr, mk⟩ = sc at *
                          clear hx HX
                          have hwl : IntKind.i64.wrap ((progs.length : Int) - 1) = (progs.length : Int) - 1 := IntWalk.i64_in _ (by omega)
                          by_cases h4 : pg < 0 ∨ (progs.length : Int) ≤ pg ∨ gr < 0 ∨ 7 < gr
                          · have h1 := HSC.out h4
                            have HV2 : Hid (ck = 1) := by show _ = _; rw [HV.out, HAT.out (by omega), h1]
                            clear HSC HSM HAT HSN h1
                            by_cases h5 : 0 ≤ pg ∧ pg ≤ (progs.length : Int) - 1
                            · rw [decide_eq_true h5] at HG1
                              rw [decide_eq_false (by omega)] at HG2
                              clear h4 h5
                              go_wp2_with fail
                              refine (HG1.out _).mono ?_
                              rintro e w3 ⟨rfl, rfl⟩
                              go_wp2_with fail
                              refine (HG2.out _).mono ?_
                              rintro e w3 ⟨rfl, rfl⟩
                              go_wp2_with fail
                              go_ret
                              exact ⟨ret_int HV2.out.symm, HKW2.out.alloc _⟩
                            · rw [decide_eq_false h5] at HG1
                              clear h4 h5
                              go_wp2_with fail
                              refine (HG1.out _).mono ?_
                              rintro e w3 ⟨rfl, rfl⟩
                              go_wp2_with fail
                              go_ret
                              exact ⟨ret_int HV2.out.symm, HKW2.out.alloc _⟩
                          · have hsm := HSM.out h4
                            rw [decide_eq_true (by omega)] at HG1 HG2
                            have hp2 : 2 ^ cp - 1 < 18446744073709551616 := by
                              have : 2 ^ cp ≤ 2 ^ 64 := Nat.pow_le_pow_right (by omega) (by omega)
                              omega
                            have HSA := Lib.hid (fun w => refAll1 cp w hcp1 hcp2)
                            simp only [Int.toNat_natCast] at hsm
                            have hsm0 : mk &&& (2 ^ cp - 1) = 0 → sc = 10 := fun h => by rw [hsm, if_pos h]
                            have hsm1 : mk &&& (2 ^ cp - 1) ≠ 0 → sc = 0 := fun h => by rw [hsm, if_neg h]
                            clear hsm
                            generalize 2 ^ cp - 1 = all at *
                            have hand := u64_and_nat mk all hml hp2
                            generalize mk &&& all = an at *
                            clear h4 HSC HSM
                            by_cases h0 : an = 0
                            · subst h0
                              have hsm := hsm0 rfl
                              have HV2 : Hid (ck = 10) := by show _ = _; rw [HV.out, HAT.out (by omega), hsm]
                              clear hsm hsm0 hsm1 HAT HSN
                              go_wp2_with fail
                              refine (HG1.out _).mono ?_
                              rintro e w3 ⟨rfl, rfl⟩
                              go_wp2_with fail
                              refine (HG2.out _).mono ?_
                              rintro e w3 ⟨rfl, rfl⟩
                              have hB := Lib.hid (Blk.new wr 118 #[.int .i64 pg, .int .i64 gr, .int .u64 mk])
                              have hD := Lib.hid (HBR2.out.alloc (.cells #[.int .i64 pg, .int .i64 gr, .int .u64 mk] 118))
                              have hK := Lib.hid (HKS.out.alloc (.cells #[.int .i64 pg, .int .i64 gr, .int .u64 mk] 118))
                              have hcB := hB.out.cell
                              have hcD := hD.out.cell
                              go_wp2_with fail
                              go_region_held3 (fun w' => w'.cell? ⟨wr.heap.size, 2, none⟩ = some (.int .u64 mk) ∧ w'.cell? ⟨w.heap.size, 0, none⟩ = some (.int .i64 (cp : Int))) (go_keep) ((go_at_call 140; refine (HSA.out _).mono ?_; rintro e w4 ⟨rfl, hk1⟩; have hB := Lib.hid (Blk.kept (hk := hk1) (h := by exact hB.out) (hg := by simp)); have hD := Lib.hid (Blk.kept (hk := hk1) (h := by exact hD.out) (hg := by simp)); have hcB := hB.out.cell; have hcD := hD.out.cell; have hK := Lib.hid (Kept.trans (h := by first | exact hK.out | exact hK.out.drew) (h' := hk1)); clear hk1))
                              all_goals
                                go_wp2_with fail
                                go_ret
                                exact ⟨ret_int HV2.out.symm, HK2.out.trans (by first | exact hK.out | exact hK.out.drew)⟩
                            · have ba : ((an : Int) == 0) = false := by simp; omega
                              have hsm := hsm1 h0
                              have HV2 := Lib.hid (HSN.out hsm)
                              clear hsm hsm0 hsm1 HAT HSN h0
                              go_wp2_with fail
                              refine (HG1.out _).mono ?_
                              rintro e w3 ⟨rfl, rfl⟩
                              go_wp2_with fail
                              refine (HG2.out _).mono ?_
                              rintro e w3 ⟨rfl, rfl⟩
                              have hB := Lib.hid (Blk.new wr 118 #[.int .i64 pg, .int .i64 gr, .int .u64 mk])
                              have hD := Lib.hid (HBR2.out.alloc (.cells #[.int .i64 pg, .int .i64 gr, .int .u64 mk] 118))
                              have hK := Lib.hid (HKS.out.alloc (.cells #[.int .i64 pg, .int .i64 gr, .int .u64 mk] 118))
                              have hcB := hB.out.cell
                              have hcD := hD.out.cell
                              go_wp2_with fail
                              go_region_held3 (fun w' => w'.cell? ⟨wr.heap.size, 2, none⟩ = some (.int .u64 mk) ∧ w'.cell? ⟨w.heap.size, 0, none⟩ = some (.int .i64 (cp : Int))) (go_keep) ((go_at_call 140; refine (HSA.out _).mono ?_; rintro e w4 ⟨rfl, hk1⟩; have hB := Lib.hid (Blk.kept (hk := hk1) (h := by exact hB.out) (hg := by simp)); have hD := Lib.hid (Blk.kept (hk := hk1) (h := by exact hD.out) (hg := by simp)); have hcB := hB.out.cell; have hcD := hD.out.cell; have hK := Lib.hid (Kept.trans (h := by first | exact hK.out | exact hK.out.drew) (h' := hk1)); clear hk1))
                              all_goals
                                go_wp2_with fail
                                go_roundw
                                case rel => exact ⟨k + 1, by omega, by go_num, HV2, by first | exact hK | exact Lib.hid (hK.out.drew)⟩
                                case measure => simp [intOf]; omega
                        · obtain rfl : k = starts.length := by omega
                          rw [List.take_of_length_le (Nat.le_refl _)] at HBS
                          have HV2 : Hid (ck = 0) := by show _ = _; rw [HV.out, HBS.out]
                          go_wp2_with fail
                          go_ret
                          exact ⟨ret_int HV2.out.symm, HKW2.out⟩
              · have b7 : decide ((65536 : Int) < (boost : Int)) = true := by simp; omega
                have HV := Lib.hid (HC1.out (by simp only [sizedU, h7, decide_false, Bool.and_false, and_false]))
                clear HC1 HC2 HC3 HC4 h1 h2 h3 hpw h5 h6 h7
                go_enter Tryd.func99, Tryd.ntmps99
                go_wp2_with fail
                refine (H1.out _).mono ?_
                rintro e w1 ⟨rfl, rfl⟩
                go_wp2_with fail
                refine (H2.out _).mono ?_
                rintro e w1 ⟨rfl, rfl⟩
                go_wp2_with fail
                refine (H3.out _).mono ?_
                rintro e w1 ⟨rfl, rfl⟩
                go_wp2_with fail
                refine (H4.out _).mono ?_
                rintro e w1 ⟨rfl, rfl⟩
                go_wp2_with fail
                go_ret
                exact ⟨ret_int HV.out.symm, HK.out⟩
            · have b6 : decide ((boost : Int) < 1) = true := by simp; omega
              have HV := Lib.hid (HC1.out (by simp only [sizedU, h6, decide_false, Bool.and_false, false_and]))
              clear HC1 HC2 HC3 HC4 h1 h2 h3 hpw h5 h6
              go_enter Tryd.func99, Tryd.ntmps99
              go_wp2_with fail
              refine (H1.out _).mono ?_
              rintro e w1 ⟨rfl, rfl⟩
              go_wp2_with fail
              refine (H2.out _).mono ?_
              rintro e w1 ⟨rfl, rfl⟩
              go_wp2_with fail
              refine (H3.out _).mono ?_
              rintro e w1 ⟨rfl, rfl⟩
              go_wp2_with fail
              refine (H4.out _).mono ?_
              rintro e w1 ⟨rfl, rfl⟩
              go_wp2_with fail
              go_ret
              exact ⟨ret_int HV.out.symm, HK.out⟩
          · have b5 : decide (cap < threads) = true := by simp; omega
            have HV := Lib.hid (HC1.out (by simp only [sizedU, h5, decide_false, Bool.false_and, Bool.and_false]))
            clear HC1 HC2 HC3 HC4 h1 h2 h3 hpw h5
            go_enter Tryd.func99, Tryd.ntmps99
            go_wp2_with fail
            refine (H1.out _).mono ?_
            rintro e w1 ⟨rfl, rfl⟩
            go_wp2_with fail
            refine (H2.out _).mono ?_
            rintro e w1 ⟨rfl, rfl⟩
            go_wp2_with fail
            refine (H3.out _).mono ?_
            rintro e w1 ⟨rfl, rfl⟩
            go_wp2_with fail
            refine (H4.out _).mono ?_
            rintro e w1 ⟨rfl, rfl⟩
            go_wp2_with fail
            go_ret
            exact ⟨ret_int HV.out.symm, HK.out⟩
      · have H3 : Hid (∀ w, Calls Tryd.prog 138 #[.int .i64 locks, .int .i64 0, .int .i64 64] w fun e w' => e = .returned (.bool false) ∧ w = w') := fun w => by have := refIn (locks) (0) (64) w; rwa [decide_eq_false h3] at this
        have HV := Lib.hid (HC1.out (by simp only [sizedU, h3, decide_false, Bool.false_and, Bool.and_false]))
        clear HC1 HC2 HC3 HC4 h1 h2 h3
        go_enter Tryd.func99, Tryd.ntmps99
        go_wp2_with fail
        refine (H1.out _).mono ?_
        rintro e w1 ⟨rfl, rfl⟩
        go_wp2_with fail
        refine (H2.out _).mono ?_
        rintro e w1 ⟨rfl, rfl⟩
        go_wp2_with fail
        refine (H3.out _).mono ?_
        rintro e w1 ⟨rfl, rfl⟩
        go_wp2_with fail
        go_ret
        exact ⟨ret_int HV.out.symm, HK.out⟩
    · have H2 : Hid (∀ w, Calls Tryd.prog 138 #[.int .i64 threads, .int .i64 1, .int .i64 64] w fun e w' => e = .returned (.bool false) ∧ w = w') := fun w => by have := refIn (threads) (1) (64) w; rwa [decide_eq_false h2] at this
      have HV := Lib.hid (HC1.out (by simp only [sizedU, h2, decide_false, Bool.false_and, Bool.and_false]))
      clear HC1 HC2 HC3 HC4 h1 h2
      go_enter Tryd.func99, Tryd.ntmps99
      go_wp2_with fail
      refine (H1.out _).mono ?_
      rintro e w1 ⟨rfl, rfl⟩
      go_wp2_with fail
      refine (H2.out _).mono ?_
      rintro e w1 ⟨rfl, rfl⟩
      go_wp2_with fail
      go_ret
      exact ⟨ret_int HV.out.symm, HK.out⟩
  · have H1 : Hid (∀ w, Calls Tryd.prog 138 #[.int .i64 cpus, .int .i64 1, .int .i64 64] w fun e w' => e = .returned (.bool false) ∧ w = w') := fun w => by have := refIn (cpus) (1) (64) w; rwa [decide_eq_false h1] at this
    have HV := Lib.hid (HC1.out (by simp only [sizedU, h1, decide_false, Bool.false_and]))
    clear HC1 HC2 HC3 HC4 h1
    go_enter Tryd.func99, Tryd.ntmps99
    go_wp2_with fail
    refine (H1.out _).mono ?_
    rintro e w1 ⟨rfl, rfl⟩
    go_wp2_with fail
    go_ret
    exact ⟨ret_int HV.out.symm, HK.out⟩

end Go.Proofs.YtmhlmoojmdfnfaaDoor

/- The document's Decode of a duty. -/
namespace Go.Proofs.YtmhlmoojmdfnfaaDoor
open Go.RowKit
attribute [local go_sem] from_run run_store_float

/-- What the document's Decode works on: the result, its reader, the numbers. -/
structure RD9 (w wr : World) (A : Option Addr) (m c : Nat) (s : RS) (x : Nat → Nat) (k : Nat) : Prop where
  res : Blk wr w.heap.size 54 #[.int .i64 0, .int .i64 0, .int .i64 0, .int .i64 0, .int .u64 0, .float .f64 0, .float .f64 0, .slice none 0 0, .slice none 0 0]
  rd : Blk wr (w.heap.size + 1) 62 #[.slice A m c, .int .i64 s.1]
  isD : IsD wr w.heap.size A m c s
  arr : Blk wr (w.heap.size + 2) 104 (arrC x k)
  kept : Kept [] w wr
theorem RD9.old {w wr w2 : World} {A : Option Addr} {m c : Nat} {s : RS} {x : Nat → Nat} {k : Nat} (h : RD9 w wr A m c s x k) (hk : Kept [] wr w2) : RD9 w w2 A m c s x k :=
  ⟨h.res.kept hk (by simp), h.rd.kept hk (by simp), h.isD.old hk, h.arr.kept hk (by simp), h.kept.trans hk⟩
theorem RD9.far {w wr w2 : World} {A : Option Addr} {m c : Nat} {s : RS} {x : Nat → Nat} {k : Nat} {G : List Nat} (h : RD9 w wr A m c s x k) (hk : Kept G wr w2) (hG : ∀ q, q ∈ G → w.heap.size + 2 < q) : RD9 w w2 A m c s x k :=
  ⟨h.res.kept hk (fun hm => by have := hG _ hm; omega), h.rd.kept hk (fun hm => by have := hG _ hm; omega), h.isD.kept hk (fun q hq => by have := hG q hq; omega), h.arr.kept hk (fun hm => by have := hG _ hm; omega), h.kept.trans' hk (fun q hq => .inr (by have := hG q hq; omega))⟩
theorem RD9.put {w wr : World} {A A' : Option Addr} {m c m' c' : Nat} {s s' : RS} {x : Nat → Nat} {k : Nat} (h : RD9 w wr A m c s x k) (hD : IsD wr w.heap.size A' m' c' s') :
    RD9 w ((wr.setCell ⟨w.heap.size + 1, 0, none⟩ (.slice A' m' c')).setCell ⟨w.heap.size + 1, 1, none⟩ (.int .i64 s'.1)) A' m' c' s' x k :=
  ⟨(h.res.far (by simp only; omega) _).far (by simp only; omega) _, (h.rd.set 0 _).set 1 _, (hD.set (by simp only; omega) _).set (by simp only; omega) _, (h.arr.far (by simp only; omega) _).far (by simp only; omega) _, (h.kept.setCell (.inr (by simp only; omega)) _).setCell (.inr (by simp only; omega)) _⟩
theorem RD9.num {w wr : World} {A : Option Addr} {m c : Nat} {s : RS} {x : Nat → Nat} {k : Nat} (h : RD9 w wr A m c s x k) (hk : k < 7) : RD9 w (wr.setCell ⟨w.heap.size + 2, k, none⟩ (.int .u64 (x k : Int))) A m c s x (k + 1) :=
  ⟨h.res.far (by simp only; omega) _, h.rd.far (by simp only; omega) _, h.isD.set (by simp only; omega) _, by rw [← arrC_set x k hk]; exact h.arr.set k _, h.kept.setCell (.inr (by simp only; omega)) _⟩

theorem RowPP.kept_own {w wr w2 : World} {l : List (List Dd)} {A : Option Addr} {n c : Nat} {v : Value} {k : Nat} {xs : List Value} (h : RowPP w wr l A n c) (ho : wr.ownsRow 0 118 3 v k xs) (hk : Kept (fp v) wr w2) : RowPP w w2 l A n c := by
  obtain ⟨ys, h1, h2, h3, h4⟩ := h
  refine ⟨ys, own_kept h1 hk (own_own_ne h1 ho (by decide)), h2, h3, fun i p hp => ?_⟩
  obtain ⟨A, n, c, e, hr⟩ := h4 i p hp
  exact ⟨A, n, c, e, own_kept hr.1 hk (own_own_ne hr.1 ho (by decide)), hr.2⟩
/-- A block that is a single thing's, of another type than the rows'. -/
theorem own_far {w w2 : World} {b e size n : Nat} {v : Value} {xs : List Value} {G : List Nat} (h : w.ownsRow b e size v n xs) (hk : Kept G w w2) (hG : ∀ q ∈ G, ∃ t cs, Blk w q t cs ∧ e ≠ t) : w2.ownsRow b e size v n xs :=
  own_kept h hk (fun k hk' hm => by
    obtain ⟨t, cs, hb, hne⟩ := hG k hm
    exact own_blk_ne h hb hne (mem_fp.1 hk'))
theorem RowPP.far2 {w wr w2 : World} {l : List (List Dd)} {A : Option Addr} {n c : Nat} {G : List Nat} (h : RowPP w wr l A n c) (hk : Kept G wr w2) (hG : ∀ q ∈ G, ∃ cs, Blk wr q 118 cs) : RowPP w w2 l A n c := by
  obtain ⟨ys, h1, h2, h3, h4⟩ := h
  refine ⟨ys, own_far h1 hk (fun q hq => by obtain ⟨cs, hb⟩ := hG q hq; exact ⟨_, cs, hb, by decide⟩), h2, h3, fun i p hp => ?_⟩
  obtain ⟨A, n, c, e, hr⟩ := h4 i p hp
  exact ⟨A, n, c, e, own_far hr.1 hk (fun q hq => by obtain ⟨cs, hb⟩ := hG q hq; exact ⟨_, cs, hb, by decide⟩), hr.2⟩
theorem RowS.far2 {w wr w2 : World} {l : List St} {A : Option Addr} {n c : Nat} {G : List Nat} (h : RowS w wr l A n c) (hk : Kept G wr w2) (hG : ∀ q ∈ G, q ∉ fp (.slice A n c)) : RowS w w2 l A n c := ⟨own_kept h.1 hk (fun k hk' hm => hG k hm hk'), h.2⟩
theorem doneS_zero {s : RS} (h : doneS s = 0) : s.1 = 0 := by
  unfold doneS at h
  split at h
  · simp at h
  · exact h
/-- What is left to do behind the starts. -/
def endU (x : Nat → Nat) (ps : List (List Dd)) (T : RS × List St × Bool) : Du × Int :=
  if doneS T.1 ≠ 0 then (Du.zero, doneS T.1) else if T.2.2 = true then (Du.zero, 5) else
  if checkU (headU x ps T.2.1) ≠ 0 then (Du.zero, checkU (headU x ps T.2.1)) else (headU x ps T.2.1, 0)
theorem end_bad (x : Nat → Nat) (ps : List (List Dd)) (s : RS) (g : Bool) (h : (countU s).2.2 ≠ 0) : endU x ps (startsK (countU s).2.1 (refSC (countU s)) [] g) = (Du.zero, (countU s).2.2) := by
  rw [countU_bad h, refSC, if_neg h]
  unfold endU startsK
  simp only [doneS_err]
  rw [if_pos h]
theorem end_ok (x : Nat → Nat) (ps : List (List Dd)) (s : RS) (h : (countU s).2.2 = 0) : endU x ps (startsK (countU s).2.1 (refSC (countU s)) [] (greatU x)) = decT x ps (startsU s) := by
  rw [refSC, if_pos h, show greatU x = (greatU x || false) by simp, startsK_or]
  unfold endU decT startsU
  simp only [h]
  rw [if_neg (show ¬ (0 : Int) ≠ 0 by simp), Bool.or_comm]
theorem end_err (x : Nat → Nat) (ps : List (List Dd)) (s : RS) (g : Bool) (h : s.1 ≠ 0) : endU x ps (startsK (countU s).2.1 (refSC (countU s)) [] g) = (Du.zero, s.1) := by
  have h1 := countU_stays h
  have h2 : (countU s).2.2 ≠ 0 := by rw [h1]; exact h
  rw [end_bad x ps s g h2, h1]

set_option maxHeartbeats 12800000 in
set_option maxRecDepth 100000 in
theorem refDecode9 (A : Option Addr) (m c : Nat) (l : List UInt8) (w : World) (hD : IsD w w.heap.size A m c (0, l)) :
    Calls Tryd.prog 42 #[.slice A m c] w fun e w' => ∃ A n c B m e', e = .returned (.tuple #[.agg (uC (decU l).1 A n c B m e'), .int .i64 (decU l).2]) ∧ IsU w' (decU l).1 A n B m ∧ Kept [] w w' := by
  obtain ⟨R, hRR⟩ : ∃ R, decU l = R := ⟨_, rfl⟩
  rw [hRR]
  have HRR := Lib.hid hRR
  clear hRR
  have HD0 := Lib.hid hD
  clear hD
  go_enter Tryd.func42, Tryd.ntmps42
  go_wp2_with fail
  go_loopw [6] (fun kv wr => ∃ (k : Nat) (A' : Option Addr) (m' c' : Nat), k ≤ 7 ∧ kv = .int .i64 k ∧ Hid (RD9 w wr A' m' c' (rsAt (0, l) k) (nmAt (0, l)) k)) (fun k _ => 7 - (intOf k).toNat)
  case atStart =>
    refine ⟨0, A, m, c, by omega, rfl, ?_, ?_, ?_, ?_, ?_⟩
    · exact ((Blk.new w _ _).alloc _).alloc _
    · exact (Blk.newAt (by simp) _ _).alloc _
    · exact HD0.out.old ((((Kept.refl [] w).alloc _).alloc _).alloc _)
    · rw [arrC_zero]; exact Blk.newAt (by simp) _ _
    · exact (((Kept.refl [] w).alloc _).alloc _).alloc _
  case round =>
    obtain ⟨k, A', m', c', hk, rfl, HS⟩ := hrel
    have hws := HS.out.kept.size
    by_cases hlt : k < 7
    · have HN := Lib.hid (refGetNum w.heap.size A' m' c' _ wr HS.out.isD hws)
      have hi0 : (0 : Int) ≤ (k : Int) := by omega
      have hi1 : (k : Int) < 7 := by omega
      have hc1 := HS.out.rd.cell
      have hl1 := HS.out.rd.lt
      go_wp2_with fail
      refine (HN.out).mono ?_
      rintro e w3 ⟨A3, m3, c3, rfl, hd3, hk3⟩
      have HS3 := Lib.hid (HS.out.old hk3)
      have HP := Lib.hid (HS3.out.put (s' := rsAt (0, l) (k + 1)) hd3)
      have hr3 := HS3.out.rd.cell
      have hrf3 := HS3.out.rd.frozen
      have hrl3 := HS3.out.rd.lt
      obtain ⟨v0, hv0⟩ := HS3.out.arr.cell_lt (i := k) (by simp [arrC]; omega)
      have hf3 := HS3.out.arr.frozen k
      have hal3 := HS3.out.arr.lt
      clear hd3 hk3 hc1 hl1
      go_wp2_with fail
      go_roundw
      case rel => exact ⟨k + 1, A3, m3, c3, by omega, by go_num, HP.out.num hlt⟩
      case measure => simp [intOf]; omega
    · obtain rfl : k = 7 := by omega
      have hxl : ∀ i, nmAt (0, l) i < 18446744073709551616 := nmAt_lt _
      have hR := HRR.out
      unfold decU at hR
      have HR := Lib.hid hR
      clear hR HRR
      generalize nmAt (0, l) = x at *
      generalize rsAt (0, l) 7 = s7 at *
      have ha := HS.out.arr
      rw [arrC_done] at ha
      have hac := ha.cell
      have hal := ha.lt
      clear ha
      go_upto_region 7 with fail
      go_cut [7] (fun v wx => v = .bool (greatU x) ∧ wr = wx)
      case first =>
        have hg : greatU x = (bigN (x 0) || bigN (x 1) || bigN (x 2) || bigN (x 3)) := rfl
        have e0 := bigN_dec (x 0)
        have e1 := bigN_dec (x 1)
        have e2 := bigN_dec (x 2)
        have e3 := bigN_dec (x 3)
        have HG := Lib.hid hg
        clear hg
        generalize bigN (x 0) = q0 at *
        generalize bigN (x 1) = q1 at *
        generalize bigN (x 2) = q2 at *
        generalize bigN (x 3) = q3 at *
        cases q0 <;> cases q1 <;> cases q2 <;> cases q3
        all_goals
          go_wp2_with fail
          go_meet
          exact ⟨by rw [HG.out]; rfl, rfl⟩
      case rest =>
        obtain ⟨rfl, rfl⟩ := hcut
        generalize hgr : greatU x = gr at *
        have HGR := Lib.hid hgr
        clear hgr
        go_upto_region 8 with fail
        go_cut [8] (fun p wx => ∃ dx, p = .pointer (some ⟨dx, 0, none⟩) ∧ w.heap.size + 2 < dx ∧ Hid (Blk wx dx 54 #[.int .i64 (smallN (x 0)), .int .i64 (smallN (x 1)), .int .i64 (smallN (x 2)), .int .i64 (smallN (x 3)), .int .u64 (x 4 : Int), .float .f64 (x 5), .float .f64 (x 6), .slice none 0 0, .slice none 0 0]) ∧ Hid (RD9 w wx A' m' c' s7 x 7))
        case first =>
          have H0 := Lib.hid (fun w => refSmall9 (x 0) w (hxl 0))
          have H1 := Lib.hid (fun w => refSmall9 (x 1) w (hxl 1))
          have H2 := Lib.hid (fun w => refSmall9 (x 2) w (hxl 2))
          have H3 := Lib.hid (fun w => refSmall9 (x 3) w (hxl 3))
          go_region_held3 (fun w' => w'.cell? ⟨w.heap.size + 2, 0, none⟩ = some (.int .u64 (x 0 : Int)) ∧ w'.cell? ⟨w.heap.size + 2, 1, none⟩ = some (.int .u64 (x 1 : Int)) ∧ w'.cell? ⟨w.heap.size + 2, 2, none⟩ = some (.int .u64 (x 2 : Int)) ∧ w'.cell? ⟨w.heap.size + 2, 3, none⟩ = some (.int .u64 (x 3 : Int)) ∧ w'.cell? ⟨w.heap.size + 2, 4, none⟩ = some (.int .u64 (x 4 : Int)) ∧ w'.cell? ⟨w.heap.size + 2, 5, none⟩ = some (.int .u64 (x 5 : Int)) ∧ w'.cell? ⟨w.heap.size + 2, 6, none⟩ = some (.int .u64 (x 6 : Int))) (go_keep) (first | (go_at_call 96; first | (refine (H0.out _).mono ?_; rintro e w4 ⟨rfl, rfl⟩) | (refine (H1.out _).mono ?_; rintro e w4 ⟨rfl, rfl⟩) | (refine (H2.out _).mono ?_; rintro e w4 ⟨rfl, rfl⟩) | (refine (H3.out _).mono ?_; rintro e w4 ⟨rfl, rfl⟩)))
          all_goals
            go_wp2_with fail
            go_meet
            exact ⟨_, rfl, hal, by first | exact (Blk.new _ _ _).drew | exact Blk.new _ _ _, by first | exact HS.out.old (((Kept.refl [] _).alloc _).drew) | exact HS.out.old (((Kept.refl [] _).drew).alloc _)⟩
        case rest =>
          obtain ⟨dx, rfl, hdx, HDX, HS8⟩ := hcut
          clear HS hac hal
          generalize wc = wb at *
          have hws8 := HS8.out.kept.size
          have hdl8 := HDX.out.lt
          have HC := Lib.hid (refCount9 w.heap.size A' m' c' s7 wb HS8.out.isD hws8)
          have hcl := countU_le s7
          have hc8 := HS8.out.rd.cell
          have hl8 := HS8.out.rd.lt
          have HI0 : Hid (((refSC (countU s7)).1 = 0 ∧ progsU s7 = progsK ((countU s7).2.1 - 0) (refSC (countU s7)) []) ∨ ((refSC (countU s7)).1 ≠ 0 ∧ (progsU s7).2.2 = (refSC (countU s7)).1)) := by
            show _ ∨ _
            by_cases h1 : (countU s7).2.2 = 0
            · rw [refSC, if_pos h1]
              exact .inl ⟨countU_ok h1, by unfold progsU; rw [if_neg (by simp [h1])]; rfl⟩
            · rw [refSC, if_neg h1]
              exact .inr ⟨h1, by unfold progsU; rw [if_pos h1]⟩
          generalize (countU s7).2.1 = n1 at *
          generalize refSC (countU s7) = s8 at *
          go_wp2_with fail
          refine (HC.out).mono ?_
          rintro e w3 ⟨A3, m3, c3, rfl, hd3, hk3⟩
          have HS3 := Lib.hid (HS8.out.old hk3)
          have HP3 := Lib.hid (HS3.out.put hd3)
          have hr3 := HS3.out.rd.cell
          have hrf3 := HS3.out.rd.frozen
          have hrl3 := HS3.out.rd.lt
          have HDX3 := Lib.hid (((HDX.out.kept hk3 (by simp)).far (p := ⟨w.heap.size + 1, 0, none⟩) (by simp only; omega) (.slice A3 m3 c3)).far (p := ⟨w.heap.size + 1, 1, none⟩) (by simp only; omega) (.int .i64 s8.1))
          have hbw : wb.heap.size ≤ w3.heap.size := hk3.size
          clear hd3 hk3 hc8 hl8 HS3 HC
          go_wp2_with fail
          go_loopw [10] (fun iv wr => ∃ (k : Nat) (sx : RS) (acc : List (List Dd)) (A' : Option Addr) (m' c' : Nat) (Av : Option Addr) (cv : Nat), k ≤ n1 ∧ iv = .int .i64 k ∧ Hid ((sx.1 = 0 ∧ progsU s7 = progsK (n1 - k) sx acc) ∨ (sx.1 ≠ 0 ∧ (progsU s7).2.2 = sx.1)) ∧ Hid (RD9 w wr A' m' c' sx x 7) ∧ Hid (Blk wr dx 54 #[.int .i64 (smallN (x 0)), .int .i64 (smallN (x 1)), .int .i64 (smallN (x 2)), .int .i64 (smallN (x 3)), .int .u64 (x 4 : Int), .float .f64 (x 5), .float .f64 (x 6), .slice Av k cv, .slice none 0 0]) ∧ Hid (RowPP wb wr acc Av k cv) ∧ wb.heap.size ≤ wr.heap.size) (fun k _ => n1 - (intOf k).toNat)
          case atStart => exact ⟨0, s8, [], A3, m3, c3, none, 0, by omega, rfl, HI0, HP3, HDX3, RowPP.nil _ _, by simpa using hbw⟩
          case round =>
            clear HI0 HP3 HDX3 hr3 hrf3 hrl3
            obtain ⟨k, sx, acc, A4, m4, c4, Av, cv, hk, rfl, HU, HSr, HDr, HRW, hwb⟩ := hrel
            have hr4 := HSr.out.rd.cell
            have hrf4 := HSr.out.rd.frozen
            have hrl4 := HSr.out.rd.lt
            have hd4 := HDr.out.cell
            have hdf4 := HDr.out.frozen
            have hdl4 := HDr.out.lt
            go_upto_region 11 with fail
            go_cut [83] from 76 to 97 (fun v wx => v = .bool (decide (k < n1 ∧ sx.1 = 0)) ∧ wr = wx)
            case first =>
              by_cases h1 : k < n1
              · have b1 : decide ((k : Int) < (n1 : Int)) = true := by simp; omega
                by_cases h2 : sx.1 = 0
                · have b2 : (sx.1 == 0) = true := by simp [h2]
                  go_wp2_with fail
                  go_meet
                  exact ⟨by rw [decide_eq_true ⟨h1, h2⟩], rfl⟩
                · have b2 : (sx.1 == 0) = false := by simp [h2]
                  go_wp2_with fail
                  go_meet
                  exact ⟨by rw [decide_eq_false (fun h => h2 h.2)], rfl⟩
              · have b1 : decide ((k : Int) < (n1 : Int)) = false := by simp; omega
                go_wp2_with fail
                go_meet
                exact ⟨by rw [decide_eq_false (fun h => h1 h.1)], rfl⟩
            case rest =>
              obtain ⟨rfl, rfl⟩ := hcut
              by_cases hcont : k < n1 ∧ sx.1 = 0
              · rw [decide_eq_true hcont]
                obtain ⟨h1, h2⟩ := hcont
                have HP : Hid (progsU s7 = progsK (n1 - k) sx acc) := by
                  rcases HU.out with h | h
                  · exact h.2
                  · exact absurd h2 h.1
                have HG := Lib.hid (refGetP w.heap.size A4 m4 c4 sx wr HSr.out.isD HSr.out.kept.size)
                obtain ⟨j, hj⟩ : ∃ j, n1 - k = j + 1 := ⟨n1 - k - 1, by omega⟩
                have HU2 : Hid (((refSP (getPr sx)).1 = 0 ∧ progsU s7 = progsK (n1 - (k + 1)) (refSP (getPr sx)) (acc ++ [(getPr sx).2.1])) ∨ ((refSP (getPr sx)).1 ≠ 0 ∧ (progsU s7).2.2 = (refSP (getPr sx)).1)) := by
                  show _ ∨ _
                  rw [HP.out, hj, progsK, show n1 - (k + 1) = j by omega]
                  by_cases h4 : (getPr sx).2.2 = 0
                  · rw [refSP, if_pos h4, if_neg (by simp [h4])]
                    exact .inl ⟨getPr_ok h4, rfl⟩
                  · rw [refSP, if_neg h4, if_pos h4]
                    exact .inr ⟨h4, rfl⟩
                generalize refSP (getPr sx) = s2 at *
                generalize (getPr sx).2.1 = pp at *
                clear hj HP HU h2
                go_wp2_with fail
                refine (HG.out).mono ?_
                rintro e w3 ⟨A5, m5, c5, Ap, np, cp, rfl, hd5, hrow, hk5⟩
                have HS5 := Lib.hid ((HSr.out.old hk5).old ((Kept.refl [] _).alloc (.cells #[.slice A5 m5 c5, .int .i64 s2.1] 62)))
                have HP5 := Lib.hid (HS5.out.put (hd5.old ((Kept.refl [] _).alloc (.cells #[.slice A5 m5 c5, .int .i64 s2.1] 62))))
                have HKP : Hid (Kept [w.heap.size + 1] w3 (((w3.alloc (.cells #[.slice A5 m5 c5, .int .i64 s2.1] 62)).setCell ⟨w.heap.size + 1, 0, none⟩ (.slice A5 m5 c5)).setCell ⟨w.heap.size + 1, 1, none⟩ (.int .i64 s2.1))) := (((Kept.refl _ _).alloc _).setCell (.inl (by simp)) _).setCell (.inl (by simp)) _
                have HD5 := Lib.hid ((HDr.out.kept hk5 (by simp)).kept HKP.out (by simp; omega))
                have hwb3 : wb.heap.size ≤ w3.heap.size := Nat.le_trans hwb hk5.size
                have HR5 := Lib.hid ((HRW.out.kept hk5 (by simp)).kept HKP.out (by simp; omega))
                have HQ5 := Lib.hid ((hrow.older hwb).kept HKP.out (by simp; omega))
                have HSA : Hid ((((w3.alloc (.cells #[.slice A5 m5 c5, .int .i64 s2.1] 62)).setCell ⟨w.heap.size + 1, 0, none⟩ (.slice A5 m5 c5)).setCell ⟨w.heap.size + 1, 1, none⟩ (.int .i64 s2.1)).heap.size = w3.heap.size + 1) := by show _ = _; simp
                have hr5 := HS5.out.rd.cell
                have hrf5 := HS5.out.rd.frozen
                have hrl5 := HS5.out.rd.lt
                have hd5c := HD5.out.cell
                have hd5f := HD5.out.frozen
                have hd5l := HD5.out.lt
                clear hd5 hrow hk5 hr4 hrf4 hrl4 hd4 hdf4 hdl4 HG
                go_wp2_with (at_builtin; generalize ((w3.alloc (.cells #[.slice A5 m5 c5, .int .i64 s2.1] 62)).setCell ⟨w.heap.size + 1, 0, none⟩ (.slice A5 m5 c5)).setCell ⟨w.heap.size + 1, 1, none⟩ (.int .i64 s2.1) = wA at *; obtain ⟨xs, how, hst⟩ := RowPP.step HR5.out HQ5.out (Nat.le_trans hwb3 HKP.out.size) (.cells #[.slice Ap np cp] 22); have HOW := Lib.hid how; have HST := Lib.hid hst; clear how hst; refine wpList_append_any _ rfl _ _ 51 rfl 22 (.slice none 0 0) 1 24 Tryd.underlying51 Tryd.info22 rfl (by decide) (.slice Av k cv) k _ rfl HOW.out _ 1 1 [.slice Ap np cp] rfl (by have h := reads_pp wA (.slice Ap np cp); rw [HSA.out] at h; exact h) (by simp; rfl) (by simp only [maxLen]; omega) (by omega) ?_; rintro A6 c6 w6 happ; have HA6 := Lib.hid happ; clear happ; have HFP : Hid (∀ q, q ∈ fp (.slice Av k cv) → wb.heap.size ≤ q) := (by obtain ⟨_, _, h2, _⟩ := HR5.out; exact h2); have HD6 := Lib.hid ((HD5.out.alloc (.cells #[.slice Ap np cp] 22)).kept HA6.out.2.1 (fun hq => by have := HFP.out _ hq; omega)); have hd6c := HD6.out.cell; have hd6f := HD6.out.frozen; have hd6l := HD6.out.lt; clear hd5c hd5f hd5l)
                go_roundw
                case rel =>
                  have hS6 := (HP5.out.old ((Kept.refl [] _).alloc (.cells #[.slice Ap np cp] 22))).far HA6.out.2.1 (fun q hq => by have := HFP.out q hq; omega)
                  have hR6 := HST.out _ _ _ HA6.out
                  have hkd : Kept [dx] w6 (w6.setCell ⟨dx, 7, none⟩ (.slice A6 (k + 1) c6)) := (Kept.refl _ _).setCell (.inl (by simp)) _
                  refine ⟨k + 1, s2, acc ++ [pp], A5, m5, c5, A6, c6, by omega, by go_num, HU2, hS6.far hkd (by simp; omega), HD6.out.set 7 _, hR6.kept hkd (by simp; omega), ?_⟩
                  have := HKP.out.size
                  have h7 := HA6.out.2.1.size
                  simp at h7 ⊢
                  omega
                case measure => simp [intOf]; omega
              · rw [decide_eq_false hcont]
                have HX : Hid ((sx.1 ≠ 0 ∧ R = (Du.zero, sx.1)) ∨ (sx.1 = 0 ∧ R = decT x acc (startsU sx))) := by
                  show _ ∨ _
                  rcases HU.out with ⟨h1, h2⟩ | ⟨h1, h2⟩
                  · have hkn : k = n1 := by
                      rcases Nat.lt_or_ge k n1 with h | h
                      · exact absurd ⟨h, h1⟩ hcont
                      · omega
                    rw [hkn, Nat.sub_self] at h2
                    exact .inr ⟨h1, by rw [← HR.out, h2]; unfold decR progsK; rw [if_neg (by simp)]⟩
                  · exact .inl ⟨h1, by rw [← HR.out]; unfold decR; rw [if_pos (by rw [h2]; exact h1), h2]⟩
                have HE : Hid (endU x acc (startsK (countU sx).2.1 (refSC (countU sx)) [] gr) = R) := by
                  show _ = _
                  rw [← HGR.out]
                  rcases HX.out with ⟨h1, h2⟩ | ⟨h1, h2⟩
                  · rw [h2, end_err x acc sx _ h1]
                  · by_cases h3 : (countU sx).2.2 = 0
                    · rw [h2, end_ok x acc sx h3]
                    · rw [h2, end_bad x acc sx _ h3]
                      unfold decT startsU
                      simp only
                      rw [if_pos h3]
                have hal64 : acc.length ≤ 64 := by have := HRW.out.len; omega
                have hcl2 := countU_le sx
                have HLEN : Hid (doneS (startsK (countU sx).2.1 (refSC (countU sx)) [] gr).1 = 0 → ∀ p ∈ acc, p.length ≤ 256) := fun h => by
                  by_cases h1 : sx.1 = 0
                  · rcases HU.out with ⟨_, h2⟩ | ⟨h2, _⟩
                    · have hkn : k = n1 := by
                        rcases Nat.lt_or_ge k n1 with h | h
                        · exact absurd ⟨h, h1⟩ hcont
                        · omega
                      rw [hkn, Nat.sub_self] at h2
                      have := (progsU_len s7).2
                      rw [h2] at this
                      exact this
                    · exact absurd h1 h2
                  · exfalso
                    have h2 := countU_stays h1
                    rw [h2] at h
                    simp only [refSC, startsK] at h
                    rw [if_neg h1, doneS_err] at h
                    exact h1 h
                have HC := Lib.hid (refCount9 w.heap.size A4 m4 c4 sx wr HSr.out.isD HSr.out.kept.size)
                have HSL : Hid (∀ t ∈ (startsK (countU sx).2.1 (refSC (countU sx)) [] gr).2.1, t.mask < 18446744073709551616) := (startsK_len _ _ _ _ (by simp)).2
                have hsl := (startsK_len (countU sx).2.1 (refSC (countU sx)) [] gr (by simp)).1
                obtain ⟨T, hT⟩ : ∃ T, startsK (countU sx).2.1 (refSC (countU sx)) [] gr = T := ⟨_, rfl⟩
                rw [hT] at HE HSL hsl HLEN
                have HT := Lib.hid hT
                clear hT HX HR HU hcont HGR
                generalize (countU sx).2.1 = n2 at *
                generalize refSC (countU sx) = s9 at *
                go_wp2_with fail
                refine (HC.out).mono ?_
                rintro e w3 ⟨A5, m5, c5, rfl, hd5, hk5⟩
                have HS5 := Lib.hid (HSr.out.old hk5)
                have HP5 := Lib.hid (HS5.out.put hd5)
                have hr5 := HS5.out.rd.cell
                have hrf5 := HS5.out.rd.frozen
                have hrl5 := HS5.out.rd.lt
                have HKP : Hid (Kept [w.heap.size + 1] w3 ((w3.setCell ⟨w.heap.size + 1, 0, none⟩ (.slice A5 m5 c5)).setCell ⟨w.heap.size + 1, 1, none⟩ (.int .i64 s9.1))) := ((Kept.refl _ _).setCell (.inl (by simp)) _).setCell (.inl (by simp)) _
                have HD5 := Lib.hid ((HDr.out.kept hk5 (by simp)).kept HKP.out (by simp; omega))
                have HR5 := Lib.hid ((HRW.out.kept hk5 (by simp)).kept HKP.out (by simp; omega))
                have hwb3 : wb.heap.size ≤ w3.heap.size := Nat.le_trans hwb hk5.size
                clear hd5 hk5 hr4 hrf4 hrl4 hd4 hdf4 hdl4 HS5 HC HSr HDr HRW
                go_wp2_with fail
                generalize hn3 : k = n3 at *
                have hn3l : n3 ≤ 64 := by omega
                clear hn3
                go_loopw [7, 13] (fun gv iv wr => ∃ (k : Nat) (sx : RS) (ss : List St) (bb : Bool) (A' : Option Addr) (m' c' : Nat) (As : Option Addr) (cs : Nat), k ≤ n2 ∧ iv = .int .i64 k ∧ gv = .bool bb ∧ Hid ((startsK (n2 - k) sx ss bb).1 = T.1 ∧ (sx.1 = 0 → startsK (n2 - k) sx ss bb = T)) ∧ Hid (RD9 w wr A' m' c' sx x 7) ∧ Hid (Blk wr dx 54 #[.int .i64 (smallN (x 0)), .int .i64 (smallN (x 1)), .int .i64 (smallN (x 2)), .int .i64 (smallN (x 3)), .int .u64 (x 4 : Int), .float .f64 (x 5), .float .f64 (x 6), .slice Av n3 cv, .slice As k cs]) ∧ Hid (RowPP wb wr acc Av n3 cv) ∧ Hid (RowS wb wr ss As k cs) ∧ wb.heap.size ≤ wr.heap.size) (fun _ k _ => n2 - (intOf k).toNat)
                case atStart => exact ⟨0, s9, [], gr, A5, m5, c5, none, 0, by omega, rfl, rfl, ⟨by rw [Nat.sub_zero, HT.out], fun _ => by rw [Nat.sub_zero, HT.out]⟩, HP5, HD5, HR5, RowS.nil _ _, by simpa using hwb3⟩
                case round =>
                  clear HP5 HD5 HR5 HT HKP hr5 hrf5 hrl5
                  obtain ⟨k, sx, ss, bb, A6, m6, c6, As, cs, hk2, rfl, rfl, HX, HSr, HDr, HRW, HRS, hwb⟩ := hrel
                  have hr4 := HSr.out.rd.cell
                  have hrf4 := HSr.out.rd.frozen
                  have hrl4 := HSr.out.rd.lt
                  have hd4 := HDr.out.cell
                  have hdf4 := HDr.out.frozen
                  have hdl4 := HDr.out.lt
                  go_upto_region 18 with fail
                  go_cut [110] from 103 to 150 (fun v wx => v = .bool (decide (k < n2 ∧ sx.1 = 0)) ∧ wr = wx)
                  case first =>
                    by_cases h1 : k < n2
                    · have b1 : decide ((k : Int) < (n2 : Int)) = true := by simp; omega
                      by_cases h2 : sx.1 = 0
                      · have b2 : (sx.1 == 0) = true := by simp [h2]
                        go_wp2_with fail
                        go_meet
                        exact ⟨by rw [decide_eq_true ⟨h1, h2⟩], rfl⟩
                      · have b2 : (sx.1 == 0) = false := by simp [h2]
                        go_wp2_with fail
                        go_meet
                        exact ⟨by rw [decide_eq_false (fun h => h2 h.2)], rfl⟩
                    · have b1 : decide ((k : Int) < (n2 : Int)) = false := by simp; omega
                      go_wp2_with fail
                      go_meet
                      exact ⟨by rw [decide_eq_false (fun h => h1 h.1)], rfl⟩
                  case rest =>
                    obtain ⟨rfl, rfl⟩ := hcut
                    by_cases hcont : k < n2 ∧ sx.1 = 0
                    · rw [decide_eq_true hcont]
                      obtain ⟨h1, h2⟩ := hcont
                      have HTX := Lib.hid (HX.out.2 h2)
                      obtain ⟨j, hj⟩ : ∃ j, n2 - k = j + 1 := ⟨n2 - k - 1, by omega⟩
                      have HU3 : Hid (startsK (n2 - (k + 1)) (startU sx).1 (ss ++ [(startU sx).2.1]) (bb || (startU sx).2.2) = T) := by
                        show _ = _
                        rw [← HTX.out, hj, startsK, show n2 - (k + 1) = j by omega]
                      unfold startU at HU3
                      have hn1' := numS_lt sx
                      have hn2' := numS_lt (numS sx).1
                      have HN1 := Lib.hid (fun w' h (hs : w.heap.size ≤ w'.heap.size) => refGetNum w.heap.size A6 m6 c6 sx w' h hs)
                      obtain ⟨a, ha⟩ : ∃ a, (numS sx).2 = a := ⟨_, rfl⟩
                      obtain ⟨sa, hsa⟩ : ∃ sa, (numS sx).1 = sa := ⟨_, rfl⟩
                      rw [hsa, ha] at HN1
                      rw [hsa] at HU3 hn2'
                      rw [ha] at HU3 hn1'
                      obtain ⟨gg, hgg⟩ : ∃ gg, (numS sa).2 = gg := ⟨_, rfl⟩
                      obtain ⟨sg, hsg⟩ : ∃ sg, (numS sa).1 = sg := ⟨_, rfl⟩
                      have HN2 := Lib.hid (fun A1 m1 c1 w' h (hs : w.heap.size ≤ w'.heap.size) => refGetNum w.heap.size A1 m1 c1 sa w' h hs)
                      rw [hsg, hgg] at HN2
                      rw [hsg] at HU3
                      rw [hgg] at HU3 hn2'
                      obtain ⟨mm, hmm⟩ : ∃ mm, (numS sg).2 = mm := ⟨_, rfl⟩
                      obtain ⟨sm, hsm⟩ : ∃ sm, (numS sg).1 = sm := ⟨_, rfl⟩
                      have HN3 := Lib.hid (fun A1 m1 c1 w' h (hs : w.heap.size ≤ w'.heap.size) => refGetNum w.heap.size A1 m1 c1 sg w' h hs)
                      rw [hsm, hmm] at HU3 HN3
                      simp only at HU3
                      have hbA := bigN_dec a
                      have hbG := bigN_dec gg
                      have HSA := Lib.hid (fun w => refSmall9 a w hn1')
                      have HSG := Lib.hid (fun w => refSmall9 gg w hn2')
                      generalize bigN a = ba at *
                      generalize bigN gg = bg at *
                      generalize smallN a = ya at *
                      generalize smallN gg = yg at *
                      clear ha hsa hgg hsg hmm hsm hj HX HTX h2
                      have HNF : Hid (wr.heap.size ∉ fp (.slice As k cs)) := fun hm => by have := own_lt HRS.out.1 _ hm; omega
                      have HZ := Lib.hid (Blk.new wr 118 #[.int .i64 0, .int .i64 0, .int .u64 0])
                      have HS1 := Lib.hid (HSr.out.old ((Kept.refl [] _).alloc (.cells #[.int .i64 0, .int .i64 0, .int .u64 0] 118)))
                      have HD1 := Lib.hid (HDr.out.alloc (.cells #[.int .i64 0, .int .i64 0, .int .u64 0] 118))
                      have HR1 := Lib.hid (HRW.out.kept ((Kept.refl [] _).alloc (.cells #[.int .i64 0, .int .i64 0, .int .u64 0] 118)) (by simp))
                      have HQ1 := Lib.hid (HRS.out.kept ((Kept.refl [] _).alloc (.cells #[.int .i64 0, .int .i64 0, .int .u64 0] 118)) (by simp))
                      have hsz1 : (wr.alloc (.cells #[.int .i64 0, .int .i64 0, .int .u64 0] 118)).heap.size = wr.heap.size + 1 := by simp
                      have hr1 := HS1.out.rd.cell
                      have hrf1 := HS1.out.rd.frozen
                      have hrl1 := HS1.out.rd.lt
                      cases bb <;> cases ba <;> cases bg
                      all_goals
                        simp only [Bool.or_false, Bool.or_true] at HU3
                        go_wp2_with fail
                        refine (HN1.out _ HS1.out.isD HS1.out.kept.size).mono ?_
                        rintro e w3 ⟨A7, m7, c7, rfl, hd7, hk7⟩
                        have HSS3 := Lib.hid (HS1.out.old hk7)
                        have HP3 := Lib.hid (HSS3.out.put hd7)
                        have hr3a := HSS3.out.rd.cell
                        have hr3b := HSS3.out.rd.frozen
                        have hr3c := HSS3.out.rd.lt
                        have HKP3 : Hid (Kept [w.heap.size + 1] w3 ((w3.setCell ⟨w.heap.size + 1, 0, none⟩ (.slice A7 m7 c7)).setCell ⟨w.heap.size + 1, 1, none⟩ (.int .i64 sa.1))) := ((Kept.refl _ _).setCell (.inl (by simp)) _).setCell (.inl (by simp)) _
                        have HZ3 := Lib.hid ((HZ.out.kept hk7 (by simp)).kept HKP3.out (by simp; omega))
                        have HDD3 := Lib.hid ((HD1.out.kept hk7 (by simp)).kept HKP3.out (by simp; omega))
                        have HRR3 := Lib.hid ((HR1.out.kept hk7 (by simp)).kept HKP3.out (by simp; omega))
                        have HQQ3 := Lib.hid ((HQ1.out.kept hk7 (by simp)).kept HKP3.out (by simp; omega))
                        have hz3 : wr.heap.size < ((w3.setCell ⟨w.heap.size + 1, 0, none⟩ (.slice A7 m7 c7)).setCell ⟨w.heap.size + 1, 1, none⟩ (.int .i64 sa.1)).heap.size := HZ3.out.lt
                        clear hr1 hrf1 hrl1 hr4 hrf4 hrl4 hd4 hdf4 hsz1
                        clear hd7 hk7
                        go_wp2_with fail
                        refine (HN2.out _ _ _ _ HP3.out.isD HP3.out.kept.size).mono ?_
                        rintro e w4 ⟨A8, m8, c8, rfl, hd8, hk8⟩
                        have HSS4 := Lib.hid (HP3.out.old hk8)
                        have HP4 := Lib.hid (HSS4.out.put hd8)
                        have hr4a := HSS4.out.rd.cell
                        have hr4b := HSS4.out.rd.frozen
                        have hr4c := HSS4.out.rd.lt
                        have HKP4 : Hid (Kept [w.heap.size + 1] w4 ((w4.setCell ⟨w.heap.size + 1, 0, none⟩ (.slice A8 m8 c8)).setCell ⟨w.heap.size + 1, 1, none⟩ (.int .i64 sg.1))) := ((Kept.refl _ _).setCell (.inl (by simp)) _).setCell (.inl (by simp)) _
                        have HZ4 := Lib.hid ((HZ3.out.kept hk8 (by simp)).kept HKP4.out (by simp; omega))
                        have HDD4 := Lib.hid ((HDD3.out.kept hk8 (by simp)).kept HKP4.out (by simp; omega))
                        have HRR4 := Lib.hid ((HRR3.out.kept hk8 (by simp)).kept HKP4.out (by simp; omega))
                        have HQQ4 := Lib.hid ((HQQ3.out.kept hk8 (by simp)).kept HKP4.out (by simp; omega))
                        have hz4 : wr.heap.size < ((w4.setCell ⟨w.heap.size + 1, 0, none⟩ (.slice A8 m8 c8)).setCell ⟨w.heap.size + 1, 1, none⟩ (.int .i64 sg.1)).heap.size := HZ4.out.lt
                        clear hr3a hr3b hr3c
                        clear hd8 hk8
                        go_wp2_with fail
                        refine (HN3.out _ _ _ _ HP4.out.isD HP4.out.kept.size).mono ?_
                        rintro e w5 ⟨A9, m9, c9, rfl, hd9, hk9⟩
                        have HSS5 := Lib.hid (HP4.out.old hk9)
                        have HP5 := Lib.hid (HSS5.out.put hd9)
                        have hr5a := HSS5.out.rd.cell
                        have hr5b := HSS5.out.rd.frozen
                        have hr5c := HSS5.out.rd.lt
                        have HKP5 : Hid (Kept [w.heap.size + 1] w5 ((w5.setCell ⟨w.heap.size + 1, 0, none⟩ (.slice A9 m9 c9)).setCell ⟨w.heap.size + 1, 1, none⟩ (.int .i64 sm.1))) := ((Kept.refl _ _).setCell (.inl (by simp)) _).setCell (.inl (by simp)) _
                        have HZ5 := Lib.hid ((HZ4.out.kept hk9 (by simp)).kept HKP5.out (by simp; omega))
                        have HDD5 := Lib.hid ((HDD4.out.kept hk9 (by simp)).kept HKP5.out (by simp; omega))
                        have HRR5 := Lib.hid ((HRR4.out.kept hk9 (by simp)).kept HKP5.out (by simp; omega))
                        have HQQ5 := Lib.hid ((HQQ4.out.kept hk9 (by simp)).kept HKP5.out (by simp; omega))
                        have hz5 : wr.heap.size < ((w5.setCell ⟨w.heap.size + 1, 0, none⟩ (.slice A9 m9 c9)).setCell ⟨w.heap.size + 1, 1, none⟩ (.int .i64 sm.1)).heap.size := HZ5.out.lt
                        clear hr4a hr4b hr4c
                        clear hd9 hk9
                        have hzc := HZ5.out.cell
                        have hzf := HZ5.out.frozen
                        have hzl := HZ5.out.lt
                        have HZa : Hid (Blk (((w5.setCell ⟨w.heap.size + 1, 0, none⟩ (.slice A9 m9 c9)).setCell ⟨w.heap.size + 1, 1, none⟩ (.int .i64 sm.1)).setCell ⟨wr.heap.size, 2, none⟩ (.int .u64 (mm : Int))) wr.heap.size 118 #[.int .i64 0, .int .i64 0, .int .u64 (mm : Int)]) := HZ5.out.set 2 _
                        have hzac := HZa.out.cell
                        have hzaf := HZa.out.frozen
                        have hzal := HZa.out.lt
                        have HZb : Hid (Blk (((((w5.setCell ⟨w.heap.size + 1, 0, none⟩ (.slice A9 m9 c9)).setCell ⟨w.heap.size + 1, 1, none⟩ (.int .i64 sm.1)).setCell ⟨wr.heap.size, 2, none⟩ (.int .u64 (mm : Int))).setCell ⟨wr.heap.size, 0, none⟩ (.int .i64 ya)).setCell ⟨wr.heap.size, 1, none⟩ (.int .i64 yg)) wr.heap.size 118 #[.int .i64 ya, .int .i64 yg, .int .u64 (mm : Int)]) := (HZa.out.set 0 _).set 1 _
                        have hzbc := HZb.out.cell
                        have hzbl := HZb.out.lt
                        have HKB : Hid (Kept [wr.heap.size] ((w5.setCell ⟨w.heap.size + 1, 0, none⟩ (.slice A9 m9 c9)).setCell ⟨w.heap.size + 1, 1, none⟩ (.int .i64 sm.1)) (((((w5.setCell ⟨w.heap.size + 1, 0, none⟩ (.slice A9 m9 c9)).setCell ⟨w.heap.size + 1, 1, none⟩ (.int .i64 sm.1)).setCell ⟨wr.heap.size, 2, none⟩ (.int .u64 (mm : Int))).setCell ⟨wr.heap.size, 0, none⟩ (.int .i64 ya)).setCell ⟨wr.heap.size, 1, none⟩ (.int .i64 yg))) := (((Kept.refl _ _).setCell (.inl (by simp)) _).setCell (.inl (by simp)) _).setCell (.inl (by simp)) _
                        have HDb := Lib.hid (HDD5.out.kept HKB.out (by simp; omega))
                        have hdbc := HDb.out.cell
                        have HRb := Lib.hid (HRR5.out.far2 HKB.out (fun q hq => ⟨_, by simp at hq; subst hq; exact HZ5.out⟩))
                        have HQb := Lib.hid (HQQ5.out.far2 HKB.out (fun q hq => by simp at hq; subst hq; exact HNF.out))
                        have HSb := Lib.hid (HP5.out.far HKB.out (by simp; omega))
                        have HSZ : Hid ((((((w5.setCell ⟨w.heap.size + 1, 0, none⟩ (.slice A9 m9 c9)).setCell ⟨w.heap.size + 1, 1, none⟩ (.int .i64 sm.1)).setCell ⟨wr.heap.size, 2, none⟩ (.int .u64 (mm : Int))).setCell ⟨wr.heap.size, 0, none⟩ (.int .i64 ya)).setCell ⟨wr.heap.size, 1, none⟩ (.int .i64 yg)).heap.size = w5.heap.size) := by show _ = _; simp
                        go_wp2_with fail
                        refine (HSA.out _).mono ?_
                        rintro e w7 ⟨rfl, rfl⟩
                        go_wp2_with fail
                        refine (HSG.out _).mono ?_
                        rintro e w7 ⟨rfl, rfl⟩
                        go_wp2_with (at_builtin; go_must (generalize (((((w5.setCell ⟨w.heap.size + 1, 0, none⟩ (.slice A9 m9 c9)).setCell ⟨w.heap.size + 1, 1, none⟩ (.int .i64 sm.1)).setCell ⟨wr.heap.size, 2, none⟩ (.int .u64 (mm : Int))).setCell ⟨wr.heap.size, 0, none⟩ (.int .i64 ya)).setCell ⟨wr.heap.size, 1, none⟩ (.int .i64 yg)) = wB at *; have HOW := Lib.hid (HQb.out.kept ((Kept.refl [] _).alloc (.cells #[.int .i64 ya, .int .i64 yg, .int .u64 (mm : Int)] 118)) (by simp)); refine wpList_append_any _ rfl _ _ 52 rfl 118 (.agg #[.int .i64 0, .int .i64 0, .int .u64 0]) 3 24 Tryd.underlying52 Tryd.info118 rfl (by decide) (.slice As k cs) k _ rfl HOW.out.1 _ 1 1 (stL ⟨ya, yg, mm⟩) rfl (by have h := reads_st wB 118 ⟨ya, yg, mm⟩; rw [HSZ.out] at h; exact h) (stL_one _) (by simp only [maxLen]; omega) (by omega) ?_; rintro A10 c10 w10 happ; have HA := Lib.hid happ; clear happ; have HD10 := Lib.hid ((HDb.out.alloc (.cells #[.int .i64 ya, .int .i64 yg, .int .u64 (mm : Int)] 118)).kept HA.out.2.1 (fun hq => by have := HQb.out.2 _ hq; omega)); have hd10 := HD10.out.cell; have hdf10 := HD10.out.frozen; have hdl10 := HD10.out.lt; clear hdbc hzbc hzbl hzc hzf hzl hzac hzaf hzal))
                        go_roundw
                        case rel =>
                          have hS10 := (HSb.out.old ((Kept.refl [] _).alloc (.cells #[.int .i64 ya, .int .i64 yg, .int .u64 (mm : Int)] 118))).far HA.out.2.1 (fun q hq => by have := HQb.out.2 q hq; omega)
                          have hR10 := (HRb.out.kept ((Kept.refl [] _).alloc (.cells #[.int .i64 ya, .int .i64 yg, .int .u64 (mm : Int)] 118)) (by simp)).kept_own HOW.out.1 HA.out.2.1
                          have hbs : wb.heap.size ≤ (wB.alloc (.cells #[.int .i64 ya, .int .i64 yg, .int .u64 (mm : Int)] 118)).heap.size := (by have h1 := HSZ.out; have h2 : wr.heap.size < w5.heap.size := (by simpa using hz5); simp only [World.size_alloc]; omega)
                          have hQ10 := HOW.out.append hbs HA.out
                          have hkd : Kept [dx] w10 (w10.setCell ⟨dx, 8, none⟩ (.slice A10 (k + 1) c10)) := (Kept.refl _ _).setCell (.inl (by simp)) _
                          refine ⟨k + 1, sm, ss ++ [(⟨ya, yg, mm⟩ : St)], _, A9, m9, c9, A10, c10, by omega, by go_num, rfl, ⟨by rw [HU3.out], fun _ => HU3.out⟩, hS10.far hkd (by simp; omega), HD10.out.set 8 _, hR10.kept hkd (by simp; omega), hQ10.kept hkd (by simp; omega), ?_⟩
                          have h7 := HA.out.2.1.size
                          simp at h7 hbs ⊢
                          omega
                        case measure => simp [intOf]; omega
                    · rw [decide_eq_false hcont]
                      have HTS : Hid (T.1 = sx ∧ (sx.1 = 0 → T = (sx, ss, bb))) := by
                        show _ ∧ _
                        by_cases h1 : sx.1 = 0
                        · have hkn : k = n2 := by
                            rcases Nat.lt_or_ge k n2 with h | h
                            · exact absurd ⟨h, h1⟩ hcont
                            · omega
                          have h2 := HX.out.2 h1
                          rw [hkn, Nat.sub_self] at h2
                          exact ⟨by rw [← h2]; rfl, fun _ => h2.symm⟩
                        · have h2 := HX.out.1
                          rw [startsK_stays _ _ _ _ h1] at h2
                          exact ⟨h2.symm, fun h => absurd h h1⟩
                      have HDN := Lib.hid (refDone w.heap.size A6 m6 c6 sx wr HSr.out.isD)
                      have HB4 := Lib.hid HSr.out.res
                      have hb4 := HB4.out.cell
                      have hbf4 := HB4.out.frozen
                      have hbl4 := HB4.out.lt
                      have hRx : w.heap.size < dx := by omega
                      have HEE : Hid ((doneS sx ≠ 0 ∧ R = (Du.zero, doneS sx)) ∨ (doneS sx = 0 ∧ bb = true ∧ R = (Du.zero, 5)) ∨ (doneS sx = 0 ∧ bb = false ∧ (∀ p ∈ acc, p.length ≤ 256) ∧ (∀ t ∈ ss, t.mask < 18446744073709551616) ∧ ss.length ≤ 64 ∧ ((checkU (headU x acc ss) ≠ 0 ∧ R = (Du.zero, checkU (headU x acc ss))) ∨ (checkU (headU x acc ss) = 0 ∧ R = (headU x acc ss, 0))))) := by
                        show _ ∨ _
                        have hE := HE.out
                        unfold endU at hE
                        rw [HTS.out.1] at hE
                        by_cases h1 : doneS sx = 0
                        · rw [if_neg (by simp [h1])] at hE
                          have h2 := HTS.out.2 (doneS_zero h1)
                          rw [h2] at hE
                          simp only at hE
                          cases bb with
                          | true => rw [if_pos rfl] at hE; exact .inr (.inl ⟨h1, rfl, hE.symm⟩)
                          | false =>
                            rw [if_neg (by simp)] at hE
                            refine .inr (.inr ⟨h1, rfl, HLEN.out (by rw [h2]; exact h1), by have := HSL.out; rw [h2] at this; exact this, by rw [h2] at hsl; simp at hsl; omega, ?_⟩)
                            by_cases h3 : checkU (headU x acc ss) = 0
                            · rw [if_neg (by simp [h3])] at hE; exact .inr ⟨h3, hE.symm⟩
                            · rw [if_pos h3] at hE; exact .inl ⟨h3, hE.symm⟩
                        · rw [if_pos h1] at hE
                          exact .inl ⟨h1, hE.symm⟩
                      clear HTS HE HX HLEN HSL hcont
                      generalize doneS sx = dn at *
                      go_wp2_with fail
                      refine (HDN.out).mono ?_
                      rintro e w5 ⟨rfl, hk5⟩
                      have HB5 := Lib.hid (HB4.out.kept hk5 (by simp))
                      have HD5 := Lib.hid (HDr.out.kept hk5 (by simp))
                      have HR5 := Lib.hid (HRW.out.kept hk5 (by simp))
                      have HS5 := Lib.hid (HRS.out.kept hk5 (by simp))
                      have HK5 := Lib.hid (HSr.out.kept.trans hk5)
                      have hb5 := HB5.out.cell
                      have hbf5 := HB5.out.frozen
                      have hbl5 := HB5.out.lt
                      have hd5 := HD5.out.cell
                      have hdl5 := HD5.out.lt
                      clear hk5 hb4 hbf4 hbl4 hd4 hdf4 hdl4 hr4 hrf4 hrl4 HB4 HDr HRW HRS HDN
                      rcases HEE.out with ⟨hdn, hR⟩ | ⟨rfl, rfl, hR⟩ | ⟨rfl, rfl, hpl, hml, hsl2, hck⟩
                      · have bD : (dn != 0) = true := by simp [hdn]
                        have HUA := Lib.hid hR
                        clear hR hdn HEE
                        go_wp2_with fail
                        have hF := ((((((((((HB5.out.set 0 (.int .i64 0)).set 1 (.int .i64 0)).set 2 (.int .i64 0)).set 3 (.int .i64 0)).set 4 (.int .u64 0)).set 5 (.float .f64 0)).set 6 (.float .f64 0)).set 7 (.slice none 0 0)).set 8 (.slice none 0 0))).cell
                        refine bodyPost_ret (v := .tuple #[.agg #[.int .i64 0, .int .i64 0, .int .i64 0, .int .i64 0, .int .u64 0, .float .f64 0, .float .f64 0, .slice none 0 0, .slice none 0 0], .int .i64 dn]) (by simp [results, Tryd.results42, go_sem, hF]) rfl ?_
                        rw [show R = (Du.zero, dn) from HUA.out]
                        exact ⟨none, 0, 0, none, 0, 0, rfl, ⟨ReadsPP.none_ _, ReadsS.none_ _⟩, (((((((((HK5.out.setCell (p := ⟨w.heap.size, 0, none⟩) (.inr (Nat.le_refl _)) (.int .i64 0)).setCell (p := ⟨w.heap.size, 1, none⟩) (.inr (Nat.le_refl _)) (.int .i64 0)).setCell (p := ⟨w.heap.size, 2, none⟩) (.inr (Nat.le_refl _)) (.int .i64 0)).setCell (p := ⟨w.heap.size, 3, none⟩) (.inr (Nat.le_refl _)) (.int .i64 0)).setCell (p := ⟨w.heap.size, 4, none⟩) (.inr (Nat.le_refl _)) (.int .u64 0)).setCell (p := ⟨w.heap.size, 5, none⟩) (.inr (Nat.le_refl _)) (.float .f64 0)).setCell (p := ⟨w.heap.size, 6, none⟩) (.inr (Nat.le_refl _)) (.float .f64 0)).setCell (p := ⟨w.heap.size, 7, none⟩) (.inr (Nat.le_refl _)) (.slice none 0 0)).setCell (p := ⟨w.heap.size, 8, none⟩) (.inr (Nat.le_refl _)) (.slice none 0 0))⟩
                      · have HUA := Lib.hid hR
                        clear hR HEE
                        go_wp2_with fail
                        have hF := ((((((((((HB5.out.set 0 (.int .i64 0)).set 1 (.int .i64 0)).set 2 (.int .i64 0)).set 3 (.int .i64 0)).set 4 (.int .u64 0)).set 5 (.float .f64 0)).set 6 (.float .f64 0)).set 7 (.slice none 0 0)).set 8 (.slice none 0 0))).cell
                        refine bodyPost_ret (v := .tuple #[.agg #[.int .i64 0, .int .i64 0, .int .i64 0, .int .i64 0, .int .u64 0, .float .f64 0, .float .f64 0, .slice none 0 0, .slice none 0 0], .int .i64 5]) (by simp [results, Tryd.results42, go_sem, hF]) rfl ?_
                        rw [show R = (Du.zero, 5) from HUA.out]
                        exact ⟨none, 0, 0, none, 0, 0, rfl, ⟨ReadsPP.none_ _, ReadsS.none_ _⟩, (((((((((HK5.out.setCell (p := ⟨w.heap.size, 0, none⟩) (.inr (Nat.le_refl _)) (.int .i64 0)).setCell (p := ⟨w.heap.size, 1, none⟩) (.inr (Nat.le_refl _)) (.int .i64 0)).setCell (p := ⟨w.heap.size, 2, none⟩) (.inr (Nat.le_refl _)) (.int .i64 0)).setCell (p := ⟨w.heap.size, 3, none⟩) (.inr (Nat.le_refl _)) (.int .i64 0)).setCell (p := ⟨w.heap.size, 4, none⟩) (.inr (Nat.le_refl _)) (.int .u64 0)).setCell (p := ⟨w.heap.size, 5, none⟩) (.inr (Nat.le_refl _)) (.float .f64 0)).setCell (p := ⟨w.heap.size, 6, none⟩) (.inr (Nat.le_refl _)) (.float .f64 0)).setCell (p := ⟨w.heap.size, 7, none⟩) (.inr (Nat.le_refl _)) (.slice none 0 0)).setCell (p := ⟨w.heap.size, 8, none⟩) (.inr (Nat.le_refl _)) (.slice none 0 0))⟩
                      · have HIU : Hid (IsU w5 (headU x acc ss) Av n3 As k) := ⟨HR5.out.reads, HS5.out.reads⟩
                        have HCK := Lib.hid (fun w h => refCheck9 (headU x acc ss) Av n3 cv As k cs w h (by show acc.length ≤ _; omega) (by show ss.length ≤ _; omega) (fun p hp => by have := hpl p hp; omega) (fun t ht => hml t ht))
                        have HDP : Hid ((headU x acc ss).progs = acc) := rfl
                        have HDS : Hid ((headU x acc ss).starts = ss) := rfl
                        have huc : uC (headU x acc ss) Av n3 cv As k cs = #[.int .i64 (smallN (x 0)), .int .i64 (smallN (x 1)), .int .i64 (smallN (x 2)), .int .i64 (smallN (x 3)), .int .u64 (x 4 : Int), .float .f64 (x 5), .float .f64 (x 6), .slice Av n3 cv, .slice As k cs] := rfl
                        rw [huc] at HCK
                        have HCC := Lib.hid hck
                        clear hck HEE hpl hml
                        generalize checkU (headU x acc ss) = ck at *
                        generalize headU x acc ss = du at *
                        have HUC := Lib.hid huc
                        clear huc
                        go_wp2_with fail
                        refine (HCK.out _ HIU.out).mono ?_
                        rintro e w9 ⟨rfl, hk9⟩
                        have HB9 := Lib.hid (HB5.out.kept hk9 (by simp))
                        have HD9 := Lib.hid (HD5.out.kept hk9 (by simp))
                        have HK9 := Lib.hid (HK5.out.trans hk9)
                        have HRP9 := Lib.hid (HR5.out.kept hk9 (by simp))
                        have HRS9 := Lib.hid (HS5.out.kept hk9 (by simp))
                        have hb9 := HB9.out.cell
                        have hbf9 := HB9.out.frozen
                        have hbl9 := HB9.out.lt
                        have hd9 := HD9.out.cell
                        have hdl9 := HD9.out.lt
                        clear hk9 hb5 hbf5 hbl5 hd5 hdl5
                        rcases HCC.out with ⟨hc0, hR⟩ | ⟨hc0, hR⟩
                        · have bC : (ck != 0) = true := by simp [hc0]
                          have HUA := Lib.hid hR
                          clear hR hc0 HCC
                          go_wp2_with fail
                          have hF := ((((((((((HB9.out.set 0 (.int .i64 0)).set 1 (.int .i64 0)).set 2 (.int .i64 0)).set 3 (.int .i64 0)).set 4 (.int .u64 0)).set 5 (.float .f64 0)).set 6 (.float .f64 0)).set 7 (.slice none 0 0)).set 8 (.slice none 0 0))).cell
                          refine bodyPost_ret (v := .tuple #[.agg #[.int .i64 0, .int .i64 0, .int .i64 0, .int .i64 0, .int .u64 0, .float .f64 0, .float .f64 0, .slice none 0 0, .slice none 0 0], .int .i64 ck]) (by simp [results, Tryd.results42, go_sem, hF]) rfl ?_
                          rw [show R = (Du.zero, ck) from HUA.out]
                          exact ⟨none, 0, 0, none, 0, 0, rfl, ⟨ReadsPP.none_ _, ReadsS.none_ _⟩, (((((((((HK9.out.setCell (p := ⟨w.heap.size, 0, none⟩) (.inr (Nat.le_refl _)) (.int .i64 0)).setCell (p := ⟨w.heap.size, 1, none⟩) (.inr (Nat.le_refl _)) (.int .i64 0)).setCell (p := ⟨w.heap.size, 2, none⟩) (.inr (Nat.le_refl _)) (.int .i64 0)).setCell (p := ⟨w.heap.size, 3, none⟩) (.inr (Nat.le_refl _)) (.int .i64 0)).setCell (p := ⟨w.heap.size, 4, none⟩) (.inr (Nat.le_refl _)) (.int .u64 0)).setCell (p := ⟨w.heap.size, 5, none⟩) (.inr (Nat.le_refl _)) (.float .f64 0)).setCell (p := ⟨w.heap.size, 6, none⟩) (.inr (Nat.le_refl _)) (.float .f64 0)).setCell (p := ⟨w.heap.size, 7, none⟩) (.inr (Nat.le_refl _)) (.slice none 0 0)).setCell (p := ⟨w.heap.size, 8, none⟩) (.inr (Nat.le_refl _)) (.slice none 0 0))⟩
                        · have bC : (ck != 0) = false := by simp [hc0]
                          have HUA := Lib.hid hR
                          clear hR hc0 HCC
                          go_wp2_with fail
                          have hF := ((((((((((HB9.out.set 0 (.int .i64 (smallN (x 0)))).set 1 (.int .i64 (smallN (x 1)))).set 2 (.int .i64 (smallN (x 2)))).set 3 (.int .i64 (smallN (x 3)))).set 4 (.int .u64 (x 4 : Int))).set 5 (.float .f64 (x 5))).set 6 (.float .f64 (x 6))).set 7 (.slice Av n3 cv)).set 8 (.slice As k cs))).cell
                          refine bodyPost_ret (v := .tuple #[.agg #[.int .i64 (smallN (x 0)), .int .i64 (smallN (x 1)), .int .i64 (smallN (x 2)), .int .i64 (smallN (x 3)), .int .u64 (x 4 : Int), .float .f64 (x 5), .float .f64 (x 6), .slice Av n3 cv, .slice As k cs], .int .i64 0]) (by simp [results, Tryd.results42, go_sem, hF]) rfl ?_
                          rw [show R = (du, 0) from HUA.out]
                          have hkr : Kept [w.heap.size] w9 (((((((((w9.setCell ⟨w.heap.size, 0, none⟩ (.int .i64 (smallN (x 0)))).setCell ⟨w.heap.size, 1, none⟩ (.int .i64 (smallN (x 1)))).setCell ⟨w.heap.size, 2, none⟩ (.int .i64 (smallN (x 2)))).setCell ⟨w.heap.size, 3, none⟩ (.int .i64 (smallN (x 3)))).setCell ⟨w.heap.size, 4, none⟩ (.int .u64 (x 4 : Int))).setCell ⟨w.heap.size, 5, none⟩ (.float .f64 (x 5))).setCell ⟨w.heap.size, 6, none⟩ (.float .f64 (x 6))).setCell ⟨w.heap.size, 7, none⟩ (.slice Av n3 cv)).setCell ⟨w.heap.size, 8, none⟩ (.slice As k cs)) := ((((((((((Kept.refl _ _).setCell (p := ⟨w.heap.size, 0, none⟩) (.inl (by simp)) (.int .i64 (smallN (x 0)))).setCell (p := ⟨w.heap.size, 1, none⟩) (.inl (by simp)) (.int .i64 (smallN (x 1)))).setCell (p := ⟨w.heap.size, 2, none⟩) (.inl (by simp)) (.int .i64 (smallN (x 2)))).setCell (p := ⟨w.heap.size, 3, none⟩) (.inl (by simp)) (.int .i64 (smallN (x 3)))).setCell (p := ⟨w.heap.size, 4, none⟩) (.inl (by simp)) (.int .u64 (x 4 : Int))).setCell (p := ⟨w.heap.size, 5, none⟩) (.inl (by simp)) (.float .f64 (x 5))).setCell (p := ⟨w.heap.size, 6, none⟩) (.inl (by simp)) (.float .f64 (x 6))).setCell (p := ⟨w.heap.size, 7, none⟩) (.inl (by simp)) (.slice Av n3 cv)).setCell (p := ⟨w.heap.size, 8, none⟩) (.inl (by simp)) (.slice As k cs))
                          refine ⟨Av, n3, cv, As, k, cs, by rw [HUC.out], ?_, (((((((((HK9.out.setCell (p := ⟨w.heap.size, 0, none⟩) (.inr (Nat.le_refl _)) (.int .i64 (smallN (x 0)))).setCell (p := ⟨w.heap.size, 1, none⟩) (.inr (Nat.le_refl _)) (.int .i64 (smallN (x 1)))).setCell (p := ⟨w.heap.size, 2, none⟩) (.inr (Nat.le_refl _)) (.int .i64 (smallN (x 2)))).setCell (p := ⟨w.heap.size, 3, none⟩) (.inr (Nat.le_refl _)) (.int .i64 (smallN (x 3)))).setCell (p := ⟨w.heap.size, 4, none⟩) (.inr (Nat.le_refl _)) (.int .u64 (x 4 : Int))).setCell (p := ⟨w.heap.size, 5, none⟩) (.inr (Nat.le_refl _)) (.float .f64 (x 5))).setCell (p := ⟨w.heap.size, 6, none⟩) (.inr (Nat.le_refl _)) (.float .f64 (x 6))).setCell (p := ⟨w.heap.size, 7, none⟩) (.inr (Nat.le_refl _)) (.slice Av n3 cv)).setCell (p := ⟨w.heap.size, 8, none⟩) (.inr (Nat.le_refl _)) (.slice As k cs))⟩
                          have hq1 := HRP9.out.kept hkr (by simp; omega)
                          have hq2 := HRS9.out.kept hkr (by simp; omega)
                          exact ⟨by have := hq1.reads; rw [HDP.out]; exact this, by have := hq2.reads; rw [HDS.out]; exact this⟩

end Go.Proofs.YtmhlmoojmdfnfaaDoor

