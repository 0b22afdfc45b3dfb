/- ProgTexts returns true for every input: the walk and the card. -/
import Derived.Test.YtmhlmoojmdfnfaaDoorLaid
import Derived.Test.YtmhlmoojmdfnfaaDoorPgOpen
import Derived.Test.YtmhlmoojmdfnfaaDoorPgParsesW
import Derived.Test.YtmhlmoojmdfnfaaDoorPgF
namespace Go.Proofs.YtmhlmoojmdfnfaaDoor
open Go.ChangeShapes Go.WideShapes Go.ChangeAt Go.RowKit

set_option maxHeartbeats 3200000 in
set_option maxRecDepth 100000 in
theorem progTexts_walk (A : Option Addr) (n c : Nat) (l0 : List Dd) (w : World) (hr0 : ReadsD w A n l0) (hc : n ≤ c) (hc2 : c ≤ 9223372036854775807) (hok0 : ∀ d ∈ l0, d.n < 18446744073709551616 ∧ d.mask < 18446744073709551616) (hM : HasMax w) (hP : HasPow w) :
    Calls Tryd.prog 11 #[.slice A n c] w fun e w' => e = .returned (.bool true) ∧ Kept [] w w' := by
  have HFEW := Lib.hid (fun w h => few8_any A n c l0 w h hc hc2)
  have HR0 := Lib.hid hr0
  have HR := Lib.hid hr0.few
  have hlen : (l0.take 300).length ≤ 300 := by simp; omega
  have hok : ∀ e ∈ l0.take 300, e.n < 18446744073709551616 ∧ e.mask < 18446744073709551616 := fun e he => hok0 e (List.mem_of_mem_take he)
  generalize l0.take 300 = l at *
  have htl := textP_len l (fun d hd => (hok d hd).1)
  have HT := Lib.hid (fun w h hP => ptext_any A l.length c l w h (by omega) hok hP)
  have HRT := Lib.hid (fun w h => refTextP A l.length c l w h (by omega) hok)
  have HCK := Lib.hid (fun w h => refCheckP A l.length c l w h (by omega))
  have HP := Lib.hid hP
  have HM := Lib.hid hM
  clear hr0 hok0 hM hP
  by_cases hck : checkP l = 0
  · rw [hck] at HCK
    have hpt := parse_text l hck hok
    have H1 := Lib.hid (fun w h => pparse_any (textP l) w (by omega) h)
    have H2 := Lib.hid (fun w h => pparse_any ((textP l).take ((textP l).length - 1)) w (by simp; omega) h)
    rw [lines_all, hpt] at H1
    rw [lines_cut, hpt] at H2
    by_cases hte : textP l = []
    · rw [hte] at HT HRT H1
      clear hpt hte hck hok H2
      go_enter Tryd.func11, Tryd.ntmps11
      go_wp2_with fail
      refine (HFEW.out _ HR0.out).mono ?_
      rintro e w0 ⟨rfl, rfl⟩
      go_wp2_with fail
      refine (HT.out _ HR.out HP.out).mono ?_
      rintro e w1 ⟨rfl, hk1⟩
      have HK1 := Lib.hid hk1
      clear hk1
      go_wp2_with fail
      refine (HRT.out _ (HR.out.old HK1.out)).mono ?_
      rintro e w2 ⟨rfl, hk2⟩
      have HK2 := Lib.hid (HK1.out.trans hk2)
      clear hk2
      go_wp2_with fail
      refine (awake8 _ (HP.out.old HK2.out)).mono ?_
      rintro e w3 ⟨rfl, hk3⟩
      have HK3 := Lib.hid (HK2.out.trans hk3)
      clear hk3
      go_wp2_with fail
      refine (HCK.out _ (HR.out.old HK3.out)).mono ?_
      rintro e w4 ⟨rfl, hk4⟩
      have HK4 := Lib.hid (HK3.out.trans hk4)
      clear hk4
      go_wp2_with fail
      refine (H1.out _ (HM.out.old HK4.out)).mono ?_
      rintro e w5 ⟨A1, n1, c1, rfl, hf1, hk5⟩
      have HS1 := Lib.hid (refSameD A l.length c A1 n1 c1 l _ (HR.out.old (HK4.out.trans hk5)) hf1.reads (by omega))
      have HK5 := Lib.hid (HK4.out.trans hk5)
      clear hf1 hk5
      go_wp2_with fail
      refine (HS1.out).mono ?_
      rintro e w6 ⟨rfl, hk6⟩
      have HK6 := Lib.hid (HK5.out.trans hk6)
      clear hk6
      go_wp2_with fail
      go_ret
      exact ⟨rfl, HK6.out⟩
    · have hpos : 0 < (textP l).length := List.length_pos_iff.2 hte
      have hx := str_extract (textP l) 0 ((textP l).length - 1)
      simp only [List.drop_zero, Nat.sub_zero] at hx
      clear hpt hte hck hok
      generalize hcu : (textP l).take ((textP l).length - 1) = cu at *
      clear hcu
      generalize textP l = tx at *
      have HX := Lib.hid hx
      clear hx
      go_enter Tryd.func11, Tryd.ntmps11
      go_wp2_with fail
      refine (HFEW.out _ HR0.out).mono ?_
      rintro e w0 ⟨rfl, rfl⟩
      go_wp2_with fail
      refine (HT.out _ HR.out HP.out).mono ?_
      rintro e w1 ⟨rfl, hk1⟩
      have HK1 := Lib.hid hk1
      clear hk1
      go_wp2_with fail
      refine (HRT.out _ (HR.out.old HK1.out)).mono ?_
      rintro e w2 ⟨rfl, hk2⟩
      have HK2 := Lib.hid (HK1.out.trans hk2)
      clear hk2
      go_wp2_with fail
      refine (awake8 _ (HP.out.old HK2.out)).mono ?_
      rintro e w3 ⟨rfl, hk3⟩
      have HK3 := Lib.hid (HK2.out.trans hk3)
      clear hk3
      go_wp2_with fail
      refine (HCK.out _ (HR.out.old HK3.out)).mono ?_
      rintro e w4 ⟨rfl, hk4⟩
      have HK4 := Lib.hid (HK3.out.trans hk4)
      clear hk4
      go_wp2_with fail
      refine (H1.out _ (HM.out.old HK4.out)).mono ?_
      rintro e w5 ⟨A1, n1, c1, rfl, hf1, hk5⟩
      have HS1 := Lib.hid (refSameD A l.length c A1 n1 c1 l _ (HR.out.old (HK4.out.trans hk5)) hf1.reads (by omega))
      have HK5 := Lib.hid (HK4.out.trans hk5)
      clear hf1 hk5
      go_wp2_with fail
      refine (HS1.out).mono ?_
      rintro e w6 ⟨rfl, hk6⟩
      have HK6 := Lib.hid (HK5.out.trans hk6)
      clear hk6
      go_wp2_with fail
      try rw [HX.out]
      refine (H2.out _ (HM.out.old HK6.out)).mono ?_
      rintro e w7 ⟨A2, n2, c2, rfl, hf2, hk7⟩
      have HS2 := Lib.hid (refSameD A l.length c A2 n2 c2 l _ (HR.out.old (HK6.out.trans hk7)) hf2.reads (by omega))
      have HK7 := Lib.hid (HK6.out.trans hk7)
      clear hf2 hk7
      go_wp2_with fail
      refine (HS2.out).mono ?_
      rintro e w8 ⟨rfl, hk8⟩
      have HK8 := Lib.hid (HK7.out.trans hk8)
      clear hk8
      go_wp2_with fail
      go_ret
      exact ⟨rfl, HK8.out⟩
  · have hcb : (checkP l != 0) = true := by rw [bne_iff_ne]; exact hck
    generalize checkP l = ck at *
    generalize textP l = tx at *
    clear hck hok
    go_enter Tryd.func11, Tryd.ntmps11
    go_wp2_with fail
    refine (HFEW.out _ HR0.out).mono ?_
    rintro e w0 ⟨rfl, rfl⟩
    go_wp2_with fail
    refine (HT.out _ HR.out HP.out).mono ?_
    rintro e w1 ⟨rfl, hk1⟩
    have HK1 := Lib.hid hk1
    clear hk1
    go_wp2_with fail
    refine (HRT.out _ (HR.out.old HK1.out)).mono ?_
    rintro e w2 ⟨rfl, hk2⟩
    have HK2 := Lib.hid (HK1.out.trans hk2)
    clear hk2
    go_wp2_with fail
    refine (awake8 _ (HP.out.old HK2.out)).mono ?_
    rintro e w3 ⟨rfl, hk3⟩
    have HK3 := Lib.hid (HK2.out.trans hk3)
    clear hk3
    go_wp2_with fail
    refine (HCK.out _ (HR.out.old HK3.out)).mono ?_
    rintro e w4 ⟨rfl, hk4⟩
    have HK4 := Lib.hid (HK3.out.trans hk4)
    clear hk4
    go_wp2_with fail
    go_ret
    exact ⟨rfl, HK4.out⟩

theorem laid_progTexts (os : Os) : laidMet Tryd.prog Rows.progTextsRow.laid ((laidWorld os).forCall (fun _ _ => 0) ⟨#[], #[.slice none 0 0], []⟩).memory :=
  laidMet_of_run' 8 (by kernel_rfl) (by kernel_rfl)
set_option maxRecDepth 100000 in
theorem progTexts_contract (H : Type) (enc : TypeId × Value → H) (W : World) (base : Nat) (args : Array Value) (ds gs : List (DataW H)) (before : List MemPlace)
    (hval : ∀ (j : Nat) t v, Tryd.f11.params[j]? = some t → args[j]? = some v → Value.okWide Tryd.prog W .any base t v)
    (hW : DataW.Whole enc Tryd.prog Tryd.f11.params.toList Rows.progTextsSpec.vars false W args.toList ds gs before) (hL : laidMetH Tryd.prog Rows.progTextsRow.laid W) (hsh : W.ShapedOpen Tryd.prog) :
    Calls Tryd.prog 11 args W fun e W' => ∃ v, e = .returned v ∧ Rows.progTextsSpec.post enc Tryd.prog Tryd.f11 false true false false W args v W' := by
  have hW' := hW
  obtain ⟨p, q, hA0, hV, rfl, hfz, hnd⟩ := hW
  have hA : DataW.TrodAll enc Tryd.prog W 0 (fun _ => true) true Tryd.f11.params.toList args.toList ds p := hA0
  rw [Tryd.params11] at hA hval
  obtain ⟨v0, vs0, d0, ds0, p0, q0, hargs, rfl, rfl, h0, r0⟩ := trodAll_cons hA
  obtain ⟨rfl, rfl, rfl⟩ := trodAll_nil r0
  obtain rfl : args = #[v0] := by cases args; simp_all
  obtain ⟨rfl, rfl⟩ := trodVars_none hV
  have k0 := h0
  have lt0 : ∀ x ∈ p0, x.block < W.heap.size := by obtain ⟨m, hm⟩ := k0; exact DataW.trod_lt m _ _ _ hm
  obtain ⟨A, n, c, l, rfl, hr, hc, hc2, hok⟩ := open_deeds (hval 0 22 v0 rfl rfl) h0
  clear hA0
  refine (progTexts_walk A n c l W hr hc (by unfold maxLen at hc2; omega) hok (hasMax hsh) (hasPow_of (by kernel_rfl) hL)).mono fun e W' ⟨he, bel0⟩ => ?_
  have bel := bel0.toBelow
  subst he
  exact ⟨_, rfl, _, _, _, [], _, [], hW', trodAll_mk1 (shut_bool Tryd.underlying4 _), (trodAll_cons_mk (Below.trod Tryd.laidOut (by kernel_rfl) (of_decide_eq_true (by kernel_rfl)) k0 bel lt0) trodAll_mk0), rfl, bel.frame _, fun h => by cases h⟩
theorem progTexts_reads (os : Os) {H : Type} (enc : TypeId × Value → H) : ∃ places, DataW.whole enc Tryd.prog ((laidWorld os).forCall (fun _ _ => 0) ⟨#[], #[.slice none 0 0], []⟩).memory Tryd.f11.params.toList Rows.progTextsSpec.vars false (#[.slice none 0 0] : Array Value).toList 8 = some ([.nil], [], places) :=
  ⟨[], by kernel_rfl⟩
set_option maxRecDepth 100000 in
theorem progTexts_lifted (os : Os) (started : os.Started) (H : Type) (enc : TypeId × Value → H) (F : Stop.Interp) :
    ReturnsInHanded {} Tryd.checked os 11 .any ((OpenSpec.ofChange Rows.progTextsSpec).preRow enc Tryd.prog Tryd.f11 Rows.progTextsRow.domain false Rows.progTextsRow.laid) (((OpenSpec.ofChange Rows.progTextsSpec).at F).post enc Tryd.prog Tryd.f11 false true false false) := by
  obtain ⟨places, hx⟩ := progTexts_reads os enc
  refine returnsInHanded_of_row (C := Tryd.checked) (s := OpenSpec.ofChange Rows.progTextsSpec) Tryd.own started (by kernel_rfl) Tryd.func11
    (witness_row_at (enc := enc) (C := Tryd.checked) false (laidWorld os) #[.slice none 0 0] rfl (by kernel_rfl) (by kernel_rfl) (by kernel_rfl)
      (OpenSpec.preRow_of_cond 8 hx (by kernel_rfl) (fun k hk => by cases hk) (by kernel_rfl) (laid_progTexts os))) ?_
  intro W base args ds gs before hval hW _ _ _ hL hsh _
  exact progTexts_contract H enc W base args ds gs before hval hW hL hsh
theorem progTexts_said : Rows.ProgTextsSaid :=
  OpenClaim.holds_of_cond 11 Tryd.f11 rfl rfl rfl rfl rfl rfl rfl ⟨rfl, rfl, rfl, rfl, rfl⟩ rfl rfl rfl rfl rfl (by kernel_rfl) Tryd.func11 (by kernel_rfl)
    (of_decide_eq_true (by kernel_rfl)) (by unfold Func.isWrapper; first | (rw [if_pos (by decide +kernel)]; kernel_rfl) | (rw [if_neg (by decide +kernel)]; exact ⟨rfl, rfl⟩))
    (fun os started H enc _ F => by rw [OpenClaim.pre_eq_preRow]; exact progTexts_lifted os started H enc F)
theorem progTexts_plain (f : FuncId) (fn : Func) (hf : Tryd.pinned.checked.prog.funcNamed "bosun/bosunlaw08.ProgTexts" = some f) (hfn : Tryd.pinned.checked.prog.funcs[f]? = some fn) :
    false = Tryd.pinned.checked.prog.looks [] ∧ ∀ (j : Nat) t, fn.params[j]? = some t → Tryd.pinned.checked.prog.wantsStandIn t = false := by
  obtain rfl : f = 11 := Option.some.inj ((show Tryd.prog.funcNamed "bosun/bosunlaw08.ProgTexts" = some 11 by kernel_rfl).symm.trans hf) |>.symm
  obtain rfl : fn = Tryd.f11 := (Option.some.inj (Tryd.func11.symm.trans hfn)).symm
  refine ⟨by kernel_rfl, fun j t ht => ?_⟩
  rw [Tryd.params11] at ht
  obtain rfl : t = 22 := by simpa using Array.mem_of_getElem? ht
  exact (show Tryd.prog.wantsStandIn 22 = false by kernel_rfl)
theorem progTexts_card : Rows.ProgTextsCardSaid :=
  Claim7.holds_tied_plain_at .later [] _ _ _ _ progTexts_said (fun _ h => by cases h) (by kernel_rfl) (fun _ h => by cases h) progTexts_row_tie rfl ⟨rfl, rfl⟩ (by kernel_rfl) rfl progTexts_plain (by kernel_rfl)

#print axioms progTexts_card
end Go.Proofs.YtmhlmoojmdfnfaaDoor
