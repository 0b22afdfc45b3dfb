/- DeedLines returns true for every input: the card. -/
import Derived.Test.YtmhlmoojmdfnfaaDoorLaid
import Derived.Test.YtmhlmoojmdfnfaaDoorDeedOpen
import Derived.Test.YtmhlmoojmdfnfaaDoorDeedLinesW
namespace Go.Proofs.YtmhlmoojmdfnfaaDoor
open Go.ChangeShapes Go.WideShapes Go.ChangeAt Go.RowKit

theorem deedLines_walk (o a b r : Int) (n m : Nat) (l : Bool) (w : World) (hM : HasMax w) (hP : HasPow w) (hn : n < 18446744073709551616) (hm : m < 18446744073709551616) :
    Calls Tryd.prog 6 #[.agg (dC o a b r n m l)] w fun e w' => e = .returned (.bool true) ∧ Kept [] w w' := by
  cases hg : goodD ⟨o, a, b, r, n, m, l⟩
  · exact deedLines_false o a b r n m l w hM hP hn hm hg
  · exact deedLines_true o a b r n m l w hM hP hn hm hg
theorem laid_deedLines (os : Os) : laidMet Tryd.prog Rows.deedLinesRow.laid ((laidWorld os).forCall (fun _ _ => 0) ⟨#[], #[.agg (dC 0 0 0 0 0 0 false)], []⟩).memory :=
  laidMet_of_run' 8 (by kernel_rfl) (by kernel_rfl)
set_option maxRecDepth 100000 in
theorem deedLines_contract (H : Type) (enc : TypeId × Value → H) (W : World) (base : Nat) (args : Array Value) (ds gs : List (DataW H)) (before : List MemPlace)
    (hval : ∀ (j : Nat) t v, Tryd.f6.params[j]? = some t → args[j]? = some v → Value.okWide Tryd.prog W .any base t v)
    (hW : DataW.Whole enc Tryd.prog Tryd.f6.params.toList Rows.deedLinesSpec.vars false W args.toList ds gs before) (hL : laidMetH Tryd.prog Rows.deedLinesRow.laid W) (hsh : W.ShapedOpen Tryd.prog) :
    Calls Tryd.prog 6 args W fun e W' => ∃ v, e = .returned v ∧ Rows.deedLinesSpec.post enc Tryd.prog Tryd.f6 false true false false W args v W' := by
  have hW' := hW
  obtain ⟨p, q, hA0, hV, rfl, hfz, hnd⟩ := hW
  have hA : DataW.TrodAll enc Tryd.prog W 0 (fun _ => true) true Tryd.f6.params.toList args.toList ds p := hA0
  rw [Tryd.params6] at hA hval
  obtain ⟨v0, vs0, d0, ds0, p0, q0, hargs, rfl, rfl, h0, r0⟩ := trodAll_cons hA
  obtain ⟨rfl, rfl, rfl⟩ := trodAll_nil r0
  obtain rfl : args = #[v0] := by cases args; simp_all
  obtain ⟨rfl, rfl⟩ := trodVars_none hV
  have k0 := h0
  have lt0 : ∀ x ∈ p0, x.block < W.heap.size := by obtain ⟨m, hm⟩ := k0; exact DataW.trod_lt m _ _ _ hm
  obtain ⟨o, a, b, r, n, m, l, rfl, hn, hm⟩ := open_deed (hval 0 41 v0 rfl rfl) h0
  clear hA0
  refine (deedLines_walk o a b r n m l W (hasMax hsh) (hasPow_of (by kernel_rfl) hL) hn hm).mono fun e W' ⟨he, bel0⟩ => ?_
  have bel := bel0.toBelow
  subst he
  exact ⟨_, rfl, _, _, _, [], _, [], hW', trodAll_mk1 (shut_bool Tryd.underlying4 _), (trodAll_cons_mk (Below.trod Tryd.laidOut (by kernel_rfl) (of_decide_eq_true (by kernel_rfl)) k0 bel lt0) trodAll_mk0), rfl, bel.frame _, fun h => by cases h⟩
theorem deedLines_reads (os : Os) {H : Type} (enc : TypeId × Value → H) : ∃ places, DataW.whole enc Tryd.prog ((laidWorld os).forCall (fun _ _ => 0) ⟨#[], #[.agg (dC 0 0 0 0 0 0 false)], []⟩).memory Tryd.f6.params.toList Rows.deedLinesSpec.vars false (#[.agg (dC 0 0 0 0 0 0 false)] : Array Value).toList 8 = some ([.agg [.lit (.int .i64 0), .lit (.int .i64 0), .lit (.int .i64 0), .lit (.int .i64 0), .lit (.int .u64 0), .lit (.int .u64 0), .lit (.bool false)]], [], places) :=
  ⟨[], by kernel_rfl⟩
set_option maxRecDepth 100000 in
theorem deedLines_lifted (os : Os) (started : os.Started) (H : Type) (enc : TypeId × Value → H) (F : Stop.Interp) :
    ReturnsInHanded {} Tryd.checked os 6 .any ((OpenSpec.ofChange Rows.deedLinesSpec).preRow enc Tryd.prog Tryd.f6 Rows.deedLinesRow.domain false Rows.deedLinesRow.laid) (((OpenSpec.ofChange Rows.deedLinesSpec).at F).post enc Tryd.prog Tryd.f6 false true false false) := by
  obtain ⟨places, hx⟩ := deedLines_reads os enc
  refine returnsInHanded_of_row (C := Tryd.checked) (s := OpenSpec.ofChange Rows.deedLinesSpec) Tryd.own started (by kernel_rfl) Tryd.func6
    (witness_row_at (enc := enc) (C := Tryd.checked) false (laidWorld os) #[.agg (dC 0 0 0 0 0 0 false)] rfl (by kernel_rfl) (by kernel_rfl) (by kernel_rfl)
      (OpenSpec.preRow_of_cond 8 hx (by kernel_rfl) (fun k hk => by cases hk) (by kernel_rfl) (laid_deedLines os))) ?_
  intro W base args ds gs before hval hW _ _ _ hL hsh _
  exact deedLines_contract H enc W base args ds gs before hval hW hL hsh
theorem deedLines_said : Rows.DeedLinesSaid :=
  OpenClaim.holds_of_cond 6 Tryd.f6 rfl rfl rfl rfl rfl rfl rfl ⟨rfl, rfl, rfl, rfl, rfl⟩ rfl rfl rfl rfl rfl (by kernel_rfl) Tryd.func6 (by kernel_rfl)
    (of_decide_eq_true (by kernel_rfl)) (by unfold Func.isWrapper; first | (rw [if_pos (by decide +kernel)]; kernel_rfl) | (rw [if_neg (by decide +kernel)]; exact ⟨rfl, rfl⟩))
    (fun os started H enc _ F => by rw [OpenClaim.pre_eq_preRow]; exact deedLines_lifted os started H enc F)
theorem deedLines_plain (f : FuncId) (fn : Func) (hf : Tryd.pinned.checked.prog.funcNamed "bosun/bosunlaw07.DeedLines" = some f) (hfn : Tryd.pinned.checked.prog.funcs[f]? = some fn) :
    false = Tryd.pinned.checked.prog.looks [] ∧ ∀ (j : Nat) t, fn.params[j]? = some t → Tryd.pinned.checked.prog.wantsStandIn t = false := by
  obtain rfl : f = 6 := Option.some.inj ((show Tryd.prog.funcNamed "bosun/bosunlaw07.DeedLines" = some 6 by kernel_rfl).symm.trans hf) |>.symm
  obtain rfl : fn = Tryd.f6 := (Option.some.inj (Tryd.func6.symm.trans hfn)).symm
  refine ⟨by kernel_rfl, fun j t ht => ?_⟩
  rw [Tryd.params6] at ht
  obtain rfl : t = 41 := by simpa using Array.mem_of_getElem? ht
  exact (show Tryd.prog.wantsStandIn 41 = false by kernel_rfl)
theorem deedLines_card : Rows.DeedLinesCardSaid :=
  Claim7.holds_tied_plain_at .later [] _ _ _ _ deedLines_said (fun _ h => by cases h) (by kernel_rfl) (fun _ h => by cases h) deedLines_row_tie rfl ⟨rfl, rfl⟩ (by kernel_rfl) rfl deedLines_plain (by kernel_rfl)

#print axioms deedLines_card
end Go.Proofs.YtmhlmoojmdfnfaaDoor
