/- DeedBytes returns true for every input: the card. -/
import Derived.Test.YtmhlmoojmdfnfaaDoorLaid
import Derived.Test.YtmhlmoojmdfnfaaDoorDeedOpen
import Derived.Test.YtmhlmoojmdfnfaaDoorDeedBytesW
namespace Go.Proofs.YtmhlmoojmdfnfaaDoor
open Go.ChangeShapes Go.WideShapes Go.ChangeAt Go.RowKit

theorem deedBytes_walk (o a b r : Int) (n m : Nat) (l : Bool) (w : World) (hM : HasMax w) (hP : HasPow w) (hn : n < 18446744073709551616) (hm : m < 18446744073709551616) :
    Calls Tryd.prog 13 #[.agg (dC o a b r n m l)] w fun e w' => e = .returned (.bool true) ∧ Kept [] w w' := by
  cases hg : goodD ⟨o, a, b, r, n, m, l⟩
  · exact deedBytes_bad o a b r n m l w hg hM hP
  · obtain ⟨h1, h2, h3, h4, h5, h6, h7, h8⟩ := goodD_bounds hg
    simp only at h1 h2 h3 h4 h5 h6 h7 h8
    obtain ⟨o, rfl⟩ := Int.eq_ofNat_of_zero_le (show 0 ≤ o by omega)
    obtain ⟨a, rfl⟩ := Int.eq_ofNat_of_zero_le h1
    obtain ⟨b, rfl⟩ := Int.eq_ofNat_of_zero_le h3
    obtain ⟨r, rfl⟩ := Int.eq_ofNat_of_zero_le h5
    exact deedBytes_good o a b r n m l w hg (by omega) (by omega) (by omega) (by omega) hn hm hM hP
theorem laid_deedBytes (os : Os) : laidMet Tryd.prog Rows.deedBytesRow.laid ((laidWorld os).forCall (fun _ _ => 0) ⟨#[], #[.agg (dC 0 0 0 0 0 0 false)], []⟩).memory :=
  laidMet_of_run' 8 (by kernel_rfl) (by kernel_rfl)
set_option maxRecDepth 100000 in
theorem deedBytes_contract (H : Type) (enc : TypeId × Value → H) (W : World) (base : Nat) (args : Array Value) (ds gs : List (DataW H)) (before : List MemPlace)
    (hval : ∀ (j : Nat) t v, Tryd.f13.params[j]? = some t → args[j]? = some v → Value.okWide Tryd.prog W .any base t v)
    (hW : DataW.Whole enc Tryd.prog Tryd.f13.params.toList Rows.deedBytesSpec.vars false W args.toList ds gs before) (hL : laidMetH Tryd.prog Rows.deedBytesRow.laid W) (hsh : W.ShapedOpen Tryd.prog) :
    Calls Tryd.prog 13 args W fun e W' => ∃ v, e = .returned v ∧ Rows.deedBytesSpec.post enc Tryd.prog Tryd.f13 false true false false W args v W' := by
  have hW' := hW
  obtain ⟨p, q, hA0, hV, rfl, hfz, hnd⟩ := hW
  have hA : DataW.TrodAll enc Tryd.prog W 0 (fun _ => true) true Tryd.f13.params.toList args.toList ds p := hA0
  rw [Tryd.params13] at hA hval
  obtain ⟨v0, vs0, d0, ds0, p0, q0, hargs, rfl, rfl, h0, r0⟩ := trodAll_cons hA
  obtain ⟨rfl, rfl, rfl⟩ := trodAll_nil r0
  obtain rfl : args = #[v0] := by cases args; simp_all
  obtain ⟨rfl, rfl⟩ := trodVars_none hV
  have k0 := h0
  have lt0 : ∀ x ∈ p0, x.block < W.heap.size := by obtain ⟨m, hm⟩ := k0; exact DataW.trod_lt m _ _ _ hm
  obtain ⟨o, a, b, r, n, m, l, rfl, hn, hm⟩ := open_deed (hval 0 41 v0 rfl rfl) h0
  clear hA0
  refine (deedBytes_walk o a b r n m l W (hasMax hsh) (hasPow_of (by kernel_rfl) hL) hn hm).mono fun e W' ⟨he, bel0⟩ => ?_
  have bel := bel0.toBelow
  subst he
  exact ⟨_, rfl, _, _, _, [], _, [], hW', trodAll_mk1 (shut_bool Tryd.underlying4 _), (trodAll_cons_mk (Below.trod Tryd.laidOut (by kernel_rfl) (of_decide_eq_true (by kernel_rfl)) k0 bel lt0) trodAll_mk0), rfl, bel.frame _, fun h => by cases h⟩
theorem deedBytes_reads (os : Os) {H : Type} (enc : TypeId × Value → H) : ∃ places, DataW.whole enc Tryd.prog ((laidWorld os).forCall (fun _ _ => 0) ⟨#[], #[.agg (dC 0 0 0 0 0 0 false)], []⟩).memory Tryd.f13.params.toList Rows.deedBytesSpec.vars false (#[.agg (dC 0 0 0 0 0 0 false)] : Array Value).toList 8 = some ([.agg [.lit (.int .i64 0), .lit (.int .i64 0), .lit (.int .i64 0), .lit (.int .i64 0), .lit (.int .u64 0), .lit (.int .u64 0), .lit (.bool false)]], [], places) :=
  ⟨[], by kernel_rfl⟩
set_option maxRecDepth 100000 in
theorem deedBytes_lifted (os : Os) (started : os.Started) (H : Type) (enc : TypeId × Value → H) (F : Stop.Interp) :
    ReturnsInHanded {} Tryd.checked os 13 .any ((OpenSpec.ofChange Rows.deedBytesSpec).preRow enc Tryd.prog Tryd.f13 Rows.deedBytesRow.domain false Rows.deedBytesRow.laid) (((OpenSpec.ofChange Rows.deedBytesSpec).at F).post enc Tryd.prog Tryd.f13 false true false false) := by
  obtain ⟨places, hx⟩ := deedBytes_reads os enc
  refine returnsInHanded_of_row (C := Tryd.checked) (s := OpenSpec.ofChange Rows.deedBytesSpec) Tryd.own started (by kernel_rfl) Tryd.func13
    (witness_row_at (enc := enc) (C := Tryd.checked) false (laidWorld os) #[.agg (dC 0 0 0 0 0 0 false)] rfl (by kernel_rfl) (by kernel_rfl) (by kernel_rfl)
      (OpenSpec.preRow_of_cond 8 hx (by kernel_rfl) (fun k hk => by cases hk) (by kernel_rfl) (laid_deedBytes os))) ?_
  intro W base args ds gs before hval hW _ _ _ hL hsh _
  exact deedBytes_contract H enc W base args ds gs before hval hW hL hsh
theorem deedBytes_said : Rows.DeedBytesSaid :=
  OpenClaim.holds_of_cond 13 Tryd.f13 rfl rfl rfl rfl rfl rfl rfl ⟨rfl, rfl, rfl, rfl, rfl⟩ rfl rfl rfl rfl rfl (by kernel_rfl) Tryd.func13 (by kernel_rfl)
    (of_decide_eq_true (by kernel_rfl)) (by unfold Func.isWrapper; first | (rw [if_pos (by decide +kernel)]; kernel_rfl) | (rw [if_neg (by decide +kernel)]; exact ⟨rfl, rfl⟩))
    (fun os started H enc _ F => by rw [OpenClaim.pre_eq_preRow]; exact deedBytes_lifted os started H enc F)
theorem deedBytes_plain (f : FuncId) (fn : Func) (hf : Tryd.pinned.checked.prog.funcNamed "bosun/bosunlaw07.DeedBytes" = some f) (hfn : Tryd.pinned.checked.prog.funcs[f]? = some fn) :
    false = Tryd.pinned.checked.prog.looks [] ∧ ∀ (j : Nat) t, fn.params[j]? = some t → Tryd.pinned.checked.prog.wantsStandIn t = false := by
  obtain rfl : f = 13 := Option.some.inj ((show Tryd.prog.funcNamed "bosun/bosunlaw07.DeedBytes" = some 13 by kernel_rfl).symm.trans hf) |>.symm
  obtain rfl : fn = Tryd.f13 := (Option.some.inj (Tryd.func13.symm.trans hfn)).symm
  refine ⟨by kernel_rfl, fun j t ht => ?_⟩
  rw [Tryd.params13] at ht
  obtain rfl : t = 41 := by simpa using Array.mem_of_getElem? ht
  exact (show Tryd.prog.wantsStandIn 41 = false by kernel_rfl)
theorem deedBytes_card : Rows.DeedBytesCardSaid :=
  Claim7.holds_tied_plain_at .later [] _ _ _ _ deedBytes_said (fun _ h => by cases h) (by kernel_rfl) (fun _ h => by cases h) deedBytes_row_tie rfl ⟨rfl, rfl⟩ (by kernel_rfl) rfl deedBytes_plain (by kernel_rfl)

#print axioms deedBytes_card
end Go.Proofs.YtmhlmoojmdfnfaaDoor
