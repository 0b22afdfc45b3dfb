/- CoreNil returns true for every input. -/
import Derived.Test.YthahmfeaekddnaaGreatDoorRuBigCoreNil
import Derived.Test.YthahmfeaekddnaaGreatDoorRuAwE
import Derived.Test.YthahmfeaekddnaaGreatDoorRuCoreA
import Derived.Test.YthahmfeaekddnaaGreatDoorRuCore0
import Derived.Test.YthahmfeaekddnaaGreatDoorRuCore1
import Derived.Test.YthahmfeaekddnaaGreatDoorRuCore2
import Derived.Test.YthahmfeaekddnaaGreatDoorRuCore3
import Derived.Test.YthahmfeaekddnaaGreatDoorRuCore4
namespace Go.Proofs.YthahmfeaekddnaaGreatDoor
open Go.Joins Go.ChangeShapes Go.WideShapes Go.ChangeAt Go.RowKit Go.Deep

namespace Ru
theorem coreNil_run (x0 x1 x2 : Int) : isYes (aFin (callO 18 100 KK 100000) 100000 3 cn_t0 (cn_s0 x0 x1 x2)) = true := by
  match x0 with
  | Int.negSucc k => exact cn_n x1 x2 k
  | Int.ofNat 0 => exact cn_0 x1 x2
  | Int.ofNat 1 => exact cn_1 x1 x2
  | Int.ofNat 2 => exact cn_2 x1 x2
  | Int.ofNat (k + 3) => exact cn_p x1 x2 k
end Ru
theorem coreNil_walk (x0 x1 x2 : Int) (w : World) (hd : 0 < w.heap.size ∧ ∀ i u, Ru.deB[i]? = some u → w.cell? ⟨0, i, none⟩ = some u) :
    Calls Tryz.prog 3 #[.int .i64 x0, .int .u64 x1, .int .i64 x2] w fun e w' => e = .returned (.bool true) ∧ Kept [] w w' := by
  have hs := Ru.Reach.start (args := [.int .i64 x0, .int .u64 x1, .int .i64 x2]) (args' := #[.int .i64 x0, .int .u64 x1, .int .i64 x2]) Ru.cnB_is Ru.cn_tmps (.cons (.lit rfl) (.cons (.lit rfl) (.cons (.lit rfl) .nil)))
  exact (hs.step (Ru.callK_ok Ru.kok 99 100000) _ _ (Ru.cn_begin x0 x1 x2)).calls (Ru.callO_ok Ru.ae_awakes 100 100000) 100000 (Ru.coreNil_run x0 x1 x2) hd.1 hd.2
theorem laid_coreNil (os : Os) : laidMet Tryz.prog Rows.coreNilRow.laid ((laidWorld os).forCall (fun _ _ => 0) ⟨#[], #[.int .i64 0, .int .u64 0, .int .i64 0], []⟩).memory :=
  laidMet_of_run' 8 (by kernel_rfl) (by kernel_rfl)
set_option maxRecDepth 100000 in
theorem coreNil_contract (H : Type) (enc : TypeId × Value → H) (W : World) (base : Nat) (args : Array Value) (ds gs : List (DataW H)) (before : List MemPlace)
    (hval : ∀ (j : Nat) t v, Tryz.f3.params[j]? = some t → args[j]? = some v → Value.okWide Tryz.prog W .any base t v)
    (hW : DataW.Whole enc Tryz.prog Tryz.f3.params.toList Rows.coreNilSpec.vars false W args.toList ds gs before) (hL : laidMetH Tryz.prog Rows.coreNilRow.laid W) (hsh : W.ShapedOpen Tryz.prog) :
    Calls Tryz.prog 3 args W fun e W' => ∃ v, e = .returned v ∧ Rows.coreNilSpec.post enc Tryz.prog Tryz.f3 false true false false W args v W' := by
  have hW' := hW
  obtain ⟨p, q, hA0, hV, rfl, hfz, hnd⟩ := hW
  have hA : DataW.TrodAll enc Tryz.prog W 0 (fun _ => true) true Tryz.f3.params.toList args.toList ds p := hA0
  rw [Tryz.params3] at hA hval
  obtain ⟨v0, vs0, d0, ds0, p0, q0, hargs, rfl, rfl, h0, r0⟩ := trodAll_cons hA
  obtain ⟨v1, vs1, d1, ds1, p1, q1, rfl, rfl, rfl, h1, r1⟩ := trodAll_cons r0
  obtain ⟨v2, vs2, d2, ds2, p2, q2, rfl, rfl, rfl, h2, r2⟩ := trodAll_cons r1
  obtain ⟨rfl, rfl, rfl⟩ := trodAll_nil r2
  obtain rfl : args = #[v0, v1, v2] := by cases args; simp_all
  obtain ⟨rfl, rfl⟩ := trodVars_none hV
  have k0 := h0
  have lt0 : ∀ x ∈ p0, x.block < W.heap.size := by obtain ⟨m, hm⟩ := k0; exact DataW.trod_lt m _ _ _ hm
  have k1 := h1
  have lt1 : ∀ x ∈ p1, x.block < W.heap.size := by obtain ⟨m, hm⟩ := k1; exact DataW.trod_lt m _ _ _ hm
  have k2 := h2
  have lt2 : ∀ x ∈ p2, x.block < W.heap.size := by obtain ⟨m, hm⟩ := k2; exact DataW.trod_lt m _ _ _ hm
  obtain ⟨x0, rfl, rfl, rfl, _⟩ := open_int Tryz.underlying3 (hval 0 3 v0 rfl rfl) h0
  obtain ⟨x1, rfl, rfl, rfl, _⟩ := open_int Tryz.underlying22 (hval 1 22 v1 rfl rfl) h1
  obtain ⟨x2, rfl, rfl, rfl, _⟩ := open_int Tryz.underlying3 (hval 2 3 v2 rfl rfl) h2
  clear hA0
  refine (coreNil_walk x0 x1 x2 W (deb_of (by kernel_rfl) hL)).mono fun e W' ⟨he, bel0⟩ => ?_
  have bel := bel0.toBelow
  subst he
  exact ⟨_, rfl, _, _, _, [], _, [], hW', trodAll_mk1 (shut_bool Tryz.underlying4 _), (trodAll_cons_mk (Below.trod Tryz.laidOut (by kernel_rfl) (of_decide_eq_true (by kernel_rfl)) k0 bel lt0) (trodAll_cons_mk (Below.trod Tryz.laidOut (by kernel_rfl) (of_decide_eq_true (by kernel_rfl)) k1 bel lt1) (trodAll_cons_mk (Below.trod Tryz.laidOut (by kernel_rfl) (of_decide_eq_true (by kernel_rfl)) k2 bel lt2) trodAll_mk0))), rfl, bel.frame _, fun h => by cases h⟩
theorem coreNil_reads (os : Os) {H : Type} (enc : TypeId × Value → H) : ∃ places, DataW.whole enc Tryz.prog ((laidWorld os).forCall (fun _ _ => 0) ⟨#[], #[.int .i64 0, .int .u64 0, .int .i64 0], []⟩).memory Tryz.f3.params.toList Rows.coreNilSpec.vars false (#[.int .i64 0, .int .u64 0, .int .i64 0] : Array Value).toList 8 = some ([.lit (.int .i64 0), .lit (.int .u64 0), .lit (.int .i64 0)], [], places) :=
  ⟨[], by kernel_rfl⟩
set_option maxRecDepth 100000 in
theorem coreNil_lifted (os : Os) (started : os.Started) (H : Type) (enc : TypeId × Value → H) (F : Stop.Interp) :
    ReturnsInHanded {} Tryz.checked os 3 .any ((OpenSpec.ofChange Rows.coreNilSpec).preRow enc Tryz.prog Tryz.f3 Rows.coreNilRow.domain false Rows.coreNilRow.laid) (((OpenSpec.ofChange Rows.coreNilSpec).at F).post enc Tryz.prog Tryz.f3 false true false false) := by
  obtain ⟨places, hx⟩ := coreNil_reads os enc
  refine returnsInHanded_of_row (C := Tryz.checked) (s := OpenSpec.ofChange Rows.coreNilSpec) Tryz.own started (by kernel_rfl) Tryz.func3
    (witness_row_at (enc := enc) (C := Tryz.checked) false (laidWorld os) #[.int .i64 0, .int .u64 0, .int .i64 0] rfl (by kernel_rfl) (by kernel_rfl) (by kernel_rfl)
      (OpenSpec.preRow_of_cond 8 hx (by kernel_rfl) (fun k hk => by cases hk) (by kernel_rfl) (laid_coreNil os))) ?_
  intro W base args ds gs before hval hW _ _ _ hL hsh _
  exact coreNil_contract H enc W base args ds gs before hval hW hL hsh
theorem coreNil_said : Rows.CoreNilSaid :=
  OpenClaim.holds_of_cond 3 Tryz.f3 rfl rfl rfl rfl rfl rfl rfl ⟨rfl, rfl, rfl, rfl, rfl⟩ rfl rfl rfl rfl rfl coreNil_named Tryz.func3 coreNil_joined
    (of_decide_eq_true (by kernel_rfl)) (by unfold Func.isWrapper; first | (rw [if_pos (by decide +kernel)]; kernel_rfl) | (rw [if_neg (by decide +kernel)]; exact ⟨rfl, rfl⟩))
    (fun os started H enc _ F => by rw [OpenClaim.pre_eq_preRow]; exact coreNil_lifted os started H enc F)
theorem coreNil_plain (f : FuncId) (fn : Func) (hf : Tryz.pinned.checked.prog.funcNamed "bosun/bosunlaw32.CoreNil" = some f) (hfn : Tryz.pinned.checked.prog.funcs[f]? = some fn) :
    false = Tryz.pinned.checked.prog.looks [] ∧ ∀ (j : Nat) t, fn.params[j]? = some t → Tryz.pinned.checked.prog.wantsStandIn t = false := by
  obtain rfl : f = 3 := Option.some.inj ((show Tryz.prog.funcNamed "bosun/bosunlaw32.CoreNil" = some 3 from coreNil_named).symm.trans hf) |>.symm
  obtain rfl : fn = Tryz.f3 := (Option.some.inj (Tryz.func3.symm.trans hfn)).symm
  refine ⟨by kernel_rfl, fun j t ht => ?_⟩
  rw [Tryz.params3] at ht
  have hm : t = 3 ∨ t = 22 ∨ t = 3 := by simpa using Array.mem_of_getElem? ht
  rcases hm with rfl | rfl | rfl
  · exact (show Tryz.prog.wantsStandIn 3 = false by kernel_rfl)
  · exact (show Tryz.prog.wantsStandIn 22 = false by kernel_rfl)
  · exact (show Tryz.prog.wantsStandIn 3 = false by kernel_rfl)
theorem coreNil_card : Rows.CoreNilCardSaid :=
  Claim7.holds_tied_plain_at .later [] _ _ _ _ coreNil_said (fun _ h => by cases h) (by kernel_rfl) (fun _ h => by cases h) coreNil_row_tie rfl ⟨rfl, rfl⟩ (by kernel_rfl) rfl coreNil_plain coreNil_goes

#print axioms coreNil_card
end Go.Proofs.YthahmfeaekddnaaGreatDoor
