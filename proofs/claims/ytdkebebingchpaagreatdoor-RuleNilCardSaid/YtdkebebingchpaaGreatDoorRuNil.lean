/- RuleNil returns true for every input. -/
import Derived.Test.YtdkebebingchpaaGreatDoorRuOpen
namespace Go.Proofs.YtdkebebingchpaaGreatDoor
open Go.Joins Go.ChangeShapes Go.WideShapes Go.ChangeAt Go.RowKit Go.Deep

section
variable {H : Type} {enc : TypeId × Value → H} {w : World} {base : Nat} {spare : Nat → Bool} {held : Bool}
set_option maxRecDepth 100000 in
theorem open_apiAct {r : Reach} {b0 : Nat} {v : Value} {d : DataW H} {p : List MemPlace} (hv : Value.okWide Tryz.prog w r b0 52 v) (h : DataW.Trod enc Tryz.prog w base spare held 52 v d p) :
    ∃ x0 x1 x2 x3 x4 : Int, v = .agg #[.int .i64 x0, .int .i64 x1, .int .i64 x2, .int .u64 x3, .int .i64 x4] := by
  obtain ⟨⟨cs⟩, rfl, hsz, n, hf⟩ := open_fields Tryz.underlying52 (by kernel_rfl) (by kernel_rfl) hv h
  obtain ⟨v0, y0, c0, r0⟩ := hf 0 _ rfl
  obtain ⟨v1, y1, c1, r1⟩ := hf 1 _ rfl
  obtain ⟨v2, y2, c2, r2⟩ := hf 2 _ rfl
  obtain ⟨v3, y3, c3, r3⟩ := hf 3 _ rfl
  obtain ⟨v4, y4, c4, r4⟩ := hf 4 _ rfl
  obtain ⟨z0, rfl⟩ := open_z Tryz.underlying3 r0
  obtain ⟨z1, rfl⟩ := open_z Tryz.underlying3 r1
  obtain ⟨z2, rfl⟩ := open_z Tryz.underlying3 r2
  obtain ⟨z3, rfl⟩ := open_z Tryz.underlying22 r3
  obtain ⟨z4, rfl⟩ := open_z Tryz.underlying3 r4
  refine ⟨z0, z1, z2, z3, z4, ?_⟩
  match cs, hsz with
  | [a0, a1, a2, a3, a4], _ =>
    simp at c0 c1 c2 c3 c4
    rw [c0, c1, c2, c3, c4]
end
namespace Ru
set_option maxRecDepth 1000000 in
theorem ruleNil_run (x0 x1 x2 x3 x4 n w : Int) : isYes ((callK 100 KK 100000).cf 4 [.agg #[.int .i64 x0, .int .i64 x1, .int .i64 x2, .int .u64 x3, .int .i64 x4], .int .i64 n, .int .u64 w] H0) = true := by kernel_rfl
end Ru
theorem ruleNil_walk (x0 x1 x2 x3 x4 n u : Int) (w : World) (hd : 1 < w.heap.size ∧ ∀ i u, Ru.deB[i]? = some u → w.cell? ⟨1, i, none⟩ = some u) :
    Calls Tryz.prog 4 #[.agg #[.int .i64 x0, .int .i64 x1, .int .i64 x2, .int .u64 x3, .int .i64 x4], .int .i64 n, .int .u64 u] w fun e w' => e = .returned (.bool true) ∧ Kept [] w w' := by
  obtain ⟨h', hr⟩ := Ru.yes_of (Ru.ruleNil_run x0 x1 x2 x3 x4 n u)
  have L : Ru.LRel Ru.m0 [Value.int .i64 x0, .int .i64 x1, .int .i64 x2, .int .u64 x3, .int .i64 x4] [Value.int .i64 x0, .int .i64 x1, .int .i64 x2, .int .u64 x3, .int .i64 x4] :=
    .cons (.lit rfl) (.cons (.lit rfl) (.cons (.lit rfl) (.cons (.lit rfl) (.cons (.lit rfl) .nil))))
  exact Ru.yes 100 100000 hr hd.1 hd.2 (.cons (.agg L.1 L.2) (.cons (.lit rfl) (.cons (.lit rfl) .nil)))
theorem laid_ruleNil (os : Os) : laidMet Tryz.prog Rows.ruleNilRow.laid ((laidWorld os).forCall (fun _ _ => 0) ⟨#[], #[.agg #[.int .i64 0, .int .i64 0, .int .i64 0, .int .u64 0, .int .i64 0], .int .i64 0, .int .u64 0], []⟩).memory :=
  laidMet_of_run' 8 (by kernel_rfl) (by kernel_rfl)
set_option maxRecDepth 100000 in
theorem ruleNil_contract (H : Type) (enc : TypeId × Value → H) (W : World) (base : Nat) (args : Array Value) (ds gs : List (DataW H)) (before : List MemPlace)
    (hval : ∀ (j : Nat) t v, Tryz.f4.params[j]? = some t → args[j]? = some v → Value.okWide Tryz.prog W .any base t v)
    (hW : DataW.Whole enc Tryz.prog Tryz.f4.params.toList Rows.ruleNilSpec.vars false W args.toList ds gs before) (hL : laidMetH Tryz.prog Rows.ruleNilRow.laid W) (hsh : W.ShapedOpen Tryz.prog) :
    Calls Tryz.prog 4 args W fun e W' => ∃ v, e = .returned v ∧ Rows.ruleNilSpec.post enc Tryz.prog Tryz.f4 false true false false W args v W' := by
  have hW' := hW
  obtain ⟨p, q, hA0, hV, rfl, hfz, hnd⟩ := hW
  have hA : DataW.TrodAll enc Tryz.prog W 0 (fun _ => true) true Tryz.f4.params.toList args.toList ds p := hA0
  rw [Tryz.params4] at hA hval
  obtain ⟨v0, vs0, d0, ds0, p0, q0, hargs, rfl, rfl, h0, r0⟩ := trodAll_cons hA
  obtain ⟨v1, vs1, d1, ds1, p1, q1, rfl, rfl, rfl, h1, r1⟩ := trodAll_cons r0
  obtain ⟨v2, vs2, d2, ds2, p2, q2, rfl, rfl, rfl, h2, r2⟩ := trodAll_cons r1
  obtain ⟨rfl, rfl, rfl⟩ := trodAll_nil r2
  obtain rfl : args = #[v0, v1, v2] := by cases args; simp_all
  obtain ⟨rfl, rfl⟩ := trodVars_none hV
  have k0 := h0
  have lt0 : ∀ x ∈ p0, x.block < W.heap.size := by obtain ⟨m, hm⟩ := k0; exact DataW.trod_lt m _ _ _ hm
  have k1 := h1
  have lt1 : ∀ x ∈ p1, x.block < W.heap.size := by obtain ⟨m, hm⟩ := k1; exact DataW.trod_lt m _ _ _ hm
  have k2 := h2
  have lt2 : ∀ x ∈ p2, x.block < W.heap.size := by obtain ⟨m, hm⟩ := k2; exact DataW.trod_lt m _ _ _ hm
  obtain ⟨x0, x1, x2, x3, x4, rfl⟩ := open_apiAct (hval 0 52 v0 rfl rfl) h0
  obtain ⟨n, rfl, rfl, rfl, _⟩ := open_int Tryz.underlying3 (hval 1 3 v1 rfl rfl) h1
  obtain ⟨u, rfl, rfl, rfl, _⟩ := open_int Tryz.underlying22 (hval 2 22 v2 rfl rfl) h2
  clear hA0
  refine (ruleNil_walk x0 x1 x2 x3 x4 n u W (deb_of (by kernel_rfl) hL)).mono fun e W' ⟨he, bel0⟩ => ?_
  have bel := bel0.toBelow
  subst he
  exact ⟨_, rfl, _, _, _, [], _, [], hW', trodAll_mk1 (shut_bool Tryz.underlying4 _), (trodAll_cons_mk (Below.trod Tryz.laidOut (by kernel_rfl) (of_decide_eq_true (by kernel_rfl)) k0 bel lt0) (trodAll_cons_mk (Below.trod Tryz.laidOut (by kernel_rfl) (of_decide_eq_true (by kernel_rfl)) k1 bel lt1) (trodAll_cons_mk (Below.trod Tryz.laidOut (by kernel_rfl) (of_decide_eq_true (by kernel_rfl)) k2 bel lt2) trodAll_mk0))), rfl, bel.frame _, fun h => by cases h⟩
theorem ruleNil_reads (os : Os) {H : Type} (enc : TypeId × Value → H) : ∃ places, DataW.whole enc Tryz.prog ((laidWorld os).forCall (fun _ _ => 0) ⟨#[], #[.agg #[.int .i64 0, .int .i64 0, .int .i64 0, .int .u64 0, .int .i64 0], .int .i64 0, .int .u64 0], []⟩).memory Tryz.f4.params.toList Rows.ruleNilSpec.vars false (#[.agg #[.int .i64 0, .int .i64 0, .int .i64 0, .int .u64 0, .int .i64 0], .int .i64 0, .int .u64 0] : Array Value).toList 8 = some ([.agg [.lit (.int .i64 0), .lit (.int .i64 0), .lit (.int .i64 0), .lit (.int .u64 0), .lit (.int .i64 0)], .lit (.int .i64 0), .lit (.int .u64 0)], [], places) :=
  ⟨[], by kernel_rfl⟩
set_option maxRecDepth 100000 in
theorem ruleNil_lifted (os : Os) (started : os.Started) (H : Type) (enc : TypeId × Value → H) (F : Stop.Interp) :
    ReturnsInHanded {} Tryz.checked os 4 .any ((OpenSpec.ofChange Rows.ruleNilSpec).preRow enc Tryz.prog Tryz.f4 Rows.ruleNilRow.domain false Rows.ruleNilRow.laid) (((OpenSpec.ofChange Rows.ruleNilSpec).at F).post enc Tryz.prog Tryz.f4 false true false false) := by
  obtain ⟨places, hx⟩ := ruleNil_reads os enc
  refine returnsInHanded_of_row (C := Tryz.checked) (s := OpenSpec.ofChange Rows.ruleNilSpec) Tryz.own started (by kernel_rfl) Tryz.func4
    (witness_row_at (enc := enc) (C := Tryz.checked) false (laidWorld os) #[.agg #[.int .i64 0, .int .i64 0, .int .i64 0, .int .u64 0, .int .i64 0], .int .i64 0, .int .u64 0] rfl (by kernel_rfl) (by kernel_rfl) (by kernel_rfl)
      (OpenSpec.preRow_of_cond 8 hx (by kernel_rfl) (fun k hk => by cases hk) (by kernel_rfl) (laid_ruleNil os))) ?_
  intro W base args ds gs before hval hW _ _ _ hL hsh _
  exact ruleNil_contract H enc W base args ds gs before hval hW hL hsh
theorem ruleNil_said : Rows.RuleNilSaid :=
  OpenClaim.holds_of_cond 4 Tryz.f4 rfl rfl rfl rfl rfl rfl rfl ⟨rfl, rfl, rfl, rfl, rfl⟩ rfl rfl rfl rfl rfl (by kernel_rfl) Tryz.func4 (by kernel_rfl)
    (of_decide_eq_true (by kernel_rfl)) (by unfold Func.isWrapper; first | (rw [if_pos (by decide +kernel)]; kernel_rfl) | (rw [if_neg (by decide +kernel)]; exact ⟨rfl, rfl⟩))
    (fun os started H enc _ F => by rw [OpenClaim.pre_eq_preRow]; exact ruleNil_lifted os started H enc F)
theorem ruleNil_plain (f : FuncId) (fn : Func) (hf : Tryz.pinned.checked.prog.funcNamed "bosun/bosunlaw30.RuleNil" = some f) (hfn : Tryz.pinned.checked.prog.funcs[f]? = some fn) :
    false = Tryz.pinned.checked.prog.looks [] ∧ ∀ (j : Nat) t, fn.params[j]? = some t → Tryz.pinned.checked.prog.wantsStandIn t = false := by
  obtain rfl : f = 4 := Option.some.inj ((show Tryz.prog.funcNamed "bosun/bosunlaw30.RuleNil" = some 4 by kernel_rfl).symm.trans hf) |>.symm
  obtain rfl : fn = Tryz.f4 := (Option.some.inj (Tryz.func4.symm.trans hfn)).symm
  refine ⟨by kernel_rfl, fun j t ht => ?_⟩
  rw [Tryz.params4] at ht
  have hm : t = 52 ∨ t = 3 ∨ t = 22 := by simpa using Array.mem_of_getElem? ht
  rcases hm with rfl | rfl | rfl
  · exact (show Tryz.prog.wantsStandIn 52 = false by kernel_rfl)
  · exact (show Tryz.prog.wantsStandIn 3 = false by kernel_rfl)
  · exact (show Tryz.prog.wantsStandIn 22 = false by kernel_rfl)
theorem ruleNil_card : Rows.RuleNilCardSaid :=
  Claim7.holds_tied_plain_at .later [] _ _ _ _ ruleNil_said (fun _ h => by cases h) (by kernel_rfl) (fun _ h => by cases h) ruleNil_row_tie rfl ⟨rfl, rfl⟩ (by kernel_rfl) rfl ruleNil_plain (by kernel_rfl)

#print axioms ruleNil_card
end Go.Proofs.YtdkebebingchpaaGreatDoor
