/- CrewNil returns true for every input. -/
import Derived.Test.YthahmfeaekddnaaGreatDoorRuBigCrewNil
import Derived.Test.YthahmfeaekddnaaGreatDoorRuAwC
namespace Go.Proofs.YthahmfeaekddnaaGreatDoor
open Go.Joins Go.ChangeShapes Go.WideShapes Go.ChangeAt Go.RowKit Go.Deep

section
variable {H : Type} {enc : TypeId × Value → H} {w : World} {base : Nat} {spare : Nat → Bool} {held : Bool}
set_option maxRecDepth 100000 in
theorem open_entry {r : Reach} {b0 : Nat} {v : Value} {d : DataW H} {p : List MemPlace} (hv : Value.okWide Tryz.prog w r b0 50 v) (h : DataW.Trod enc Tryz.prog w base spare held 50 v d p) :
    ∃ (x0 : Int) (x1 : Bool) (x2 : Int), v = .agg #[.int .i64 x0, .bool x1, .int .u64 x2] := by
  obtain ⟨⟨cs⟩, rfl, hsz, n, hf⟩ := open_fields Tryz.underlying50 (by kernel_rfl) (by kernel_rfl) hv h
  obtain ⟨v0, y0, c0, r0⟩ := hf 0 _ rfl
  obtain ⟨v1, y1, c1, r1⟩ := hf 1 _ rfl
  obtain ⟨v2, y2, c2, r2⟩ := hf 2 _ rfl
  obtain ⟨z0, rfl⟩ := open_z Tryz.underlying3 r0
  obtain ⟨z1, e1, _⟩ := DataW.trod_bool Tryz.underlying4 r1
  obtain ⟨z2, rfl⟩ := open_z Tryz.underlying22 r2
  refine ⟨z0, z1, z2, ?_⟩
  match cs, hsz with
  | [a0, a1, a2], _ =>
    simp at c0 c1 c2 e1
    rw [c0, c1, c2, e1]
end
namespace Ru
noncomputable def crB : Code := match bodyK 4 with | some b => b | none => .skip
set_option maxRecDepth 1000000 in
theorem crB_is : bodyK 4 = some crB := by kernel_rfl
set_option maxRecDepth 1000000 in
theorem cr_tmps : (Nat.ble (tmpsK 4) 65536 && Nat.ble 2 (tmpsK 4)) = true := by kernel_rfl
set_option maxRecDepth 1000000 in
theorem crewNil_run (x0 : Int) (x1 : Bool) (x2 n : Int) : isYes (aFin (callO 28 100 KK 100000) 100000 4 [.code crB] ⟨envOf 0 [.agg #[.int .i64 x0, .bool x1, .int .u64 x2], .int .i64 n] .nil, [], H0⟩) = true := by kernel_rfl
end Ru
theorem crewNil_walk (x0 : Int) (x1 : Bool) (x2 n : Int) (w : World) (hd : 0 < w.heap.size ∧ ∀ i u, Ru.deB[i]? = some u → w.cell? ⟨0, i, none⟩ = some u) :
    Calls Tryz.prog 4 #[.agg #[.int .i64 x0, .bool x1, .int .u64 x2], .int .i64 n] w fun e w' => e = .returned (.bool true) ∧ Kept [] w w' := by
  have L : Ru.LRel Ru.m0 [Value.int .i64 x0, .bool x1, .int .u64 x2] [Value.int .i64 x0, .bool x1, .int .u64 x2] :=
    .cons (.lit rfl) (.cons (.lit rfl) (.cons (.lit rfl) .nil))
  have hs := Ru.Reach.start (args := [.agg #[.int .i64 x0, .bool x1, .int .u64 x2], .int .i64 n]) (args' := #[.agg #[.int .i64 x0, .bool x1, .int .u64 x2], .int .i64 n]) Ru.crB_is Ru.cr_tmps (.cons (.agg L.1 L.2) (.cons (.lit rfl) .nil))
  exact hs.calls (Ru.callO_ok Ru.aw_awakes 100 100000) 100000 (Ru.crewNil_run x0 x1 x2 n) hd.1 hd.2
theorem laid_crewNil (os : Os) : laidMet Tryz.prog Rows.crewNilRow.laid ((laidWorld os).forCall (fun _ _ => 0) ⟨#[], #[.agg #[.int .i64 0, .bool false, .int .u64 0], .int .i64 0], []⟩).memory :=
  laidMet_of_run' 8 (by kernel_rfl) (by kernel_rfl)
set_option maxRecDepth 100000 in
theorem crewNil_contract (H : Type) (enc : TypeId × Value → H) (W : World) (base : Nat) (args : Array Value) (ds gs : List (DataW H)) (before : List MemPlace)
    (hval : ∀ (j : Nat) t v, Tryz.f4.params[j]? = some t → args[j]? = some v → Value.okWide Tryz.prog W .any base t v)
    (hW : DataW.Whole enc Tryz.prog Tryz.f4.params.toList Rows.crewNilSpec.vars false W args.toList ds gs before) (hL : laidMetH Tryz.prog Rows.crewNilRow.laid W) (hsh : W.ShapedOpen Tryz.prog) :
    Calls Tryz.prog 4 args W fun e W' => ∃ v, e = .returned v ∧ Rows.crewNilSpec.post enc Tryz.prog Tryz.f4 false true false false W args v W' := by
  have hW' := hW
  obtain ⟨p, q, hA0, hV, rfl, hfz, hnd⟩ := hW
  have hA : DataW.TrodAll enc Tryz.prog W 0 (fun _ => true) true Tryz.f4.params.toList args.toList ds p := hA0
  rw [Tryz.params4] at hA hval
  obtain ⟨v0, vs0, d0, ds0, p0, q0, hargs, rfl, rfl, h0, r0⟩ := trodAll_cons hA
  obtain ⟨v1, vs1, d1, ds1, p1, q1, rfl, rfl, rfl, h1, r1⟩ := trodAll_cons r0
  obtain ⟨rfl, rfl, rfl⟩ := trodAll_nil r1
  obtain rfl : args = #[v0, v1] := by cases args; simp_all
  obtain ⟨rfl, rfl⟩ := trodVars_none hV
  have k0 := h0
  have lt0 : ∀ x ∈ p0, x.block < W.heap.size := by obtain ⟨m, hm⟩ := k0; exact DataW.trod_lt m _ _ _ hm
  have k1 := h1
  have lt1 : ∀ x ∈ p1, x.block < W.heap.size := by obtain ⟨m, hm⟩ := k1; exact DataW.trod_lt m _ _ _ hm
  obtain ⟨x0, x1, x2, rfl⟩ := open_entry (hval 0 50 v0 rfl rfl) h0
  obtain ⟨n, rfl, rfl, rfl, _⟩ := open_int Tryz.underlying3 (hval 1 3 v1 rfl rfl) h1
  clear hA0
  refine (crewNil_walk x0 x1 x2 n W (deb_of (by kernel_rfl) hL)).mono fun e W' ⟨he, bel0⟩ => ?_
  have bel := bel0.toBelow
  subst he
  exact ⟨_, rfl, _, _, _, [], _, [], hW', trodAll_mk1 (shut_bool Tryz.underlying4 _), (trodAll_cons_mk (Below.trod Tryz.laidOut (by kernel_rfl) (of_decide_eq_true (by kernel_rfl)) k0 bel lt0) (trodAll_cons_mk (Below.trod Tryz.laidOut (by kernel_rfl) (of_decide_eq_true (by kernel_rfl)) k1 bel lt1) trodAll_mk0)), rfl, bel.frame _, fun h => by cases h⟩
theorem crewNil_reads (os : Os) {H : Type} (enc : TypeId × Value → H) : ∃ places, DataW.whole enc Tryz.prog ((laidWorld os).forCall (fun _ _ => 0) ⟨#[], #[.agg #[.int .i64 0, .bool false, .int .u64 0], .int .i64 0], []⟩).memory Tryz.f4.params.toList Rows.crewNilSpec.vars false (#[.agg #[.int .i64 0, .bool false, .int .u64 0], .int .i64 0] : Array Value).toList 8 = some ([.agg [.lit (.int .i64 0), .lit (.bool false), .lit (.int .u64 0)], .lit (.int .i64 0)], [], places) :=
  ⟨[], by kernel_rfl⟩
set_option maxRecDepth 100000 in
theorem crewNil_lifted (os : Os) (started : os.Started) (H : Type) (enc : TypeId × Value → H) (F : Stop.Interp) :
    ReturnsInHanded {} Tryz.checked os 4 .any ((OpenSpec.ofChange Rows.crewNilSpec).preRow enc Tryz.prog Tryz.f4 Rows.crewNilRow.domain false Rows.crewNilRow.laid) (((OpenSpec.ofChange Rows.crewNilSpec).at F).post enc Tryz.prog Tryz.f4 false true false false) := by
  obtain ⟨places, hx⟩ := crewNil_reads os enc
  refine returnsInHanded_of_row (C := Tryz.checked) (s := OpenSpec.ofChange Rows.crewNilSpec) Tryz.own started (by kernel_rfl) Tryz.func4
    (witness_row_at (enc := enc) (C := Tryz.checked) false (laidWorld os) #[.agg #[.int .i64 0, .bool false, .int .u64 0], .int .i64 0] rfl (by kernel_rfl) (by kernel_rfl) (by kernel_rfl)
      (OpenSpec.preRow_of_cond 8 hx (by kernel_rfl) (fun k hk => by cases hk) (by kernel_rfl) (laid_crewNil os))) ?_
  intro W base args ds gs before hval hW _ _ _ hL hsh _
  exact crewNil_contract H enc W base args ds gs before hval hW hL hsh
theorem crewNil_said : Rows.CrewNilSaid :=
  OpenClaim.holds_of_cond 4 Tryz.f4 rfl rfl rfl rfl rfl rfl rfl ⟨rfl, rfl, rfl, rfl, rfl⟩ rfl rfl rfl rfl rfl crewNil_named Tryz.func4 crewNil_joined
    (of_decide_eq_true (by kernel_rfl)) (by unfold Func.isWrapper; first | (rw [if_pos (by decide +kernel)]; kernel_rfl) | (rw [if_neg (by decide +kernel)]; exact ⟨rfl, rfl⟩))
    (fun os started H enc _ F => by rw [OpenClaim.pre_eq_preRow]; exact crewNil_lifted os started H enc F)
theorem crewNil_plain (f : FuncId) (fn : Func) (hf : Tryz.pinned.checked.prog.funcNamed "bosun/bosunlaw33.CrewNil" = some f) (hfn : Tryz.pinned.checked.prog.funcs[f]? = some fn) :
    false = Tryz.pinned.checked.prog.looks [] ∧ ∀ (j : Nat) t, fn.params[j]? = some t → Tryz.pinned.checked.prog.wantsStandIn t = false := by
  obtain rfl : f = 4 := Option.some.inj ((show Tryz.prog.funcNamed "bosun/bosunlaw33.CrewNil" = some 4 from crewNil_named).symm.trans hf) |>.symm
  obtain rfl : fn = Tryz.f4 := (Option.some.inj (Tryz.func4.symm.trans hfn)).symm
  refine ⟨by kernel_rfl, fun j t ht => ?_⟩
  rw [Tryz.params4] at ht
  have hm : t = 50 ∨ t = 3 := by simpa using Array.mem_of_getElem? ht
  rcases hm with rfl | rfl
  · exact (show Tryz.prog.wantsStandIn 50 = false by kernel_rfl)
  · exact (show Tryz.prog.wantsStandIn 3 = false by kernel_rfl)
theorem crewNil_card : Rows.CrewNilCardSaid :=
  Claim7.holds_tied_plain_at .later [] _ _ _ _ crewNil_said (fun _ h => by cases h) (by kernel_rfl) (fun _ h => by cases h) crewNil_row_tie rfl ⟨rfl, rfl⟩ (by kernel_rfl) rfl crewNil_plain crewNil_goes

#print axioms crewNil_card
end Go.Proofs.YthahmfeaekddnaaGreatDoor
