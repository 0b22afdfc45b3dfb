/- ProgDecodes returns true for every input: the card. -/
import Derived.Test.YtmhlmoojmdfnfaaDoorLaid
import Derived.Test.YtmhlmoojmdfnfaaDoorOpen
import Derived.Test.YtmhlmoojmdfnfaaDoorPgDecodesW
namespace Go.Proofs.YtmhlmoojmdfnfaaDoor
open Go.ChangeShapes Go.WideShapes Go.ChangeAt Go.RowKit

theorem Tryd.cells5 : Tryd.prog.cellsOf 5 = 1 := by kernel_rfl
theorem progDecodes_walk (A : Option Addr) (m c : Nat) (l : List UInt8) (w : World) (hmc : m ≤ c) (hc : c ≤ maxLen) (hr : Reads w 1 A m (l.map B)) (hA : ∀ ad, A = some ad → ad.block < w.heap.size) (hP : HasPow w) :
    Calls Tryd.prog 5 #[.slice A m c] w fun e w' => e = .returned (.bool true) ∧ Kept [] w w' := by
  rcases Nat.lt_or_ge 2000 m with h | h
  · have hr2 : Reads w 1 A 2000 ((l.take 2000).map B) := by
      have := hr.upto (k := 2000) (by omega)
      rw [Nat.mul_one, ← List.map_take] at this
      exact this
    exact progDecodes_in A m 2000 c (l.take 2000) w (.inr ⟨h, rfl⟩) hmc hc hr2 hA hP
  · exact progDecodes_in A m m c l w (.inl ⟨h, rfl⟩) hmc hc hr hA hP
theorem laid_progDecodes (os : Os) : laidMet Tryd.prog Rows.progDecodesRow.laid ((laidWorld os).forCall (fun _ _ => 0) ⟨#[], #[.slice none 0 0], []⟩).memory :=
  laidMet_of_run' 8 (by kernel_rfl) (by kernel_rfl)
set_option maxRecDepth 100000 in
theorem progDecodes_contract (H : Type) (enc : TypeId × Value → H) (W : World) (base : Nat) (args : Array Value) (ds gs : List (DataW H)) (before : List MemPlace)
    (hval : ∀ (j : Nat) t v, Tryd.f5.params[j]? = some t → args[j]? = some v → Value.okWide Tryd.prog W .any base t v)
    (hW : DataW.Whole enc Tryd.prog Tryd.f5.params.toList Rows.progDecodesSpec.vars false W args.toList ds gs before) (hL : laidMetH Tryd.prog Rows.progDecodesRow.laid W) (hsh : W.ShapedOpen Tryd.prog) :
    Calls Tryd.prog 5 args W fun e W' => ∃ v, e = .returned v ∧ Rows.progDecodesSpec.post enc Tryd.prog Tryd.f5 false true false false W args v W' := by
  have hW' := hW
  obtain ⟨p, q, hA0, hV, rfl, hfz, hnd⟩ := hW
  have hA : DataW.TrodAll enc Tryd.prog W 0 (fun _ => true) true Tryd.f5.params.toList args.toList ds p := hA0
  rw [Tryd.params5] at hA hval
  obtain ⟨v0, vs0, d0, ds0, p0, q0, hargs, rfl, rfl, h0, r0⟩ := trodAll_cons hA
  obtain ⟨rfl, rfl, rfl⟩ := trodAll_nil r0
  obtain rfl : args = #[v0] := by cases args; simp_all
  obtain ⟨rfl, rfl⟩ := trodVars_none hV
  have k0 := h0
  have lt0 : ∀ x ∈ p0, x.block < W.heap.size := by obtain ⟨m, hm⟩ := k0; exact DataW.trod_lt m _ _ _ hm
  have hov := hval 0 32 v0 rfl rfl
  obtain ⟨a0, l0, c0, rfl⟩ := okWide_slice Tryd.underlying32 hov
  obtain ⟨A, n, c, bs, hv, hr, hmc, hcm⟩ : ∃ A n c bs, (Value.slice a0 l0 c0) = .slice A n c ∧ Reads W 1 A n (List.map B bs) ∧ n ≤ c ∧ c ≤ maxLen := by
    obtain ⟨fuel, hf⟩ := h0
    exact open_bytes Tryd.underlying32 Tryd.underlying5 Tryd.cells5 hf
  rw [hv] at k0 hW' ⊢ hov
  have hlt : ∀ ad, A = some ad → ad.block < W.heap.size := fun ad e => by subst e; exact slice_lt Tryd.underlying32 hov
  clear hA0
  refine ((fun _ => progDecodes_walk A n c bs W hmc hcm hr hlt (hasPow_of (by kernel_rfl) hL)) (hasMax hsh)).mono fun e W' ⟨he, bel0⟩ => ?_
  have bel := bel0.toBelow
  subst he
  exact ⟨_, rfl, _, _, _, [], _, [], hW', trodAll_mk1 (shut_bool Tryd.underlying4 _), (trodAll_cons_mk (Below.trod Tryd.laidOut (by kernel_rfl) (of_decide_eq_true (by kernel_rfl)) k0 bel lt0) trodAll_mk0), rfl, bel.frame _, fun h => by cases h⟩
theorem progDecodes_reads (os : Os) {H : Type} (enc : TypeId × Value → H) : ∃ places, DataW.whole enc Tryd.prog ((laidWorld os).forCall (fun _ _ => 0) ⟨#[], #[.slice none 0 0], []⟩).memory Tryd.f5.params.toList Rows.progDecodesSpec.vars false (#[.slice none 0 0] : Array Value).toList 8 = some ([.nil], [], places) :=
  ⟨[], by kernel_rfl⟩
set_option maxRecDepth 100000 in
theorem progDecodes_lifted (os : Os) (started : os.Started) (H : Type) (enc : TypeId × Value → H) (F : Stop.Interp) :
    ReturnsInHanded {} Tryd.checked os 5 .any ((OpenSpec.ofChange Rows.progDecodesSpec).preRow enc Tryd.prog Tryd.f5 Rows.progDecodesRow.domain false Rows.progDecodesRow.laid) (((OpenSpec.ofChange Rows.progDecodesSpec).at F).post enc Tryd.prog Tryd.f5 false true false false) := by
  obtain ⟨places, hx⟩ := progDecodes_reads os enc
  refine returnsInHanded_of_row (C := Tryd.checked) (s := OpenSpec.ofChange Rows.progDecodesSpec) Tryd.own started (by kernel_rfl) Tryd.func5
    (witness_row_at (enc := enc) (C := Tryd.checked) false (laidWorld os) #[.slice none 0 0] rfl (by kernel_rfl) (by kernel_rfl) (by kernel_rfl)
      (OpenSpec.preRow_of_cond 8 hx (by kernel_rfl) (fun k hk => by cases hk) (by kernel_rfl) (laid_progDecodes os))) ?_
  intro W base args ds gs before hval hW _ _ _ hL hsh _
  exact progDecodes_contract H enc W base args ds gs before hval hW hL hsh
theorem progDecodes_said : Rows.ProgDecodesSaid :=
  OpenClaim.holds_of_cond 5 Tryd.f5 rfl rfl rfl rfl rfl rfl rfl ⟨rfl, rfl, rfl, rfl, rfl⟩ rfl rfl rfl rfl rfl (by kernel_rfl) Tryd.func5 (by kernel_rfl)
    (of_decide_eq_true (by kernel_rfl)) (by unfold Func.isWrapper; first | (rw [if_pos (by decide +kernel)]; kernel_rfl) | (rw [if_neg (by decide +kernel)]; exact ⟨rfl, rfl⟩))
    (fun os started H enc _ F => by rw [OpenClaim.pre_eq_preRow]; exact progDecodes_lifted os started H enc F)
theorem progDecodes_plain (f : FuncId) (fn : Func) (hf : Tryd.pinned.checked.prog.funcNamed "bosun/bosunlaw08.ProgDecodes" = some f) (hfn : Tryd.pinned.checked.prog.funcs[f]? = some fn) :
    false = Tryd.pinned.checked.prog.looks [] ∧ ∀ (j : Nat) t, fn.params[j]? = some t → Tryd.pinned.checked.prog.wantsStandIn t = false := by
  obtain rfl : f = 5 := Option.some.inj ((show Tryd.prog.funcNamed "bosun/bosunlaw08.ProgDecodes" = some 5 by kernel_rfl).symm.trans hf) |>.symm
  obtain rfl : fn = Tryd.f5 := (Option.some.inj (Tryd.func5.symm.trans hfn)).symm
  refine ⟨by kernel_rfl, fun j t ht => ?_⟩
  rw [Tryd.params5] at ht
  obtain rfl : t = 32 := by simpa using Array.mem_of_getElem? ht
  exact (show Tryd.prog.wantsStandIn 32 = false by kernel_rfl)
theorem progDecodes_card : Rows.ProgDecodesCardSaid :=
  Claim7.holds_tied_plain_at .later [] _ _ _ _ progDecodes_said (fun _ h => by cases h) (by kernel_rfl) (fun _ h => by cases h) progDecodes_row_tie rfl ⟨rfl, rfl⟩ (by kernel_rfl) rfl progDecodes_plain (by kernel_rfl)

#print axioms progDecodes_card
end Go.Proofs.YtmhlmoojmdfnfaaDoor
