/- A deed among the arguments, opened. -/
import Derived.Test.YtmhlmoojmdfnfaaDoorOpen
import Derived.Test.YtmhlmoojmdfnfaaDoorDeedG
import Derived.Lib.SmallJoins
namespace Go.Proofs.YtmhlmoojmdfnfaaDoor
open Go.Joins Go.ChangeShapes Go.WideShapes Go.ChangeAt Go.RowKit Go.Deep

section
variable {H : Type} {enc : TypeId × Value → H} {P : Program} {w : World} {base : Nat} {spare : Nat → Bool} {held : Bool}
/-- A struct of one-cell fields by value. -/
theorem open_fields {r : Reach} {b0 : Nat} {t : TypeId} {fs : Array Field} {v : Value} {d : DataW H} {p : List MemPlace} (hs : P.underlying t = some (.struct fs)) (hone : oneCellFields P fs = true) (hC : P.cellsOf t = fs.size)
    (hv : Value.okWide P w r b0 t v) (h : DataW.Trod enc P w base spare held t v d p) :
    ∃ cs : Array Value, v = .agg cs ∧ cs.size = fs.size ∧ ∃ n, ∀ (j : Nat) (f : Field), fs[j]? = some f → ∃ u y, cs[j]? = some u ∧ DataW.trod enc P w base spare held n f.type [u] = some y := by
  obtain ⟨cs, rfl, hsz⟩ := okWide_struct hs hv
  obtain ⟨fuel, hf⟩ := h
  obtain ⟨xs, n, _, hx, _, hlen, hg⟩ := DataW.trod_struct hs hf
  refine ⟨cs, rfl, hsz.trans hC, n, fun j f hj => ?_⟩
  obtain ⟨ho, hk⟩ := hone_of hone j f hj
  have hjl : j < fs.size := (Array.getElem?_eq_some_iff.1 hj).1
  have hjc : j < cs.size := by rw [hsz, hC]; exact hjl
  have h1 := hg j f hj
  rw [ho, hk] at h1
  have hone' : ((Value.agg cs).cells.toList.drop j).take 1 = [cs[j]] := by
    show (cs.toList.drop j).take 1 = [cs[j]]
    rw [List.drop_eq_getElem_cons (by simpa using hjc)]
    simp
  rw [hone'] at h1
  have hys : xs[j]? = some (xs[j]'(by omega)) := List.getElem?_eq_getElem (by omega)
  exact ⟨cs[j], _, Array.getElem?_eq_getElem hjc, h1.trans hys⟩
end

section
variable {H : Type} {enc : TypeId × Value → H} {w : World} {base : Nat} {spare : Nat → Bool} {held : Bool}
set_option maxRecDepth 100000 in
theorem open_deed {r : Reach} {b0 : Nat} {v : Value} {d : DataW H} {p : List MemPlace} (hv : Value.okWide Tryd.prog w r b0 41 v) (h : DataW.Trod enc Tryd.prog w base spare held 41 v d p) :
    ∃ (o a b r : Int) (n m : Nat) (l : Bool), v = .agg (dC o a b r n m l) ∧ n < 18446744073709551616 ∧ m < 18446744073709551616 := by
  obtain ⟨⟨cs⟩, rfl, hsz, n, hf⟩ := open_fields Tryd.underlying41 (by kernel_rfl) (by kernel_rfl) hv h
  obtain ⟨v0, y0, c0, r0⟩ := hf 0 _ rfl
  obtain ⟨v1, y1, c1, r1⟩ := hf 1 _ rfl
  obtain ⟨v2, y2, c2, r2⟩ := hf 2 _ rfl
  obtain ⟨v3, y3, c3, r3⟩ := hf 3 _ rfl
  obtain ⟨v4, y4, c4, r4⟩ := hf 4 _ rfl
  obtain ⟨v5, y5, c5, r5⟩ := hf 5 _ rfl
  obtain ⟨v6, y6, c6, r6⟩ := hf 6 _ rfl
  obtain ⟨z0, rfl, w0⟩ := open_i64 Tryd.underlying3 r0
  obtain ⟨z1, rfl, w1⟩ := open_i64 Tryd.underlying3 r1
  obtain ⟨z2, rfl, w2⟩ := open_i64 Tryd.underlying3 r2
  obtain ⟨z3, rfl, w3⟩ := open_i64 Tryd.underlying3 r3
  obtain ⟨z4, rfl, w4⟩ := open_i64 Tryd.underlying24 r4
  obtain ⟨z5, rfl, w5⟩ := open_i64 Tryd.underlying24 r5
  obtain ⟨z6, e6, _⟩ := DataW.trod_bool Tryd.underlying4 r6
  have b4 := bounds_u64 w4
  have b5 := bounds_u64 w5
  refine ⟨z0, z1, z2, z3, z4.toNat, z5.toNat, z6, ?_, by omega, by omega⟩
  match cs, hsz with
  | [a0, a1, a2, a3, a4, a5, a6], _ =>
    simp at c0 c1 c2 c3 c4 c5 c6 e6
    rw [c0, c1, c2, c3, c4, c5, c6, e6]
    simp only [dC]
    rw [show ((z4.toNat : Nat) : Int) = z4 by omega, show ((z5.toNat : Nat) : Int) = z5 by omega]
end

end Go.Proofs.YtmhlmoojmdfnfaaDoor
