/- Law 26: a world that holds the laid table; What a card needs of the runner: the laid table. -/
import Derived.Test.YtdkebebingchpaaGreatDoorCards
import Derived.Test.YtdkebebingchpaaGreatDoorTie
import Derived.WalkKit
import Derived.ProofKit
import Derived.OpenShut
import Derived.ChangeSame
import Derived.Deep.DeepHandedRow
import Derived.Lib.LaidTab
import Derived.LaidSub
import Derived.MakeChecks
import Derived.Test.YtdkebebingchpaaGreatDoorRunG
import Derived.Lib.TrailingZeros
import Derived.Deep.Slices
import Derived.Deep.Fields
import Derived.ShutString
import Derived.ChangeOld
import Derived.Laws.StructEq
import Derived.Lib.SmallJoins

/- Law 26: a world that holds the laid table. -/
namespace Go.Proofs.YtdkebebingchpaaGreatDoor
open Go.ChangeShapes Go.WideShapes Go.ChangeAt Go.RowKit

theorem Tryz.own : ownKnob Tryz.prog.godebug = none := by kernel_rfl
theorem Tryz.laidOut : laidOutB Tryz.prog = true := by kernel_rfl

/-- A table's cells. -/
def litV {H : Type} : DataW H → List Value
  | .lit (.int k n) => [.int k n]
  | _ => []
def rowV {H : Type} : DataW H → List Value
  | .agg l => l.flatMap litV
  | d => litV d
def tabV {H : Type} : DataW H → Array Value
  | .agg l => (l.flatMap rowV).toArray
  | _ => #[]
def layAt (cs : Array Value) : Obj → Obj
  | .cells _ t frozen => .cells cs t frozen
  | o => o
noncomputable def laidWorld (os : Os) : World :=
  { World.holding Tryz.prog os ⟨#[], #[], []⟩ with heap := (World.holding Tryz.prog os ⟨#[], #[], []⟩).heap.modify 1 (layAt (tabV (Rows.laid_math_bits_deBruijn64tab (H := Unit)))) }

end Go.Proofs.YtdkebebingchpaaGreatDoor

/- What a card needs of the runner: the laid table. -/
namespace Go.Proofs.YtdkebebingchpaaGreatDoor
open Go.Joins Go.ChangeShapes Go.WideShapes Go.ChangeAt Go.RowKit Go.Deep

theorem deb_of {W : World} {laid : List (String × DataW Unit)} (hl : laid = [("math/bits.deBruijn64tab", Lib.tabData .u8 (Lib.deBruijn64tab.map fun (x : Nat) => (x : Int)))]) (h : laidMetH Tryz.prog laid W) :
    1 < W.heap.size ∧ ∀ i u, Ru.deB[i]? = some u → W.cell? ⟨1, i, none⟩ = some u := by
  rw [hl, MakeChecks.laidMetH_plain _ _ _ (by kernel_rfl)] at h
  have ht := Lib.tabIs_of_head (by kernel_rfl : Tryz.prog.globalNamed "math/bits.deBruijn64tab" = some 1) (by kernel_rfl : (Tryz.prog.globals[1]?).map (·.type) = some 279) Tryz.underlying279 Tryz.underlying5 (by kernel_rfl) (by kernel_rfl) h
  have hc : ∀ i u, Ru.deB[i]? = some u → W.cell? ⟨1, i, none⟩ = some u := by
    intro j u hu
    have e : Ru.deB = Lib.deBruijn64tab.map fun (x : Nat) => Value.int .u8 (x : Int) := by kernel_rfl
    rw [e, List.getElem?_map] at hu
    obtain ⟨x, hx, rfl⟩ := Option.map_eq_some_iff.1 hu
    have hj : j < Lib.deBruijn64tab.length := (List.getElem?_eq_some_iff.1 hx).1
    have hc := ht.cell (by kernel_rfl : Tryz.prog.globalNamed "math/bits.deBruijn64tab" = some 1) j (by simpa using hj)
    rw [hc, List.getD_eq_getElem?_getD, List.getElem?_map, hx]
    rfl
  refine ⟨?_, hc⟩
  have h0 := hc 0 (.int .u8 0) rfl
  rcases Nat.lt_or_ge 1 W.heap.size with h1 | h1
  · exact h1
  · unfold World.cell? at h0
    rw [Array.getElem?_eq_none h1] at h0
    cases h0
section
variable {H : Type} {enc : TypeId × Value → H} {P : Program} {w : World} {base : Nat} {spare : Nat → Bool} {held : Bool}
/-- A struct of one-cell fields by value. -/
theorem open_fields {r : Reach} {b0 : Nat} {t : TypeId} {fs : Array Field} {v : Value} {d : DataW H} {p : List MemPlace} (hs : P.underlying t = some (.struct fs)) (hone : oneCellFields P fs = true) (hC : P.cellsOf t = fs.size)
    (hv : Value.okWide P w r b0 t v) (h : DataW.Trod enc P w base spare held t v d p) :
    ∃ cs : Array Value, v = .agg cs ∧ cs.size = fs.size ∧ ∃ n, ∀ (j : Nat) (f : Field), fs[j]? = some f → ∃ u y, cs[j]? = some u ∧ DataW.trod enc P w base spare held n f.type [u] = some y := by
  obtain ⟨cs, rfl, hsz⟩ := okWide_struct hs hv
  obtain ⟨fuel, hf⟩ := h
  obtain ⟨xs, n, _, hx, _, hlen, hg⟩ := DataW.trod_struct hs hf
  refine ⟨cs, rfl, hsz.trans hC, n, fun j f hj => ?_⟩
  obtain ⟨ho, hk⟩ := hone_of hone j f hj
  have hjl : j < fs.size := (Array.getElem?_eq_some_iff.1 hj).1
  have hjc : j < cs.size := by rw [hsz, hC]; exact hjl
  have h1 := hg j f hj
  rw [ho, hk] at h1
  have hone' : ((Value.agg cs).cells.toList.drop j).take 1 = [cs[j]] := by
    show (cs.toList.drop j).take 1 = [cs[j]]
    rw [List.drop_eq_getElem_cons (by simpa using hjc)]
    simp
  rw [hone'] at h1
  have hys : xs[j]? = some (xs[j]'(by omega)) := List.getElem?_eq_getElem (by omega)
  exact ⟨cs[j], _, Array.getElem?_eq_getElem hjc, h1.trans hys⟩
theorem open_z {t : TypeId} {k : IntKind} {fuel : Nat} {v : Value} {x : DataW H × List MemPlace} (ht : P.underlying t = some (.int k)) (h : DataW.trod enc P w base spare held fuel t [v] = some x) : ∃ z : Int, v = .int k z := by
  obtain ⟨z, e0, _, _⟩ := DataW.trod_int ht h
  simp at e0
  exact ⟨z, e0⟩
end
end Go.Proofs.YtdkebebingchpaaGreatDoor

