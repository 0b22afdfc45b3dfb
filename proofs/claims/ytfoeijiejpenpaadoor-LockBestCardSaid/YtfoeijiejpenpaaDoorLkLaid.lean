/- Law 26: a world that holds the laid table. -/
import Derived.Test.YtfoeijiejpenpaaDoorCards
import Derived.Test.YtfoeijiejpenpaaDoorTie
import Derived.WalkKit
import Derived.ProofKit
import Derived.OpenShut
import Derived.ChangeSame
import Derived.Deep.DeepHandedRow
import Derived.Lib.LaidTab
import Derived.LaidSub
import Derived.MakeChecks
namespace Go.Proofs.YtfoeijiejpenpaaDoor
open Go.ChangeShapes Go.WideShapes Go.ChangeAt Go.RowKit

theorem Tryd.own : ownKnob Tryd.prog.godebug = none := by kernel_rfl
theorem Tryd.laidOut : laidOutB Tryd.prog = true := by kernel_rfl

/-- A table's cells. -/
def litV {H : Type} : DataW H → List Value
  | .lit (.int k n) => [.int k n]
  | _ => []
def rowV {H : Type} : DataW H → List Value
  | .agg l => l.flatMap litV
  | d => litV d
def tabV {H : Type} : DataW H → Array Value
  | .agg l => (l.flatMap rowV).toArray
  | _ => #[]
def layAt (cs : Array Value) : Obj → Obj
  | .cells _ t frozen => .cells cs t frozen
  | o => o
noncomputable def laidWorld (os : Os) : World :=
  { World.holding Tryd.prog os ⟨#[], #[], []⟩ with heap := (World.holding Tryd.prog os ⟨#[], #[], []⟩).heap.modify 0 (layAt (tabV (Rows.laid_math_bits_deBruijn64tab (H := Unit)))) }

end Go.Proofs.YtfoeijiejpenpaaDoor
