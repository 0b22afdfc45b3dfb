/- Law 26: a world that holds the laid table. -/
import Derived.Test.YthahmfeaekddnaaGreatDoorCards
import Derived.Test.YthahmfeaekddnaaGreatDoorTie
import Derived.WalkKit
import Derived.ProofKit
import Derived.OpenShut
import Derived.ChangeSame
import Derived.Deep.DeepHandedRow
import Derived.Lib.LaidTab
import Derived.LaidSub
import Derived.MakeChecks
namespace Go.Proofs.YthahmfeaekddnaaGreatDoor
open Go.ChangeShapes Go.WideShapes Go.ChangeAt Go.RowKit

theorem Tryz.own : ownKnob Tryz.prog.godebug = none := by kernel_rfl
theorem Tryz.laidOut : laidOutB Tryz.prog = true := by kernel_rfl

/-- A table's cells. -/
def litV {H : Type} : DataW H → List Value
  | .lit (.int k n) => [.int k n]
  | _ => []
def rowV {H : Type} : DataW H → List Value
  | .agg l => l.flatMap litV
  | d => litV d
def tabV {H : Type} : DataW H → Array Value
  | .agg l => (l.flatMap rowV).toArray
  | _ => #[]
def layAt (cs : Array Value) : Obj → Obj
  | .cells _ t frozen => .cells cs t frozen
  | o => o
noncomputable def laidWorld (os : Os) : World :=
  { World.holding Tryz.prog os ⟨#[], #[], []⟩ with heap := (World.holding Tryz.prog os ⟨#[], #[], []⟩).heap.modify 0 (layAt (tabV (Rows.laid_math_bits_deBruijn64tab (H := Unit)))) }

end Go.Proofs.YthahmfeaekddnaaGreatDoor
