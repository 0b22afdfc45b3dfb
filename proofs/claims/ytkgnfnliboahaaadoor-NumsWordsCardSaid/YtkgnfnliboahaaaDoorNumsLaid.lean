/- The laid tables of law 03's rows: a world that holds them; MaxLen's cell. -/
import Derived.Test.YtkgnfnliboahaaaDoorCards
import Derived.Test.YtkgnfnliboahaaaDoorTie
import Derived.Test.YtkgnfnliboahaaaDoorNumsWords
import Derived.WalkKit
import Derived.ProofKit
import Derived.OpenShut
import Derived.ShutString
import Derived.ChangeSame
import Derived.Deep.DeepHandedRow
import Derived.Lib.LaidTab
namespace Go.Proofs.YtkgnfnliboahaaaDoor
open Go.ChangeShapes Go.WideShapes Go.ChangeAt Go.RowKit

theorem Tryd.own : ownKnob Tryd.prog.godebug = none := by kernel_rfl
theorem Tryd.laidOut : laidOutB Tryd.prog = true := by kernel_rfl
theorem hasMax {W : World} (h : W.ShapedOpen Tryd.prog) : HasMax W := Tryd.laysM146.s1_3 W h

/-- A table's cells. -/
def litV {H : Type} : DataW H → List Value
  | .lit (.int k n) => [.int k n]
  | _ => []
def rowV {H : Type} : DataW H → List Value
  | .agg l => l.flatMap litV
  | d => litV d
def tabV {H : Type} : DataW H → Array Value
  | .agg l => (l.flatMap rowV).toArray
  | _ => #[]
def layAt (cs : Array Value) : Obj → Obj
  | .cells _ t frozen => .cells cs t frozen
  | o => o
noncomputable def laidWorld (os : Os) : World :=
  { World.holding Tryd.prog os ⟨#[], #[], []⟩ with heap := ((World.holding Tryd.prog os ⟨#[], #[], []⟩).heap.modify 3 (layAt (tabV (Rows.laid_unicode_utf8_acceptRanges (H := Unit))))).modify 2 (layAt (tabV Rows.laid_unicode_utf8_first)) }
theorem laid_hexes (os : Os) : laidMet Tryd.prog Rows.numsHexesRow.laid ((laidWorld os).forCall (fun _ _ => 0) ⟨#[], #[.string ⟨#[]⟩], []⟩).memory :=
  laidMet_of_run' 8 (by kernel_rfl) (by kernel_rfl)
theorem laid_words (os : Os) : laidMet Tryd.prog Rows.numsWordsRow.laid ((laidWorld os).forCall (fun _ _ => 0) ⟨#[], #[.string ⟨#[]⟩], []⟩).memory :=
  laidMet_of_run' 8 (by kernel_rfl) (by kernel_rfl)

end Go.Proofs.YtkgnfnliboahaaaDoor
