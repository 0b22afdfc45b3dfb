/- The laid tables of the rows: a world that holds them; MaxLen's cell; the powers of ten. -/
import Derived.Test.YtladfdpcdjjifaaGreatDoorCards
import Derived.Test.YtladfdpcdjjifaaGreatDoorTie
import Derived.Test.YtladfdpcdjjifaaGreatDoorNumsB
import Derived.WalkKit
import Derived.ProofKit
import Derived.OpenShut
import Derived.ShutString
import Derived.ChangeSame
import Derived.Deep.DeepHandedRow
import Derived.Lib.LaidTab
import Derived.LaidSub
import Derived.MakeChecks
namespace Go.Proofs.YtladfdpcdjjifaaGreatDoor
open Go.ChangeShapes Go.WideShapes Go.ChangeAt Go.RowKit

theorem Tryz.own : ownKnob Tryz.prog.godebug = none := by kernel_rfl
theorem Tryz.laidOut : laidOutB Tryz.prog = true := by kernel_rfl
theorem hasMax {W : World} (h : W.ShapedOpen Tryz.prog) : HasMax W := Tryz.laysM146.s1_3 W h

/-- A table's cells. -/
def litV {H : Type} : DataW H → List Value
  | .lit (.int k n) => [.int k n]
  | _ => []
def rowV {H : Type} : DataW H → List Value
  | .agg l => l.flatMap litV
  | d => litV d
def tabV {H : Type} : DataW H → Array Value
  | .agg l => (l.flatMap rowV).toArray
  | _ => #[]
def layAt (cs : Array Value) : Obj → Obj
  | .cells _ t frozen => .cells cs t frozen
  | o => o
noncomputable def laidWorld (os : Os) : World :=
  { World.holding Tryz.prog os ⟨#[], #[], []⟩ with heap := (((((World.holding Tryz.prog os ⟨#[], #[], []⟩).heap.modify 3 (layAt (tabV (Rows.laid_unicode_utf8_acceptRanges (H := Unit))))).modify 2 (layAt (tabV Rows.laid_unicode_utf8_first))).modify 4 (layAt (tabV (Rows.laid_internal_strconv_uint64pow10 (H := Unit))))).modify 5 (layAt (tabV (Rows.laid_math_bits_deBruijn32tab (H := Unit))))).modify 6 (layAt (tabV (Rows.laid_math_bits_deBruijn64tab (H := Unit)))) }

theorem hasPow_of {W : World} {laid : List (String × DataW Unit)} (hl : laid.filter (fun x => x.1 == "internal/strconv.uint64pow10") = [("internal/strconv.uint64pow10", Lib.tabData .u64 Lib.pow10Tab)]) (h : laidMetH Tryz.prog laid W) : HasPow W := by
  have h1 := h.filter (fun x => x.1 == "internal/strconv.uint64pow10")
  rw [hl, MakeChecks.laidMetH_plain _ _ _ (by kernel_rfl)] at h1
  exact Lib.tabIs_of_head (by kernel_rfl : Tryz.prog.globalNamed "internal/strconv.uint64pow10" = some 4) (by kernel_rfl : (Tryz.prog.globals[4]?).map (·.type) = some 133) Tryz.underlying133 Tryz.underlying22 (by kernel_rfl) (by kernel_rfl) h1

end Go.Proofs.YtladfdpcdjjifaaGreatDoor
