/- The laid tables of the rows: a world that holds them; MaxLen's cell; the powers of ten. -/
import Derived.Test.YtmhlmoojmdfnfaaDoorCards
import Derived.Test.YtmhlmoojmdfnfaaDoorTie
import Derived.Test.YtmhlmoojmdfnfaaDoorNumsP
import Derived.WalkKit
import Derived.ProofKit
import Derived.OpenShut
import Derived.ShutString
import Derived.ChangeSame
import Derived.Deep.DeepHandedRow
import Derived.Lib.LaidTab
import Derived.LaidSub
import Derived.MakeChecks
namespace Go.Proofs.YtmhlmoojmdfnfaaDoor
open Go.ChangeShapes Go.WideShapes Go.ChangeAt Go.RowKit

theorem Tryd.own : ownKnob Tryd.prog.godebug = none := by kernel_rfl
theorem Tryd.laidOut : laidOutB Tryd.prog = true := by kernel_rfl
theorem hasMax {W : World} (h : W.ShapedOpen Tryd.prog) : HasMax W := Tryd.laysM146.s1_3 W h

/-- A table's cells. -/
def litV {H : Type} : DataW H → List Value
  | .lit (.int k n) => [.int k n]
  | _ => []
def rowV {H : Type} : DataW H → List Value
  | .agg l => l.flatMap litV
  | d => litV d
def tabV {H : Type} : DataW H → Array Value
  | .agg l => (l.flatMap rowV).toArray
  | _ => #[]
def layAt (cs : Array Value) : Obj → Obj
  | .cells _ t frozen => .cells cs t frozen
  | o => o
noncomputable def laidWorld (os : Os) : World :=
  { World.holding Tryd.prog os ⟨#[], #[], []⟩ with heap := (((((World.holding Tryd.prog os ⟨#[], #[], []⟩).heap.modify 6 (layAt (tabV (Rows.laid_unicode_utf8_acceptRanges (H := Unit))))).modify 5 (layAt (tabV Rows.laid_unicode_utf8_first))).modify 1 (layAt (tabV (Rows.laid_internal_strconv_uint64pow10 (H := Unit))))).modify 3 (layAt (tabV (Rows.laid_math_bits_deBruijn32tab (H := Unit))))).modify 4 (layAt (tabV (Rows.laid_math_bits_deBruijn64tab (H := Unit)))) }

theorem hasPow_of {W : World} {laid : List (String × DataW Unit)} (hl : laid.filter (fun x => x.1 == "internal/strconv.uint64pow10") = [("internal/strconv.uint64pow10", Lib.tabData .u64 Lib.pow10Tab)]) (h : laidMetH Tryd.prog laid W) : HasPow W := by
  have h1 := h.filter (fun x => x.1 == "internal/strconv.uint64pow10")
  rw [hl, MakeChecks.laidMetH_plain _ _ _ (by kernel_rfl)] at h1
  exact Lib.tabIs_of_head (by kernel_rfl : Tryd.prog.globalNamed "internal/strconv.uint64pow10" = some 1) (by kernel_rfl : (Tryd.prog.globals[1]?).map (·.type) = some 185) Tryd.underlying185 Tryd.underlying24 (by kernel_rfl) (by kernel_rfl) h1

end Go.Proofs.YtmhlmoojmdfnfaaDoor
