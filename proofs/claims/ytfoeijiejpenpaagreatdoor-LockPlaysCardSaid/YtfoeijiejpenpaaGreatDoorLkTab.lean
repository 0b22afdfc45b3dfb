/- Law 26: the library's table lies where a row says so. -/
import Derived.Test.YtfoeijiejpenpaaGreatDoorLkLaid
import Derived.Test.YtfoeijiejpenpaaGreatDoorLkE
namespace Go.Proofs.YtfoeijiejpenpaaGreatDoor
open Go.ChangeShapes Go.WideShapes Go.ChangeAt Go.RowKit

theorem hasDb_of {W : World} {laid : List (String × DataW Unit)} (hl : laid = [("math/bits.deBruijn64tab", Lib.tabData .u8 (Lib.deBruijn64tab.map fun (x : Nat) => (x : Int)))]) (h : laidMetH Tryz.prog laid W) : HasDb W := by
  rw [hl, MakeChecks.laidMetH_plain _ _ _ (by kernel_rfl)] at h
  have ht := Lib.tabIs_of_head (by kernel_rfl : Tryz.prog.globalNamed "math/bits.deBruijn64tab" = some 0) (by kernel_rfl : (Tryz.prog.globals[0]?).map (·.type) = some 139) Tryz.underlying139 Tryz.underlying5 (by kernel_rfl) (by kernel_rfl) h
  intro j hj
  have hc := ht.cell (by kernel_rfl : Tryz.prog.globalNamed "math/bits.deBruijn64tab" = some 0) j (by simpa using hj)
  rw [hc, List.getD_eq_getElem?_getD, List.getD_eq_getElem?_getD, List.getElem?_map, List.getElem?_eq_getElem hj]
  rfl

end Go.Proofs.YtfoeijiejpenpaaGreatDoor
