/- Law 34: a world that holds the laid tables. -/
import Derived.Test.YthahmfeaekddnaaGreatDoorRuOpen
import Derived.Test.YthahmfeaekddnaaGreatDoorRuVal
import Derived.Test.YthahmfeaekddnaaGreatDoorAuT
namespace Go.Proofs.YthahmfeaekddnaaGreatDoor
open Go.Joins Go.ChangeShapes Go.WideShapes Go.ChangeAt Go.RowKit Go.Deep

noncomputable def laidWorldA (os : Os) : World :=
  { World.holding Tryz.prog os ⟨#[], #[], []⟩ with heap := (((World.holding Tryz.prog os ⟨#[], #[], []⟩).heap.modify 3 (layAt (tabV (Rows.laid_math_bits_deBruijn32tab (H := Unit))))).modify 0 (layAt (tabV (Rows.laid_math_bits_deBruijn64tab (H := Unit))))).modify 1 (layAt (tabV (Rows.laid_internal_strconv_uint64pow10 (H := Unit)))) }
theorem hasPow_of {W : World} {laid : List (String × DataW Unit)} (hl : laid.filter (fun x => x.1 == "internal/strconv.uint64pow10") = [("internal/strconv.uint64pow10", Lib.tabData .u64 Lib.pow10Tab)]) (h : laidMetH Tryz.prog laid W) : HasPow W := by
  have h1 := h.filter (fun x => x.1 == "internal/strconv.uint64pow10")
  rw [hl, MakeChecks.laidMetH_plain _ _ _ (by kernel_rfl)] at h1
  exact Lib.tabIs_of_head (by kernel_rfl : Tryz.prog.globalNamed "internal/strconv.uint64pow10" = some 1) (by kernel_rfl : (Tryz.prog.globals[1]?).map (·.type) = some 367) Tryz.underlying367 Tryz.underlying22 (by kernel_rfl) (by kernel_rfl) h1
theorem tab_met {W : World} {laid : List (String × DataW Unit)} (hl : laid.filter (fun x => x.1 == "math/bits.deBruijn64tab") = [("math/bits.deBruijn64tab", Lib.tabData .u8 (Lib.deBruijn64tab.map fun (x : Nat) => (x : Int)))]) (h : laidMetH Tryz.prog laid W) : Ru.Tab W :=
  deb_of rfl (by rw [← hl]; exact h.filter (fun x => x.1 == "math/bits.deBruijn64tab"))
end Go.Proofs.YthahmfeaekddnaaGreatDoor
