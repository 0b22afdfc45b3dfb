/- Package audit on a crew that is nil: runs. -/
import Derived.Test.YthahmfeaekddnaaGreatDoorRuVal
namespace Go.Proofs.YthahmfeaekddnaaGreatDoor.Ru
open Go Go.RowKit

noncomputable def auWB : Code := match bodyK 29 with | some b => b | none => .skip
noncomputable def auPB : Code := match bodyK 32 with | some b => b | none => .skip
noncomputable def auCB : Code := match bodyK 33 with | some b => b | none => .skip
noncomputable def auAB : Code := match bodyK 34 with | some b => b | none => .skip
set_option maxRecDepth 1000000
theorem auWB_is : bodyK 29 = some auWB := by kernel_rfl
theorem auPB_is : bodyK 32 = some auPB := by kernel_rfl
theorem auCB_is : bodyK 33 = some auCB := by kernel_rfl
theorem auAB_is : bodyK 34 = some auAB := by kernel_rfl
theorem auW_tmps : (Nat.ble (tmpsK 29) 65536 && Nat.ble 1 (tmpsK 29)) = true := by kernel_rfl
theorem auP_tmps : (Nat.ble (tmpsK 32) 65536 && Nat.ble 2 (tmpsK 32)) = true := by kernel_rfl
theorem auC_tmps : (Nat.ble (tmpsK 33) 65536 && Nat.ble 1 (tmpsK 33)) = true := by kernel_rfl
theorem auA_tmps : (Nat.ble (tmpsK 34) 65536 && Nat.ble 0 (tmpsK 34)) = true := by kernel_rfl
theorem auW_run : valOf (aFin (callK 99 KK 100000) 100000 29 [.code auWB] ⟨envOf 0 [.pointer none] .nil, [], H0⟩) = some (.tuple #[.int .i64 0, .int .i64 0]) := by kernel_rfl
theorem auP_run (x : Int) : valOf (aFin (callK 99 KK 100000) 100000 32 [.code auPB] ⟨envOf 0 [.pointer none, .int .u64 x] .nil, [], H0⟩) = some (.slice none 0 0) := by kernel_rfl
theorem auC_run : valOf (aFin (callK 99 KK 100000) 100000 33 [.code auCB] ⟨envOf 0 [.pointer none] .nil, [], H0⟩) = some (.slice none 0 0) := by kernel_rfl
theorem auWords_nil {w : World} (hT : Tab w) : Calls Tryz.prog 29 #[.pointer none] w fun e w' => e = .returned (.tuple #[.int .i64 0, .int .i64 0]) ∧ Kept [] w w' :=
  (Reach.start (args := [.pointer none]) (args' := #[.pointer none]) auWB_is auW_tmps (.cons (.lit rfl) .nil)).value (callK_ok kok 99 100000) 100000 auW_run (by kernel_rfl) hT
theorem auPlaces_nil (x : Int) {w : World} (hT : Tab w) : Calls Tryz.prog 32 #[.pointer none, .int .u64 x] w fun e w' => e = .returned (.slice none 0 0) ∧ Kept [] w w' :=
  (Reach.start (args := [.pointer none, .int .u64 x]) (args' := #[.pointer none, .int .u64 x]) auPB_is auP_tmps (.cons (.lit rfl) (.cons (.lit rfl) .nil))).value (callK_ok kok 99 100000) 100000 (auP_run x) (by kernel_rfl) hT
theorem auCheck_nil {w : World} (hT : Tab w) : Calls Tryz.prog 33 #[.pointer none] w fun e w' => e = .returned (.slice none 0 0) ∧ Kept [] w w' :=
  (Reach.start (args := [.pointer none]) (args' := #[.pointer none]) auCB_is auC_tmps (.cons (.lit rfl) .nil)).value (callK_ok kok 99 100000) 100000 auC_run (by kernel_rfl) hT
end Go.Proofs.YthahmfeaekddnaaGreatDoor.Ru
