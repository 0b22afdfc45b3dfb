/- Law 36's example: a run. -/
import Derived.Test.YtdkebebingchpaaGreatDoorRunH
namespace Go.Proofs.YtdkebebingchpaaGreatDoor.Ru
open Go Go.RowKit
set_option maxRecDepth 1000000
noncomputable def bfAB : Code := match bodyK 11 with | some b => b | none => .skip
theorem bfAB_is : bodyK 11 = some bfAB := by kernel_rfl
theorem bfA_tmps : (Nat.ble (tmpsK 11) 65536 && Nat.ble 0 (tmpsK 11)) = true := by kernel_rfl
theorem bfA_fin : isYes (aFin (callK 99 KK 100000) 100000 11 [.code bfAB] ⟨envOf 0 [] .nil, [], H0⟩) = true := by kernel_rfl
theorem bfA_awakes : Awakes 11 := Awakes.of (callK_ok kok 99 100000) (Reach.start (args := []) (args' := #[]) bfAB_is bfA_tmps .nil) 100000 bfA_fin bfAB_is
end Go.Proofs.YtdkebebingchpaaGreatDoor.Ru
