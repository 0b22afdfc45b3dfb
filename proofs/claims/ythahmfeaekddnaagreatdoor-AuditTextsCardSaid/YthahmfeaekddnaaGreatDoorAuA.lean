/- Law 34's example: a run. -/
import Derived.Test.YthahmfeaekddnaaGreatDoorAuN
namespace Go.Proofs.YthahmfeaekddnaaGreatDoor.Ru
open Go Go.RowKit
set_option maxRecDepth 1000000
theorem auA_fin : isYes (aFin (callK 99 KK 100000) 100000 34 [.code auAB] ⟨envOf 0 [] .nil, [], H0⟩) = true := by kernel_rfl
theorem auA_awakes : Awakes 34 :=
  Awakes.of (callK_ok kok 99 100000) (Reach.start (args := []) (args' := #[]) auAB_is auA_tmps .nil) 100000 auA_fin auAB_is
end Go.Proofs.YthahmfeaekddnaaGreatDoor.Ru
