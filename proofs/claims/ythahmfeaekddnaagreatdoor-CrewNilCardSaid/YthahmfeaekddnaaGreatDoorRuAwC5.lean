/- A long run in pieces (printed by rupieces.py). -/
import Derived.Test.YthahmfeaekddnaaGreatDoorRuAwCD
namespace Go.Proofs.YthahmfeaekddnaaGreatDoor.Ru
open Go Go.RowKit
set_option maxRecDepth 1000000 in
theorem aw_5 : runG 88 (callK 99 KK 100000) 28 aw_t4 aw_s4 [0, 66, 67, 68, 75, 76, 77, 78, 79, 80, 81, 82, 83, 84, 86, 88, 93, 98, 103, 107, 108, 110, 111, 112, 113, 114, 115, 116, 117, 118, 129, 149, 150, 151, 152, 153, 154, 172, 176, 177, 178, 180, 3063, 3069] = some (aw_t5, aw_s5) := by kernel_rfl
end Go.Proofs.YthahmfeaekddnaaGreatDoor.Ru
