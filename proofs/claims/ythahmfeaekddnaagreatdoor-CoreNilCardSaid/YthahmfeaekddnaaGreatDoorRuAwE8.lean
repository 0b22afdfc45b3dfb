/- A long run in pieces (printed by rupieces.py). -/
import Derived.Test.YthahmfeaekddnaaGreatDoorRuAwED
namespace Go.Proofs.YthahmfeaekddnaaGreatDoor.Ru
open Go Go.RowKit
set_option maxRecDepth 1000000 in
theorem ae_8 : runG 168 (callK 99 KK 100000) 18 ae_t7 ae_s7 [0, 66, 67, 68, 69, 78, 79, 80, 81, 82, 83, 84, 85, 86, 87, 89, 91, 96, 101, 106, 110, 111, 113, 114, 115, 116, 117, 118, 119, 120, 121, 132, 152, 153, 154, 155, 156, 157, 175, 179, 180, 3020, 3023] = some (ae_t8, ae_s8) := by kernel_rfl
end Go.Proofs.YthahmfeaekddnaaGreatDoor.Ru
