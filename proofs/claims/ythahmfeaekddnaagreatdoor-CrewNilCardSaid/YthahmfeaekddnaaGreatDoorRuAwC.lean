/- A long run in pieces (printed by rupieces.py). -/
import Derived.Test.YthahmfeaekddnaaGreatDoorRuAwC0
import Derived.Test.YthahmfeaekddnaaGreatDoorRuAwC1
import Derived.Test.YthahmfeaekddnaaGreatDoorRuAwC2
import Derived.Test.YthahmfeaekddnaaGreatDoorRuAwC3
import Derived.Test.YthahmfeaekddnaaGreatDoorRuAwC4
import Derived.Test.YthahmfeaekddnaaGreatDoorRuAwC5
import Derived.Test.YthahmfeaekddnaaGreatDoorRuAwC6
import Derived.Test.YthahmfeaekddnaaGreatDoorRuAwC7
import Derived.Test.YthahmfeaekddnaaGreatDoorRuAwC8
namespace Go.Proofs.YthahmfeaekddnaaGreatDoor.Ru
open Go Go.RowKit
set_option maxRecDepth 1000000 in
theorem aw_fin : isYes (aFin (callK 99 KK 100000) 100000 28 aw_t8 aw_s8) = true := by kernel_rfl
set_option maxRecDepth 1000000 in
theorem aw_awakes : Awakes 28 :=
  Awakes.of (callK_ok kok 99 100000) (Reach.step (callK_ok kok 99 100000) (Reach.step (callK_ok kok 99 100000) (Reach.step (callK_ok kok 99 100000) (Reach.step (callK_ok kok 99 100000) (Reach.step (callK_ok kok 99 100000) (Reach.step (callK_ok kok 99 100000) (Reach.step (callK_ok kok 99 100000) (Reach.step (callK_ok kok 99 100000) (Reach.step (callK_ok kok 99 100000) (Reach.start (args := []) awB_is aw_tmps .nil) 30 [0, 66, 67, 68, 75, 76, 77, 78, 79, 80, 81, 82, 83, 84, 86, 88, 93, 98, 103, 107, 108, 110, 111, 112, 113, 114, 115, 116, 117, 118, 129, 147, 149, 150, 151, 152, 153, 154, 172, 176, 177, 178, 180] aw_0) 77 [0, 66, 67, 68, 75, 76, 77, 78, 79, 80, 81, 82, 83, 84, 86, 88, 93, 98, 103, 107, 108, 110, 111, 112, 113, 114, 115, 116, 117, 118, 129, 149, 150, 151, 152, 153, 154, 172, 176, 177, 178, 180, 535, 1118, 1121] aw_1) 88 [0, 66, 67, 68, 75, 76, 77, 78, 79, 80, 81, 82, 83, 84, 86, 88, 93, 98, 103, 107, 108, 110, 111, 112, 113, 114, 115, 116, 117, 118, 129, 149, 150, 151, 152, 153, 154, 172, 176, 177, 178, 180, 1131, 1136] aw_2) 44 [0, 66, 67, 68, 75, 76, 77, 78, 79, 80, 81, 82, 83, 84, 86, 88, 93, 98, 103, 107, 108, 110, 111, 112, 113, 114, 115, 116, 117, 118, 129, 149, 150, 151, 152, 153, 154, 172, 176, 177, 178, 180, 1131, 1136, 2103] aw_3) 44 [0, 66, 67, 68, 75, 76, 77, 78, 79, 80, 81, 82, 83, 84, 86, 88, 93, 98, 103, 107, 108, 110, 111, 112, 113, 114, 115, 116, 117, 118, 129, 149, 150, 151, 152, 153, 154, 172, 176, 177, 178, 180, 3050, 3053, 3058] aw_4) 88 [0, 66, 67, 68, 75, 76, 77, 78, 79, 80, 81, 82, 83, 84, 86, 88, 93, 98, 103, 107, 108, 110, 111, 112, 113, 114, 115, 116, 117, 118, 129, 149, 150, 151, 152, 153, 154, 172, 176, 177, 178, 180, 3063, 3069] aw_5) 88 [0, 66, 67, 68, 75, 76, 77, 78, 79, 80, 81, 82, 83, 84, 86, 88, 93, 98, 103, 107, 108, 110, 111, 112, 113, 114, 115, 116, 117, 118, 129, 149, 150, 151, 152, 153, 154, 172, 176, 177, 178, 180, 3063, 3069] aw_6) 88 [0, 66, 67, 68, 75, 76, 77, 78, 79, 80, 81, 82, 83, 84, 86, 88, 93, 98, 103, 107, 108, 110, 111, 112, 113, 114, 115, 116, 117, 118, 129, 149, 150, 151, 152, 153, 154, 172, 176, 177, 178, 180, 3063, 3069] aw_7) 88 [0, 66, 67, 68, 75, 76, 77, 78, 79, 80, 81, 82, 83, 84, 86, 88, 93, 98, 103, 107, 108, 110, 111, 112, 113, 114, 115, 116, 117, 118, 129, 149, 150, 151, 152, 153, 154, 172, 176, 177, 178, 180, 3063, 3069] aw_8) 100000 aw_fin awB_is
end Go.Proofs.YthahmfeaekddnaaGreatDoor.Ru
