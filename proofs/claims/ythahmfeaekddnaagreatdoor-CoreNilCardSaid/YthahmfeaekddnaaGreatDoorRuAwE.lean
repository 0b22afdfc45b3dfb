/- A long run in pieces (printed by rupieces.py). -/
import Derived.Test.YthahmfeaekddnaaGreatDoorRuAwE0
import Derived.Test.YthahmfeaekddnaaGreatDoorRuAwE1
import Derived.Test.YthahmfeaekddnaaGreatDoorRuAwE2
import Derived.Test.YthahmfeaekddnaaGreatDoorRuAwE3
import Derived.Test.YthahmfeaekddnaaGreatDoorRuAwE4
import Derived.Test.YthahmfeaekddnaaGreatDoorRuAwE5
import Derived.Test.YthahmfeaekddnaaGreatDoorRuAwE6
import Derived.Test.YthahmfeaekddnaaGreatDoorRuAwE7
import Derived.Test.YthahmfeaekddnaaGreatDoorRuAwE8
namespace Go.Proofs.YthahmfeaekddnaaGreatDoor.Ru
open Go Go.RowKit
set_option maxRecDepth 1000000 in
theorem ae_fin : isYes (aFin (callK 99 KK 100000) 100000 18 ae_t8 ae_s8) = true := by kernel_rfl
set_option maxRecDepth 1000000 in
theorem ae_awakes : Awakes 18 :=
  Awakes.of (callK_ok kok 99 100000) (Reach.step (callK_ok kok 99 100000) (Reach.step (callK_ok kok 99 100000) (Reach.step (callK_ok kok 99 100000) (Reach.step (callK_ok kok 99 100000) (Reach.step (callK_ok kok 99 100000) (Reach.step (callK_ok kok 99 100000) (Reach.step (callK_ok kok 99 100000) (Reach.step (callK_ok kok 99 100000) (Reach.step (callK_ok kok 99 100000) (Reach.start (args := []) aeB_is ae_tmps .nil) 44 [0, 66, 67, 68, 69, 78, 79, 80, 81, 82, 83, 84, 85, 86, 87, 89, 91, 96, 101, 106, 110, 111, 113, 114, 115, 116, 117, 118, 119, 120, 121, 132, 150, 152, 153, 154, 155, 156, 157, 175, 179, 180] ae_0) 147 [0, 66, 67, 68, 69, 78, 79, 80, 81, 82, 83, 84, 85, 86, 87, 89, 91, 96, 101, 106, 110, 111, 113, 114, 115, 116, 117, 118, 119, 120, 121, 132, 152, 153, 154, 155, 156, 157, 175, 179, 180, 527, 1108, 1111] ae_1) 168 [0, 66, 67, 68, 69, 78, 79, 80, 81, 82, 83, 84, 85, 86, 87, 89, 91, 96, 101, 106, 110, 111, 113, 114, 115, 116, 117, 118, 119, 120, 121, 132, 152, 153, 154, 155, 156, 157, 175, 179, 180, 1113, 1116] ae_2) 154 [0, 66, 67, 68, 69, 78, 79, 80, 81, 82, 83, 84, 85, 86, 87, 89, 91, 96, 101, 106, 110, 111, 113, 114, 115, 116, 117, 118, 119, 120, 121, 132, 152, 153, 154, 155, 156, 157, 175, 179, 180, 1113, 1116, 2075] ae_3) 154 [0, 66, 67, 68, 69, 78, 79, 80, 81, 82, 83, 84, 85, 86, 87, 89, 91, 96, 101, 106, 110, 111, 113, 114, 115, 116, 117, 118, 119, 120, 121, 132, 152, 153, 154, 155, 156, 157, 175, 179, 180, 2763, 3020] ae_4) 161 [0, 66, 67, 68, 69, 78, 79, 80, 81, 82, 83, 84, 85, 86, 87, 89, 91, 96, 101, 106, 110, 111, 113, 114, 115, 116, 117, 118, 119, 120, 121, 132, 152, 153, 154, 155, 156, 157, 175, 179, 180, 3020, 3023] ae_5) 168 [0, 66, 67, 68, 69, 78, 79, 80, 81, 82, 83, 84, 85, 86, 87, 89, 91, 96, 101, 106, 110, 111, 113, 114, 115, 116, 117, 118, 119, 120, 121, 132, 152, 153, 154, 155, 156, 157, 175, 179, 180, 3020, 3023] ae_6) 168 [0, 66, 67, 68, 69, 78, 79, 80, 81, 82, 83, 84, 85, 86, 87, 89, 91, 96, 101, 106, 110, 111, 113, 114, 115, 116, 117, 118, 119, 120, 121, 132, 152, 153, 154, 155, 156, 157, 175, 179, 180, 3020, 3023] ae_7) 168 [0, 66, 67, 68, 69, 78, 79, 80, 81, 82, 83, 84, 85, 86, 87, 89, 91, 96, 101, 106, 110, 111, 113, 114, 115, 116, 117, 118, 119, 120, 121, 132, 152, 153, 154, 155, 156, 157, 175, 179, 180, 3020, 3023] ae_8) 100000 ae_fin aeB_is
end Go.Proofs.YthahmfeaekddnaaGreatDoor.Ru
