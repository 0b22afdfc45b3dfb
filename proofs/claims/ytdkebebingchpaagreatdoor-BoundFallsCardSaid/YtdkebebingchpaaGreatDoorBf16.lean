/- BoundFalls by the runner (printed by bfpieces.py). -/
import Derived.Test.YtdkebebingchpaaGreatDoorBfD2
namespace Go.Proofs.YtdkebebingchpaaGreatDoor.Ru
open Go Go.RowKit
set_option maxRecDepth 1000000 in
theorem bf_e6 (x : Int) : isYes (aFin (callO 11 99 KK 100000) 100000 3 bf_t1 (bf_s6_4 x)) = true := by kernel_rfl
set_option maxRecDepth 1000000 in
theorem bf_p7_1 (x : Int) : runG 42 (callO 11 99 KK 100000) 3 bf_t0 (bf_s7_0 x) [1, 66, 67, 68, 69, 77, 78, 79, 80, 81, 82, 83, 84, 85, 86, 88, 90, 95, 100, 105, 109, 110, 112, 113, 114, 115, 116, 117, 118, 119, 120, 131] = some (bf_t1, bf_s7_1 x) := by kernel_rfl
set_option maxRecDepth 1000000 in
theorem bf_e7 (x : Int) : isYes (aFin (callO 11 99 KK 100000) 100000 3 bf_t1 (bf_s7_1 x)) = true := by kernel_rfl
end Go.Proofs.YtdkebebingchpaaGreatDoor.Ru
