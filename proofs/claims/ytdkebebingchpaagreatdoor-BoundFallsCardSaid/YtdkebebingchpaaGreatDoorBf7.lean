/- BoundFalls by the runner (printed by bfpieces.py). -/
import Derived.Test.YtdkebebingchpaaGreatDoorBfD2
namespace Go.Proofs.YtdkebebingchpaaGreatDoor.Ru
open Go Go.RowKit
set_option maxRecDepth 1000000 in
theorem bf_p2_6 (x : Int) : runG 42 (callO 11 99 KK 100000) 3 bf_t1 (bf_s2_5 x) [1, 66, 67, 68, 69, 77, 78, 79, 80, 81, 82, 83, 84, 85, 86, 88, 90, 95, 100, 105, 109, 110, 112, 113, 114, 115, 116, 117, 118, 119, 120, 788] = some (bf_t1, bf_s2_6 x) := by kernel_rfl
set_option maxRecDepth 1000000 in
theorem bf_p2_7 (x : Int) : runG 42 (callO 11 99 KK 100000) 3 bf_t1 (bf_s2_6 x) [1, 66, 67, 68, 69, 77, 78, 79, 80, 81, 82, 83, 84, 85, 86, 88, 90, 95, 100, 105, 109, 110, 112, 113, 114, 115, 116, 117, 118, 119, 120, 1166] = some (bf_t1, bf_s2_7 x) := by kernel_rfl
set_option maxRecDepth 1000000 in
theorem bf_p2_8 (x : Int) : runG 42 (callO 11 99 KK 100000) 3 bf_t1 (bf_s2_7 x) [1, 66, 67, 68, 69, 77, 78, 79, 80, 81, 82, 83, 84, 85, 86, 88, 90, 95, 100, 105, 109, 110, 112, 113, 114, 115, 116, 117, 118, 119, 120, 1166] = some (bf_t1, bf_s2_8 x) := by kernel_rfl
set_option maxRecDepth 1000000 in
theorem bf_p2_9 (x : Int) : runG 42 (callO 11 99 KK 100000) 3 bf_t1 (bf_s2_8 x) [1, 66, 67, 68, 69, 77, 78, 79, 80, 81, 82, 83, 84, 85, 86, 88, 90, 95, 100, 105, 109, 110, 112, 113, 114, 115, 116, 117, 118, 119, 120, 1166] = some (bf_t1, bf_s2_9 x) := by kernel_rfl
end Go.Proofs.YtdkebebingchpaaGreatDoor.Ru
