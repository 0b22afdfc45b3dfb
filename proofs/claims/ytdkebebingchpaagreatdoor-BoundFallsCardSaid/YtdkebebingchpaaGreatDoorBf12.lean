/- BoundFalls by the runner (printed by bfpieces.py). -/
import Derived.Test.YtdkebebingchpaaGreatDoorBfD2
namespace Go.Proofs.YtdkebebingchpaaGreatDoor.Ru
open Go Go.RowKit
set_option maxRecDepth 1000000 in
theorem bf_p4_5 (x : Int) : runG 42 (callO 11 99 KK 100000) 3 bf_t1 (bf_s4_4 x) [1, 66, 67, 68, 69, 77, 78, 79, 80, 81, 82, 83, 84, 85, 86, 88, 90, 95, 100, 105, 109, 110, 112, 113, 114, 115, 116, 117, 118, 119, 120, 740] = some (bf_t1, bf_s4_5 x) := by kernel_rfl
set_option maxRecDepth 1000000 in
theorem bf_p4_6 (x : Int) : runG 42 (callO 11 99 KK 100000) 3 bf_t1 (bf_s4_5 x) [1, 66, 67, 68, 69, 77, 78, 79, 80, 81, 82, 83, 84, 85, 86, 88, 90, 95, 100, 105, 109, 110, 112, 113, 114, 115, 116, 117, 118, 119, 120, 740] = some (bf_t1, bf_s4_6 x) := by kernel_rfl
set_option maxRecDepth 1000000 in
theorem bf_p4_7 (x : Int) : runG 42 (callO 11 99 KK 100000) 3 bf_t1 (bf_s4_6 x) [1, 66, 67, 68, 69, 77, 78, 79, 80, 81, 82, 83, 84, 85, 86, 88, 90, 95, 100, 105, 109, 110, 112, 113, 114, 115, 116, 117, 118, 119, 120, 740] = some (bf_t1, bf_s4_7 x) := by kernel_rfl
set_option maxRecDepth 1000000 in
theorem bf_p4_8 (x : Int) : runG 42 (callO 11 99 KK 100000) 3 bf_t1 (bf_s4_7 x) [1, 66, 67, 68, 69, 77, 78, 79, 80, 81, 82, 83, 84, 85, 86, 88, 90, 95, 100, 105, 109, 110, 112, 113, 114, 115, 116, 117, 118, 119, 120, 1284] = some (bf_t1, bf_s4_8 x) := by kernel_rfl
end Go.Proofs.YtdkebebingchpaaGreatDoor.Ru
