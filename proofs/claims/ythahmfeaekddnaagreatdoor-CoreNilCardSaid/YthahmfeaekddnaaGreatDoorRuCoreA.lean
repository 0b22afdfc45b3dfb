/- CoreNil in pieces (printed by rucore.py). -/
import Derived.Test.YthahmfeaekddnaaGreatDoorRuCoreD
namespace Go.Proofs.YthahmfeaekddnaaGreatDoor.Ru
open Go Go.RowKit
set_option maxRecDepth 1000000 in
theorem cn_begin (x0 x1 x2 : Int) : runG 16 (callK 99 KK 100000) 3 [.code cnB] ⟨envOf 0 [.int .i64 x0, .int .u64 x1, .int .i64 x2] .nil, [], H0⟩ [0, 66, 71, 72, 73, 74, 75, 76, 77, 78, 79, 80, 88, 90, 92, 95, 100, 105, 109, 110, 112, 113, 114, 115, 116, 117, 118, 119, 120, 122, 123, 124, 125, 126, 127, 146, 165, 183] = some (cn_t0, cn_s0 x0 x1 x2) := by kernel_rfl
end Go.Proofs.YthahmfeaekddnaaGreatDoor.Ru
