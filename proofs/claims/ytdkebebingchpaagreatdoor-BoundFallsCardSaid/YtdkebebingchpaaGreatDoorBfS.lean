/- BoundFalls by the runner (printed by bfpieces.py). -/
import Derived.Test.YtdkebebingchpaaGreatDoorBfD2
namespace Go.Proofs.YtdkebebingchpaaGreatDoor.Ru
open Go Go.RowKit
set_option maxRecDepth 1000000 in
theorem bf_b0 : runG 4 (callO 11 99 KK 100000) 3 [.code bfB] ⟨envOf 0 [.int .u8 (.ofNat 0)] .nil, [], H0⟩ [1] = some (bf_t0, bf_s0_0 (.ofNat 0)) := by kernel_rfl
set_option maxRecDepth 1000000 in
theorem bf_b1 : runG 4 (callO 11 99 KK 100000) 3 [.code bfB] ⟨envOf 0 [.int .u8 (.ofNat 1)] .nil, [], H0⟩ [1] = some (bf_t0, bf_s1_0 (.ofNat 1)) := by kernel_rfl
set_option maxRecDepth 1000000 in
theorem bf_b2 : runG 4 (callO 11 99 KK 100000) 3 [.code bfB] ⟨envOf 0 [.int .u8 (.ofNat 2)] .nil, [], H0⟩ [1] = some (bf_t0, bf_s2_0 (.ofNat 2)) := by kernel_rfl
set_option maxRecDepth 1000000 in
theorem bf_b3 : runG 4 (callO 11 99 KK 100000) 3 [.code bfB] ⟨envOf 0 [.int .u8 (.ofNat 3)] .nil, [], H0⟩ [1] = some (bf_t0, bf_s3_0 (.ofNat 3)) := by kernel_rfl
set_option maxRecDepth 1000000 in
theorem bf_b4 : runG 4 (callO 11 99 KK 100000) 3 [.code bfB] ⟨envOf 0 [.int .u8 (.ofNat 4)] .nil, [], H0⟩ [1] = some (bf_t0, bf_s4_0 (.ofNat 4)) := by kernel_rfl
set_option maxRecDepth 1000000 in
theorem bf_b5 : runG 4 (callO 11 99 KK 100000) 3 [.code bfB] ⟨envOf 0 [.int .u8 (.ofNat 5)] .nil, [], H0⟩ [1] = some (bf_t0, bf_s5_0 (.ofNat 5)) := by kernel_rfl
set_option maxRecDepth 1000000 in
theorem bf_b6 : runG 4 (callO 11 99 KK 100000) 3 [.code bfB] ⟨envOf 0 [.int .u8 (.ofNat 6)] .nil, [], H0⟩ [1] = some (bf_t0, bf_s6_0 (.ofNat 6)) := by kernel_rfl
set_option maxRecDepth 1000000 in
theorem bf_b7 : runG 4 (callO 11 99 KK 100000) 3 [.code bfB] ⟨envOf 0 [.int .u8 (.ofNat 7)] .nil, [], H0⟩ [1] = some (bf_t0, bf_s7_0 (.ofNat 7)) := by kernel_rfl
set_option maxRecDepth 1000000 in
theorem bf_b8 : runG 4 (callO 11 99 KK 100000) 3 [.code bfB] ⟨envOf 0 [.int .u8 (.ofNat 8)] .nil, [], H0⟩ [1] = some (bf_t0, bf_s0_0 (.ofNat 8)) := by kernel_rfl
set_option maxRecDepth 1000000 in
theorem bf_b9 : runG 4 (callO 11 99 KK 100000) 3 [.code bfB] ⟨envOf 0 [.int .u8 (.ofNat 9)] .nil, [], H0⟩ [1] = some (bf_t0, bf_s1_0 (.ofNat 9)) := by kernel_rfl
set_option maxRecDepth 1000000 in
theorem bf_b10 : runG 4 (callO 11 99 KK 100000) 3 [.code bfB] ⟨envOf 0 [.int .u8 (.ofNat 10)] .nil, [], H0⟩ [1] = some (bf_t0, bf_s2_0 (.ofNat 10)) := by kernel_rfl
set_option maxRecDepth 1000000 in
theorem bf_b11 : runG 4 (callO 11 99 KK 100000) 3 [.code bfB] ⟨envOf 0 [.int .u8 (.ofNat 11)] .nil, [], H0⟩ [1] = some (bf_t0, bf_s3_0 (.ofNat 11)) := by kernel_rfl
set_option maxRecDepth 1000000 in
theorem bf_b12 : runG 4 (callO 11 99 KK 100000) 3 [.code bfB] ⟨envOf 0 [.int .u8 (.ofNat 12)] .nil, [], H0⟩ [1] = some (bf_t0, bf_s4_0 (.ofNat 12)) := by kernel_rfl
set_option maxRecDepth 1000000 in
theorem bf_b13 : runG 4 (callO 11 99 KK 100000) 3 [.code bfB] ⟨envOf 0 [.int .u8 (.ofNat 13)] .nil, [], H0⟩ [1] = some (bf_t0, bf_s5_0 (.ofNat 13)) := by kernel_rfl
set_option maxRecDepth 1000000 in
theorem bf_b14 : runG 4 (callO 11 99 KK 100000) 3 [.code bfB] ⟨envOf 0 [.int .u8 (.ofNat 14)] .nil, [], H0⟩ [1] = some (bf_t0, bf_s6_0 (.ofNat 14)) := by kernel_rfl
set_option maxRecDepth 1000000 in
theorem bf_b15 : runG 4 (callO 11 99 KK 100000) 3 [.code bfB] ⟨envOf 0 [.int .u8 (.ofNat 15)] .nil, [], H0⟩ [1] = some (bf_t0, bf_s7_0 (.ofNat 15)) := by kernel_rfl
set_option maxRecDepth 1000000 in
theorem bf_b16 : runG 4 (callO 11 99 KK 100000) 3 [.code bfB] ⟨envOf 0 [.int .u8 (.ofNat 16)] .nil, [], H0⟩ [1] = some (bf_t0, bf_s0_0 (.ofNat 16)) := by kernel_rfl
set_option maxRecDepth 1000000 in
theorem bf_b17 : runG 4 (callO 11 99 KK 100000) 3 [.code bfB] ⟨envOf 0 [.int .u8 (.ofNat 17)] .nil, [], H0⟩ [1] = some (bf_t0, bf_s1_0 (.ofNat 17)) := by kernel_rfl
set_option maxRecDepth 1000000 in
theorem bf_b18 : runG 4 (callO 11 99 KK 100000) 3 [.code bfB] ⟨envOf 0 [.int .u8 (.ofNat 18)] .nil, [], H0⟩ [1] = some (bf_t0, bf_s2_0 (.ofNat 18)) := by kernel_rfl
set_option maxRecDepth 1000000 in
theorem bf_b19 : runG 4 (callO 11 99 KK 100000) 3 [.code bfB] ⟨envOf 0 [.int .u8 (.ofNat 19)] .nil, [], H0⟩ [1] = some (bf_t0, bf_s3_0 (.ofNat 19)) := by kernel_rfl
set_option maxRecDepth 1000000 in
theorem bf_b20 : runG 4 (callO 11 99 KK 100000) 3 [.code bfB] ⟨envOf 0 [.int .u8 (.ofNat 20)] .nil, [], H0⟩ [1] = some (bf_t0, bf_s4_0 (.ofNat 20)) := by kernel_rfl
set_option maxRecDepth 1000000 in
theorem bf_b21 : runG 4 (callO 11 99 KK 100000) 3 [.code bfB] ⟨envOf 0 [.int .u8 (.ofNat 21)] .nil, [], H0⟩ [1] = some (bf_t0, bf_s5_0 (.ofNat 21)) := by kernel_rfl
set_option maxRecDepth 1000000 in
theorem bf_b22 : runG 4 (callO 11 99 KK 100000) 3 [.code bfB] ⟨envOf 0 [.int .u8 (.ofNat 22)] .nil, [], H0⟩ [1] = some (bf_t0, bf_s6_0 (.ofNat 22)) := by kernel_rfl
set_option maxRecDepth 1000000 in
theorem bf_b23 : runG 4 (callO 11 99 KK 100000) 3 [.code bfB] ⟨envOf 0 [.int .u8 (.ofNat 23)] .nil, [], H0⟩ [1] = some (bf_t0, bf_s7_0 (.ofNat 23)) := by kernel_rfl
set_option maxRecDepth 1000000 in
theorem bf_b24 : runG 4 (callO 11 99 KK 100000) 3 [.code bfB] ⟨envOf 0 [.int .u8 (.ofNat 24)] .nil, [], H0⟩ [1] = some (bf_t0, bf_s0_0 (.ofNat 24)) := by kernel_rfl
set_option maxRecDepth 1000000 in
theorem bf_b25 : runG 4 (callO 11 99 KK 100000) 3 [.code bfB] ⟨envOf 0 [.int .u8 (.ofNat 25)] .nil, [], H0⟩ [1] = some (bf_t0, bf_s1_0 (.ofNat 25)) := by kernel_rfl
set_option maxRecDepth 1000000 in
theorem bf_b26 : runG 4 (callO 11 99 KK 100000) 3 [.code bfB] ⟨envOf 0 [.int .u8 (.ofNat 26)] .nil, [], H0⟩ [1] = some (bf_t0, bf_s2_0 (.ofNat 26)) := by kernel_rfl
set_option maxRecDepth 1000000 in
theorem bf_b27 : runG 4 (callO 11 99 KK 100000) 3 [.code bfB] ⟨envOf 0 [.int .u8 (.ofNat 27)] .nil, [], H0⟩ [1] = some (bf_t0, bf_s3_0 (.ofNat 27)) := by kernel_rfl
set_option maxRecDepth 1000000 in
theorem bf_b28 : runG 4 (callO 11 99 KK 100000) 3 [.code bfB] ⟨envOf 0 [.int .u8 (.ofNat 28)] .nil, [], H0⟩ [1] = some (bf_t0, bf_s4_0 (.ofNat 28)) := by kernel_rfl
set_option maxRecDepth 1000000 in
theorem bf_b29 : runG 4 (callO 11 99 KK 100000) 3 [.code bfB] ⟨envOf 0 [.int .u8 (.ofNat 29)] .nil, [], H0⟩ [1] = some (bf_t0, bf_s5_0 (.ofNat 29)) := by kernel_rfl
set_option maxRecDepth 1000000 in
theorem bf_b30 : runG 4 (callO 11 99 KK 100000) 3 [.code bfB] ⟨envOf 0 [.int .u8 (.ofNat 30)] .nil, [], H0⟩ [1] = some (bf_t0, bf_s6_0 (.ofNat 30)) := by kernel_rfl
set_option maxRecDepth 1000000 in
theorem bf_b31 : runG 4 (callO 11 99 KK 100000) 3 [.code bfB] ⟨envOf 0 [.int .u8 (.ofNat 31)] .nil, [], H0⟩ [1] = some (bf_t0, bf_s7_0 (.ofNat 31)) := by kernel_rfl
set_option maxRecDepth 1000000 in
theorem bf_b32 : runG 4 (callO 11 99 KK 100000) 3 [.code bfB] ⟨envOf 0 [.int .u8 (.ofNat 32)] .nil, [], H0⟩ [1] = some (bf_t0, bf_s0_0 (.ofNat 32)) := by kernel_rfl
set_option maxRecDepth 1000000 in
theorem bf_b33 : runG 4 (callO 11 99 KK 100000) 3 [.code bfB] ⟨envOf 0 [.int .u8 (.ofNat 33)] .nil, [], H0⟩ [1] = some (bf_t0, bf_s1_0 (.ofNat 33)) := by kernel_rfl
set_option maxRecDepth 1000000 in
theorem bf_b34 : runG 4 (callO 11 99 KK 100000) 3 [.code bfB] ⟨envOf 0 [.int .u8 (.ofNat 34)] .nil, [], H0⟩ [1] = some (bf_t0, bf_s2_0 (.ofNat 34)) := by kernel_rfl
set_option maxRecDepth 1000000 in
theorem bf_b35 : runG 4 (callO 11 99 KK 100000) 3 [.code bfB] ⟨envOf 0 [.int .u8 (.ofNat 35)] .nil, [], H0⟩ [1] = some (bf_t0, bf_s3_0 (.ofNat 35)) := by kernel_rfl
set_option maxRecDepth 1000000 in
theorem bf_b36 : runG 4 (callO 11 99 KK 100000) 3 [.code bfB] ⟨envOf 0 [.int .u8 (.ofNat 36)] .nil, [], H0⟩ [1] = some (bf_t0, bf_s4_0 (.ofNat 36)) := by kernel_rfl
set_option maxRecDepth 1000000 in
theorem bf_b37 : runG 4 (callO 11 99 KK 100000) 3 [.code bfB] ⟨envOf 0 [.int .u8 (.ofNat 37)] .nil, [], H0⟩ [1] = some (bf_t0, bf_s5_0 (.ofNat 37)) := by kernel_rfl
set_option maxRecDepth 1000000 in
theorem bf_b38 : runG 4 (callO 11 99 KK 100000) 3 [.code bfB] ⟨envOf 0 [.int .u8 (.ofNat 38)] .nil, [], H0⟩ [1] = some (bf_t0, bf_s6_0 (.ofNat 38)) := by kernel_rfl
set_option maxRecDepth 1000000 in
theorem bf_b39 : runG 4 (callO 11 99 KK 100000) 3 [.code bfB] ⟨envOf 0 [.int .u8 (.ofNat 39)] .nil, [], H0⟩ [1] = some (bf_t0, bf_s7_0 (.ofNat 39)) := by kernel_rfl
set_option maxRecDepth 1000000 in
theorem bf_b40 : runG 4 (callO 11 99 KK 100000) 3 [.code bfB] ⟨envOf 0 [.int .u8 (.ofNat 40)] .nil, [], H0⟩ [1] = some (bf_t0, bf_s0_0 (.ofNat 40)) := by kernel_rfl
set_option maxRecDepth 1000000 in
theorem bf_b41 : runG 4 (callO 11 99 KK 100000) 3 [.code bfB] ⟨envOf 0 [.int .u8 (.ofNat 41)] .nil, [], H0⟩ [1] = some (bf_t0, bf_s1_0 (.ofNat 41)) := by kernel_rfl
set_option maxRecDepth 1000000 in
theorem bf_b42 : runG 4 (callO 11 99 KK 100000) 3 [.code bfB] ⟨envOf 0 [.int .u8 (.ofNat 42)] .nil, [], H0⟩ [1] = some (bf_t0, bf_s2_0 (.ofNat 42)) := by kernel_rfl
set_option maxRecDepth 1000000 in
theorem bf_b43 : runG 4 (callO 11 99 KK 100000) 3 [.code bfB] ⟨envOf 0 [.int .u8 (.ofNat 43)] .nil, [], H0⟩ [1] = some (bf_t0, bf_s3_0 (.ofNat 43)) := by kernel_rfl
set_option maxRecDepth 1000000 in
theorem bf_b44 : runG 4 (callO 11 99 KK 100000) 3 [.code bfB] ⟨envOf 0 [.int .u8 (.ofNat 44)] .nil, [], H0⟩ [1] = some (bf_t0, bf_s4_0 (.ofNat 44)) := by kernel_rfl
set_option maxRecDepth 1000000 in
theorem bf_b45 : runG 4 (callO 11 99 KK 100000) 3 [.code bfB] ⟨envOf 0 [.int .u8 (.ofNat 45)] .nil, [], H0⟩ [1] = some (bf_t0, bf_s5_0 (.ofNat 45)) := by kernel_rfl
set_option maxRecDepth 1000000 in
theorem bf_b46 : runG 4 (callO 11 99 KK 100000) 3 [.code bfB] ⟨envOf 0 [.int .u8 (.ofNat 46)] .nil, [], H0⟩ [1] = some (bf_t0, bf_s6_0 (.ofNat 46)) := by kernel_rfl
set_option maxRecDepth 1000000 in
theorem bf_b47 : runG 4 (callO 11 99 KK 100000) 3 [.code bfB] ⟨envOf 0 [.int .u8 (.ofNat 47)] .nil, [], H0⟩ [1] = some (bf_t0, bf_s7_0 (.ofNat 47)) := by kernel_rfl
set_option maxRecDepth 1000000 in
theorem bf_b48 : runG 4 (callO 11 99 KK 100000) 3 [.code bfB] ⟨envOf 0 [.int .u8 (.ofNat 48)] .nil, [], H0⟩ [1] = some (bf_t0, bf_s0_0 (.ofNat 48)) := by kernel_rfl
set_option maxRecDepth 1000000 in
theorem bf_b49 : runG 4 (callO 11 99 KK 100000) 3 [.code bfB] ⟨envOf 0 [.int .u8 (.ofNat 49)] .nil, [], H0⟩ [1] = some (bf_t0, bf_s1_0 (.ofNat 49)) := by kernel_rfl
set_option maxRecDepth 1000000 in
theorem bf_b50 : runG 4 (callO 11 99 KK 100000) 3 [.code bfB] ⟨envOf 0 [.int .u8 (.ofNat 50)] .nil, [], H0⟩ [1] = some (bf_t0, bf_s2_0 (.ofNat 50)) := by kernel_rfl
set_option maxRecDepth 1000000 in
theorem bf_b51 : runG 4 (callO 11 99 KK 100000) 3 [.code bfB] ⟨envOf 0 [.int .u8 (.ofNat 51)] .nil, [], H0⟩ [1] = some (bf_t0, bf_s3_0 (.ofNat 51)) := by kernel_rfl
set_option maxRecDepth 1000000 in
theorem bf_b52 : runG 4 (callO 11 99 KK 100000) 3 [.code bfB] ⟨envOf 0 [.int .u8 (.ofNat 52)] .nil, [], H0⟩ [1] = some (bf_t0, bf_s4_0 (.ofNat 52)) := by kernel_rfl
set_option maxRecDepth 1000000 in
theorem bf_b53 : runG 4 (callO 11 99 KK 100000) 3 [.code bfB] ⟨envOf 0 [.int .u8 (.ofNat 53)] .nil, [], H0⟩ [1] = some (bf_t0, bf_s5_0 (.ofNat 53)) := by kernel_rfl
set_option maxRecDepth 1000000 in
theorem bf_b54 : runG 4 (callO 11 99 KK 100000) 3 [.code bfB] ⟨envOf 0 [.int .u8 (.ofNat 54)] .nil, [], H0⟩ [1] = some (bf_t0, bf_s6_0 (.ofNat 54)) := by kernel_rfl
set_option maxRecDepth 1000000 in
theorem bf_b55 : runG 4 (callO 11 99 KK 100000) 3 [.code bfB] ⟨envOf 0 [.int .u8 (.ofNat 55)] .nil, [], H0⟩ [1] = some (bf_t0, bf_s7_0 (.ofNat 55)) := by kernel_rfl
set_option maxRecDepth 1000000 in
theorem bf_b56 : runG 4 (callO 11 99 KK 100000) 3 [.code bfB] ⟨envOf 0 [.int .u8 (.ofNat 56)] .nil, [], H0⟩ [1] = some (bf_t0, bf_s0_0 (.ofNat 56)) := by kernel_rfl
set_option maxRecDepth 1000000 in
theorem bf_b57 : runG 4 (callO 11 99 KK 100000) 3 [.code bfB] ⟨envOf 0 [.int .u8 (.ofNat 57)] .nil, [], H0⟩ [1] = some (bf_t0, bf_s1_0 (.ofNat 57)) := by kernel_rfl
set_option maxRecDepth 1000000 in
theorem bf_b58 : runG 4 (callO 11 99 KK 100000) 3 [.code bfB] ⟨envOf 0 [.int .u8 (.ofNat 58)] .nil, [], H0⟩ [1] = some (bf_t0, bf_s2_0 (.ofNat 58)) := by kernel_rfl
set_option maxRecDepth 1000000 in
theorem bf_b59 : runG 4 (callO 11 99 KK 100000) 3 [.code bfB] ⟨envOf 0 [.int .u8 (.ofNat 59)] .nil, [], H0⟩ [1] = some (bf_t0, bf_s3_0 (.ofNat 59)) := by kernel_rfl
set_option maxRecDepth 1000000 in
theorem bf_b60 : runG 4 (callO 11 99 KK 100000) 3 [.code bfB] ⟨envOf 0 [.int .u8 (.ofNat 60)] .nil, [], H0⟩ [1] = some (bf_t0, bf_s4_0 (.ofNat 60)) := by kernel_rfl
set_option maxRecDepth 1000000 in
theorem bf_b61 : runG 4 (callO 11 99 KK 100000) 3 [.code bfB] ⟨envOf 0 [.int .u8 (.ofNat 61)] .nil, [], H0⟩ [1] = some (bf_t0, bf_s5_0 (.ofNat 61)) := by kernel_rfl
set_option maxRecDepth 1000000 in
theorem bf_b62 : runG 4 (callO 11 99 KK 100000) 3 [.code bfB] ⟨envOf 0 [.int .u8 (.ofNat 62)] .nil, [], H0⟩ [1] = some (bf_t0, bf_s6_0 (.ofNat 62)) := by kernel_rfl
set_option maxRecDepth 1000000 in
theorem bf_b63 : runG 4 (callO 11 99 KK 100000) 3 [.code bfB] ⟨envOf 0 [.int .u8 (.ofNat 63)] .nil, [], H0⟩ [1] = some (bf_t0, bf_s7_0 (.ofNat 63)) := by kernel_rfl
set_option maxRecDepth 1000000 in
theorem bf_b64 : runG 4 (callO 11 99 KK 100000) 3 [.code bfB] ⟨envOf 0 [.int .u8 (.ofNat 64)] .nil, [], H0⟩ [1] = some (bf_t0, bf_s0_0 (.ofNat 64)) := by kernel_rfl
set_option maxRecDepth 1000000 in
theorem bf_b65 : runG 4 (callO 11 99 KK 100000) 3 [.code bfB] ⟨envOf 0 [.int .u8 (.ofNat 65)] .nil, [], H0⟩ [1] = some (bf_t0, bf_s1_0 (.ofNat 65)) := by kernel_rfl
set_option maxRecDepth 1000000 in
theorem bf_b66 : runG 4 (callO 11 99 KK 100000) 3 [.code bfB] ⟨envOf 0 [.int .u8 (.ofNat 66)] .nil, [], H0⟩ [1] = some (bf_t0, bf_s2_0 (.ofNat 66)) := by kernel_rfl
set_option maxRecDepth 1000000 in
theorem bf_b67 : runG 4 (callO 11 99 KK 100000) 3 [.code bfB] ⟨envOf 0 [.int .u8 (.ofNat 67)] .nil, [], H0⟩ [1] = some (bf_t0, bf_s3_0 (.ofNat 67)) := by kernel_rfl
set_option maxRecDepth 1000000 in
theorem bf_b68 : runG 4 (callO 11 99 KK 100000) 3 [.code bfB] ⟨envOf 0 [.int .u8 (.ofNat 68)] .nil, [], H0⟩ [1] = some (bf_t0, bf_s4_0 (.ofNat 68)) := by kernel_rfl
set_option maxRecDepth 1000000 in
theorem bf_b69 : runG 4 (callO 11 99 KK 100000) 3 [.code bfB] ⟨envOf 0 [.int .u8 (.ofNat 69)] .nil, [], H0⟩ [1] = some (bf_t0, bf_s5_0 (.ofNat 69)) := by kernel_rfl
set_option maxRecDepth 1000000 in
theorem bf_b70 : runG 4 (callO 11 99 KK 100000) 3 [.code bfB] ⟨envOf 0 [.int .u8 (.ofNat 70)] .nil, [], H0⟩ [1] = some (bf_t0, bf_s6_0 (.ofNat 70)) := by kernel_rfl
set_option maxRecDepth 1000000 in
theorem bf_b71 : runG 4 (callO 11 99 KK 100000) 3 [.code bfB] ⟨envOf 0 [.int .u8 (.ofNat 71)] .nil, [], H0⟩ [1] = some (bf_t0, bf_s7_0 (.ofNat 71)) := by kernel_rfl
set_option maxRecDepth 1000000 in
theorem bf_b72 : runG 4 (callO 11 99 KK 100000) 3 [.code bfB] ⟨envOf 0 [.int .u8 (.ofNat 72)] .nil, [], H0⟩ [1] = some (bf_t0, bf_s0_0 (.ofNat 72)) := by kernel_rfl
set_option maxRecDepth 1000000 in
theorem bf_b73 : runG 4 (callO 11 99 KK 100000) 3 [.code bfB] ⟨envOf 0 [.int .u8 (.ofNat 73)] .nil, [], H0⟩ [1] = some (bf_t0, bf_s1_0 (.ofNat 73)) := by kernel_rfl
set_option maxRecDepth 1000000 in
theorem bf_b74 : runG 4 (callO 11 99 KK 100000) 3 [.code bfB] ⟨envOf 0 [.int .u8 (.ofNat 74)] .nil, [], H0⟩ [1] = some (bf_t0, bf_s2_0 (.ofNat 74)) := by kernel_rfl
set_option maxRecDepth 1000000 in
theorem bf_b75 : runG 4 (callO 11 99 KK 100000) 3 [.code bfB] ⟨envOf 0 [.int .u8 (.ofNat 75)] .nil, [], H0⟩ [1] = some (bf_t0, bf_s3_0 (.ofNat 75)) := by kernel_rfl
set_option maxRecDepth 1000000 in
theorem bf_b76 : runG 4 (callO 11 99 KK 100000) 3 [.code bfB] ⟨envOf 0 [.int .u8 (.ofNat 76)] .nil, [], H0⟩ [1] = some (bf_t0, bf_s4_0 (.ofNat 76)) := by kernel_rfl
set_option maxRecDepth 1000000 in
theorem bf_b77 : runG 4 (callO 11 99 KK 100000) 3 [.code bfB] ⟨envOf 0 [.int .u8 (.ofNat 77)] .nil, [], H0⟩ [1] = some (bf_t0, bf_s5_0 (.ofNat 77)) := by kernel_rfl
set_option maxRecDepth 1000000 in
theorem bf_b78 : runG 4 (callO 11 99 KK 100000) 3 [.code bfB] ⟨envOf 0 [.int .u8 (.ofNat 78)] .nil, [], H0⟩ [1] = some (bf_t0, bf_s6_0 (.ofNat 78)) := by kernel_rfl
set_option maxRecDepth 1000000 in
theorem bf_b79 : runG 4 (callO 11 99 KK 100000) 3 [.code bfB] ⟨envOf 0 [.int .u8 (.ofNat 79)] .nil, [], H0⟩ [1] = some (bf_t0, bf_s7_0 (.ofNat 79)) := by kernel_rfl
set_option maxRecDepth 1000000 in
theorem bf_b80 : runG 4 (callO 11 99 KK 100000) 3 [.code bfB] ⟨envOf 0 [.int .u8 (.ofNat 80)] .nil, [], H0⟩ [1] = some (bf_t0, bf_s0_0 (.ofNat 80)) := by kernel_rfl
set_option maxRecDepth 1000000 in
theorem bf_b81 : runG 4 (callO 11 99 KK 100000) 3 [.code bfB] ⟨envOf 0 [.int .u8 (.ofNat 81)] .nil, [], H0⟩ [1] = some (bf_t0, bf_s1_0 (.ofNat 81)) := by kernel_rfl
set_option maxRecDepth 1000000 in
theorem bf_b82 : runG 4 (callO 11 99 KK 100000) 3 [.code bfB] ⟨envOf 0 [.int .u8 (.ofNat 82)] .nil, [], H0⟩ [1] = some (bf_t0, bf_s2_0 (.ofNat 82)) := by kernel_rfl
set_option maxRecDepth 1000000 in
theorem bf_b83 : runG 4 (callO 11 99 KK 100000) 3 [.code bfB] ⟨envOf 0 [.int .u8 (.ofNat 83)] .nil, [], H0⟩ [1] = some (bf_t0, bf_s3_0 (.ofNat 83)) := by kernel_rfl
set_option maxRecDepth 1000000 in
theorem bf_b84 : runG 4 (callO 11 99 KK 100000) 3 [.code bfB] ⟨envOf 0 [.int .u8 (.ofNat 84)] .nil, [], H0⟩ [1] = some (bf_t0, bf_s4_0 (.ofNat 84)) := by kernel_rfl
set_option maxRecDepth 1000000 in
theorem bf_b85 : runG 4 (callO 11 99 KK 100000) 3 [.code bfB] ⟨envOf 0 [.int .u8 (.ofNat 85)] .nil, [], H0⟩ [1] = some (bf_t0, bf_s5_0 (.ofNat 85)) := by kernel_rfl
set_option maxRecDepth 1000000 in
theorem bf_b86 : runG 4 (callO 11 99 KK 100000) 3 [.code bfB] ⟨envOf 0 [.int .u8 (.ofNat 86)] .nil, [], H0⟩ [1] = some (bf_t0, bf_s6_0 (.ofNat 86)) := by kernel_rfl
set_option maxRecDepth 1000000 in
theorem bf_b87 : runG 4 (callO 11 99 KK 100000) 3 [.code bfB] ⟨envOf 0 [.int .u8 (.ofNat 87)] .nil, [], H0⟩ [1] = some (bf_t0, bf_s7_0 (.ofNat 87)) := by kernel_rfl
set_option maxRecDepth 1000000 in
theorem bf_b88 : runG 4 (callO 11 99 KK 100000) 3 [.code bfB] ⟨envOf 0 [.int .u8 (.ofNat 88)] .nil, [], H0⟩ [1] = some (bf_t0, bf_s0_0 (.ofNat 88)) := by kernel_rfl
set_option maxRecDepth 1000000 in
theorem bf_b89 : runG 4 (callO 11 99 KK 100000) 3 [.code bfB] ⟨envOf 0 [.int .u8 (.ofNat 89)] .nil, [], H0⟩ [1] = some (bf_t0, bf_s1_0 (.ofNat 89)) := by kernel_rfl
set_option maxRecDepth 1000000 in
theorem bf_b90 : runG 4 (callO 11 99 KK 100000) 3 [.code bfB] ⟨envOf 0 [.int .u8 (.ofNat 90)] .nil, [], H0⟩ [1] = some (bf_t0, bf_s2_0 (.ofNat 90)) := by kernel_rfl
set_option maxRecDepth 1000000 in
theorem bf_b91 : runG 4 (callO 11 99 KK 100000) 3 [.code bfB] ⟨envOf 0 [.int .u8 (.ofNat 91)] .nil, [], H0⟩ [1] = some (bf_t0, bf_s3_0 (.ofNat 91)) := by kernel_rfl
set_option maxRecDepth 1000000 in
theorem bf_b92 : runG 4 (callO 11 99 KK 100000) 3 [.code bfB] ⟨envOf 0 [.int .u8 (.ofNat 92)] .nil, [], H0⟩ [1] = some (bf_t0, bf_s4_0 (.ofNat 92)) := by kernel_rfl
set_option maxRecDepth 1000000 in
theorem bf_b93 : runG 4 (callO 11 99 KK 100000) 3 [.code bfB] ⟨envOf 0 [.int .u8 (.ofNat 93)] .nil, [], H0⟩ [1] = some (bf_t0, bf_s5_0 (.ofNat 93)) := by kernel_rfl
set_option maxRecDepth 1000000 in
theorem bf_b94 : runG 4 (callO 11 99 KK 100000) 3 [.code bfB] ⟨envOf 0 [.int .u8 (.ofNat 94)] .nil, [], H0⟩ [1] = some (bf_t0, bf_s6_0 (.ofNat 94)) := by kernel_rfl
set_option maxRecDepth 1000000 in
theorem bf_b95 : runG 4 (callO 11 99 KK 100000) 3 [.code bfB] ⟨envOf 0 [.int .u8 (.ofNat 95)] .nil, [], H0⟩ [1] = some (bf_t0, bf_s7_0 (.ofNat 95)) := by kernel_rfl
set_option maxRecDepth 1000000 in
theorem bf_b96 : runG 4 (callO 11 99 KK 100000) 3 [.code bfB] ⟨envOf 0 [.int .u8 (.ofNat 96)] .nil, [], H0⟩ [1] = some (bf_t0, bf_s0_0 (.ofNat 96)) := by kernel_rfl
set_option maxRecDepth 1000000 in
theorem bf_b97 : runG 4 (callO 11 99 KK 100000) 3 [.code bfB] ⟨envOf 0 [.int .u8 (.ofNat 97)] .nil, [], H0⟩ [1] = some (bf_t0, bf_s1_0 (.ofNat 97)) := by kernel_rfl
set_option maxRecDepth 1000000 in
theorem bf_b98 : runG 4 (callO 11 99 KK 100000) 3 [.code bfB] ⟨envOf 0 [.int .u8 (.ofNat 98)] .nil, [], H0⟩ [1] = some (bf_t0, bf_s2_0 (.ofNat 98)) := by kernel_rfl
set_option maxRecDepth 1000000 in
theorem bf_b99 : runG 4 (callO 11 99 KK 100000) 3 [.code bfB] ⟨envOf 0 [.int .u8 (.ofNat 99)] .nil, [], H0⟩ [1] = some (bf_t0, bf_s3_0 (.ofNat 99)) := by kernel_rfl
set_option maxRecDepth 1000000 in
theorem bf_b100 : runG 4 (callO 11 99 KK 100000) 3 [.code bfB] ⟨envOf 0 [.int .u8 (.ofNat 100)] .nil, [], H0⟩ [1] = some (bf_t0, bf_s4_0 (.ofNat 100)) := by kernel_rfl
set_option maxRecDepth 1000000 in
theorem bf_b101 : runG 4 (callO 11 99 KK 100000) 3 [.code bfB] ⟨envOf 0 [.int .u8 (.ofNat 101)] .nil, [], H0⟩ [1] = some (bf_t0, bf_s5_0 (.ofNat 101)) := by kernel_rfl
set_option maxRecDepth 1000000 in
theorem bf_b102 : runG 4 (callO 11 99 KK 100000) 3 [.code bfB] ⟨envOf 0 [.int .u8 (.ofNat 102)] .nil, [], H0⟩ [1] = some (bf_t0, bf_s6_0 (.ofNat 102)) := by kernel_rfl
set_option maxRecDepth 1000000 in
theorem bf_b103 : runG 4 (callO 11 99 KK 100000) 3 [.code bfB] ⟨envOf 0 [.int .u8 (.ofNat 103)] .nil, [], H0⟩ [1] = some (bf_t0, bf_s7_0 (.ofNat 103)) := by kernel_rfl
set_option maxRecDepth 1000000 in
theorem bf_b104 : runG 4 (callO 11 99 KK 100000) 3 [.code bfB] ⟨envOf 0 [.int .u8 (.ofNat 104)] .nil, [], H0⟩ [1] = some (bf_t0, bf_s0_0 (.ofNat 104)) := by kernel_rfl
set_option maxRecDepth 1000000 in
theorem bf_b105 : runG 4 (callO 11 99 KK 100000) 3 [.code bfB] ⟨envOf 0 [.int .u8 (.ofNat 105)] .nil, [], H0⟩ [1] = some (bf_t0, bf_s1_0 (.ofNat 105)) := by kernel_rfl
set_option maxRecDepth 1000000 in
theorem bf_b106 : runG 4 (callO 11 99 KK 100000) 3 [.code bfB] ⟨envOf 0 [.int .u8 (.ofNat 106)] .nil, [], H0⟩ [1] = some (bf_t0, bf_s2_0 (.ofNat 106)) := by kernel_rfl
set_option maxRecDepth 1000000 in
theorem bf_b107 : runG 4 (callO 11 99 KK 100000) 3 [.code bfB] ⟨envOf 0 [.int .u8 (.ofNat 107)] .nil, [], H0⟩ [1] = some (bf_t0, bf_s3_0 (.ofNat 107)) := by kernel_rfl
set_option maxRecDepth 1000000 in
theorem bf_b108 : runG 4 (callO 11 99 KK 100000) 3 [.code bfB] ⟨envOf 0 [.int .u8 (.ofNat 108)] .nil, [], H0⟩ [1] = some (bf_t0, bf_s4_0 (.ofNat 108)) := by kernel_rfl
set_option maxRecDepth 1000000 in
theorem bf_b109 : runG 4 (callO 11 99 KK 100000) 3 [.code bfB] ⟨envOf 0 [.int .u8 (.ofNat 109)] .nil, [], H0⟩ [1] = some (bf_t0, bf_s5_0 (.ofNat 109)) := by kernel_rfl
set_option maxRecDepth 1000000 in
theorem bf_b110 : runG 4 (callO 11 99 KK 100000) 3 [.code bfB] ⟨envOf 0 [.int .u8 (.ofNat 110)] .nil, [], H0⟩ [1] = some (bf_t0, bf_s6_0 (.ofNat 110)) := by kernel_rfl
set_option maxRecDepth 1000000 in
theorem bf_b111 : runG 4 (callO 11 99 KK 100000) 3 [.code bfB] ⟨envOf 0 [.int .u8 (.ofNat 111)] .nil, [], H0⟩ [1] = some (bf_t0, bf_s7_0 (.ofNat 111)) := by kernel_rfl
set_option maxRecDepth 1000000 in
theorem bf_b112 : runG 4 (callO 11 99 KK 100000) 3 [.code bfB] ⟨envOf 0 [.int .u8 (.ofNat 112)] .nil, [], H0⟩ [1] = some (bf_t0, bf_s0_0 (.ofNat 112)) := by kernel_rfl
set_option maxRecDepth 1000000 in
theorem bf_b113 : runG 4 (callO 11 99 KK 100000) 3 [.code bfB] ⟨envOf 0 [.int .u8 (.ofNat 113)] .nil, [], H0⟩ [1] = some (bf_t0, bf_s1_0 (.ofNat 113)) := by kernel_rfl
set_option maxRecDepth 1000000 in
theorem bf_b114 : runG 4 (callO 11 99 KK 100000) 3 [.code bfB] ⟨envOf 0 [.int .u8 (.ofNat 114)] .nil, [], H0⟩ [1] = some (bf_t0, bf_s2_0 (.ofNat 114)) := by kernel_rfl
set_option maxRecDepth 1000000 in
theorem bf_b115 : runG 4 (callO 11 99 KK 100000) 3 [.code bfB] ⟨envOf 0 [.int .u8 (.ofNat 115)] .nil, [], H0⟩ [1] = some (bf_t0, bf_s3_0 (.ofNat 115)) := by kernel_rfl
set_option maxRecDepth 1000000 in
theorem bf_b116 : runG 4 (callO 11 99 KK 100000) 3 [.code bfB] ⟨envOf 0 [.int .u8 (.ofNat 116)] .nil, [], H0⟩ [1] = some (bf_t0, bf_s4_0 (.ofNat 116)) := by kernel_rfl
set_option maxRecDepth 1000000 in
theorem bf_b117 : runG 4 (callO 11 99 KK 100000) 3 [.code bfB] ⟨envOf 0 [.int .u8 (.ofNat 117)] .nil, [], H0⟩ [1] = some (bf_t0, bf_s5_0 (.ofNat 117)) := by kernel_rfl
set_option maxRecDepth 1000000 in
theorem bf_b118 : runG 4 (callO 11 99 KK 100000) 3 [.code bfB] ⟨envOf 0 [.int .u8 (.ofNat 118)] .nil, [], H0⟩ [1] = some (bf_t0, bf_s6_0 (.ofNat 118)) := by kernel_rfl
set_option maxRecDepth 1000000 in
theorem bf_b119 : runG 4 (callO 11 99 KK 100000) 3 [.code bfB] ⟨envOf 0 [.int .u8 (.ofNat 119)] .nil, [], H0⟩ [1] = some (bf_t0, bf_s7_0 (.ofNat 119)) := by kernel_rfl
set_option maxRecDepth 1000000 in
theorem bf_b120 : runG 4 (callO 11 99 KK 100000) 3 [.code bfB] ⟨envOf 0 [.int .u8 (.ofNat 120)] .nil, [], H0⟩ [1] = some (bf_t0, bf_s0_0 (.ofNat 120)) := by kernel_rfl
set_option maxRecDepth 1000000 in
theorem bf_b121 : runG 4 (callO 11 99 KK 100000) 3 [.code bfB] ⟨envOf 0 [.int .u8 (.ofNat 121)] .nil, [], H0⟩ [1] = some (bf_t0, bf_s1_0 (.ofNat 121)) := by kernel_rfl
set_option maxRecDepth 1000000 in
theorem bf_b122 : runG 4 (callO 11 99 KK 100000) 3 [.code bfB] ⟨envOf 0 [.int .u8 (.ofNat 122)] .nil, [], H0⟩ [1] = some (bf_t0, bf_s2_0 (.ofNat 122)) := by kernel_rfl
set_option maxRecDepth 1000000 in
theorem bf_b123 : runG 4 (callO 11 99 KK 100000) 3 [.code bfB] ⟨envOf 0 [.int .u8 (.ofNat 123)] .nil, [], H0⟩ [1] = some (bf_t0, bf_s3_0 (.ofNat 123)) := by kernel_rfl
set_option maxRecDepth 1000000 in
theorem bf_b124 : runG 4 (callO 11 99 KK 100000) 3 [.code bfB] ⟨envOf 0 [.int .u8 (.ofNat 124)] .nil, [], H0⟩ [1] = some (bf_t0, bf_s4_0 (.ofNat 124)) := by kernel_rfl
set_option maxRecDepth 1000000 in
theorem bf_b125 : runG 4 (callO 11 99 KK 100000) 3 [.code bfB] ⟨envOf 0 [.int .u8 (.ofNat 125)] .nil, [], H0⟩ [1] = some (bf_t0, bf_s5_0 (.ofNat 125)) := by kernel_rfl
set_option maxRecDepth 1000000 in
theorem bf_b126 : runG 4 (callO 11 99 KK 100000) 3 [.code bfB] ⟨envOf 0 [.int .u8 (.ofNat 126)] .nil, [], H0⟩ [1] = some (bf_t0, bf_s6_0 (.ofNat 126)) := by kernel_rfl
set_option maxRecDepth 1000000 in
theorem bf_b127 : runG 4 (callO 11 99 KK 100000) 3 [.code bfB] ⟨envOf 0 [.int .u8 (.ofNat 127)] .nil, [], H0⟩ [1] = some (bf_t0, bf_s7_0 (.ofNat 127)) := by kernel_rfl
set_option maxRecDepth 1000000 in
theorem bf_b128 : runG 4 (callO 11 99 KK 100000) 3 [.code bfB] ⟨envOf 0 [.int .u8 (.ofNat 128)] .nil, [], H0⟩ [1] = some (bf_t0, bf_s0_0 (.ofNat 128)) := by kernel_rfl
set_option maxRecDepth 1000000 in
theorem bf_b129 : runG 4 (callO 11 99 KK 100000) 3 [.code bfB] ⟨envOf 0 [.int .u8 (.ofNat 129)] .nil, [], H0⟩ [1] = some (bf_t0, bf_s1_0 (.ofNat 129)) := by kernel_rfl
set_option maxRecDepth 1000000 in
theorem bf_b130 : runG 4 (callO 11 99 KK 100000) 3 [.code bfB] ⟨envOf 0 [.int .u8 (.ofNat 130)] .nil, [], H0⟩ [1] = some (bf_t0, bf_s2_0 (.ofNat 130)) := by kernel_rfl
set_option maxRecDepth 1000000 in
theorem bf_b131 : runG 4 (callO 11 99 KK 100000) 3 [.code bfB] ⟨envOf 0 [.int .u8 (.ofNat 131)] .nil, [], H0⟩ [1] = some (bf_t0, bf_s3_0 (.ofNat 131)) := by kernel_rfl
set_option maxRecDepth 1000000 in
theorem bf_b132 : runG 4 (callO 11 99 KK 100000) 3 [.code bfB] ⟨envOf 0 [.int .u8 (.ofNat 132)] .nil, [], H0⟩ [1] = some (bf_t0, bf_s4_0 (.ofNat 132)) := by kernel_rfl
set_option maxRecDepth 1000000 in
theorem bf_b133 : runG 4 (callO 11 99 KK 100000) 3 [.code bfB] ⟨envOf 0 [.int .u8 (.ofNat 133)] .nil, [], H0⟩ [1] = some (bf_t0, bf_s5_0 (.ofNat 133)) := by kernel_rfl
set_option maxRecDepth 1000000 in
theorem bf_b134 : runG 4 (callO 11 99 KK 100000) 3 [.code bfB] ⟨envOf 0 [.int .u8 (.ofNat 134)] .nil, [], H0⟩ [1] = some (bf_t0, bf_s6_0 (.ofNat 134)) := by kernel_rfl
set_option maxRecDepth 1000000 in
theorem bf_b135 : runG 4 (callO 11 99 KK 100000) 3 [.code bfB] ⟨envOf 0 [.int .u8 (.ofNat 135)] .nil, [], H0⟩ [1] = some (bf_t0, bf_s7_0 (.ofNat 135)) := by kernel_rfl
set_option maxRecDepth 1000000 in
theorem bf_b136 : runG 4 (callO 11 99 KK 100000) 3 [.code bfB] ⟨envOf 0 [.int .u8 (.ofNat 136)] .nil, [], H0⟩ [1] = some (bf_t0, bf_s0_0 (.ofNat 136)) := by kernel_rfl
set_option maxRecDepth 1000000 in
theorem bf_b137 : runG 4 (callO 11 99 KK 100000) 3 [.code bfB] ⟨envOf 0 [.int .u8 (.ofNat 137)] .nil, [], H0⟩ [1] = some (bf_t0, bf_s1_0 (.ofNat 137)) := by kernel_rfl
set_option maxRecDepth 1000000 in
theorem bf_b138 : runG 4 (callO 11 99 KK 100000) 3 [.code bfB] ⟨envOf 0 [.int .u8 (.ofNat 138)] .nil, [], H0⟩ [1] = some (bf_t0, bf_s2_0 (.ofNat 138)) := by kernel_rfl
set_option maxRecDepth 1000000 in
theorem bf_b139 : runG 4 (callO 11 99 KK 100000) 3 [.code bfB] ⟨envOf 0 [.int .u8 (.ofNat 139)] .nil, [], H0⟩ [1] = some (bf_t0, bf_s3_0 (.ofNat 139)) := by kernel_rfl
set_option maxRecDepth 1000000 in
theorem bf_b140 : runG 4 (callO 11 99 KK 100000) 3 [.code bfB] ⟨envOf 0 [.int .u8 (.ofNat 140)] .nil, [], H0⟩ [1] = some (bf_t0, bf_s4_0 (.ofNat 140)) := by kernel_rfl
set_option maxRecDepth 1000000 in
theorem bf_b141 : runG 4 (callO 11 99 KK 100000) 3 [.code bfB] ⟨envOf 0 [.int .u8 (.ofNat 141)] .nil, [], H0⟩ [1] = some (bf_t0, bf_s5_0 (.ofNat 141)) := by kernel_rfl
set_option maxRecDepth 1000000 in
theorem bf_b142 : runG 4 (callO 11 99 KK 100000) 3 [.code bfB] ⟨envOf 0 [.int .u8 (.ofNat 142)] .nil, [], H0⟩ [1] = some (bf_t0, bf_s6_0 (.ofNat 142)) := by kernel_rfl
set_option maxRecDepth 1000000 in
theorem bf_b143 : runG 4 (callO 11 99 KK 100000) 3 [.code bfB] ⟨envOf 0 [.int .u8 (.ofNat 143)] .nil, [], H0⟩ [1] = some (bf_t0, bf_s7_0 (.ofNat 143)) := by kernel_rfl
set_option maxRecDepth 1000000 in
theorem bf_b144 : runG 4 (callO 11 99 KK 100000) 3 [.code bfB] ⟨envOf 0 [.int .u8 (.ofNat 144)] .nil, [], H0⟩ [1] = some (bf_t0, bf_s0_0 (.ofNat 144)) := by kernel_rfl
set_option maxRecDepth 1000000 in
theorem bf_b145 : runG 4 (callO 11 99 KK 100000) 3 [.code bfB] ⟨envOf 0 [.int .u8 (.ofNat 145)] .nil, [], H0⟩ [1] = some (bf_t0, bf_s1_0 (.ofNat 145)) := by kernel_rfl
set_option maxRecDepth 1000000 in
theorem bf_b146 : runG 4 (callO 11 99 KK 100000) 3 [.code bfB] ⟨envOf 0 [.int .u8 (.ofNat 146)] .nil, [], H0⟩ [1] = some (bf_t0, bf_s2_0 (.ofNat 146)) := by kernel_rfl
set_option maxRecDepth 1000000 in
theorem bf_b147 : runG 4 (callO 11 99 KK 100000) 3 [.code bfB] ⟨envOf 0 [.int .u8 (.ofNat 147)] .nil, [], H0⟩ [1] = some (bf_t0, bf_s3_0 (.ofNat 147)) := by kernel_rfl
set_option maxRecDepth 1000000 in
theorem bf_b148 : runG 4 (callO 11 99 KK 100000) 3 [.code bfB] ⟨envOf 0 [.int .u8 (.ofNat 148)] .nil, [], H0⟩ [1] = some (bf_t0, bf_s4_0 (.ofNat 148)) := by kernel_rfl
set_option maxRecDepth 1000000 in
theorem bf_b149 : runG 4 (callO 11 99 KK 100000) 3 [.code bfB] ⟨envOf 0 [.int .u8 (.ofNat 149)] .nil, [], H0⟩ [1] = some (bf_t0, bf_s5_0 (.ofNat 149)) := by kernel_rfl
set_option maxRecDepth 1000000 in
theorem bf_b150 : runG 4 (callO 11 99 KK 100000) 3 [.code bfB] ⟨envOf 0 [.int .u8 (.ofNat 150)] .nil, [], H0⟩ [1] = some (bf_t0, bf_s6_0 (.ofNat 150)) := by kernel_rfl
set_option maxRecDepth 1000000 in
theorem bf_b151 : runG 4 (callO 11 99 KK 100000) 3 [.code bfB] ⟨envOf 0 [.int .u8 (.ofNat 151)] .nil, [], H0⟩ [1] = some (bf_t0, bf_s7_0 (.ofNat 151)) := by kernel_rfl
set_option maxRecDepth 1000000 in
theorem bf_b152 : runG 4 (callO 11 99 KK 100000) 3 [.code bfB] ⟨envOf 0 [.int .u8 (.ofNat 152)] .nil, [], H0⟩ [1] = some (bf_t0, bf_s0_0 (.ofNat 152)) := by kernel_rfl
set_option maxRecDepth 1000000 in
theorem bf_b153 : runG 4 (callO 11 99 KK 100000) 3 [.code bfB] ⟨envOf 0 [.int .u8 (.ofNat 153)] .nil, [], H0⟩ [1] = some (bf_t0, bf_s1_0 (.ofNat 153)) := by kernel_rfl
set_option maxRecDepth 1000000 in
theorem bf_b154 : runG 4 (callO 11 99 KK 100000) 3 [.code bfB] ⟨envOf 0 [.int .u8 (.ofNat 154)] .nil, [], H0⟩ [1] = some (bf_t0, bf_s2_0 (.ofNat 154)) := by kernel_rfl
set_option maxRecDepth 1000000 in
theorem bf_b155 : runG 4 (callO 11 99 KK 100000) 3 [.code bfB] ⟨envOf 0 [.int .u8 (.ofNat 155)] .nil, [], H0⟩ [1] = some (bf_t0, bf_s3_0 (.ofNat 155)) := by kernel_rfl
set_option maxRecDepth 1000000 in
theorem bf_b156 : runG 4 (callO 11 99 KK 100000) 3 [.code bfB] ⟨envOf 0 [.int .u8 (.ofNat 156)] .nil, [], H0⟩ [1] = some (bf_t0, bf_s4_0 (.ofNat 156)) := by kernel_rfl
set_option maxRecDepth 1000000 in
theorem bf_b157 : runG 4 (callO 11 99 KK 100000) 3 [.code bfB] ⟨envOf 0 [.int .u8 (.ofNat 157)] .nil, [], H0⟩ [1] = some (bf_t0, bf_s5_0 (.ofNat 157)) := by kernel_rfl
set_option maxRecDepth 1000000 in
theorem bf_b158 : runG 4 (callO 11 99 KK 100000) 3 [.code bfB] ⟨envOf 0 [.int .u8 (.ofNat 158)] .nil, [], H0⟩ [1] = some (bf_t0, bf_s6_0 (.ofNat 158)) := by kernel_rfl
set_option maxRecDepth 1000000 in
theorem bf_b159 : runG 4 (callO 11 99 KK 100000) 3 [.code bfB] ⟨envOf 0 [.int .u8 (.ofNat 159)] .nil, [], H0⟩ [1] = some (bf_t0, bf_s7_0 (.ofNat 159)) := by kernel_rfl
set_option maxRecDepth 1000000 in
theorem bf_b160 : runG 4 (callO 11 99 KK 100000) 3 [.code bfB] ⟨envOf 0 [.int .u8 (.ofNat 160)] .nil, [], H0⟩ [1] = some (bf_t0, bf_s0_0 (.ofNat 160)) := by kernel_rfl
set_option maxRecDepth 1000000 in
theorem bf_b161 : runG 4 (callO 11 99 KK 100000) 3 [.code bfB] ⟨envOf 0 [.int .u8 (.ofNat 161)] .nil, [], H0⟩ [1] = some (bf_t0, bf_s1_0 (.ofNat 161)) := by kernel_rfl
set_option maxRecDepth 1000000 in
theorem bf_b162 : runG 4 (callO 11 99 KK 100000) 3 [.code bfB] ⟨envOf 0 [.int .u8 (.ofNat 162)] .nil, [], H0⟩ [1] = some (bf_t0, bf_s2_0 (.ofNat 162)) := by kernel_rfl
set_option maxRecDepth 1000000 in
theorem bf_b163 : runG 4 (callO 11 99 KK 100000) 3 [.code bfB] ⟨envOf 0 [.int .u8 (.ofNat 163)] .nil, [], H0⟩ [1] = some (bf_t0, bf_s3_0 (.ofNat 163)) := by kernel_rfl
set_option maxRecDepth 1000000 in
theorem bf_b164 : runG 4 (callO 11 99 KK 100000) 3 [.code bfB] ⟨envOf 0 [.int .u8 (.ofNat 164)] .nil, [], H0⟩ [1] = some (bf_t0, bf_s4_0 (.ofNat 164)) := by kernel_rfl
set_option maxRecDepth 1000000 in
theorem bf_b165 : runG 4 (callO 11 99 KK 100000) 3 [.code bfB] ⟨envOf 0 [.int .u8 (.ofNat 165)] .nil, [], H0⟩ [1] = some (bf_t0, bf_s5_0 (.ofNat 165)) := by kernel_rfl
set_option maxRecDepth 1000000 in
theorem bf_b166 : runG 4 (callO 11 99 KK 100000) 3 [.code bfB] ⟨envOf 0 [.int .u8 (.ofNat 166)] .nil, [], H0⟩ [1] = some (bf_t0, bf_s6_0 (.ofNat 166)) := by kernel_rfl
set_option maxRecDepth 1000000 in
theorem bf_b167 : runG 4 (callO 11 99 KK 100000) 3 [.code bfB] ⟨envOf 0 [.int .u8 (.ofNat 167)] .nil, [], H0⟩ [1] = some (bf_t0, bf_s7_0 (.ofNat 167)) := by kernel_rfl
set_option maxRecDepth 1000000 in
theorem bf_b168 : runG 4 (callO 11 99 KK 100000) 3 [.code bfB] ⟨envOf 0 [.int .u8 (.ofNat 168)] .nil, [], H0⟩ [1] = some (bf_t0, bf_s0_0 (.ofNat 168)) := by kernel_rfl
set_option maxRecDepth 1000000 in
theorem bf_b169 : runG 4 (callO 11 99 KK 100000) 3 [.code bfB] ⟨envOf 0 [.int .u8 (.ofNat 169)] .nil, [], H0⟩ [1] = some (bf_t0, bf_s1_0 (.ofNat 169)) := by kernel_rfl
set_option maxRecDepth 1000000 in
theorem bf_b170 : runG 4 (callO 11 99 KK 100000) 3 [.code bfB] ⟨envOf 0 [.int .u8 (.ofNat 170)] .nil, [], H0⟩ [1] = some (bf_t0, bf_s2_0 (.ofNat 170)) := by kernel_rfl
set_option maxRecDepth 1000000 in
theorem bf_b171 : runG 4 (callO 11 99 KK 100000) 3 [.code bfB] ⟨envOf 0 [.int .u8 (.ofNat 171)] .nil, [], H0⟩ [1] = some (bf_t0, bf_s3_0 (.ofNat 171)) := by kernel_rfl
set_option maxRecDepth 1000000 in
theorem bf_b172 : runG 4 (callO 11 99 KK 100000) 3 [.code bfB] ⟨envOf 0 [.int .u8 (.ofNat 172)] .nil, [], H0⟩ [1] = some (bf_t0, bf_s4_0 (.ofNat 172)) := by kernel_rfl
set_option maxRecDepth 1000000 in
theorem bf_b173 : runG 4 (callO 11 99 KK 100000) 3 [.code bfB] ⟨envOf 0 [.int .u8 (.ofNat 173)] .nil, [], H0⟩ [1] = some (bf_t0, bf_s5_0 (.ofNat 173)) := by kernel_rfl
set_option maxRecDepth 1000000 in
theorem bf_b174 : runG 4 (callO 11 99 KK 100000) 3 [.code bfB] ⟨envOf 0 [.int .u8 (.ofNat 174)] .nil, [], H0⟩ [1] = some (bf_t0, bf_s6_0 (.ofNat 174)) := by kernel_rfl
set_option maxRecDepth 1000000 in
theorem bf_b175 : runG 4 (callO 11 99 KK 100000) 3 [.code bfB] ⟨envOf 0 [.int .u8 (.ofNat 175)] .nil, [], H0⟩ [1] = some (bf_t0, bf_s7_0 (.ofNat 175)) := by kernel_rfl
set_option maxRecDepth 1000000 in
theorem bf_b176 : runG 4 (callO 11 99 KK 100000) 3 [.code bfB] ⟨envOf 0 [.int .u8 (.ofNat 176)] .nil, [], H0⟩ [1] = some (bf_t0, bf_s0_0 (.ofNat 176)) := by kernel_rfl
set_option maxRecDepth 1000000 in
theorem bf_b177 : runG 4 (callO 11 99 KK 100000) 3 [.code bfB] ⟨envOf 0 [.int .u8 (.ofNat 177)] .nil, [], H0⟩ [1] = some (bf_t0, bf_s1_0 (.ofNat 177)) := by kernel_rfl
set_option maxRecDepth 1000000 in
theorem bf_b178 : runG 4 (callO 11 99 KK 100000) 3 [.code bfB] ⟨envOf 0 [.int .u8 (.ofNat 178)] .nil, [], H0⟩ [1] = some (bf_t0, bf_s2_0 (.ofNat 178)) := by kernel_rfl
set_option maxRecDepth 1000000 in
theorem bf_b179 : runG 4 (callO 11 99 KK 100000) 3 [.code bfB] ⟨envOf 0 [.int .u8 (.ofNat 179)] .nil, [], H0⟩ [1] = some (bf_t0, bf_s3_0 (.ofNat 179)) := by kernel_rfl
set_option maxRecDepth 1000000 in
theorem bf_b180 : runG 4 (callO 11 99 KK 100000) 3 [.code bfB] ⟨envOf 0 [.int .u8 (.ofNat 180)] .nil, [], H0⟩ [1] = some (bf_t0, bf_s4_0 (.ofNat 180)) := by kernel_rfl
set_option maxRecDepth 1000000 in
theorem bf_b181 : runG 4 (callO 11 99 KK 100000) 3 [.code bfB] ⟨envOf 0 [.int .u8 (.ofNat 181)] .nil, [], H0⟩ [1] = some (bf_t0, bf_s5_0 (.ofNat 181)) := by kernel_rfl
set_option maxRecDepth 1000000 in
theorem bf_b182 : runG 4 (callO 11 99 KK 100000) 3 [.code bfB] ⟨envOf 0 [.int .u8 (.ofNat 182)] .nil, [], H0⟩ [1] = some (bf_t0, bf_s6_0 (.ofNat 182)) := by kernel_rfl
set_option maxRecDepth 1000000 in
theorem bf_b183 : runG 4 (callO 11 99 KK 100000) 3 [.code bfB] ⟨envOf 0 [.int .u8 (.ofNat 183)] .nil, [], H0⟩ [1] = some (bf_t0, bf_s7_0 (.ofNat 183)) := by kernel_rfl
set_option maxRecDepth 1000000 in
theorem bf_b184 : runG 4 (callO 11 99 KK 100000) 3 [.code bfB] ⟨envOf 0 [.int .u8 (.ofNat 184)] .nil, [], H0⟩ [1] = some (bf_t0, bf_s0_0 (.ofNat 184)) := by kernel_rfl
set_option maxRecDepth 1000000 in
theorem bf_b185 : runG 4 (callO 11 99 KK 100000) 3 [.code bfB] ⟨envOf 0 [.int .u8 (.ofNat 185)] .nil, [], H0⟩ [1] = some (bf_t0, bf_s1_0 (.ofNat 185)) := by kernel_rfl
set_option maxRecDepth 1000000 in
theorem bf_b186 : runG 4 (callO 11 99 KK 100000) 3 [.code bfB] ⟨envOf 0 [.int .u8 (.ofNat 186)] .nil, [], H0⟩ [1] = some (bf_t0, bf_s2_0 (.ofNat 186)) := by kernel_rfl
set_option maxRecDepth 1000000 in
theorem bf_b187 : runG 4 (callO 11 99 KK 100000) 3 [.code bfB] ⟨envOf 0 [.int .u8 (.ofNat 187)] .nil, [], H0⟩ [1] = some (bf_t0, bf_s3_0 (.ofNat 187)) := by kernel_rfl
set_option maxRecDepth 1000000 in
theorem bf_b188 : runG 4 (callO 11 99 KK 100000) 3 [.code bfB] ⟨envOf 0 [.int .u8 (.ofNat 188)] .nil, [], H0⟩ [1] = some (bf_t0, bf_s4_0 (.ofNat 188)) := by kernel_rfl
set_option maxRecDepth 1000000 in
theorem bf_b189 : runG 4 (callO 11 99 KK 100000) 3 [.code bfB] ⟨envOf 0 [.int .u8 (.ofNat 189)] .nil, [], H0⟩ [1] = some (bf_t0, bf_s5_0 (.ofNat 189)) := by kernel_rfl
set_option maxRecDepth 1000000 in
theorem bf_b190 : runG 4 (callO 11 99 KK 100000) 3 [.code bfB] ⟨envOf 0 [.int .u8 (.ofNat 190)] .nil, [], H0⟩ [1] = some (bf_t0, bf_s6_0 (.ofNat 190)) := by kernel_rfl
set_option maxRecDepth 1000000 in
theorem bf_b191 : runG 4 (callO 11 99 KK 100000) 3 [.code bfB] ⟨envOf 0 [.int .u8 (.ofNat 191)] .nil, [], H0⟩ [1] = some (bf_t0, bf_s7_0 (.ofNat 191)) := by kernel_rfl
set_option maxRecDepth 1000000 in
theorem bf_b192 : runG 4 (callO 11 99 KK 100000) 3 [.code bfB] ⟨envOf 0 [.int .u8 (.ofNat 192)] .nil, [], H0⟩ [1] = some (bf_t0, bf_s0_0 (.ofNat 192)) := by kernel_rfl
set_option maxRecDepth 1000000 in
theorem bf_b193 : runG 4 (callO 11 99 KK 100000) 3 [.code bfB] ⟨envOf 0 [.int .u8 (.ofNat 193)] .nil, [], H0⟩ [1] = some (bf_t0, bf_s1_0 (.ofNat 193)) := by kernel_rfl
set_option maxRecDepth 1000000 in
theorem bf_b194 : runG 4 (callO 11 99 KK 100000) 3 [.code bfB] ⟨envOf 0 [.int .u8 (.ofNat 194)] .nil, [], H0⟩ [1] = some (bf_t0, bf_s2_0 (.ofNat 194)) := by kernel_rfl
set_option maxRecDepth 1000000 in
theorem bf_b195 : runG 4 (callO 11 99 KK 100000) 3 [.code bfB] ⟨envOf 0 [.int .u8 (.ofNat 195)] .nil, [], H0⟩ [1] = some (bf_t0, bf_s3_0 (.ofNat 195)) := by kernel_rfl
set_option maxRecDepth 1000000 in
theorem bf_b196 : runG 4 (callO 11 99 KK 100000) 3 [.code bfB] ⟨envOf 0 [.int .u8 (.ofNat 196)] .nil, [], H0⟩ [1] = some (bf_t0, bf_s4_0 (.ofNat 196)) := by kernel_rfl
set_option maxRecDepth 1000000 in
theorem bf_b197 : runG 4 (callO 11 99 KK 100000) 3 [.code bfB] ⟨envOf 0 [.int .u8 (.ofNat 197)] .nil, [], H0⟩ [1] = some (bf_t0, bf_s5_0 (.ofNat 197)) := by kernel_rfl
set_option maxRecDepth 1000000 in
theorem bf_b198 : runG 4 (callO 11 99 KK 100000) 3 [.code bfB] ⟨envOf 0 [.int .u8 (.ofNat 198)] .nil, [], H0⟩ [1] = some (bf_t0, bf_s6_0 (.ofNat 198)) := by kernel_rfl
set_option maxRecDepth 1000000 in
theorem bf_b199 : runG 4 (callO 11 99 KK 100000) 3 [.code bfB] ⟨envOf 0 [.int .u8 (.ofNat 199)] .nil, [], H0⟩ [1] = some (bf_t0, bf_s7_0 (.ofNat 199)) := by kernel_rfl
set_option maxRecDepth 1000000 in
theorem bf_b200 : runG 4 (callO 11 99 KK 100000) 3 [.code bfB] ⟨envOf 0 [.int .u8 (.ofNat 200)] .nil, [], H0⟩ [1] = some (bf_t0, bf_s0_0 (.ofNat 200)) := by kernel_rfl
set_option maxRecDepth 1000000 in
theorem bf_b201 : runG 4 (callO 11 99 KK 100000) 3 [.code bfB] ⟨envOf 0 [.int .u8 (.ofNat 201)] .nil, [], H0⟩ [1] = some (bf_t0, bf_s1_0 (.ofNat 201)) := by kernel_rfl
set_option maxRecDepth 1000000 in
theorem bf_b202 : runG 4 (callO 11 99 KK 100000) 3 [.code bfB] ⟨envOf 0 [.int .u8 (.ofNat 202)] .nil, [], H0⟩ [1] = some (bf_t0, bf_s2_0 (.ofNat 202)) := by kernel_rfl
set_option maxRecDepth 1000000 in
theorem bf_b203 : runG 4 (callO 11 99 KK 100000) 3 [.code bfB] ⟨envOf 0 [.int .u8 (.ofNat 203)] .nil, [], H0⟩ [1] = some (bf_t0, bf_s3_0 (.ofNat 203)) := by kernel_rfl
set_option maxRecDepth 1000000 in
theorem bf_b204 : runG 4 (callO 11 99 KK 100000) 3 [.code bfB] ⟨envOf 0 [.int .u8 (.ofNat 204)] .nil, [], H0⟩ [1] = some (bf_t0, bf_s4_0 (.ofNat 204)) := by kernel_rfl
set_option maxRecDepth 1000000 in
theorem bf_b205 : runG 4 (callO 11 99 KK 100000) 3 [.code bfB] ⟨envOf 0 [.int .u8 (.ofNat 205)] .nil, [], H0⟩ [1] = some (bf_t0, bf_s5_0 (.ofNat 205)) := by kernel_rfl
set_option maxRecDepth 1000000 in
theorem bf_b206 : runG 4 (callO 11 99 KK 100000) 3 [.code bfB] ⟨envOf 0 [.int .u8 (.ofNat 206)] .nil, [], H0⟩ [1] = some (bf_t0, bf_s6_0 (.ofNat 206)) := by kernel_rfl
set_option maxRecDepth 1000000 in
theorem bf_b207 : runG 4 (callO 11 99 KK 100000) 3 [.code bfB] ⟨envOf 0 [.int .u8 (.ofNat 207)] .nil, [], H0⟩ [1] = some (bf_t0, bf_s7_0 (.ofNat 207)) := by kernel_rfl
set_option maxRecDepth 1000000 in
theorem bf_b208 : runG 4 (callO 11 99 KK 100000) 3 [.code bfB] ⟨envOf 0 [.int .u8 (.ofNat 208)] .nil, [], H0⟩ [1] = some (bf_t0, bf_s0_0 (.ofNat 208)) := by kernel_rfl
set_option maxRecDepth 1000000 in
theorem bf_b209 : runG 4 (callO 11 99 KK 100000) 3 [.code bfB] ⟨envOf 0 [.int .u8 (.ofNat 209)] .nil, [], H0⟩ [1] = some (bf_t0, bf_s1_0 (.ofNat 209)) := by kernel_rfl
set_option maxRecDepth 1000000 in
theorem bf_b210 : runG 4 (callO 11 99 KK 100000) 3 [.code bfB] ⟨envOf 0 [.int .u8 (.ofNat 210)] .nil, [], H0⟩ [1] = some (bf_t0, bf_s2_0 (.ofNat 210)) := by kernel_rfl
set_option maxRecDepth 1000000 in
theorem bf_b211 : runG 4 (callO 11 99 KK 100000) 3 [.code bfB] ⟨envOf 0 [.int .u8 (.ofNat 211)] .nil, [], H0⟩ [1] = some (bf_t0, bf_s3_0 (.ofNat 211)) := by kernel_rfl
set_option maxRecDepth 1000000 in
theorem bf_b212 : runG 4 (callO 11 99 KK 100000) 3 [.code bfB] ⟨envOf 0 [.int .u8 (.ofNat 212)] .nil, [], H0⟩ [1] = some (bf_t0, bf_s4_0 (.ofNat 212)) := by kernel_rfl
set_option maxRecDepth 1000000 in
theorem bf_b213 : runG 4 (callO 11 99 KK 100000) 3 [.code bfB] ⟨envOf 0 [.int .u8 (.ofNat 213)] .nil, [], H0⟩ [1] = some (bf_t0, bf_s5_0 (.ofNat 213)) := by kernel_rfl
set_option maxRecDepth 1000000 in
theorem bf_b214 : runG 4 (callO 11 99 KK 100000) 3 [.code bfB] ⟨envOf 0 [.int .u8 (.ofNat 214)] .nil, [], H0⟩ [1] = some (bf_t0, bf_s6_0 (.ofNat 214)) := by kernel_rfl
set_option maxRecDepth 1000000 in
theorem bf_b215 : runG 4 (callO 11 99 KK 100000) 3 [.code bfB] ⟨envOf 0 [.int .u8 (.ofNat 215)] .nil, [], H0⟩ [1] = some (bf_t0, bf_s7_0 (.ofNat 215)) := by kernel_rfl
set_option maxRecDepth 1000000 in
theorem bf_b216 : runG 4 (callO 11 99 KK 100000) 3 [.code bfB] ⟨envOf 0 [.int .u8 (.ofNat 216)] .nil, [], H0⟩ [1] = some (bf_t0, bf_s0_0 (.ofNat 216)) := by kernel_rfl
set_option maxRecDepth 1000000 in
theorem bf_b217 : runG 4 (callO 11 99 KK 100000) 3 [.code bfB] ⟨envOf 0 [.int .u8 (.ofNat 217)] .nil, [], H0⟩ [1] = some (bf_t0, bf_s1_0 (.ofNat 217)) := by kernel_rfl
set_option maxRecDepth 1000000 in
theorem bf_b218 : runG 4 (callO 11 99 KK 100000) 3 [.code bfB] ⟨envOf 0 [.int .u8 (.ofNat 218)] .nil, [], H0⟩ [1] = some (bf_t0, bf_s2_0 (.ofNat 218)) := by kernel_rfl
set_option maxRecDepth 1000000 in
theorem bf_b219 : runG 4 (callO 11 99 KK 100000) 3 [.code bfB] ⟨envOf 0 [.int .u8 (.ofNat 219)] .nil, [], H0⟩ [1] = some (bf_t0, bf_s3_0 (.ofNat 219)) := by kernel_rfl
set_option maxRecDepth 1000000 in
theorem bf_b220 : runG 4 (callO 11 99 KK 100000) 3 [.code bfB] ⟨envOf 0 [.int .u8 (.ofNat 220)] .nil, [], H0⟩ [1] = some (bf_t0, bf_s4_0 (.ofNat 220)) := by kernel_rfl
set_option maxRecDepth 1000000 in
theorem bf_b221 : runG 4 (callO 11 99 KK 100000) 3 [.code bfB] ⟨envOf 0 [.int .u8 (.ofNat 221)] .nil, [], H0⟩ [1] = some (bf_t0, bf_s5_0 (.ofNat 221)) := by kernel_rfl
set_option maxRecDepth 1000000 in
theorem bf_b222 : runG 4 (callO 11 99 KK 100000) 3 [.code bfB] ⟨envOf 0 [.int .u8 (.ofNat 222)] .nil, [], H0⟩ [1] = some (bf_t0, bf_s6_0 (.ofNat 222)) := by kernel_rfl
set_option maxRecDepth 1000000 in
theorem bf_b223 : runG 4 (callO 11 99 KK 100000) 3 [.code bfB] ⟨envOf 0 [.int .u8 (.ofNat 223)] .nil, [], H0⟩ [1] = some (bf_t0, bf_s7_0 (.ofNat 223)) := by kernel_rfl
set_option maxRecDepth 1000000 in
theorem bf_b224 : runG 4 (callO 11 99 KK 100000) 3 [.code bfB] ⟨envOf 0 [.int .u8 (.ofNat 224)] .nil, [], H0⟩ [1] = some (bf_t0, bf_s0_0 (.ofNat 224)) := by kernel_rfl
set_option maxRecDepth 1000000 in
theorem bf_b225 : runG 4 (callO 11 99 KK 100000) 3 [.code bfB] ⟨envOf 0 [.int .u8 (.ofNat 225)] .nil, [], H0⟩ [1] = some (bf_t0, bf_s1_0 (.ofNat 225)) := by kernel_rfl
set_option maxRecDepth 1000000 in
theorem bf_b226 : runG 4 (callO 11 99 KK 100000) 3 [.code bfB] ⟨envOf 0 [.int .u8 (.ofNat 226)] .nil, [], H0⟩ [1] = some (bf_t0, bf_s2_0 (.ofNat 226)) := by kernel_rfl
set_option maxRecDepth 1000000 in
theorem bf_b227 : runG 4 (callO 11 99 KK 100000) 3 [.code bfB] ⟨envOf 0 [.int .u8 (.ofNat 227)] .nil, [], H0⟩ [1] = some (bf_t0, bf_s3_0 (.ofNat 227)) := by kernel_rfl
set_option maxRecDepth 1000000 in
theorem bf_b228 : runG 4 (callO 11 99 KK 100000) 3 [.code bfB] ⟨envOf 0 [.int .u8 (.ofNat 228)] .nil, [], H0⟩ [1] = some (bf_t0, bf_s4_0 (.ofNat 228)) := by kernel_rfl
set_option maxRecDepth 1000000 in
theorem bf_b229 : runG 4 (callO 11 99 KK 100000) 3 [.code bfB] ⟨envOf 0 [.int .u8 (.ofNat 229)] .nil, [], H0⟩ [1] = some (bf_t0, bf_s5_0 (.ofNat 229)) := by kernel_rfl
set_option maxRecDepth 1000000 in
theorem bf_b230 : runG 4 (callO 11 99 KK 100000) 3 [.code bfB] ⟨envOf 0 [.int .u8 (.ofNat 230)] .nil, [], H0⟩ [1] = some (bf_t0, bf_s6_0 (.ofNat 230)) := by kernel_rfl
set_option maxRecDepth 1000000 in
theorem bf_b231 : runG 4 (callO 11 99 KK 100000) 3 [.code bfB] ⟨envOf 0 [.int .u8 (.ofNat 231)] .nil, [], H0⟩ [1] = some (bf_t0, bf_s7_0 (.ofNat 231)) := by kernel_rfl
set_option maxRecDepth 1000000 in
theorem bf_b232 : runG 4 (callO 11 99 KK 100000) 3 [.code bfB] ⟨envOf 0 [.int .u8 (.ofNat 232)] .nil, [], H0⟩ [1] = some (bf_t0, bf_s0_0 (.ofNat 232)) := by kernel_rfl
set_option maxRecDepth 1000000 in
theorem bf_b233 : runG 4 (callO 11 99 KK 100000) 3 [.code bfB] ⟨envOf 0 [.int .u8 (.ofNat 233)] .nil, [], H0⟩ [1] = some (bf_t0, bf_s1_0 (.ofNat 233)) := by kernel_rfl
set_option maxRecDepth 1000000 in
theorem bf_b234 : runG 4 (callO 11 99 KK 100000) 3 [.code bfB] ⟨envOf 0 [.int .u8 (.ofNat 234)] .nil, [], H0⟩ [1] = some (bf_t0, bf_s2_0 (.ofNat 234)) := by kernel_rfl
set_option maxRecDepth 1000000 in
theorem bf_b235 : runG 4 (callO 11 99 KK 100000) 3 [.code bfB] ⟨envOf 0 [.int .u8 (.ofNat 235)] .nil, [], H0⟩ [1] = some (bf_t0, bf_s3_0 (.ofNat 235)) := by kernel_rfl
set_option maxRecDepth 1000000 in
theorem bf_b236 : runG 4 (callO 11 99 KK 100000) 3 [.code bfB] ⟨envOf 0 [.int .u8 (.ofNat 236)] .nil, [], H0⟩ [1] = some (bf_t0, bf_s4_0 (.ofNat 236)) := by kernel_rfl
set_option maxRecDepth 1000000 in
theorem bf_b237 : runG 4 (callO 11 99 KK 100000) 3 [.code bfB] ⟨envOf 0 [.int .u8 (.ofNat 237)] .nil, [], H0⟩ [1] = some (bf_t0, bf_s5_0 (.ofNat 237)) := by kernel_rfl
set_option maxRecDepth 1000000 in
theorem bf_b238 : runG 4 (callO 11 99 KK 100000) 3 [.code bfB] ⟨envOf 0 [.int .u8 (.ofNat 238)] .nil, [], H0⟩ [1] = some (bf_t0, bf_s6_0 (.ofNat 238)) := by kernel_rfl
set_option maxRecDepth 1000000 in
theorem bf_b239 : runG 4 (callO 11 99 KK 100000) 3 [.code bfB] ⟨envOf 0 [.int .u8 (.ofNat 239)] .nil, [], H0⟩ [1] = some (bf_t0, bf_s7_0 (.ofNat 239)) := by kernel_rfl
set_option maxRecDepth 1000000 in
theorem bf_b240 : runG 4 (callO 11 99 KK 100000) 3 [.code bfB] ⟨envOf 0 [.int .u8 (.ofNat 240)] .nil, [], H0⟩ [1] = some (bf_t0, bf_s0_0 (.ofNat 240)) := by kernel_rfl
set_option maxRecDepth 1000000 in
theorem bf_b241 : runG 4 (callO 11 99 KK 100000) 3 [.code bfB] ⟨envOf 0 [.int .u8 (.ofNat 241)] .nil, [], H0⟩ [1] = some (bf_t0, bf_s1_0 (.ofNat 241)) := by kernel_rfl
set_option maxRecDepth 1000000 in
theorem bf_b242 : runG 4 (callO 11 99 KK 100000) 3 [.code bfB] ⟨envOf 0 [.int .u8 (.ofNat 242)] .nil, [], H0⟩ [1] = some (bf_t0, bf_s2_0 (.ofNat 242)) := by kernel_rfl
set_option maxRecDepth 1000000 in
theorem bf_b243 : runG 4 (callO 11 99 KK 100000) 3 [.code bfB] ⟨envOf 0 [.int .u8 (.ofNat 243)] .nil, [], H0⟩ [1] = some (bf_t0, bf_s3_0 (.ofNat 243)) := by kernel_rfl
set_option maxRecDepth 1000000 in
theorem bf_b244 : runG 4 (callO 11 99 KK 100000) 3 [.code bfB] ⟨envOf 0 [.int .u8 (.ofNat 244)] .nil, [], H0⟩ [1] = some (bf_t0, bf_s4_0 (.ofNat 244)) := by kernel_rfl
set_option maxRecDepth 1000000 in
theorem bf_b245 : runG 4 (callO 11 99 KK 100000) 3 [.code bfB] ⟨envOf 0 [.int .u8 (.ofNat 245)] .nil, [], H0⟩ [1] = some (bf_t0, bf_s5_0 (.ofNat 245)) := by kernel_rfl
set_option maxRecDepth 1000000 in
theorem bf_b246 : runG 4 (callO 11 99 KK 100000) 3 [.code bfB] ⟨envOf 0 [.int .u8 (.ofNat 246)] .nil, [], H0⟩ [1] = some (bf_t0, bf_s6_0 (.ofNat 246)) := by kernel_rfl
set_option maxRecDepth 1000000 in
theorem bf_b247 : runG 4 (callO 11 99 KK 100000) 3 [.code bfB] ⟨envOf 0 [.int .u8 (.ofNat 247)] .nil, [], H0⟩ [1] = some (bf_t0, bf_s7_0 (.ofNat 247)) := by kernel_rfl
set_option maxRecDepth 1000000 in
theorem bf_b248 : runG 4 (callO 11 99 KK 100000) 3 [.code bfB] ⟨envOf 0 [.int .u8 (.ofNat 248)] .nil, [], H0⟩ [1] = some (bf_t0, bf_s0_0 (.ofNat 248)) := by kernel_rfl
set_option maxRecDepth 1000000 in
theorem bf_b249 : runG 4 (callO 11 99 KK 100000) 3 [.code bfB] ⟨envOf 0 [.int .u8 (.ofNat 249)] .nil, [], H0⟩ [1] = some (bf_t0, bf_s1_0 (.ofNat 249)) := by kernel_rfl
set_option maxRecDepth 1000000 in
theorem bf_b250 : runG 4 (callO 11 99 KK 100000) 3 [.code bfB] ⟨envOf 0 [.int .u8 (.ofNat 250)] .nil, [], H0⟩ [1] = some (bf_t0, bf_s2_0 (.ofNat 250)) := by kernel_rfl
set_option maxRecDepth 1000000 in
theorem bf_b251 : runG 4 (callO 11 99 KK 100000) 3 [.code bfB] ⟨envOf 0 [.int .u8 (.ofNat 251)] .nil, [], H0⟩ [1] = some (bf_t0, bf_s3_0 (.ofNat 251)) := by kernel_rfl
set_option maxRecDepth 1000000 in
theorem bf_b252 : runG 4 (callO 11 99 KK 100000) 3 [.code bfB] ⟨envOf 0 [.int .u8 (.ofNat 252)] .nil, [], H0⟩ [1] = some (bf_t0, bf_s4_0 (.ofNat 252)) := by kernel_rfl
set_option maxRecDepth 1000000 in
theorem bf_b253 : runG 4 (callO 11 99 KK 100000) 3 [.code bfB] ⟨envOf 0 [.int .u8 (.ofNat 253)] .nil, [], H0⟩ [1] = some (bf_t0, bf_s5_0 (.ofNat 253)) := by kernel_rfl
set_option maxRecDepth 1000000 in
theorem bf_b254 : runG 4 (callO 11 99 KK 100000) 3 [.code bfB] ⟨envOf 0 [.int .u8 (.ofNat 254)] .nil, [], H0⟩ [1] = some (bf_t0, bf_s6_0 (.ofNat 254)) := by kernel_rfl
set_option maxRecDepth 1000000 in
theorem bf_b255 : runG 4 (callO 11 99 KK 100000) 3 [.code bfB] ⟨envOf 0 [.int .u8 (.ofNat 255)] .nil, [], H0⟩ [1] = some (bf_t0, bf_s7_0 (.ofNat 255)) := by kernel_rfl
end Go.Proofs.YtdkebebingchpaaGreatDoor.Ru
