/- CoreNil in pieces (printed by rucore.py). -/
import Derived.Test.YthahmfeaekddnaaGreatDoorRuCoreD
namespace Go.Proofs.YthahmfeaekddnaaGreatDoor.Ru
open Go Go.RowKit
set_option maxRecDepth 1000000 in
theorem cn_1_n (x1 : Int) (j : Nat) : isYes (aFin (callO 18 100 KK 100000) 100000 3 cn_t0 (cn_s0 (.ofNat 1) x1 (.negSucc j))) = true := by kernel_rfl
set_option maxRecDepth 1000000 in
theorem cn_1_0 (x1 : Int) : isYes (aFin (callO 18 100 KK 100000) 100000 3 cn_t0 (cn_s0 (.ofNat 1) x1 (.ofNat 0))) = true := by kernel_rfl
set_option maxRecDepth 1000000 in
theorem cn_1_1 (x1 : Int) : isYes (aFin (callO 18 100 KK 100000) 100000 3 cn_t0 (cn_s0 (.ofNat 1) x1 (.ofNat 1))) = true := by kernel_rfl
set_option maxRecDepth 1000000 in
theorem cn_1_2 (x1 : Int) : isYes (aFin (callO 18 100 KK 100000) 100000 3 cn_t0 (cn_s0 (.ofNat 1) x1 (.ofNat 2))) = true := by kernel_rfl
set_option maxRecDepth 1000000 in
theorem cn_1_3 (x1 : Int) : isYes (aFin (callO 18 100 KK 100000) 100000 3 cn_t0 (cn_s0 (.ofNat 1) x1 (.ofNat 3))) = true := by kernel_rfl
set_option maxRecDepth 1000000 in
theorem cn_1_4 (x1 : Int) : isYes (aFin (callO 18 100 KK 100000) 100000 3 cn_t0 (cn_s0 (.ofNat 1) x1 (.ofNat 4))) = true := by kernel_rfl
set_option maxRecDepth 1000000 in
theorem cn_1_5 (x1 : Int) : isYes (aFin (callO 18 100 KK 100000) 100000 3 cn_t0 (cn_s0 (.ofNat 1) x1 (.ofNat 5))) = true := by kernel_rfl
set_option maxRecDepth 1000000 in
theorem cn_1_6 (x1 : Int) : isYes (aFin (callO 18 100 KK 100000) 100000 3 cn_t0 (cn_s0 (.ofNat 1) x1 (.ofNat 6))) = true := by kernel_rfl
set_option maxRecDepth 1000000 in
theorem cn_1_7 (x1 : Int) : isYes (aFin (callO 18 100 KK 100000) 100000 3 cn_t0 (cn_s0 (.ofNat 1) x1 (.ofNat 7))) = true := by kernel_rfl
set_option maxRecDepth 1000000 in
theorem cn_1_8 (x1 : Int) : isYes (aFin (callO 18 100 KK 100000) 100000 3 cn_t0 (cn_s0 (.ofNat 1) x1 (.ofNat 8))) = true := by kernel_rfl
set_option maxRecDepth 1000000 in
theorem cn_1_9 (x1 : Int) : isYes (aFin (callO 18 100 KK 100000) 100000 3 cn_t0 (cn_s0 (.ofNat 1) x1 (.ofNat 9))) = true := by kernel_rfl
set_option maxRecDepth 1000000 in
theorem cn_1_p (x1 : Int) (j : Nat) : isYes (aFin (callO 18 100 KK 100000) 100000 3 cn_t0 (cn_s0 (.ofNat 1) x1 (.ofNat (j + 10)))) = true := by kernel_rfl
theorem cn_1 (x1 x2 : Int) : isYes (aFin (callO 18 100 KK 100000) 100000 3 cn_t0 (cn_s0 (.ofNat 1) x1 x2)) = true := by
  match x2 with
  | Int.negSucc j => exact cn_1_n x1 j
  | Int.ofNat 0 => exact cn_1_0 x1
  | Int.ofNat 1 => exact cn_1_1 x1
  | Int.ofNat 2 => exact cn_1_2 x1
  | Int.ofNat 3 => exact cn_1_3 x1
  | Int.ofNat 4 => exact cn_1_4 x1
  | Int.ofNat 5 => exact cn_1_5 x1
  | Int.ofNat 6 => exact cn_1_6 x1
  | Int.ofNat 7 => exact cn_1_7 x1
  | Int.ofNat 8 => exact cn_1_8 x1
  | Int.ofNat 9 => exact cn_1_9 x1
  | Int.ofNat (j + 10) => exact cn_1_p x1 j
end Go.Proofs.YthahmfeaekddnaaGreatDoor.Ru
