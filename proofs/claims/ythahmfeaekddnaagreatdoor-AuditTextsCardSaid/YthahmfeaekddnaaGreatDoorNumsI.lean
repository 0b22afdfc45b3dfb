/- Package nums: Int, and the document's Int. -/
import Derived.Test.YthahmfeaekddnaaGreatDoorNumsD
namespace Go.Proofs.YthahmfeaekddnaaGreatDoor
open Go.RowKit

/-- What Int answers. -/
def intD (l : List UInt8) (most : Int) : Nat × Int := if (readD l).2 ≠ 0 then (0, (readD l).2) else if most < 0 ∨ most < (readD l).1 then (0, 5) else ((readD l).1, 0)
theorem readD_lt (l : List UInt8) : (readD l).1 ≤ 18446744073709551615 := by
  unfold readD; split
  · exact Nat.zero_le _
  · split
    · exact Nat.zero_le _
    · show valD l ≤ _; omega
theorem readD_code (l : List UInt8) : (readD l).2 = 0 ∨ (readD l).2 = 3 ∨ (readD l).2 = 5 := by
  unfold readD; (repeat' split) <;> simp

end Go.Proofs.YthahmfeaekddnaaGreatDoor
