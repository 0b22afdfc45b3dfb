/- Law 07: awake. -/
import Derived.Test.YtmhlmoojmdfnfaaDoorDeedS
namespace Go.Proofs.YtmhlmoojmdfnfaaDoor
open Go.RowKit

set_option maxHeartbeats 1600000 in
theorem awake7 (w : World) (hM : HasMax w) (hP : HasPow w) : Calls Tryd.prog 33 #[] w fun e w' => e = .returned (.bool true) ∧ Kept [] w w' := by
  have HR1 : Hid (∀ w, HasMax w → Calls Tryd.prog 31 #[.string ⟨#[121, 105, 101, 108, 100, 32, 49]⟩] w fun e w' => e = .returned (.tuple #[.agg (dC 0 0 0 0 0 0 false), .int .i64 3]) ∧ Kept [] w w') := by
    intro w hM
    have := parse_any [121, 105, 101, 108, 100, 32, 49] w (by decide) hM
    rw [show parseD 1048576 [121, 105, 101, 108, 100, 32, 49] = (Dd.zero, 3) by kernel_rfl] at this
    exact this
  have HR2 : Hid (∀ w, HasMax w → Calls Tryd.prog 31 #[.string ⟨#[119, 111, 114, 107, 32, 48]⟩] w fun e w' => e = .returned (.tuple #[.agg (dC 0 0 0 0 0 0 false), .int .i64 5]) ∧ Kept [] w w') := by
    intro w hM
    have := parse_any [119, 111, 114, 107, 32, 48] w (by decide) hM
    rw [show parseD 1048576 [119, 111, 114, 107, 32, 48] = (Dd.zero, 5) by kernel_rfl] at this
    exact this
  have HL : Hid (∀ w, HasPow w → Calls Tryd.prog 30 #[.agg (dC 10 3 0 0 20 0 false)] w fun e w' => e = .returned (.string ⟨#[116, 105, 109, 101, 100, 32, 51, 32, 50, 48]⟩) ∧ Kept [] w w') := by
    intro w hP
    have := line_any 10 3 0 0 20 0 false w (by decide) (by decide) hP
    rw [show lineD ⟨10, 3, 0, 0, 20, 0, false⟩ = [116, 105, 109, 101, 100, 32, 51, 32, 50, 48] by kernel_rfl] at this
    exact this
  have HM := Lib.hid hM
  have HP := Lib.hid hP
  clear hM hP
  go_enter Tryd.func33, Tryd.ntmps33
  go_wp2_with fail
  refine (HR1.out _ HM.out).mono ?_
  rintro e w1 ⟨rfl, hk1⟩
  go_wp2_with fail
  refine (HR2.out _ (HM.out.old (hk1.alloc _))).mono ?_
  rintro e w2 ⟨rfl, hk2⟩
  have HK2 := Lib.hid ((hk1.alloc _).trans hk2)
  clear hk1 hk2
  go_wp2_with fail
  refine (HL.out _ (HP.out.old (HK2.out.alloc _))).mono ?_
  rintro e w3 ⟨rfl, hk3⟩
  go_wp2_with fail
  go_ret
  exact ⟨rfl, (HK2.out.alloc _).trans hk3⟩

end Go.Proofs.YtmhlmoojmdfnfaaDoor
