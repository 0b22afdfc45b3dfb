/- Law 23: WaitNil: the walk. -/
import Derived.Test.YtljimcdppeejfaaWait7
namespace Go.Proofs.Ytljimcdppeejfaa
open Go.RowKit

set_option maxHeartbeats 3200000 in
set_option maxRecDepth 100000 in
theorem waitNil_any (pl lev : Int) (w : World) : Calls Try.prog 5 #[.int .i64 pl, .int .i64 lev] w fun e w' => e = .returned (.bool true) ∧ Kept [] w w' := by
  go_enter Try.func5, Try.ntmps5
  go_wp2_with fail
  refine (best_nil _).mono ?_
  rintro e w1 ⟨rfl, rfl⟩
  go_wp2_with fail
  refine (pop_nil _).mono ?_
  rintro e w2 ⟨rfl, rfl⟩
  go_wp2_with fail
  refine (level_nil _ _).mono ?_
  rintro e w3 ⟨rfl, hk3⟩
  have HK3 := Lib.hid hk3
  clear hk3
  go_wp2_with fail
  refine (put_nil _ _ _).mono ?_
  rintro e w4 ⟨rfl, hk4⟩
  have HK4 := Lib.hid (HK3.out.trans hk4)
  clear hk4
  go_wp2_with fail
  refine (move_nil _ _ _).mono ?_
  rintro e w5 ⟨rfl, hk5⟩
  have HK5 := Lib.hid (HK4.out.trans hk5)
  clear hk5
  go_wp2_with fail
  refine (remove_nil _ _).mono ?_
  rintro e w6 ⟨rfl, hk6⟩
  have HK6 := Lib.hid (HK5.out.trans hk6)
  clear hk6
  go_wp2_with fail
  refine (len_nil _).mono ?_
  rintro e w7 ⟨rfl, rfl⟩
  go_wp2_with fail
  refine (all_nil _).mono ?_
  rintro e w8 ⟨rfl, rfl⟩
  go_wp2_with fail
  refine (awake23 _).mono ?_
  rintro e w9 ⟨rfl, hk9⟩
  have HK9 := Lib.hid (HK6.out.trans hk9)
  clear hk9
  go_wp2_with fail
  go_ret
  exact ⟨rfl, HK9.out⟩

end Go.Proofs.Ytljimcdppeejfaa
