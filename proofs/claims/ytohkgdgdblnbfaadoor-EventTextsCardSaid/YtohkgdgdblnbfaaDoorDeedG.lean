/- Package deed: Name, Good, Calls, Waits; the document's Name, Parts, only, Good. -/
import Derived.Test.YtohkgdgdblnbfaaDoorDeedPlain
import Derived.Test.YtohkgdgdblnbfaaDoorNumsRef
import Derived.Laws.StructEq
namespace Go.Proofs.YtohkgdgdblnbfaaDoor
open Go.RowKit
attribute [local simp] takeP

/-- A deed as a value's cells. -/
abbrev dC (o a b r : Int) (n m : Nat) (l : Bool) : Array Value := #[.int .i64 o, .int .i64 a, .int .i64 b, .int .i64 r, .int .u64 n, .int .u64 m, .bool l]

set_option maxHeartbeats 800000 in
theorem name_any (op : Int) (w : World) : Calls Tryd.prog 58 #[.int .i64 op] w fun e w' => e = .returned (strV (nameD op)) ∧ w = w' := by
  rcases (by omega : op = 1 ∨ op = 2 ∨ op = 3 ∨ op = 4 ∨ op = 5 ∨ op = 6 ∨ op = 7 ∨ op = 8 ∨ op = 9 ∨ op = 10 ∨ op = 11 ∨ (op < 1 ∨ 11 < op)) with rfl | rfl | rfl | rfl | rfl | rfl | rfl | rfl | rfl | rfl | rfl | h
  all_goals
    go_enter Tryd.func58, Tryd.ntmps58
    go_wp2
    go_ret
    first
      | exact ⟨rfl, rfl⟩
      | exact ⟨ret_str (by rw [show nameD op = [63] from by simp only [nameD]; (repeat rw [if_neg (by omega)])]), rfl⟩

theorem ret_bool {a b : Bool} (h : a = b) : Ending.returned (.bool a) = .returned (.bool b) := by rw [h]
end Go.Proofs.YtohkgdgdblnbfaaDoor
