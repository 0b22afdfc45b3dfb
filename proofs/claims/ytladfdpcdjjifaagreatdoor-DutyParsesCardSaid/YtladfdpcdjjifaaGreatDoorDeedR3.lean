/- The document's Good of a deed. -/
import Derived.Test.YtladfdpcdjjifaaGreatDoorDeedR2
import Derived.Deep.RegionHeld3
import Derived.Deep.RegionWith
import Derived.Deep.DrawnRows
import Derived.Deep.QuietTactic
import Derived.BigQuiet
namespace Go.Proofs.YtladfdpcdjjifaaGreatDoor
open Go.RowKit
attribute [local go_sem ↓] Go.wp_at_zero Go.wp_at_succ
attribute [local go_sem] eqDeed undef

set_option maxHeartbeats 3200000 in
theorem refGood_many (o a b r : Int) (n m : Nat) (l : Bool) (w : World) (he : onlyD ⟨o, a, b, r, n, m, l⟩ = ⟨o, a, b, r, n, m, l⟩) (h1 : 2 ≤ o) (h2 : o ≤ 11) : Calls Tryz.prog 71 #[.agg (dC o a b r n m l)] w fun e w' => e = .returned (.bool (goodD ⟨o, a, b, r, n, m, l⟩)) ∧ Kept [] w w' := by
  have HG := Lib.hid (goodD_only ⟨o, a, b, r, n, m, l⟩ he (by show 1 ≤ o; omega) h2)
  have HO : Hid (∀ w, Calls Tryz.prog 92 #[.agg (dC o a b r n m l)] w fun e w' => e = .returned (.agg (dC o a b r n m l)) ∧ Kept [] w w') := fun w => by
    have := refOnly o a b r n m l w
    rw [he] at this
    exact this
  clear he
  have hb : (o == 1) = false := beq_eq_false_iff_ne.2 (by omega)
  have hd1 : decide (o < 1) = false := by simp; omega
  have hd2 : decide (11 < o) = false := by simp; omega
  go_enter Tryz.func71, Tryz.ntmps71
  go_wp2_with fail
  first | (go_must (go_region_with (first | (go_at_call 92; refine (HO.out _).mono ?_; rintro e w1 ⟨rfl, hk1⟩; have hB := (Blk.new w 60 (dC o a b r n m l)).drew.kept hk1 (by simp); have hc := hB.cell; have HB := Lib.hid hB; clear hB)))) | fail
  all_goals go_wp2_with fail
  all_goals
    go_ret
    refine ⟨ret_bool ?_, by have hk2 := (((Kept.refl [] w).alloc (.cells (dC o a b r n m l) 60)).drew.trans hk1); exact hk2⟩
    rw [HG.out, Bool.eq_iff_iff]
    simp
    omega

end Go.Proofs.YtladfdpcdjjifaaGreatDoor
