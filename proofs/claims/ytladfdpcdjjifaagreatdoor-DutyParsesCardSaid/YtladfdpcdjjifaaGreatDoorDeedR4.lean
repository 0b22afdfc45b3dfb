/- The document's Good of a deed. -/
import Derived.Test.YtladfdpcdjjifaaGreatDoorDeedR3
import Derived.Deep.RegionHeld3
import Derived.Deep.RegionWith
import Derived.Deep.DrawnRows
import Derived.Deep.QuietTactic
import Derived.BigQuiet
namespace Go.Proofs.YtladfdpcdjjifaaGreatDoor
open Go.RowKit
attribute [local go_sem ↓] Go.wp_at_zero Go.wp_at_succ
attribute [local go_sem] undef

set_option maxHeartbeats 3200000 in
theorem refGood_differs (o a b r : Int) (n m : Nat) (l : Bool) (w : World) (he : onlyD ⟨o, a, b, r, n, m, l⟩ ≠ ⟨o, a, b, r, n, m, l⟩) (h1 : 1 ≤ o) (h2 : o ≤ 11) : Calls Tryz.prog 71 #[.agg (dC o a b r n m l)] w fun e w' => e = .returned (.bool (goodD ⟨o, a, b, r, n, m, l⟩)) ∧ Kept [] w w' := by
  have HG := Lib.hid (goodD_differs ⟨o, a, b, r, n, m, l⟩ he)
  have hsm : Dd.same ⟨o, a, b, r, n, m, l⟩ (onlyD ⟨o, a, b, r, n, m, l⟩) = false := by
    rw [← Bool.not_eq_true, Dd.same_iff]; exact fun e => he e.symm
  have HO := Lib.hid (fun w => refOnly o a b r n m l w)
  obtain ⟨e, hee⟩ : ∃ e, onlyD ⟨o, a, b, r, n, m, l⟩ = e := ⟨_, rfl⟩
  rw [hee] at HO hsm
  obtain ⟨eo, ea, eb, er, en, em, el⟩ := e
  have HS : Hid ((o == eo && (a == ea && (b == eb && (r == er && ((n : Int) == en && ((m : Int) == em && l == el)))))) = false) := by
    rw [Hid, ← hsm]
    simp only [Dd.same]
    have e1 : ((n : Int) == (en : Int)) = (n == en) := by rw [Bool.eq_iff_iff]; simp; omega
    have e2 : ((m : Int) == (em : Int)) = (m == em) := by rw [Bool.eq_iff_iff]; simp; omega
    rw [e1, e2]
  have hq : ∀ W, (Op.equalIn 10000 60 (.agg #[.int .i64 o, .int .i64 a, .int .i64 b, .int .i64 r, .int .u64 n, .int .u64 m, .bool l]) (.agg (dC eo ea eb er en em el))).run Tryz.prog W = .ok false W := fun W => by
    rw [eqDeed, HS.out]
  have hd1 : decide (o < 1) = false := by simp; omega
  have hd2 : decide (11 < o) = false := by simp; omega
  clear he hee hsm
  go_enter Tryz.func71, Tryz.ntmps71
  go_wp2_with fail
  first | (go_must (go_region_with (first | (go_at_call 92; refine (HO.out _).mono ?_; rintro e w1 ⟨rfl, hk1⟩; have hB := (Blk.new w 60 (dC o a b r n m l)).drew.kept hk1 (by simp); have hc := hB.cell; have HB := Lib.hid hB; clear hB)))) | fail
  all_goals go_wp2_with fail
  all_goals
    go_ret
    rw [HG.out]
    exact ⟨rfl, ((Kept.refl [] w).alloc (.cells (dC o a b r n m l) 60)).drew.trans hk1⟩

theorem refGood (o a b r : Int) (n m : Nat) (l : Bool) (w : World) : Calls Tryz.prog 71 #[.agg (dC o a b r n m l)] w fun e w' => e = .returned (.bool (goodD ⟨o, a, b, r, n, m, l⟩)) ∧ Kept [] w w' := by
  by_cases hr : o < 1 ∨ 11 < o
  · exact refGood_out o a b r n m l w hr
  · by_cases he : onlyD ⟨o, a, b, r, n, m, l⟩ = ⟨o, a, b, r, n, m, l⟩
    · by_cases h1 : o = 1
      · subst h1
        by_cases hn : n < 1
        · obtain rfl : n = 0 := by omega
          exact refGood_lo a b r m l w he
        · by_cases hn2 : 65536 < n
          · exact refGood_hi a b r n m l w he hn2
          · exact refGood_one a b r n m l w he (by omega) (by omega)
      · exact refGood_many o a b r n m l w he (by omega) (by omega)
    · exact refGood_differs o a b r n m l w he (by omega) (by omega)

end Go.Proofs.YtladfdpcdjjifaaGreatDoor
