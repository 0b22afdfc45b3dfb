/- Package deed: the pieces of Parse. -/
import Derived.Test.YtmhlmoojmdfnfaaDoorDeedN
import Derived.Test.YtmhlmoojmdfnfaaDoorNumsI
import Derived.Deep.QuietTactic
import Derived.BigQuiet
namespace Go.Proofs.YtmhlmoojmdfnfaaDoor
open Go.RowKit

theorem opOf_lt {w : List UInt8} {k : Nat} (hk : k ≤ 11) (h : ∀ j : Nat, 1 ≤ j → j < k → nameD j ≠ w) (h1 : 1 ≤ k) (hw : nameD k = w) : opOf w = k := by
  subst hw
  have : k = 1 ∨ k = 2 ∨ k = 3 ∨ k = 4 ∨ k = 5 ∨ k = 6 ∨ k = 7 ∨ k = 8 ∨ k = 9 ∨ k = 10 ∨ k = 11 := by omega
  rcases this with rfl | rfl | rfl | rfl | rfl | rfl | rfl | rfl | rfl | rfl | rfl <;> decide
theorem opOf_none {w : List UInt8} (h : ∀ j : Nat, 1 ≤ j → j < 12 → nameD j ≠ w) : opOf w = 0 := by
  unfold opOf
  rw [if_neg (fun e => h 1 (by omega) (by omega) e.symm), if_neg (fun e => h 2 (by omega) (by omega) e.symm), if_neg (fun e => h 3 (by omega) (by omega) e.symm), if_neg (fun e => h 4 (by omega) (by omega) e.symm), if_neg (fun e => h 5 (by omega) (by omega) e.symm), if_neg (fun e => h 6 (by omega) (by omega) e.symm), if_neg (fun e => h 7 (by omega) (by omega) e.symm), if_neg (fun e => h 8 (by omega) (by omega) e.symm), if_neg (fun e => h 9 (by omega) (by omega) e.symm), if_neg (fun e => h 10 (by omega) (by omega) e.symm), if_neg (fun e => h 11 (by omega) (by omega) e.symm)]

set_option maxHeartbeats 800000 in
theorem op_any (l : List UInt8) (w : World) : Calls Tryd.prog 76 #[strV l] w fun e w' => e = .returned (.int .i64 (opOf l)) ∧ w = w' := by
  have HNM := Lib.hid (fun k w => name_any k w)
  go_enter Tryd.func76, Tryd.ntmps76
  go_wp2_with fail
  go_loop [3] (fun kv => ∃ k : Nat, 1 ≤ k ∧ k ≤ 12 ∧ kv = .int .i64 k ∧ Hid (∀ j : Nat, 1 ≤ j → j < k → nameD j ≠ l)) (fun k => 12 - (intOf k).toNat)
  case atStart => exact ⟨1, by omega, by omega, rfl, fun j h1 h2 => by omega⟩
  case round =>
    obtain ⟨k, hk1, hk2, rfl, HJ⟩ := hrel
    by_cases hlt : k ≤ 11
    · by_cases he : nameD k = l
      · have HO := Lib.hid (opOf_lt hlt HJ.out hk1 he)
        have hc : ∀ w, Calls Tryd.prog 38 #[.int .i64 k] w fun e w' => e = .returned (strV l) ∧ w = w' := fun w => by have := HNM.out k w; rw [he] at this; exact this
        have HC := Lib.hid hc
        clear hc he
        go_wp2_with fail
        refine (HC.out _).mono ?_
        rintro e w1 ⟨rfl, rfl⟩
        go_wp2_with fail
        go_ret
        exact ⟨by rw [HO.out]; rfl, rfl⟩
      · obtain ⟨x, hx⟩ : ∃ x, nameD k = x := ⟨_, rfl⟩
        have hb : (x == l) = false := beq_eq_false_iff_ne.2 (hx ▸ he)
        have hc : ∀ w, Calls Tryd.prog 38 #[.int .i64 k] w fun e w' => e = .returned (strV x) ∧ w = w' := fun w => by have := HNM.out k w; rw [hx] at this; exact this
        have HC := Lib.hid hc
        have HN := Lib.hid he
        clear hc he hx
        go_wp2_with fail
        refine (HC.out _).mono ?_
        rintro e w1 ⟨rfl, rfl⟩
        go_wp2_with fail
        go_round
        case rel => exact ⟨k + 1, by omega, by omega, by go_num, fun j h1 h2 => by
          rcases Nat.lt_or_ge j k with h3 | h3
          · exact HJ.out j h1 h3
          · obtain rfl : j = k := by omega
            exact HN.out⟩
        case measure => simp [intOf]; omega
    · obtain rfl : k = 12 := by omega
      have HO := Lib.hid (opOf_none HJ.out)
      go_wp2_with fail
      go_ret
      exact ⟨by rw [HO.out]; rfl, rfl⟩

end Go.Proofs.YtmhlmoojmdfnfaaDoor
