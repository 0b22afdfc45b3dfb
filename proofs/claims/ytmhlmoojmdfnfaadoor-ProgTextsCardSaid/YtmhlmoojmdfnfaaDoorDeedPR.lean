/- The document's Parse of a deed's line. -/
import Derived.Test.YtmhlmoojmdfnfaaDoorDeedS
import Derived.Test.YtmhlmoojmdfnfaaDoorDeedR4
namespace Go.Proofs.YtmhlmoojmdfnfaaDoor
open Go.RowKit

set_option maxHeartbeats 800000 in
theorem refOp (l : List UInt8) (w : World) : Calls Tryd.prog 84 #[strV l] w fun e w' => e = .returned (.int .i64 (opOf l)) ∧ Kept [] w w' := by
  have HNM := Lib.hid (fun k w => refName k w)
  go_enter Tryd.func84, Tryd.ntmps84
  go_wp2_with fail
  go_loopw [3] (fun kv wr => ∃ k : Nat, 1 ≤ k ∧ k ≤ 12 ∧ kv = .int .i64 k ∧ Hid (∀ j : Nat, 1 ≤ j → j < k → nameD j ≠ l) ∧ Kept [] w wr) (fun k _ => 12 - (intOf k).toNat)
  case atStart => exact ⟨1, by omega, by omega, rfl, (fun j h1 h2 => by omega), Kept.refl _ _⟩
  case round =>
    obtain ⟨k, hk1, hk2, rfl, HJ, hkw⟩ := hrel
    by_cases hlt : k ≤ 11
    · by_cases he : nameD k = l
      · have HO := Lib.hid (opOf_lt hlt HJ.out hk1 he)
        have hc : ∀ w, Calls Tryd.prog 39 #[.int .i64 k] w fun e w' => e = .returned (strV l) ∧ Kept [] w w' := fun w => by have := HNM.out k w; rw [he] at this; exact this
        have HC := Lib.hid hc
        clear hc he
        go_wp2_with fail
        refine (HC.out _).mono ?_
        rintro e w1 ⟨rfl, hk1'⟩
        go_wp2_with fail
        go_ret
        exact ⟨by rw [HO.out]; rfl, hkw.trans hk1'⟩
      · obtain ⟨x, hx⟩ : ∃ x, nameD k = x := ⟨_, rfl⟩
        have hb : (x == l) = false := beq_eq_false_iff_ne.2 (hx ▸ he)
        have hc : ∀ w, Calls Tryd.prog 39 #[.int .i64 k] w fun e w' => e = .returned (strV x) ∧ Kept [] w w' := fun w => by have := HNM.out k w; rw [hx] at this; exact this
        have HC := Lib.hid hc
        have HN := Lib.hid he
        clear hc he hx
        go_wp2_with fail
        refine (HC.out _).mono ?_
        rintro e w1 ⟨rfl, hk1'⟩
        go_wp2_with fail
        go_roundw
        case rel => exact ⟨k + 1, by omega, by omega, by go_num, (fun j h1 h2 => by
          rcases Nat.lt_or_ge j k with h3 | h3
          · exact HJ.out j h1 h3
          · obtain rfl : j = k := by omega
            exact HN.out), hkw.trans hk1'⟩
        case measure => simp [intOf]; omega
    · obtain rfl : k = 12 := by omega
      have HO := Lib.hid (opOf_none HJ.out)
      go_wp2_with fail
      go_ret
      exact ⟨by rw [HO.out]; rfl, hkw⟩

set_option maxHeartbeats 800000 in
theorem refSmall (x : Nat) (w : World) (hx : x ≤ 18446744073709551615) : Calls Tryd.prog 87 #[.int .u64 x] w fun e w' => e = .returned (.int .i64 ((min x 64 : Nat) : Int)) ∧ w = w' := by
  by_cases h : 64 < x
  · go_enter Tryd.func87, Tryd.ntmps87
    go_wp2_with fail
    go_ret
    exact ⟨ret_int (by omega), rfl⟩
  · go_enter Tryd.func87, Tryd.ntmps87
    go_wp2_with fail
    go_ret
    exact ⟨ret_int (by omega), rfl⟩

set_option maxHeartbeats 1600000 in
theorem refParse_none (l : List UInt8) (w : World) (hl : l.length ≤ 100000) (hw : words l = []) :
    Calls Tryd.prog 35 #[strV l] w fun e w' => e = .returned (.tuple #[.agg (dC 0 0 0 0 0 0 false), .int .i64 15]) ∧ Kept [] w w' := by
  have HW := Lib.hid (fun w => refWords l w hl)
  rw [hw] at HW
  clear hw
  simp only [List.length_nil] at HW
  go_enter Tryd.func35, Tryd.ntmps35
  go_wp2_with fail
  refine (HW.out _).mono ?_
  rintro e w1 ⟨A, c, rfl, hF⟩
  have hk := hF.2.1
  have hB := (Blk.new w 41 (dC 0 0 0 0 0 0 false)).kept hk (by simp)
  have hc := hB.cell
  have hf := hB.frozen
  have hlt := hB.lt
  have HK := Lib.hid (((Kept.refl [] w).alloc _).trans hk)
  clear hF hk hB
  go_wp2_with fail
  refine bodyPost_ret (v := .tuple #[.agg (dC 0 0 0 0 0 0 false), .int .i64 15]) (by simp [results, Tryd.results35, go_sem, hc]) rfl ⟨rfl, ?_⟩
  have hk2 := HK.out
  (repeat (first | (with_reducible exact Kept.refl _ _) | (with_reducible assumption) | (with_reducible refine Kept.alloc ?_ _) | (with_reducible refine Kept.drew ?_) | (with_reducible refine Kept.drewN ?_ _) | (with_reducible refine Kept.setCell ?_ ?_ _) | (exact .inr (Nat.le_refl _)) | (exact .inr (by simp only; omega)) | (exact .inr (by omega))))

end Go.Proofs.YtmhlmoojmdfnfaaDoor
