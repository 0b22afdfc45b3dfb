/- Package deed: Line. -/
import Derived.Test.YtladfdpcdjjifaaGreatDoorDeedR4
import Derived.Test.YtladfdpcdjjifaaGreatDoorNumsB
namespace Go.Proofs.YtladfdpcdjjifaaGreatDoor
open Go.RowKit
attribute [local go_sem ↓] Go.wp_at_zero Go.wp_at_succ

set_option maxHeartbeats 1600000 in
theorem line1_any (x : Nat) (g : Nat) (s : List UInt8) (w : World) (hB : Blk w g 9 #[strV s]) (hx : x < 18446744073709551616) (hP : HasPow w) (hs : s.length ≤ 1000) :
    Calls Tryz.prog 97 #[.int .u64 x, .pointer (some ⟨g, 0, none⟩)] w fun e w' => e = .returned (.tuple #[]) ∧ Blk w' g 9 #[strV (s ++ 32 :: dec x)] ∧ Kept [g] w w' := by
  have hc := hB.cell
  have hf := hB.frozen
  have HB := Lib.hid hB
  have HC := Lib.hid (fun w h => print_any x w hx h)
  have HP := Lib.hid hP
  have hl : (dec x).length ≤ 20 := by rw [← dec_digits x hx]; exact decDigits_len x hx
  have HA1 := Lib.hid (str_append [32] (dec x))
  have HA2 := Lib.hid (str_append s ([32] ++ dec x))
  clear hB hP
  go_enter Tryz.func97, Tryz.ntmps97
  go_wp2_with fail
  go_region_with (first | (go_at_call 47; refine (HC.out _ (by exact HP.out.old ((Kept.refl _ _).drew))).mono ?_; rintro e w1 ⟨rfl, hk1⟩; have hB1 := HB.out.drew.kept hk1 (by simp); have hc1 := hB1.cell; have hf1 := hB1.frozen; have HB1 := Lib.hid hB1; clear hB1))
  all_goals
    go_wp2_with fail
    go_end0
    refine ⟨rfl, ?_, (((Kept.refl [g] w).drew).trans (hk1.mono (by simp))).setCell (.inl (by simp)) _⟩
    have h := HB1.out.set 0 (strV (s ++ 32 :: dec x))
    have e : (⟨s.toArray⟩ : ByteArray) ++ (⟨#[32]⟩ ++ ⟨(dec x).toArray⟩) = ⟨(s ++ 32 :: dec x).toArray⟩ := by
      rw [show (⟨#[32]⟩ : ByteArray) ++ ⟨(dec x).toArray⟩ = ⟨([32] ++ dec x).toArray⟩ from HA1.out]
      exact HA2.out
    rw [e]
    exact h

end Go.Proofs.YtladfdpcdjjifaaGreatDoor
