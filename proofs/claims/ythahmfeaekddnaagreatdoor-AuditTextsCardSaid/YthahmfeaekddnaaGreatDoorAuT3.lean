/- The document's Text of a fault. -/
import Derived.Test.YthahmfeaekddnaaGreatDoorAuT
namespace Go.Proofs.YthahmfeaekddnaaGreatDoor
open Go.RowKit Go.Sort
attribute [local go_sem ↓] Go.wp_at_zero Go.wp_at_succ
attribute [local irreducible] dec

set_option maxRecDepth 100000 in
set_option maxHeartbeats 6400000 in
theorem R34Text_good1 (s c : Nat) (w : World) (hs : s ≤ 9223372036854775807) (hcc : c ≤ 9223372036854775807) :
    Calls Tryz.prog 31 #[.int .i64 1, .int .i64 s, .int .i64 c] w fun e w' => e = .returned (strV (textD 1 s c)) ∧ Kept [] w w' := by
  have HF : Hid (textD 1 s c = (((faultD 1 ++ [32]) ++ dec s) ++ [32]) ++ dec c) := by
    show textD 1 s c = _
    rw [textD, if_pos (by omega)]; rfl
  have HL := Lib.hid (fun (x : Nat) w h1 => refPrint x w h1)
  have hws : IntKind.u64.wrap (s : Int) = (s : Int) := IntWalk.u64_in _ (by omega)
  have hwc : IntKind.u64.wrap (c : Int) = (c : Int) := IntWalk.u64_in _ (by omega)
  have l1 := decs_len s (by omega)
  have l2 := decs_len c (by omega)
  have hK := Lib.hid (Kept.refl [] w)
  have l0 : (faultD 1).length ≤ 8 := by decide
  go_enter Tryz.func31, Tryz.ntmps31
  go_wp2_with fail
  go_region_with (first | (go_at_call 73; refine (HL.out _ _ (by omega)).mono ?_; rintro e w1 ⟨rfl, rfl⟩) | fail)
  all_goals
    go_wp2_with fail
    go_ret
    exact ⟨by rw [HF.out]; rfl, by first | exact (Kept.refl [] w).drew.alloc _ | exact ((Kept.refl [] w).alloc _)⟩
set_option maxRecDepth 100000 in
set_option maxHeartbeats 6400000 in
theorem R34Text_good2 (s c : Nat) (w : World) (hs : s ≤ 9223372036854775807) (hcc : c ≤ 9223372036854775807) :
    Calls Tryz.prog 31 #[.int .i64 2, .int .i64 s, .int .i64 c] w fun e w' => e = .returned (strV (textD 2 s c)) ∧ Kept [] w w' := by
  have HF : Hid (textD 2 s c = (((faultD 2 ++ [32]) ++ dec s) ++ [32]) ++ dec c) := by
    show textD 2 s c = _
    rw [textD, if_pos (by omega)]; rfl
  have HL := Lib.hid (fun (x : Nat) w h1 => refPrint x w h1)
  have hws : IntKind.u64.wrap (s : Int) = (s : Int) := IntWalk.u64_in _ (by omega)
  have hwc : IntKind.u64.wrap (c : Int) = (c : Int) := IntWalk.u64_in _ (by omega)
  have l1 := decs_len s (by omega)
  have l2 := decs_len c (by omega)
  have hK := Lib.hid (Kept.refl [] w)
  have l0 : (faultD 2).length ≤ 8 := by decide
  go_enter Tryz.func31, Tryz.ntmps31
  go_wp2_with fail
  go_region_with (first | (go_at_call 73; refine (HL.out _ _ (by omega)).mono ?_; rintro e w1 ⟨rfl, rfl⟩) | fail)
  all_goals
    go_wp2_with fail
    go_ret
    exact ⟨by rw [HF.out]; rfl, by first | exact (Kept.refl [] w).drew.alloc _ | exact ((Kept.refl [] w).alloc _)⟩
set_option maxRecDepth 100000 in
set_option maxHeartbeats 6400000 in
theorem R34Text_good3 (s c : Nat) (w : World) (hs : s ≤ 9223372036854775807) (hcc : c ≤ 9223372036854775807) :
    Calls Tryz.prog 31 #[.int .i64 3, .int .i64 s, .int .i64 c] w fun e w' => e = .returned (strV (textD 3 s c)) ∧ Kept [] w w' := by
  have HF : Hid (textD 3 s c = (((faultD 3 ++ [32]) ++ dec s) ++ [32]) ++ dec c) := by
    show textD 3 s c = _
    rw [textD, if_pos (by omega)]; rfl
  have HL := Lib.hid (fun (x : Nat) w h1 => refPrint x w h1)
  have hws : IntKind.u64.wrap (s : Int) = (s : Int) := IntWalk.u64_in _ (by omega)
  have hwc : IntKind.u64.wrap (c : Int) = (c : Int) := IntWalk.u64_in _ (by omega)
  have l1 := decs_len s (by omega)
  have l2 := decs_len c (by omega)
  have hK := Lib.hid (Kept.refl [] w)
  have l0 : (faultD 3).length ≤ 8 := by decide
  go_enter Tryz.func31, Tryz.ntmps31
  go_wp2_with fail
  go_region_with (first | (go_at_call 73; refine (HL.out _ _ (by omega)).mono ?_; rintro e w1 ⟨rfl, rfl⟩) | fail)
  all_goals
    go_wp2_with fail
    go_ret
    exact ⟨by rw [HF.out]; rfl, by first | exact (Kept.refl [] w).drew.alloc _ | exact ((Kept.refl [] w).alloc _)⟩
set_option maxRecDepth 100000 in
set_option maxHeartbeats 6400000 in
theorem R34Text_good4 (s c : Nat) (w : World) (hs : s ≤ 9223372036854775807) (hcc : c ≤ 9223372036854775807) :
    Calls Tryz.prog 31 #[.int .i64 4, .int .i64 s, .int .i64 c] w fun e w' => e = .returned (strV (textD 4 s c)) ∧ Kept [] w w' := by
  have HF : Hid (textD 4 s c = (((faultD 4 ++ [32]) ++ dec s) ++ [32]) ++ dec c) := by
    show textD 4 s c = _
    rw [textD, if_pos (by omega)]; rfl
  have HL := Lib.hid (fun (x : Nat) w h1 => refPrint x w h1)
  have hws : IntKind.u64.wrap (s : Int) = (s : Int) := IntWalk.u64_in _ (by omega)
  have hwc : IntKind.u64.wrap (c : Int) = (c : Int) := IntWalk.u64_in _ (by omega)
  have l1 := decs_len s (by omega)
  have l2 := decs_len c (by omega)
  have hK := Lib.hid (Kept.refl [] w)
  have l0 : (faultD 4).length ≤ 8 := by decide
  go_enter Tryz.func31, Tryz.ntmps31
  go_wp2_with fail
  go_region_with (first | (go_at_call 73; refine (HL.out _ _ (by omega)).mono ?_; rintro e w1 ⟨rfl, rfl⟩) | fail)
  all_goals
    go_wp2_with fail
    go_ret
    exact ⟨by rw [HF.out]; rfl, by first | exact (Kept.refl [] w).drew.alloc _ | exact ((Kept.refl [] w).alloc _)⟩
end Go.Proofs.YthahmfeaekddnaaGreatDoor
