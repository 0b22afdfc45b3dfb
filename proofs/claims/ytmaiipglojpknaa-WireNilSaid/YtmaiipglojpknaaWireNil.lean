/- WireNil returns true for every input. No condition. -/
import Derived.Test.YtmaiipglojpknaaWireL
namespace Go.Proofs.Ytmaiipglojpknaa
open Go.RowKit

set_option maxHeartbeats 400000 in
theorem put_nil (v : Value) (w : World) : Calls Try.prog 33 #[.pointer none, v] w fun e w' => e = .returned (.tuple #[]) ∧ w = w' := by
  go_enter Try.func33, Try.ntmps33
  go_wp2_with fail
  ((try simp only [Exit.inBlock, Exit.then]); refine bodyPost_ret (results_none rfl _ _ _) rfl ?_)
  exact ⟨rfl, rfl⟩

set_option maxHeartbeats 400000 in
theorem wnum_nil (x : Nat) (w : World) (hx : x < 18446744073709551616) : Calls Try.prog 15 #[.pointer none, .int .u64 x] w fun e w' => e = .returned (.tuple #[]) ∧ Kept [] w w' := by
  go_enter Try.func15, Try.ntmps15
  go_wp2_with fail
  refine (number_any x _ hx).mono ?_
  rintro e w1 ⟨v, rfl, _, hk, _⟩
  go_wp2_with (go_at_call 33; refine (put_nil _ _).mono ?_; rintro e w' ⟨rfl, rfl⟩)
  go_end0
  exact ⟨rfl, hk⟩

set_option maxHeartbeats 400000 in
theorem wbytes_nil (w : World) : Calls Try.prog 27 #[.pointer none, .slice none 0 0] w fun e w' => e = .returned (.tuple #[]) ∧ Kept [] w w' := by
  go_enter Try.func27, Try.ntmps27
  go_wp2_with fail
  refine (number_any 0 _ (by omega)).mono ?_
  rintro e w1 ⟨v, rfl, hown, hk, hnew⟩
  obtain ⟨A1, c1, rfl, _, _⟩ := own_form hown
  have HO := Lib.hid hown
  clear hown
  go_wp2_with (first | (go_at_call 33; refine (put_nil _ _).mono ?_; rintro e w' ⟨rfl, rfl⟩) | (at_builtin; go_must (refine wpList_append_any _ rfl _ _ _ rfl 5 (.int .u8 0) 1 1 Try.underlying25 Try.info5 rfl (by omega) (.slice A1 (encNum 0).length c1) (encNum 0).length ((encNum 0).map B) rfl HO.out none 0 0 [] rfl Reads.none_ (by simp) (by simp [encNum, be, beN, maxLen]) (by simp [encNum, be, beN]) ?_); intro A2 c2 w2 happ; have hk2 : Kept [] w w2 := hk.trans' happ.2.1 fun k hm => .inr (hnew k hm)))
  go_end0
  exact ⟨rfl, hk2⟩

set_option maxHeartbeats 400000 in
theorem rtake_nil (n : Int) (w : World) : Calls Try.prog 36 #[.pointer none, .int .i64 n] w fun e w' => e = .returned (.tuple #[.slice none 0 0, .bool false]) ∧ w = w' := by
  go_enter Try.func36, Try.ntmps36
  go_wp2_with fail
  go_ret2
  exact ⟨rfl, rfl⟩

set_option maxHeartbeats 400000 in
theorem rbyte_nil (w : World) : Calls Try.prog 21 #[.pointer none] w fun e w' => e = .returned (.int .u8 0) ∧ w = w' := by
  go_enter Try.func21, Try.ntmps21
  go_wp2_with (go_at_call 36; refine (rtake_nil _ _).mono ?_; rintro e w' ⟨rfl, rfl⟩)
  go_ret
  exact ⟨rfl, rfl⟩

set_option maxHeartbeats 400000 in
theorem rnum_nil (w : World) : Calls Try.prog 16 #[.pointer none] w fun e w' => e = .returned (.int .u64 0) ∧ w = w' := by
  go_enter Try.func16, Try.ntmps16
  go_wp2_with (first | (go_at_call 36; refine (rtake_nil _ _).mono ?_; rintro e w' ⟨rfl, rfl⟩) | (go_at_call 21; refine (rbyte_nil _).mono ?_; rintro e w' ⟨rfl, rfl⟩))
  go_ret
  exact ⟨rfl, rfl⟩

set_option maxHeartbeats 400000 in
theorem wbyte_nil (n : Int) (w : World) : Calls Try.prog 25 #[.pointer none, .int .u8 n] w fun e w' => e = .returned (.tuple #[]) ∧ Kept [] w w' := by
  go_enter Try.func25, Try.ntmps25
  go_wp2_with (go_at_call 33; refine (put_nil _ _).mono ?_; rintro e w' ⟨rfl, rfl⟩)
  go_end0
  exact ⟨rfl, (Kept.refl _ _).alloc _⟩

set_option maxHeartbeats 400000 in
theorem wtruth_nil (w : World) : Calls Try.prog 26 #[.pointer none, .bool true] w fun e w' => e = .returned (.tuple #[]) ∧ Kept [] w w' := by
  go_enter Try.func26, Try.ntmps26
  go_wp2_with (go_at_call 33; refine (put_nil _ _).mono ?_; rintro e w' ⟨rfl, rfl⟩)
  ((try simp only [Exit.inBlock, Exit.then]); refine bodyPost_ret (results_none rfl _ _ _) rfl ?_)
  exact ⟨rfl, (Kept.refl _ _).alloc _⟩

set_option maxHeartbeats 1000000 in
theorem wireNil_any (x : Nat) (w : World) (hx : x < 18446744073709551616) : Calls Try.prog 7 #[.int .u64 x] w fun e w' => e = .returned (.bool true) ∧ Kept [] w w' := by
  go_enter Try.func7, Try.ntmps7
  go_wp2_with (first | (go_at_call 25; refine (wbyte_nil _ _).mono ?_; rintro e w1 ⟨rfl, hk1⟩) | (go_at_call 15; refine (wnum_nil x _ hx).mono ?_; rintro e w2 ⟨rfl, hk2⟩) | (go_at_call 26; refine (wtruth_nil _).mono ?_; rintro e w3 ⟨rfl, hk3⟩) | (go_at_call 27; refine (wbytes_nil _).mono ?_; rintro e w4 ⟨rfl, hk4⟩) |
    (go_at_call 21; refine (rbyte_nil _).mono ?_; rintro e w' ⟨rfl, rfl⟩) | (go_at_call 16; refine (rnum_nil _).mono ?_; rintro e w' ⟨rfl, rfl⟩) | (go_at_call 12; refine (awake4 _).mono ?_; rintro e w5 ⟨rfl, hk5⟩) | go_in)
  go_ret
  exact ⟨rfl, (((hk1.trans hk2).trans hk3).trans hk4).trans hk5⟩

end Go.Proofs.Ytmaiipglojpknaa
