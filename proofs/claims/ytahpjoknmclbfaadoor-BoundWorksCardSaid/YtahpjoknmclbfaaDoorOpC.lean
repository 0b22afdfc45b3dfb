/- Package deque: push; Package deque: pop, the first steps. -/
import Derived.Test.YtahpjoknmclbfaaDoorOpB
import Derived.WalkMore

/- Package deque: push. -/
namespace Go.Proofs.YtahpjoknmclbfaaDoor
open Go.RowKit

section
variable {w : World} {mb wb ob : Nat} {xs : List Nat} {base cap kind steps b t x err : Nat} {won done : Bool}
set_option maxHeartbeats 1600000 in
theorem push1 (M : MOp w mb wb ob xs ⟨base, cap, 0, 1, b, t, x, won, done, err⟩) (hb : base + 1 < xs.length) (hn : xs.length ≤ 100000) : Calls Tryd.prog 68 #[.pointer (some ⟨ob, 0, none⟩), .pointer (some ⟨mb, 0, none⟩)] w fun r w' =>
    r = .returned (.tuple #[]) ∧ MOp w' mb wb ob xs ⟨base, cap, 0, 1, xs.getD (base + 1) 0, t, x, won, done, err⟩ ∧ Kept [mb, wb, ob] w w' := by
  have HT := Lib.hid (qBotA M (by omega))
  have HL := Lib.hid (M.load (a := base + 1) (by omega))
  have c3 := M.op.cell 3
  simp [opC] at c3
  generalize xs.getD (base + 1) 0 = bb at *
  clear M
  go_enter Tryd.func68, Tryd.ntmps68
  go_wp2_with fail
  refine HT.out.mono ?_
  rintro e w1 ⟨rfl, rfl⟩
  go_wp2_with fail
  refine HL.out.mono ?_
  rintro e w1 ⟨rfl, M1, hk1⟩
  have HM1 := Lib.hid M1
  have HK1 := Lib.hid hk1
  have c4 := M1.op.cell 4
  have f4 := M1.op.frozen 4
  simp [opC] at c4
  clear M1 hk1
  go_wp2_with fail
  go_end0
  exact ⟨rfl, HM1.out.setOp 4 _ rfl, HK1.out.setCell (.inl (by simp)) _⟩
set_option maxHeartbeats 1600000 in
theorem push2_full (M : MOp w mb wb ob xs ⟨base, cap, 0, 2, b, t, x, won, done, err⟩) (hb : base + 1 < xs.length) (hn : xs.length ≤ 100000) (hc : (cap : Int) ≤ ahd b (xs.getD base 0)) : Calls Tryd.prog 68 #[.pointer (some ⟨ob, 0, none⟩), .pointer (some ⟨mb, 0, none⟩)] w fun r w' =>
    r = .returned (.tuple #[]) ∧ MOp w' mb wb ob xs ⟨base, cap, 0, 2, b, xs.getD base 0, x, won, true, 6⟩ ∧ Kept [mb, wb, ob] w w' := by
  have HT := Lib.hid (qTopA M (by omega))
  have c3 := M.op.cell 3
  simp [opC] at c3
  have HL := Lib.hid (M.load (a := base) (by omega))
  generalize xs.getD base 0 = bb at *
  clear M
  go_enter Tryd.func68, Tryd.ntmps68
  go_wp2_with fail
  refine HT.out.mono ?_
  rintro e w1 ⟨rfl, rfl⟩
  go_wp2_with fail
  refine HL.out.mono ?_
  rintro e w1 ⟨rfl, M1, hk1⟩
  have c5 := M1.op.cell 5
  have f5 := M1.op.frozen 5
  simp [opC] at c5
  have M2 := M1.setOp 5 (U64 bb) (o' := ⟨base, cap, 0, 2, b, bb, x, won, done, err⟩) rfl
  have HM2 := Lib.hid M2
  have HK2 := Lib.hid (hk1.setCell (p := ⟨ob, 5, none⟩) (.inl (by simp)) (U64 bb))
  have c1' := M2.op.cell 1
  have c4' := M2.op.cell 4
  have c5' := M2.op.cell 5
  simp [opC] at c1' c4' c5'
  have HA := Lib.hid (qAheadA b bb)
  clear M1 hk1 M2
  go_wp2_with fail
  go_region_held3 (fun w' => w'.cell? ⟨ob, 1, none⟩ = some (.int .i64 cap) ∧ w'.cell? ⟨ob, 4, none⟩ = some (U64 b) ∧ w'.cell? ⟨ob, 5, none⟩ = some (U64 bb)) (go_keep) (first | (go_at_call 86; refine (HA.out _).mono ?_; rintro e w1 ⟨rfl, rfl⟩))
  all_goals
    go_wp2_with fail
    refine (qEnd_any HM2.out.drew 6).mono ?_
    rintro e w3 ⟨rfl, M3, hk3⟩
    go_wp2_with fail
    go_end0
    exact ⟨rfl, M3, (HK2.out.drew).trans hk3⟩
set_option maxHeartbeats 1600000 in
theorem push2_room (M : MOp w mb wb ob xs ⟨base, cap, 0, 2, b, t, x, won, done, err⟩) (hb : base + 1 < xs.length) (hn : xs.length ≤ 100000) (hc : ¬ (cap : Int) ≤ ahd b (xs.getD base 0)) : Calls Tryd.prog 68 #[.pointer (some ⟨ob, 0, none⟩), .pointer (some ⟨mb, 0, none⟩)] w fun r w' =>
    r = .returned (.tuple #[]) ∧ MOp w' mb wb ob xs ⟨base, cap, 0, 2, b, xs.getD base 0, x, won, done, err⟩ ∧ Kept [mb, wb, ob] w w' := by
  have HT := Lib.hid (qTopA M (by omega))
  have c3 := M.op.cell 3
  simp [opC] at c3
  have HL := Lib.hid (M.load (a := base) (by omega))
  generalize xs.getD base 0 = bb at *
  clear M
  go_enter Tryd.func68, Tryd.ntmps68
  go_wp2_with fail
  refine HT.out.mono ?_
  rintro e w1 ⟨rfl, rfl⟩
  go_wp2_with fail
  refine HL.out.mono ?_
  rintro e w1 ⟨rfl, M1, hk1⟩
  have c5 := M1.op.cell 5
  have f5 := M1.op.frozen 5
  simp [opC] at c5
  have M2 := M1.setOp 5 (U64 bb) (o' := ⟨base, cap, 0, 2, b, bb, x, won, done, err⟩) rfl
  have HM2 := Lib.hid M2
  have HK2 := Lib.hid (hk1.setCell (p := ⟨ob, 5, none⟩) (.inl (by simp)) (U64 bb))
  have c1' := M2.op.cell 1
  have c4' := M2.op.cell 4
  have c5' := M2.op.cell 5
  simp [opC] at c1' c4' c5'
  have HA := Lib.hid (qAheadA b bb)
  clear M1 hk1 M2
  go_wp2_with fail
  go_region_held3 (fun w' => w'.cell? ⟨ob, 1, none⟩ = some (.int .i64 cap) ∧ w'.cell? ⟨ob, 4, none⟩ = some (U64 b) ∧ w'.cell? ⟨ob, 5, none⟩ = some (U64 bb)) (go_keep) (first | (go_at_call 86; refine (HA.out _).mono ?_; rintro e w1 ⟨rfl, rfl⟩))
  all_goals
    go_wp2_with fail
    go_end0
    exact ⟨rfl, HM2.out.drew, HK2.out.drew⟩
set_option maxHeartbeats 3200000 in
theorem push3 (M : MOp w mb wb ob xs ⟨base, cap, 0, 3, b, t, x, won, done, err⟩) (hb : base + 2 + cap ≤ xs.length) (hn : xs.length ≤ 100000) (hc : 1 ≤ cap ∧ cap ≤ 1000) (ht : b < 18446744073709551616) : Calls Tryd.prog 68 #[.pointer (some ⟨ob, 0, none⟩), .pointer (some ⟨mb, 0, none⟩)] w fun r w' =>
    r = .returned (.tuple #[]) ∧ (∃ j, j < cap ∧ MOp w' mb wb ob (xs.set (base + 2 + j) x) ⟨base, cap, 0, 3, b, t, x, won, done, err⟩) ∧ Kept [mb, wb, ob] w w' := by
  have HM := Lib.hid M
  have HP := Lib.hid (fun w => qPlaceA base cap b w (by omega) hc ht)
  have c0 := M.op.cell 0
  have c1 := M.op.cell 1
  have c3 := M.op.cell 3
  have c4 := M.op.cell 4
  have c6 := M.op.cell 6
  simp [opC] at c0 c1 c3 c4 c6
  clear M
  go_enter Tryd.func68, Tryd.ntmps68
  go_wp2_with fail
  go_region_held3 (fun w' => w'.cell? ⟨ob, 0, none⟩ = some (.int .i64 base) ∧ w'.cell? ⟨ob, 1, none⟩ = some (.int .i64 cap) ∧ w'.cell? ⟨ob, 4, none⟩ = some (U64 b) ∧ w'.cell? ⟨ob, 6, none⟩ = some (U64 x)) (go_keep) (first | (go_at_call 89; refine (HP.out _).mono ?_; rintro e w1 ⟨⟨j, hj, rfl⟩, hk1⟩; have M1 := HM.out.drew.old hk1; have c0 := M1.op.cell 0; have c1 := M1.op.cell 1; have c4 := M1.op.cell 4; have c6 := M1.op.cell 6; simp [opC] at c0 c1 c4 c6; have HM1 := Lib.hid M1; have HK1 := Lib.hid (((Kept.refl [mb, wb, ob] w).drew).trans (hk1.mono (by simp))); clear M1 hk1) | (go_at_call 88; refine (HM1.out.store (a := base + 2 + j) x (by omega)).mono ?_; rintro e w2 ⟨rfl, M2, hk2⟩; have c0 := M2.op.cell 0; have c1 := M2.op.cell 1; have c4 := M2.op.cell 4; have c6 := M2.op.cell 6; simp [opC] at c0 c1 c4 c6; have HM2 := Lib.hid M2; have HK2 := Lib.hid (HK1.out.trans hk2); clear M2 hk2))
  all_goals
    go_wp2_with fail
    go_end0
    exact ⟨rfl, ⟨j, hj, HM2.out⟩, HK2.out⟩
set_option maxHeartbeats 3200000 in
theorem push4 (M : MOp w mb wb ob xs ⟨base, cap, 0, 4, b, t, x, won, done, err⟩) (hb : base + 1 < xs.length) (hn : xs.length ≤ 100000) : Calls Tryd.prog 68 #[.pointer (some ⟨ob, 0, none⟩), .pointer (some ⟨mb, 0, none⟩)] w fun r w' =>
    r = .returned (.tuple #[]) ∧ MOp w' mb wb ob (xs.set (base + 1) (up b)) ⟨base, cap, 0, 4, b, t, x, won, true, 0⟩ ∧ Kept [mb, wb, ob] w w' := by
  have HM := Lib.hid M
  have HT := Lib.hid (fun (w : World) (M : MOp w mb wb ob xs ⟨base, cap, 0, 4, b, t, x, won, done, err⟩) => qBotA M (by omega))
  have HU := wrap_up b
  have c3 := M.op.cell 3
  have c4 := M.op.cell 4
  simp [opC] at c3 c4
  have HC := Lib.hid (M.drew.store (a := base + 1) (up b) (by omega))
  clear M
  go_enter Tryd.func68, Tryd.ntmps68
  go_wp2_with fail
  go_region_held3 (fun w' => w'.cell? ⟨ob, 4, none⟩ = some (U64 b)) (first | go_keep | exact c4') (first | (go_at_call 84; refine (HT.out _ HM.out.drew).mono ?_; rintro e w1 ⟨rfl, rfl⟩) | (go_at_call 88; refine HC.out.mono ?_; rintro e w2 ⟨rfl, M2, hk2⟩; have c4' : w2.cell? ⟨ob, 4, none⟩ = some (U64 b) := (by have c := M2.op.cell 4; simp [opC] at c; exact c); have HM2 := Lib.hid M2; have HK2 := Lib.hid (((Kept.refl [mb, wb, ob] w).drew).trans hk2); clear M2 hk2))
  all_goals
    go_wp2_with fail
    refine (qEnd_any HM2.out 0).mono ?_
    rintro e w3 ⟨rfl, M3, hk3⟩
    go_wp2_with fail
    go_end0
    exact ⟨rfl, M3, HK2.out.trans hk3⟩
end
end Go.Proofs.YtahpjoknmclbfaaDoor

/- Package deque: pop, the first steps. -/
namespace Go.Proofs.YtahpjoknmclbfaaDoor
open Go.RowKit

def down (x : Nat) : Nat := (x + 18446744073709551615) % 18446744073709551616
theorem wrap_down (x : Nat) : IntKind.u64.wrap ((x : Int) - 1) = (down x : Int) := by
  unfold down
  have : IntKind.u64.wrap ((x : Int) - 1) = ((x : Int) - 1) % 18446744073709551616 := by
    simp [IntKind.wrap, IntKind.signed, IntKind.bits]
  rw [this]; omega
section
variable {w : World} {mb wb ob : Nat} {xs : List Nat} {base cap kind steps b t x err : Nat} {won done : Bool}
set_option maxHeartbeats 1600000 in
theorem pop1 (M : MOp w mb wb ob xs ⟨base, cap, 1, 1, b, t, x, won, done, err⟩) (hb : base + 1 < xs.length) (hn : xs.length ≤ 100000) : Calls Tryd.prog 69 #[.pointer (some ⟨ob, 0, none⟩), .pointer (some ⟨mb, 0, none⟩)] w fun r w' =>
    r = .returned (.tuple #[]) ∧ MOp w' mb wb ob xs ⟨base, cap, 1, 1, down (xs.getD (base + 1) 0), t, x, won, done, err⟩ ∧ Kept [mb, wb, ob] w w' := by
  have HT := Lib.hid (qBotA M (by omega))
  have HL := Lib.hid (M.load (a := base + 1) (by omega))
  have c3 := M.op.cell 3
  simp [opC] at c3
  generalize xs.getD (base + 1) 0 = bb at *
  have HU := wrap_down bb
  clear M
  go_enter Tryd.func69, Tryd.ntmps69
  go_step3
  go_wp2_with fail
  refine HT.out.mono ?_
  rintro e w1 ⟨rfl, rfl⟩
  go_wp2_with fail
  refine HL.out.mono ?_
  rintro e w1 ⟨rfl, M1, hk1⟩
  have HM1 := Lib.hid M1
  have HK1 := Lib.hid hk1
  have c4 := M1.op.cell 4
  have f4 := M1.op.frozen 4
  simp [opC] at c4
  clear M1 hk1
  go_wp2_with fail
  rw [Exit.noGoto_ret]
  refine bodyPost_ret (results_none rfl _ _ _) rfl ?_
  exact ⟨rfl, HM1.out.setOp 4 _ rfl, HK1.out.setCell (.inl (by simp)) _⟩
set_option maxHeartbeats 3200000 in
theorem pop2 (M : MOp w mb wb ob xs ⟨base, cap, 1, 2, b, t, x, won, done, err⟩) (hb : base + 1 < xs.length) (hn : xs.length ≤ 100000) : Calls Tryd.prog 69 #[.pointer (some ⟨ob, 0, none⟩), .pointer (some ⟨mb, 0, none⟩)] w fun r w' =>
    r = .returned (.tuple #[]) ∧ MOp w' mb wb ob (xs.set (base + 1) b) ⟨base, cap, 1, 2, b, t, x, won, done, err⟩ ∧ Kept [mb, wb, ob] w w' := by
  have HM := Lib.hid M
  have HT := Lib.hid (fun (w : World) (M : MOp w mb wb ob xs ⟨base, cap, 1, 2, b, t, x, won, done, err⟩) => qBotA M (by omega))
  have c3 := M.op.cell 3
  have c4 := M.op.cell 4
  simp [opC] at c3 c4
  have HC := Lib.hid (M.drew.store (a := base + 1) b (by omega))
  clear M
  go_enter Tryd.func69, Tryd.ntmps69
  go_step3
  go_wp2_with fail
  go_region_held3 (fun w' => w'.cell? ⟨ob, 4, none⟩ = some (U64 b)) (first | go_keep | exact c4') (first | (go_at_call 84; refine (HT.out _ HM.out.drew).mono ?_; rintro e w1 ⟨rfl, rfl⟩) | (go_at_call 88; refine HC.out.mono ?_; rintro e w2 ⟨rfl, M2, hk2⟩; have c4' : w2.cell? ⟨ob, 4, none⟩ = some (U64 b) := (by have c := M2.op.cell 4; simp [opC] at c; exact c); have HM2 := Lib.hid M2; have HK2 := Lib.hid (((Kept.refl [mb, wb, ob] w).drew).trans hk2); clear M2 hk2))
  all_goals
    go_wp2_with fail
    rw [Exit.noGoto_ret]
    refine bodyPost_ret (results_none rfl _ _ _) rfl ?_
    exact ⟨rfl, HM2.out, HK2.out⟩
set_option maxHeartbeats 1600000 in
theorem pop3 (M : MOp w mb wb ob xs ⟨base, cap, 1, 3, b, t, x, won, done, err⟩) (hb : base + 1 < xs.length) (hn : xs.length ≤ 100000) : Calls Tryd.prog 69 #[.pointer (some ⟨ob, 0, none⟩), .pointer (some ⟨mb, 0, none⟩)] w fun r w' =>
    r = .returned (.tuple #[]) ∧ MOp w' mb wb ob xs ⟨base, cap, 1, 3, b, xs.getD base 0, x, won, done, err⟩ ∧ Kept [mb, wb, ob] w w' := by
  have HT := Lib.hid (qTopA M (by omega))
  have HL := Lib.hid (M.load (a := base) (by omega))
  have c3 := M.op.cell 3
  simp [opC] at c3
  generalize xs.getD base 0 = bb at *
  clear M
  go_enter Tryd.func69, Tryd.ntmps69
  go_step3
  go_wp2_with fail
  refine HT.out.mono ?_
  rintro e w1 ⟨rfl, rfl⟩
  go_wp2_with fail
  refine HL.out.mono ?_
  rintro e w1 ⟨rfl, M1, hk1⟩
  have HM1 := Lib.hid M1
  have HK1 := Lib.hid hk1
  have c5 := M1.op.cell 5
  have f5 := M1.op.frozen 5
  simp [opC] at c5
  clear M1 hk1
  go_wp2_with fail
  rw [Exit.noGoto_ret]
  refine bodyPost_ret (results_none rfl _ _ _) rfl ?_
  exact ⟨rfl, HM1.out.setOp 5 _ rfl, HK1.out.setCell (.inl (by simp)) _⟩
set_option maxHeartbeats 1600000 in
theorem pop5 (M : MOp w mb wb ob xs ⟨base, cap, 1, 5, b, t, x, won, done, err⟩) (hb : base + 1 < xs.length) (hn : xs.length ≤ 100000) : Calls Tryd.prog 69 #[.pointer (some ⟨ob, 0, none⟩), .pointer (some ⟨mb, 0, none⟩)] w fun r w' =>
    r = .returned (.tuple #[]) ∧ MOp w' mb wb ob (if xs.getD base 0 = t then xs.set base (up t) else xs) ⟨base, cap, 1, 5, b, t, x, decide (xs.getD base 0 = t), done, err⟩ ∧ Kept [mb, wb, ob] w w' := by
  have HT := Lib.hid (qTakeA M (by omega) hn)
  have c3 := M.op.cell 3
  simp [opC] at c3
  generalize (if xs.getD base 0 = t then xs.set base (up t) else xs) = ys at *
  generalize decide (xs.getD base 0 = t) = d at *
  clear M
  go_enter Tryd.func69, Tryd.ntmps69
  go_step3
  go_wp2_with fail
  refine HT.out.mono ?_
  rintro e w1 ⟨rfl, M1, hk1⟩
  have HM1 := Lib.hid M1
  have HK1 := Lib.hid hk1
  have c7 := M1.op.cell 7
  have f7 := M1.op.frozen 7
  simp [opC] at c7
  clear M1 hk1
  go_wp2_with fail
  rw [Exit.noGoto_ret]
  refine bodyPost_ret (results_none rfl _ _ _) rfl ?_
  exact ⟨rfl, HM1.out.setOp 7 _ rfl, HK1.out.setCell (.inl (by simp)) _⟩
end
end Go.Proofs.YtahpjoknmclbfaaDoor

