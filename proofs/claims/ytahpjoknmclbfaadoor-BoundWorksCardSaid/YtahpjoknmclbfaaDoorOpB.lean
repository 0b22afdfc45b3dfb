/- Package deque: steal; Package deque: ahead, place, steal; Package deque: the address of a number's place; Package deque: the top is taken; the steal's last step. -/
import Derived.Test.YtahpjoknmclbfaaDoorOpA
import Derived.Deep.DrawnRows
import Derived.Laws.Bits64b

/- Package deque: steal. -/
namespace Go.Proofs.YtahpjoknmclbfaaDoor
open Go.RowKit
attribute [local go_sem ↓] Go.wp_at_zero Go.wp_at_succ

section
variable {w : World} {mb wb ob : Nat} {xs : List Nat} {base cap kind steps b t x err : Nat} {won done : Bool}
set_option maxHeartbeats 1600000 in
theorem qEnd_any (M : MOp w mb wb ob xs ⟨base, cap, kind, steps, b, t, x, won, done, err⟩) (e : Nat) : Calls Tryd.prog 87 #[.pointer (some ⟨ob, 0, none⟩), .int .i64 e] w fun r w' =>
    r = .returned (.tuple #[]) ∧ MOp w' mb wb ob xs ⟨base, cap, kind, steps, b, t, x, won, true, e⟩ ∧ Kept [mb, wb, ob] w w' := by
  have HM := Lib.hid M
  have hf := M.op.frozen
  have c7 := M.op.cell 8
  have c8 := M.op.cell 9
  simp [opC] at c7 c8
  clear M
  go_enter Tryd.func87, Tryd.ntmps87
  go_wp2
  go_end0
  exact ⟨rfl, (HM.out.setOp 8 _ (o' := ⟨base, cap, kind, steps, b, t, x, won, true, err⟩) rfl).setOp 9 _ rfl, ((Kept.refl _ w).setCell (.inl (by simp)) _).setCell (.inl (by simp)) _⟩
set_option maxHeartbeats 800000 in
theorem qTopA (M : MOp w mb wb ob xs ⟨base, cap, kind, steps, b, t, x, won, done, err⟩) (hb : base ≤ 100000) : Calls Tryd.prog 85 #[.pointer (some ⟨ob, 0, none⟩)] w fun r w' => r = .returned (.int .i64 base) ∧ w = w' := by
  have c0 := M.op.cell 0
  simp [opC] at c0
  have hw : IntKind.i64.wrap (base : Int) = (base : Int) := IntWalk.i64_in _ (by omega)
  go_enter Tryd.func85, Tryd.ntmps85
  go_wp2
  go_ret
  exact ⟨by simp [hw], rfl⟩
set_option maxHeartbeats 800000 in
theorem qBotA (M : MOp w mb wb ob xs ⟨base, cap, kind, steps, b, t, x, won, done, err⟩) (hb : base ≤ 100000) : Calls Tryd.prog 84 #[.pointer (some ⟨ob, 0, none⟩)] w fun r w' => r = .returned (.int .i64 (base + 1 : Nat)) ∧ w = w' := by
  have c0 := M.op.cell 0
  simp [opC] at c0
  have hw : IntKind.i64.wrap ((base : Int) + 1) = (base : Int) + 1 := IntWalk.i64_in _ (by omega)
  go_enter Tryd.func84, Tryd.ntmps84
  go_wp2
  go_ret
  exact ⟨by simp [hw], rfl⟩
set_option maxHeartbeats 1600000 in
theorem steal1 (M : MOp w mb wb ob xs ⟨base, cap, 2, 1, b, t, x, won, done, err⟩) (hb : base + 1 < xs.length) (hn : xs.length ≤ 100000) : Calls Tryd.prog 70 #[.pointer (some ⟨ob, 0, none⟩), .pointer (some ⟨mb, 0, none⟩)] w fun r w' =>
    r = .returned (.tuple #[]) ∧ MOp w' mb wb ob xs ⟨base, cap, 2, 1, b, xs.getD base 0, x, won, done, err⟩ ∧ Kept [mb, wb, ob] w w' := by
  have HM := Lib.hid M
  have HT := Lib.hid (qTopA M (by omega))
  have c3 := M.op.cell 3
  simp [opC] at c3
  clear M
  go_enter Tryd.func70, Tryd.ntmps70
  go_wp2_with fail
  refine HT.out.mono ?_
  rintro e w1 ⟨rfl, rfl⟩
  go_wp2_with fail
  refine (HM.out.load (a := base) (by omega)).mono ?_
  rintro e w1 ⟨rfl, M1, hk1⟩
  have HM1 := Lib.hid M1
  have HK1 := Lib.hid hk1
  have c5 := M1.op.cell 5
  have f5 := M1.op.frozen 5
  simp [opC] at c5
  clear M1 hk1
  go_wp2_with fail
  go_end0
  exact ⟨rfl, HM1.out.setOp 5 _ rfl, HK1.out.setCell (.inl (by simp)) _⟩
end
end Go.Proofs.YtahpjoknmclbfaaDoor

/- Package deque: ahead, place, steal. -/
namespace Go.Proofs.YtahpjoknmclbfaaDoor
open Go.RowKit

def ahd (p q : Nat) : Int := wrap64 (IntKind.u64.wrap ((p : Int) - q))
set_option maxHeartbeats 800000 in
theorem qAheadA (p q : Nat) (w : World) : Calls Tryd.prog 86 #[U64 p, U64 q] w fun r w' => r = .returned (.int .i64 (ahd p q)) ∧ w = w' := by
  go_enter Tryd.func86, Tryd.ntmps86
  go_wp2
  go_ret
  exact ⟨rfl, rfl⟩
section
variable {w : World} {mb wb ob : Nat} {xs : List Nat} {base cap kind steps b t x err : Nat} {won done : Bool}
set_option maxHeartbeats 1600000 in
theorem steal2_none (M : MOp w mb wb ob xs ⟨base, cap, 2, 2, b, t, x, won, done, err⟩) (hb : base + 1 < xs.length) (hn : xs.length ≤ 100000) (hc : ahd (xs.getD (base + 1) 0) t ≤ 0) : Calls Tryd.prog 70 #[.pointer (some ⟨ob, 0, none⟩), .pointer (some ⟨mb, 0, none⟩)] w fun r w' =>
    r = .returned (.tuple #[]) ∧ MOp w' mb wb ob xs ⟨base, cap, 2, 2, xs.getD (base + 1) 0, t, x, won, true, 7⟩ ∧ Kept [mb, wb, ob] w w' := by
  have HT := Lib.hid (qBotA M (by omega))
  have c3 := M.op.cell 3
  simp [opC] at c3
  have HL := Lib.hid (M.load (a := base + 1) (by omega))
  generalize xs.getD (base + 1) 0 = bb at *
  clear M
  go_enter Tryd.func70, Tryd.ntmps70
  go_wp2_with fail
  refine HT.out.mono ?_
  rintro e w1 ⟨rfl, rfl⟩
  go_wp2_with fail
  refine HL.out.mono ?_
  rintro e w1 ⟨rfl, M1, hk1⟩
  have c4 := M1.op.cell 4
  have f4 := M1.op.frozen 4
  simp [opC] at c4
  have M2 := M1.setOp 4 (U64 bb) (o' := ⟨base, cap, 2, 2, bb, t, x, won, done, err⟩) rfl
  have HM2 := Lib.hid M2
  have HK2 := Lib.hid (hk1.setCell (p := ⟨ob, 4, none⟩) (.inl (by simp)) (U64 bb))
  have c4' := M2.op.cell 4
  have c5' := M2.op.cell 5
  simp [opC] at c4' c5'
  have HA := Lib.hid (qAheadA bb t)
  clear M1 hk1 M2
  go_wp2_with fail
  go_region_held3 (fun w' => w'.cell? ⟨ob, 4, none⟩ = some (U64 bb) ∧ w'.cell? ⟨ob, 5, none⟩ = some (U64 t)) (go_keep) (first | (go_at_call 86; refine (HA.out _).mono ?_; rintro e w1 ⟨rfl, rfl⟩))
  all_goals
    go_wp2_with fail
    refine (qEnd_any HM2.out.drew 7).mono ?_
    rintro e w3 ⟨rfl, M3, hk3⟩
    go_wp2_with fail
    go_end0
    exact ⟨rfl, M3, (HK2.out.drew).trans hk3⟩
set_option maxHeartbeats 1600000 in
theorem steal2_some (M : MOp w mb wb ob xs ⟨base, cap, 2, 2, b, t, x, won, done, err⟩) (hb : base + 1 < xs.length) (hn : xs.length ≤ 100000) (hc : ¬ ahd (xs.getD (base + 1) 0) t ≤ 0) : Calls Tryd.prog 70 #[.pointer (some ⟨ob, 0, none⟩), .pointer (some ⟨mb, 0, none⟩)] w fun r w' =>
    r = .returned (.tuple #[]) ∧ MOp w' mb wb ob xs ⟨base, cap, 2, 2, xs.getD (base + 1) 0, t, x, won, done, err⟩ ∧ Kept [mb, wb, ob] w w' := by
  have HT := Lib.hid (qBotA M (by omega))
  have c3 := M.op.cell 3
  simp [opC] at c3
  have HL := Lib.hid (M.load (a := base + 1) (by omega))
  generalize xs.getD (base + 1) 0 = bb at *
  clear M
  go_enter Tryd.func70, Tryd.ntmps70
  go_wp2_with fail
  refine HT.out.mono ?_
  rintro e w1 ⟨rfl, rfl⟩
  go_wp2_with fail
  refine HL.out.mono ?_
  rintro e w1 ⟨rfl, M1, hk1⟩
  have c4 := M1.op.cell 4
  have f4 := M1.op.frozen 4
  simp [opC] at c4
  have M2 := M1.setOp 4 (U64 bb) (o' := ⟨base, cap, 2, 2, bb, t, x, won, done, err⟩) rfl
  have HM2 := Lib.hid M2
  have HK2 := Lib.hid (hk1.setCell (p := ⟨ob, 4, none⟩) (.inl (by simp)) (U64 bb))
  have c4' := M2.op.cell 4
  have c5' := M2.op.cell 5
  simp [opC] at c4' c5'
  have HA := Lib.hid (qAheadA bb t)
  clear M1 hk1 M2
  go_wp2_with fail
  go_region_held3 (fun w' => w'.cell? ⟨ob, 4, none⟩ = some (U64 bb) ∧ w'.cell? ⟨ob, 5, none⟩ = some (U64 t)) (go_keep) (first | (go_at_call 86; refine (HA.out _).mono ?_; rintro e w1 ⟨rfl, rfl⟩))
  all_goals
    go_wp2_with fail
    go_end0
    exact ⟨rfl, HM2.out.drew, HK2.out.drew⟩
end
end Go.Proofs.YtahpjoknmclbfaaDoor

/- Package deque: the address of a number's place. -/
namespace Go.Proofs.YtahpjoknmclbfaaDoor
open Go.RowKit

set_option maxHeartbeats 800000 in
theorem qPlaceA (base cap k : Nat) (w : World) (hb : base ≤ 100000) (hc : 1 ≤ cap ∧ cap ≤ 1000) (hk : k < 18446744073709551616) : Calls Tryd.prog 89 #[.agg #[.int .i64 base, .int .i64 cap], U64 k] w fun r w' => (∃ j, j < cap ∧ r = .returned (.int .i64 (base + 2 + j : Nat))) ∧ Kept [] w w' := by
  have h1 : IntKind.i64.wrap ((base : Int) + 2) = (base : Int) + 2 := IntWalk.i64_in _ (by omega)
  have h2 : IntKind.i64.wrap ((cap : Int) - 1) = (cap : Int) - 1 := IntWalk.i64_in _ (by omega)
  have h3 : IntKind.u64.wrap ((cap : Int) - 1) = (cap : Int) - 1 := IntWalk.u64_in _ (by omega)
  have hB := Blk.new w 45 #[.int .i64 base, .int .i64 cap]
  have hcl := hB.cell
  clear hB
  go_enter Tryd.func89, Tryd.ntmps89
  go_wp2
  go_ret
  have e : bits BinOp.and IntKind.u64 (k : Int) ((cap : Int) - 1) = ((k &&& (cap - 1) : Nat) : Int) := by
    have := bits_and_u64_nat k (cap - 1) hk (by omega)
    rw [← this, Int.ofNat_sub hc.1]; rfl
  have hj : k &&& (cap - 1) ≤ cap - 1 := Nat.and_le_right
  refine ⟨⟨k &&& (cap - 1), by omega, ?_⟩, (Kept.refl [] w).alloc _⟩
  simp only [e]
  have h4 : wrap64 ((k &&& (cap - 1) : Nat) : Int) = ((k &&& (cap - 1) : Nat) : Int) := IntWalk.wrap64_in _ (by omega)
  have h5 : wrap64 ((base : Int) + 2 + ((k &&& (cap - 1) : Nat) : Int)) = (base : Int) + 2 + ((k &&& (cap - 1) : Nat) : Int) := IntWalk.wrap64_in _ (by omega)
  rw [h4, h5]
  simp
/-- All words are small. -/
def Small (xs : List Nat) : Prop := ∀ a, xs.getD a 0 < 18446744073709551616
section
variable {w : World} {mb wb ob : Nat} {xs : List Nat} {base cap kind steps b t x err : Nat} {won done : Bool}
theorem MOp.old {o : OpS} {w' : World} (M : MOp w mb wb ob xs o) (hk : Kept [] w w') : MOp w' mb wb ob xs o := by
  obtain ⟨u, h⟩ := M.mem
  exact ⟨⟨u, h.kept hk (by simp)⟩, M.words.kept hk (by simp), M.op.kept hk (by simp)⟩
set_option maxHeartbeats 3200000 in
theorem steal3 (M : MOp w mb wb ob xs ⟨base, cap, 2, 3, b, t, x, won, done, err⟩) (hb : base + 2 + cap ≤ xs.length) (hn : xs.length ≤ 100000) (hc : 1 ≤ cap ∧ cap ≤ 1000) (ht : t < 18446744073709551616) : Calls Tryd.prog 70 #[.pointer (some ⟨ob, 0, none⟩), .pointer (some ⟨mb, 0, none⟩)] w fun r w' =>
    r = .returned (.tuple #[]) ∧ (∃ j, j < cap ∧ MOp w' mb wb ob xs ⟨base, cap, 2, 3, b, t, xs.getD (base + 2 + j) 0, won, done, err⟩) ∧ Kept [mb, wb, ob] w w' := by
  have HM := Lib.hid M
  have HP := Lib.hid (fun w => qPlaceA base cap t w (by omega) hc ht)
  have c0 := M.op.cell 0
  have c1 := M.op.cell 1
  have c3 := M.op.cell 3
  have c5 := M.op.cell 5
  simp [opC] at c0 c1 c3 c5
  clear M
  go_enter Tryd.func70, Tryd.ntmps70
  go_wp2_with fail
  go_region_held3 (fun w' => w'.cell? ⟨ob, 0, none⟩ = some (.int .i64 base) ∧ w'.cell? ⟨ob, 1, none⟩ = some (.int .i64 cap) ∧ w'.cell? ⟨ob, 5, none⟩ = some (U64 t)) (first | go_keep | exact ⟨(World.cell?_setCell_other _ ⟨ob, 6, none⟩ ⟨ob, 0, none⟩ _ (by simp)).trans c0, (World.cell?_setCell_other _ ⟨ob, 6, none⟩ ⟨ob, 1, none⟩ _ (by simp)).trans c1, (World.cell?_setCell_other _ ⟨ob, 6, none⟩ ⟨ob, 5, none⟩ _ (by simp)).trans c5⟩) (first | (go_at_call 89; refine (HP.out _).mono ?_; rintro e w1 ⟨⟨j, hj, rfl⟩, hk1⟩; have M1 := HM.out.drew.old hk1; have c0 := M1.op.cell 0; have c1 := M1.op.cell 1; have c5 := M1.op.cell 5; simp [opC] at c0 c1 c5; have HM1 := Lib.hid M1; have HK1 := Lib.hid (((Kept.refl [mb, wb, ob] w).drew).trans (hk1.mono (by simp))); clear M1 hk1) | (go_at_call 48; refine (HM1.out.load (a := base + 2 + j) (by omega)).mono ?_; rintro e w2 ⟨rfl, M2, hk2⟩; have c0 := M2.op.cell 0; have c1 := M2.op.cell 1; have c5 := M2.op.cell 5; have c6 := M2.op.cell 6; have f6 := M2.op.frozen 6; simp [opC] at c0 c1 c5 c6; have HM2 := Lib.hid M2; have HK2 := Lib.hid (HK1.out.trans hk2); clear M2 hk2))
  all_goals
    go_wp2_with fail
    go_end0
    exact ⟨rfl, ⟨j, hj, HM2.out.setOp 6 _ rfl⟩, HK2.out.setCell (.inl (by simp)) _⟩
end
end Go.Proofs.YtahpjoknmclbfaaDoor

/- Package deque: the top is taken; the steal's last step. -/
namespace Go.Proofs.YtahpjoknmclbfaaDoor
open Go.RowKit

def up (t : Nat) : Nat := (t + 1) % 18446744073709551616
theorem wrap_up (t : Nat) : IntKind.u64.wrap ((t : Int) + 1) = (up t : Int) := by
  unfold up
  have : IntKind.u64.wrap ((t : Int) + 1) = ((t : Int) + 1) % 18446744073709551616 := by
    simp [IntKind.wrap, IntKind.signed, IntKind.bits]
  rw [this]; omega
section
variable {w : World} {mb wb ob : Nat} {xs : List Nat} {base cap kind steps b t x err : Nat} {won done : Bool}
set_option maxHeartbeats 3200000 in
theorem qTakeA (M : MOp w mb wb ob xs ⟨base, cap, kind, steps, b, t, x, won, done, err⟩) (hb : base + 1 < xs.length) (hn : xs.length ≤ 100000) : Calls Tryd.prog 90 #[.pointer (some ⟨ob, 0, none⟩), .pointer (some ⟨mb, 0, none⟩)] w fun r w' =>
    r = .returned (.bool (decide (xs.getD base 0 = t))) ∧ MOp w' mb wb ob (if xs.getD base 0 = t then xs.set base (up t) else xs) ⟨base, cap, kind, steps, b, t, x, won, done, err⟩ ∧ Kept [mb, wb, ob] w w' := by
  have HM := Lib.hid M
  have HT := Lib.hid (fun (w : World) (M : MOp w mb wb ob xs ⟨base, cap, kind, steps, b, t, x, won, done, err⟩) => qTopA M (by omega))
  have HU := wrap_up t
  have c5 := M.op.cell 5
  simp [opC] at c5
  have HC := Lib.hid (M.drew.cas (a := base) t (up t) (by omega))
  clear M
  generalize (if xs.getD base 0 = t then xs.set base (up t) else xs) = ys at *
  generalize decide (xs.getD base 0 = t) = d at *
  go_enter Tryd.func90, Tryd.ntmps90
  go_wp2_with fail
  go_region_held3 (fun w' => w'.cell? ⟨ob, 5, none⟩ = some (U64 t)) (first | go_keep | exact c5') (first | (go_at_call 85; refine (HT.out _ HM.out.drew).mono ?_; rintro e w1 ⟨rfl, rfl⟩) | (go_at_call 95; refine HC.out.mono ?_; rintro e w2 ⟨rfl, M2, hk2⟩; have c5' : w2.cell? ⟨ob, 5, none⟩ = some (U64 t) := (by have c := M2.op.cell 5; simp [opC] at c; exact c); have HM2 := Lib.hid M2; have HK2 := Lib.hid (((Kept.refl [mb, wb, ob] w).drew).trans hk2); clear M2 hk2))
  all_goals
    go_wp2_with fail
    go_ret
    exact ⟨rfl, HM2.out, HK2.out⟩
set_option maxHeartbeats 3200000 in
theorem steal4_yes (M : MOp w mb wb ob xs ⟨base, cap, 2, 4, b, t, x, won, done, err⟩) (hb : base + 1 < xs.length) (hn : xs.length ≤ 100000) (hc : xs.getD base 0 = t) : Calls Tryd.prog 70 #[.pointer (some ⟨ob, 0, none⟩), .pointer (some ⟨mb, 0, none⟩)] w fun r w' =>
    r = .returned (.tuple #[]) ∧ MOp w' mb wb ob (xs.set base (up t)) ⟨base, cap, 2, 4, b, t, x, won, true, 0⟩ ∧ Kept [mb, wb, ob] w w' := by
  have HE := Lib.hid (qEnd_any M 8)
  have c3 := M.op.cell 3
  simp [opC] at c3
  clear M
  go_enter Tryd.func70, Tryd.ntmps70
  go_wp2_with fail
  refine HE.out.mono ?_
  rintro e w1 ⟨rfl, M1, hk1⟩
  have HK1 := Lib.hid hk1
  have HT := Lib.hid (qTakeA M1 hb hn)
  rw [if_pos hc, decide_eq_true hc] at HT
  clear M1 hk1
  go_wp2_with fail
  refine HT.out.mono ?_
  rintro e w2 ⟨rfl, M2, hk2⟩
  have HK2 := Lib.hid (HK1.out.trans hk2)
  have HE2 := Lib.hid (qEnd_any M2 0)
  clear M2 hk2
  go_wp2_with fail
  refine HE2.out.mono ?_
  rintro e w3 ⟨rfl, M3, hk3⟩
  have HK3 := Lib.hid (HK2.out.trans hk3)
  have HM3 := Lib.hid M3
  clear M3 hk3
  go_wp2_with fail
  go_end0
  exact ⟨rfl, HM3.out, HK3.out⟩
set_option maxHeartbeats 3200000 in
theorem steal4_no (M : MOp w mb wb ob xs ⟨base, cap, 2, 4, b, t, x, won, done, err⟩) (hb : base + 1 < xs.length) (hn : xs.length ≤ 100000) (hc : ¬ xs.getD base 0 = t) : Calls Tryd.prog 70 #[.pointer (some ⟨ob, 0, none⟩), .pointer (some ⟨mb, 0, none⟩)] w fun r w' =>
    r = .returned (.tuple #[]) ∧ MOp w' mb wb ob xs ⟨base, cap, 2, 4, b, t, x, won, true, 8⟩ ∧ Kept [mb, wb, ob] w w' := by
  have HE := Lib.hid (qEnd_any M 8)
  have c3 := M.op.cell 3
  simp [opC] at c3
  clear M
  go_enter Tryd.func70, Tryd.ntmps70
  go_wp2_with fail
  refine HE.out.mono ?_
  rintro e w1 ⟨rfl, M1, hk1⟩
  have HK1 := Lib.hid hk1
  have HT := Lib.hid (qTakeA M1 hb hn)
  rw [if_neg hc, decide_eq_false hc] at HT
  clear M1 hk1
  go_wp2_with fail
  refine HT.out.mono ?_
  rintro e w2 ⟨rfl, M2, hk2⟩
  have HK2 := Lib.hid (HK1.out.trans hk2)
  have HM2 := Lib.hid M2
  clear M2 hk2
  go_wp2_with fail
  go_end0
  exact ⟨rfl, HM2.out, HK2.out⟩
end
end Go.Proofs.YtahpjoknmclbfaaDoor

