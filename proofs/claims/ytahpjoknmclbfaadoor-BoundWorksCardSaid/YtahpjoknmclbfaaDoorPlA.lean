/- Numbers of places as words of 64 bits: plain facts; Package deque: pop, its fourth and its last step; Package deque: a step of an operation, and what it tells; What a step of an operation does to its deque's ends: plain; Package deque: Step, Result, Seen, Top, Bottom, Steps. -/
import Derived.Test.YtahpjoknmclbfaaDoorOpC
import Derived.ScopeJumps

/- Numbers of places as words of 64 bits: plain facts. -/
namespace Go.Proofs.YtahpjoknmclbfaaDoor
open Go.RowKit

def enc (z : Int) : Nat := (z % 18446744073709551616).toNat
theorem enc_cast (z : Int) : ((enc z : Nat) : Int) = z % 18446744073709551616 := by unfold enc; omega
theorem enc_lt (z : Int) : enc z < 18446744073709551616 := by unfold enc; omega
theorem ahd_enc (x y : Int) (h : -9223372036854775808 ≤ x - y ∧ x - y < 9223372036854775808) : ahd (enc x) (enc y) = x - y := by
  unfold ahd
  rw [enc_cast, enc_cast]
  have hu : IntKind.u64.wrap (x % 18446744073709551616 - y % 18446744073709551616) = (x % 18446744073709551616 - y % 18446744073709551616) % 18446744073709551616 := by
    simp [IntKind.wrap, IntKind.signed, IntKind.bits]
  rw [hu]
  unfold wrap64
  omega
theorem up_enc (x : Int) : up (enc x) = enc (x + 1) := by
  have := enc_cast x
  have h2 := enc_cast (x + 1)
  unfold up
  omega
theorem down_enc (x : Int) : down (enc x) = enc (x - 1) := by
  have := enc_cast x
  have h2 := enc_cast (x - 1)
  unfold down
  omega
theorem enc_inj {x y : Int} (h : -9223372036854775808 ≤ x - y ∧ x - y < 9223372036854775808) (e : enc x = enc y) : x = y := by
  have h1 := enc_cast x
  have h2 := enc_cast y
  omega
/-- A deque's ends in the words: top T, bottom B; n bounds both. -/
structure Ends (xs : List Nat) (base : Nat) (cap : Nat) (n : Nat) (T B : Int) : Prop where
  top : xs.getD base 0 = enc T
  bot : xs.getD (base + 1) 0 = enc B
  t0 : 0 ≤ T ∧ T ≤ n
  b0 : -1 ≤ B + n ∧ B ≤ n
  room : B - T ≤ cap
end Go.Proofs.YtahpjoknmclbfaaDoor

/- Package deque: pop, its fourth and its last step. -/
namespace Go.Proofs.YtahpjoknmclbfaaDoor
open Go.RowKit

/-- A scope out of which a goto jumps ahead, to a label. -/
theorem wp_scope_fwd {P : Program} {a : Act} {w : World} {Q : Exit → Act → World → Prop} {c rest : Code} (l : Nat) (hf : findLabel c l = some rest)
    (h : c.wp P (Exit.jump l (fun a w => rest.wp P (Exit.noGoto Q) a w) Q) a w) : (Code.scope c).wp P Q a w := by
  refine wp_scope_jumps l _ (fun _ _ => 0) hf h (fun a w hJ => wp_mono hJ ?_)
  intro e a' w' h
  cases e <;> first | exact h | exact h.elim
section
variable {w : World} {mb wb ob : Nat} {xs : List Nat} {base cap kind steps b t x err : Nat} {won done : Bool}
set_option maxRecDepth 100000 in
set_option maxHeartbeats 3200000 in
theorem pop4_empty (M : MOp w mb wb ob xs ⟨base, cap, 1, 4, b, t, x, won, done, err⟩) (hb : base + 2 + cap ≤ xs.length) (hn : xs.length ≤ 100000) (hc : 0 < ahd t b) : Calls Tryd.prog 69 #[.pointer (some ⟨ob, 0, none⟩), .pointer (some ⟨mb, 0, none⟩)] w fun r w' =>
    r = .returned (.tuple #[]) ∧ MOp w' mb wb ob (xs.set (base + 1) t) ⟨base, cap, 1, 4, b, t, x, won, true, 7⟩ ∧ Kept [mb, wb, ob] w w' := by
  have HM := Lib.hid M
  have HA := Lib.hid (qAheadA t b)
  have c3 := M.op.cell 3
  have c4 := M.op.cell 4
  have c5 := M.op.cell 5
  simp [opC] at c3 c4 c5
  clear M
  go_enter Tryd.func69, Tryd.ntmps69
  refine wp_scope_fwd 1 (by rfl) ?_
  go_wp2_with fail
  go_region_held3 (fun w' => w'.cell? ⟨ob, 4, none⟩ = some (U64 b) ∧ w'.cell? ⟨ob, 5, none⟩ = some (U64 t)) (go_keep) (first | (go_at_call 86; refine (HA.out _).mono ?_; rintro e w1 ⟨rfl, rfl⟩))
  all_goals
    go_wp2_with fail
    go_step3
    simp only [Exit.then]
    refine ⟨rfl, ?_⟩
    have HM1 := Lib.hid HM.out.drew
    have HT := Lib.hid (fun (w : World) (M : MOp w mb wb ob xs ⟨base, cap, 1, 4, b, t, x, won, done, err⟩) => qBotA M (by omega))
    have HC := Lib.hid (HM1.out.drew.store (a := base + 1) t (by omega))
    have c5 := HM1.out.op.cell 5
    simp [opC] at c5
    go_wp2_with fail
    go_region_held3 (fun w' => w'.cell? ⟨ob, 5, none⟩ = some (U64 t)) (first | go_keep | exact c5') (first | (go_at_call 84; refine (HT.out _ HM1.out.drew).mono ?_; rintro e w1 ⟨rfl, rfl⟩) | (go_at_call 88; refine HC.out.mono ?_; rintro e w2 ⟨rfl, M2, hk2⟩; have c5' : w2.cell? ⟨ob, 5, none⟩ = some (U64 t) := (by have c := M2.op.cell 5; simp [opC] at c; exact c); have HM2 := Lib.hid M2; have HK2 := Lib.hid (((((Kept.refl [mb, wb, ob] w).drew)).drew).trans hk2); clear M2 hk2))
    all_goals
      go_wp2_with fail
      refine (qEnd_any HM2.out 7).mono ?_
      rintro e w3 ⟨rfl, M3, hk3⟩
      go_wp2_with fail
      simp only [Exit.noGoto]
      refine bodyPost_ret (results_none rfl _ _ _) rfl ?_
      exact ⟨rfl, M3, HK2.out.trans hk3⟩
set_option maxRecDepth 100000 in
set_option maxHeartbeats 3200000 in
theorem pop4_more (M : MOp w mb wb ob xs ⟨base, cap, 1, 4, b, t, x, won, done, err⟩) (hb : base + 2 + cap ≤ xs.length) (hn : xs.length ≤ 100000) (hcap : 1 ≤ cap ∧ cap ≤ 1000) (hbb : b < 18446744073709551616) (hc : ¬ 0 < ahd t b) (hd : 0 < ahd b t) : Calls Tryd.prog 69 #[.pointer (some ⟨ob, 0, none⟩), .pointer (some ⟨mb, 0, none⟩)] w fun r w' =>
    r = .returned (.tuple #[]) ∧ (∃ j, j < cap ∧ MOp w' mb wb ob xs ⟨base, cap, 1, 4, b, t, xs.getD (base + 2 + j) 0, won, true, 0⟩) ∧ Kept [mb, wb, ob] w w' := by
  have HP := Lib.hid (fun w => qPlaceA base cap b w (by omega) hcap hbb)
  have HB := Lib.hid (qAheadA b t)
  have HM := Lib.hid M
  have HA := Lib.hid (qAheadA t b)
  have c0 := M.op.cell 0
  have c1 := M.op.cell 1
  have c3 := M.op.cell 3
  have c4 := M.op.cell 4
  have c5 := M.op.cell 5
  simp [opC] at c0 c1 c3 c4 c5
  clear M
  go_enter Tryd.func69, Tryd.ntmps69
  go_step3
  go_wp2_with fail
  go_region_held3 (fun w' => w'.cell? ⟨ob, 4, none⟩ = some (U64 b) ∧ w'.cell? ⟨ob, 5, none⟩ = some (U64 t)) (go_keep) (first | (go_at_call 86; refine (HA.out _).mono ?_; rintro e w1 ⟨rfl, rfl⟩))
  all_goals
    go_wp2_with fail
    go_region_held3 (fun w' => w'.cell? ⟨ob, 0, none⟩ = some (.int .i64 base) ∧ w'.cell? ⟨ob, 1, none⟩ = some (.int .i64 cap) ∧ w'.cell? ⟨ob, 4, none⟩ = some (U64 b)) (first | go_keep | exact ⟨(World.cell?_setCell_other _ ⟨ob, 6, none⟩ ⟨ob, 0, none⟩ _ (by simp)).trans c0, (World.cell?_setCell_other _ ⟨ob, 6, none⟩ ⟨ob, 1, none⟩ _ (by simp)).trans c1, (World.cell?_setCell_other _ ⟨ob, 6, none⟩ ⟨ob, 4, none⟩ _ (by simp)).trans c4⟩) (first | (go_at_call 89; refine (HP.out _).mono ?_; rintro e w1 ⟨⟨j, hj, rfl⟩, hk1⟩; have M1 := HM.out.drew.drew.old hk1; have c0 := M1.op.cell 0; have c1 := M1.op.cell 1; have c4 := M1.op.cell 4; simp [opC] at c0 c1 c4; have HM1 := Lib.hid M1; have HK1 := Lib.hid ((((Kept.refl [mb, wb, ob] w).drew).drew).trans (hk1.mono (by simp))); clear M1 hk1) | (go_at_call 48; refine (HM1.out.load (a := base + 2 + j) (by omega)).mono ?_; rintro e w2 ⟨rfl, M2, hk2⟩; have c0 := M2.op.cell 0; have c1 := M2.op.cell 1; have c4 := M2.op.cell 4; have c6 := M2.op.cell 6; have f6 := M2.op.frozen 6; simp [opC] at c0 c1 c4 c6; have HM2 := Lib.hid M2; have HK2 := Lib.hid (HK1.out.trans hk2); clear M2 hk2))
    all_goals
      go_wp2_with fail
      have HM3 := Lib.hid (HM2.out.setOp 6 (U64 (xs.getD (base + 2 + j) 0)) (o' := ⟨base, cap, 1, 4, b, t, xs.getD (base + 2 + j) 0, won, done, err⟩) rfl)
      have HK3 := Lib.hid (HK2.out.setCell (p := ⟨ob, 6, none⟩) (.inl (by simp)) (U64 (xs.getD (base + 2 + j) 0)))
      have c4 := HM3.out.op.cell 4
      have c5 := HM3.out.op.cell 5
      simp [opC] at c4 c5
      go_region_held3 (fun w' => w'.cell? ⟨ob, 4, none⟩ = some (U64 b) ∧ w'.cell? ⟨ob, 5, none⟩ = some (U64 t)) (go_keep) (first | (go_at_call 86; refine (HB.out _).mono ?_; rintro e w1 ⟨rfl, rfl⟩))
      all_goals
        go_wp2_with fail
        refine (qEnd_any HM3.out.drew 0).mono ?_
        rintro e w3 ⟨rfl, M3, hk3⟩
        go_wp2_with fail
        simp only [Exit.noGoto]
        refine bodyPost_ret (results_none rfl _ _ _) rfl ?_
        exact ⟨rfl, ⟨j, hj, M3⟩, HK3.out.drew.trans hk3⟩
set_option maxRecDepth 100000 in
set_option maxHeartbeats 3200000 in
theorem pop4_one (M : MOp w mb wb ob xs ⟨base, cap, 1, 4, b, t, x, won, done, err⟩) (hb : base + 2 + cap ≤ xs.length) (hn : xs.length ≤ 100000) (hcap : 1 ≤ cap ∧ cap ≤ 1000) (hbb : b < 18446744073709551616) (hc : ¬ 0 < ahd t b) (hd : ¬ 0 < ahd b t) : Calls Tryd.prog 69 #[.pointer (some ⟨ob, 0, none⟩), .pointer (some ⟨mb, 0, none⟩)] w fun r w' =>
    r = .returned (.tuple #[]) ∧ (∃ j, j < cap ∧ MOp w' mb wb ob xs ⟨base, cap, 1, 4, b, t, xs.getD (base + 2 + j) 0, won, done, err⟩) ∧ Kept [mb, wb, ob] w w' := by
  have HP := Lib.hid (fun w => qPlaceA base cap b w (by omega) hcap hbb)
  have HB := Lib.hid (qAheadA b t)
  have HM := Lib.hid M
  have HA := Lib.hid (qAheadA t b)
  have c0 := M.op.cell 0
  have c1 := M.op.cell 1
  have c3 := M.op.cell 3
  have c4 := M.op.cell 4
  have c5 := M.op.cell 5
  simp [opC] at c0 c1 c3 c4 c5
  clear M
  go_enter Tryd.func69, Tryd.ntmps69
  go_step3
  go_wp2_with fail
  go_region_held3 (fun w' => w'.cell? ⟨ob, 4, none⟩ = some (U64 b) ∧ w'.cell? ⟨ob, 5, none⟩ = some (U64 t)) (go_keep) (first | (go_at_call 86; refine (HA.out _).mono ?_; rintro e w1 ⟨rfl, rfl⟩))
  all_goals
    go_wp2_with fail
    go_region_held3 (fun w' => w'.cell? ⟨ob, 0, none⟩ = some (.int .i64 base) ∧ w'.cell? ⟨ob, 1, none⟩ = some (.int .i64 cap) ∧ w'.cell? ⟨ob, 4, none⟩ = some (U64 b)) (first | go_keep | exact ⟨(World.cell?_setCell_other _ ⟨ob, 6, none⟩ ⟨ob, 0, none⟩ _ (by simp)).trans c0, (World.cell?_setCell_other _ ⟨ob, 6, none⟩ ⟨ob, 1, none⟩ _ (by simp)).trans c1, (World.cell?_setCell_other _ ⟨ob, 6, none⟩ ⟨ob, 4, none⟩ _ (by simp)).trans c4⟩) (first | (go_at_call 89; refine (HP.out _).mono ?_; rintro e w1 ⟨⟨j, hj, rfl⟩, hk1⟩; have M1 := HM.out.drew.drew.old hk1; have c0 := M1.op.cell 0; have c1 := M1.op.cell 1; have c4 := M1.op.cell 4; simp [opC] at c0 c1 c4; have HM1 := Lib.hid M1; have HK1 := Lib.hid ((((Kept.refl [mb, wb, ob] w).drew).drew).trans (hk1.mono (by simp))); clear M1 hk1) | (go_at_call 48; refine (HM1.out.load (a := base + 2 + j) (by omega)).mono ?_; rintro e w2 ⟨rfl, M2, hk2⟩; have c0 := M2.op.cell 0; have c1 := M2.op.cell 1; have c4 := M2.op.cell 4; have c6 := M2.op.cell 6; have f6 := M2.op.frozen 6; simp [opC] at c0 c1 c4 c6; have HM2 := Lib.hid M2; have HK2 := Lib.hid (HK1.out.trans hk2); clear M2 hk2))
    all_goals
      go_wp2_with fail
      have HM3 := Lib.hid (HM2.out.setOp 6 (U64 (xs.getD (base + 2 + j) 0)) (o' := ⟨base, cap, 1, 4, b, t, xs.getD (base + 2 + j) 0, won, done, err⟩) rfl)
      have HK3 := Lib.hid (HK2.out.setCell (p := ⟨ob, 6, none⟩) (.inl (by simp)) (U64 (xs.getD (base + 2 + j) 0)))
      have c4 := HM3.out.op.cell 4
      have c5 := HM3.out.op.cell 5
      simp [opC] at c4 c5
      go_region_held3 (fun w' => w'.cell? ⟨ob, 4, none⟩ = some (U64 b) ∧ w'.cell? ⟨ob, 5, none⟩ = some (U64 t)) (go_keep) (first | (go_at_call 86; refine (HB.out _).mono ?_; rintro e w1 ⟨rfl, rfl⟩))
      all_goals
        go_wp2_with fail
        rw [Exit.noGoto_ret]
        refine bodyPost_ret (results_none rfl _ _ _) rfl ?_
        exact ⟨rfl, ⟨j, hj, HM3.out.drew⟩, HK3.out.drew⟩
set_option maxRecDepth 100000 in
set_option maxHeartbeats 3200000 in
theorem pop6_won (M : MOp w mb wb ob xs ⟨base, cap, 1, 6, b, t, x, true, done, err⟩) (hb : base + 2 + cap ≤ xs.length) (hn : xs.length ≤ 100000) : Calls Tryd.prog 69 #[.pointer (some ⟨ob, 0, none⟩), .pointer (some ⟨mb, 0, none⟩)] w fun r w' =>
    r = .returned (.tuple #[]) ∧ MOp w' mb wb ob (xs.set (base + 1) (up t)) ⟨base, cap, 1, 6, b, t, x, true, true, 0⟩ ∧ Kept [mb, wb, ob] w w' := by
  have HM1 := Lib.hid M
  have HT := Lib.hid (fun (w : World) (M : MOp w mb wb ob xs ⟨base, cap, 1, 6, b, t, x, true, done, err⟩) => qBotA M (by omega))
  have HU := wrap_up t
  have HC := Lib.hid (M.drew.store (a := base + 1) (up t) (by omega))
  have c3 := M.op.cell 3
  have c5 := M.op.cell 5
  simp [opC] at c3 c5
  clear M
  go_enter Tryd.func69, Tryd.ntmps69
  refine wp_scope_fwd 0 (by rfl) ?_
  go_wp2_with fail
  go_step3
  simp only [Exit.inBlock, Exit.then]
  refine ⟨rfl, ?_⟩
  go_wp2_with fail
  go_region_held3 (fun w' => w'.cell? ⟨ob, 5, none⟩ = some (U64 t)) (first | go_keep | exact c5') (first | (go_at_call 84; refine (HT.out _ HM1.out.drew).mono ?_; rintro e w1 ⟨rfl, rfl⟩) | (go_at_call 88; refine HC.out.mono ?_; rintro e w2 ⟨rfl, M2, hk2⟩; have c5' : w2.cell? ⟨ob, 5, none⟩ = some (U64 t) := (by have c := M2.op.cell 5; simp [opC] at c; exact c); have c7 := M2.op.cell 7; simp [opC] at c7; have HM2 := Lib.hid M2; have HK2 := Lib.hid ((((Kept.refl [mb, wb, ob] w)).drew).trans hk2); clear M2 hk2))
  all_goals
    go_wp2_with fail
    refine (qEnd_any HM2.out 0).mono ?_
    rintro e w3 ⟨rfl, M3, hk3⟩
    go_wp2_with fail
    simp only [Exit.noGoto]
    refine bodyPost_ret (results_none rfl _ _ _) rfl ?_
    exact ⟨rfl, M3, HK2.out.trans hk3⟩
set_option maxRecDepth 100000 in
set_option maxHeartbeats 3200000 in
theorem pop6_lost (M : MOp w mb wb ob xs ⟨base, cap, 1, 6, b, t, x, false, done, err⟩) (hb : base + 2 + cap ≤ xs.length) (hn : xs.length ≤ 100000) : Calls Tryd.prog 69 #[.pointer (some ⟨ob, 0, none⟩), .pointer (some ⟨mb, 0, none⟩)] w fun r w' =>
    r = .returned (.tuple #[]) ∧ MOp w' mb wb ob (xs.set (base + 1) (up t)) ⟨base, cap, 1, 6, b, t, x, false, true, 7⟩ ∧ Kept [mb, wb, ob] w w' := by
  have HM1 := Lib.hid M
  have HT := Lib.hid (fun (w : World) (M : MOp w mb wb ob xs ⟨base, cap, 1, 6, b, t, x, false, done, err⟩) => qBotA M (by omega))
  have HU := wrap_up t
  have HC := Lib.hid (M.drew.store (a := base + 1) (up t) (by omega))
  have c3 := M.op.cell 3
  have c5 := M.op.cell 5
  simp [opC] at c3 c5
  clear M
  go_enter Tryd.func69, Tryd.ntmps69
  refine wp_scope_fwd 0 (by rfl) ?_
  go_wp2_with fail
  go_step3
  simp only [Exit.inBlock, Exit.then]
  refine ⟨rfl, ?_⟩
  go_wp2_with fail
  go_region_held3 (fun w' => w'.cell? ⟨ob, 5, none⟩ = some (U64 t)) (first | go_keep | exact c5') (first | (go_at_call 84; refine (HT.out _ HM1.out.drew).mono ?_; rintro e w1 ⟨rfl, rfl⟩) | (go_at_call 88; refine HC.out.mono ?_; rintro e w2 ⟨rfl, M2, hk2⟩; have c5' : w2.cell? ⟨ob, 5, none⟩ = some (U64 t) := (by have c := M2.op.cell 5; simp [opC] at c; exact c); have c7 := M2.op.cell 7; simp [opC] at c7; have HM2 := Lib.hid M2; have HK2 := Lib.hid ((((Kept.refl [mb, wb, ob] w)).drew).trans hk2); clear M2 hk2))
  all_goals
    go_wp2_with fail
    refine (qEnd_any HM2.out 7).mono ?_
    rintro e w3 ⟨rfl, M3, hk3⟩
    go_wp2_with fail
    simp only [Exit.noGoto]
    first | refine bodyPost_end (results_none rfl _ _ _) rfl ?_ | refine bodyPost_ret (results_none rfl _ _ _) rfl ?_
    exact ⟨rfl, M3, HK2.out.trans hk3⟩
end
end Go.Proofs.YtahpjoknmclbfaaDoor

/- Package deque: a step of an operation, and what it tells. -/
namespace Go.Proofs.YtahpjoknmclbfaaDoor
open Go.RowKit

/-- What a step turns; the number of steps is counted already. -/
inductive Turn : OpS → List Nat → OpS → List Nat → Prop
  | push1 {base cap b t x err : Nat} {won : Bool} {xs : List Nat} : Turn ⟨base, cap, 0, 1, b, t, x, won, false, err⟩ xs ⟨base, cap, 0, 1, xs.getD (base + 1) 0, t, x, won, false, err⟩ xs
  | pushF {base cap b t x err : Nat} {won : Bool} {xs : List Nat} (h : (cap : Int) ≤ ahd b (xs.getD base 0)) : Turn ⟨base, cap, 0, 2, b, t, x, won, false, err⟩ xs ⟨base, cap, 0, 2, b, xs.getD base 0, x, won, true, 6⟩ xs
  | pushR {base cap b t x err : Nat} {won : Bool} {xs : List Nat} (h : ¬ (cap : Int) ≤ ahd b (xs.getD base 0)) : Turn ⟨base, cap, 0, 2, b, t, x, won, false, err⟩ xs ⟨base, cap, 0, 2, b, xs.getD base 0, x, won, false, err⟩ xs
  | push3 {base cap b t x err j : Nat} {won : Bool} {xs : List Nat} (h : j < cap) : Turn ⟨base, cap, 0, 3, b, t, x, won, false, err⟩ xs ⟨base, cap, 0, 3, b, t, x, won, false, err⟩ (xs.set (base + 2 + j) x)
  | push4 {base cap b t x err : Nat} {won : Bool} {xs : List Nat} : Turn ⟨base, cap, 0, 4, b, t, x, won, false, err⟩ xs ⟨base, cap, 0, 4, b, t, x, won, true, 0⟩ (xs.set (base + 1) (up b))
  | pop1 {base cap b t x err : Nat} {won : Bool} {xs : List Nat} : Turn ⟨base, cap, 1, 1, b, t, x, won, false, err⟩ xs ⟨base, cap, 1, 1, down (xs.getD (base + 1) 0), t, x, won, false, err⟩ xs
  | pop2 {base cap b t x err : Nat} {won : Bool} {xs : List Nat} : Turn ⟨base, cap, 1, 2, b, t, x, won, false, err⟩ xs ⟨base, cap, 1, 2, b, t, x, won, false, err⟩ (xs.set (base + 1) b)
  | pop3 {base cap b t x err : Nat} {won : Bool} {xs : List Nat} : Turn ⟨base, cap, 1, 3, b, t, x, won, false, err⟩ xs ⟨base, cap, 1, 3, b, xs.getD base 0, x, won, false, err⟩ xs
  | pop4E {base cap b t x err : Nat} {won : Bool} {xs : List Nat} (h : 0 < ahd t b) : Turn ⟨base, cap, 1, 4, b, t, x, won, false, err⟩ xs ⟨base, cap, 1, 4, b, t, x, won, true, 7⟩ (xs.set (base + 1) t)
  | pop4M {base cap b t x err j : Nat} {won : Bool} {xs : List Nat} (h : ¬ 0 < ahd t b) (g : 0 < ahd b t) (k : j < cap) : Turn ⟨base, cap, 1, 4, b, t, x, won, false, err⟩ xs ⟨base, cap, 1, 4, b, t, xs.getD (base + 2 + j) 0, won, true, 0⟩ xs
  | pop4O {base cap b t x err j : Nat} {won : Bool} {xs : List Nat} (h : ¬ 0 < ahd t b) (g : ¬ 0 < ahd b t) (k : j < cap) : Turn ⟨base, cap, 1, 4, b, t, x, won, false, err⟩ xs ⟨base, cap, 1, 4, b, t, xs.getD (base + 2 + j) 0, won, false, err⟩ xs
  | pop5 {base cap b t x err : Nat} {won : Bool} {xs : List Nat} : Turn ⟨base, cap, 1, 5, b, t, x, won, false, err⟩ xs ⟨base, cap, 1, 5, b, t, x, decide (xs.getD base 0 = t), false, err⟩ (if xs.getD base 0 = t then xs.set base (up t) else xs)
  | pop6 {base cap b t x err e : Nat} {won : Bool} {xs : List Nat} : Turn ⟨base, cap, 1, 6, b, t, x, won, false, err⟩ xs ⟨base, cap, 1, 6, b, t, x, won, true, e⟩ (xs.set (base + 1) (up t))
  | steal1 {base cap b t x err : Nat} {won : Bool} {xs : List Nat} : Turn ⟨base, cap, 2, 1, b, t, x, won, false, err⟩ xs ⟨base, cap, 2, 1, b, xs.getD base 0, x, won, false, err⟩ xs
  | stealN {base cap b t x err : Nat} {won : Bool} {xs : List Nat} (h : ahd (xs.getD (base + 1) 0) t ≤ 0) : Turn ⟨base, cap, 2, 2, b, t, x, won, false, err⟩ xs ⟨base, cap, 2, 2, xs.getD (base + 1) 0, t, x, won, true, 7⟩ xs
  | stealS {base cap b t x err : Nat} {won : Bool} {xs : List Nat} (h : ¬ ahd (xs.getD (base + 1) 0) t ≤ 0) : Turn ⟨base, cap, 2, 2, b, t, x, won, false, err⟩ xs ⟨base, cap, 2, 2, xs.getD (base + 1) 0, t, x, won, false, err⟩ xs
  | steal3 {base cap b t x err j : Nat} {won : Bool} {xs : List Nat} (h : j < cap) : Turn ⟨base, cap, 2, 3, b, t, x, won, false, err⟩ xs ⟨base, cap, 2, 3, b, t, xs.getD (base + 2 + j) 0, won, false, err⟩ xs
  | steal4Y {base cap b t x err : Nat} {won : Bool} {xs : List Nat} (h : xs.getD base 0 = t) : Turn ⟨base, cap, 2, 4, b, t, x, won, false, err⟩ xs ⟨base, cap, 2, 4, b, t, x, won, true, 0⟩ (xs.set base (up t))
  | steal4N {base cap b t x err : Nat} {won : Bool} {xs : List Nat} (h : ¬ xs.getD base 0 = t) : Turn ⟨base, cap, 2, 4, b, t, x, won, false, err⟩ xs ⟨base, cap, 2, 4, b, t, x, won, true, 8⟩ xs
/-- An operation that may go on. -/
structure OpOk (o : OpS) (xs : List Nat) : Prop where
  room : o.base + 2 + o.cap ≤ xs.length
  len : xs.length ≤ 100000
  cap : 1 ≤ o.cap ∧ o.cap ≤ 1000
  b : o.b < 18446744073709551616
  t : o.t < 18446744073709551616
section
variable {w : World} {mb wb ob : Nat} {xs : List Nat}
/-- What a call of one of the three comes to. -/
def Turns (f : FuncId) (w : World) (mb wb ob : Nat) (xs : List Nat) (o : OpS) : Prop := Calls Tryd.prog f #[.pointer (some ⟨ob, 0, none⟩), .pointer (some ⟨mb, 0, none⟩)] w fun r w' =>
  r = .returned (.tuple #[]) ∧ (∃ o' xs', Turn o xs o' xs' ∧ MOp w' mb wb ob xs' o') ∧ Kept [mb, wb, ob] w w'
theorem turns_of {f : FuncId} {o o' : OpS} {xs' : List Nat} (h : Calls Tryd.prog f #[.pointer (some ⟨ob, 0, none⟩), .pointer (some ⟨mb, 0, none⟩)] w fun r w' => r = .returned (.tuple #[]) ∧ MOp w' mb wb ob xs' o' ∧ Kept [mb, wb, ob] w w') (ht : Turn o xs o' xs') : Turns f w mb wb ob xs o :=
  h.mono fun _ _ ⟨h1, h2, h3⟩ => ⟨h1, ⟨o', xs', ht, h2⟩, h3⟩
theorem push_any {base cap k b t x err : Nat} {won : Bool} (M : MOp w mb wb ob xs ⟨base, cap, 0, k, b, t, x, won, false, err⟩) (hk : 1 ≤ k ∧ k ≤ 4) (O : OpOk ⟨base, cap, 0, k, b, t, x, won, false, err⟩ xs) : Turns 68 w mb wb ob xs ⟨base, cap, 0, k, b, t, x, won, false, err⟩ := by
  obtain ⟨h1, h2, h3, h4, h5⟩ := O
  simp only at h1 h3 h4 h5
  have hb : base + 1 < xs.length := by omega
  have hk' : k = 1 ∨ k = 2 ∨ k = 3 ∨ k = 4 := by omega
  rcases hk' with rfl | rfl | rfl | rfl
  · exact turns_of (push1 M hb h2) .push1
  · by_cases hc : (cap : Int) ≤ ahd b (xs.getD base 0)
    · exact turns_of (push2_full M hb h2 hc) (.pushF hc)
    · exact turns_of (push2_room M hb h2 hc) (.pushR hc)
  · exact (push3 M h1 h2 h3 h4).mono fun _ _ ⟨g1, ⟨j, hj, g2⟩, g3⟩ => ⟨g1, ⟨_, _, .push3 hj, g2⟩, g3⟩
  · exact turns_of (push4 M hb h2) .push4
theorem pop_any {base cap k b t x err : Nat} {won : Bool} (M : MOp w mb wb ob xs ⟨base, cap, 1, k, b, t, x, won, false, err⟩) (hk : 1 ≤ k ∧ k ≤ 6) (O : OpOk ⟨base, cap, 1, k, b, t, x, won, false, err⟩ xs) : Turns 69 w mb wb ob xs ⟨base, cap, 1, k, b, t, x, won, false, err⟩ := by
  obtain ⟨h1, h2, h3, h4, h5⟩ := O
  simp only at h1 h3 h4 h5
  have hb : base + 1 < xs.length := by omega
  have hk' : k = 1 ∨ k = 2 ∨ k = 3 ∨ k = 4 ∨ k = 5 ∨ k = 6 := by omega
  rcases hk' with rfl | rfl | rfl | rfl | rfl | rfl
  · exact turns_of (pop1 M hb h2) .pop1
  · exact turns_of (pop2 M hb h2) .pop2
  · exact turns_of (pop3 M hb h2) .pop3
  · by_cases hc : 0 < ahd t b
    · exact turns_of (pop4_empty M h1 h2 hc) (.pop4E hc)
    · by_cases hd : 0 < ahd b t
      · exact (pop4_more M h1 h2 h3 h4 hc hd).mono fun _ _ ⟨g1, ⟨j, hj, g2⟩, g3⟩ => ⟨g1, ⟨_, _, .pop4M hc hd hj, g2⟩, g3⟩
      · exact (pop4_one M h1 h2 h3 h4 hc hd).mono fun _ _ ⟨g1, ⟨j, hj, g2⟩, g3⟩ => ⟨g1, ⟨_, _, .pop4O hc hd hj, g2⟩, g3⟩
  · exact turns_of (pop5 M hb h2) .pop5
  · cases won with
    | true => exact turns_of (pop6_won M h1 h2) .pop6
    | false => exact turns_of (pop6_lost M h1 h2) .pop6
theorem steal_any {base cap k b t x err : Nat} {won : Bool} (M : MOp w mb wb ob xs ⟨base, cap, 2, k, b, t, x, won, false, err⟩) (hk : 1 ≤ k ∧ k ≤ 4) (O : OpOk ⟨base, cap, 2, k, b, t, x, won, false, err⟩ xs) : Turns 70 w mb wb ob xs ⟨base, cap, 2, k, b, t, x, won, false, err⟩ := by
  obtain ⟨h1, h2, h3, h4, h5⟩ := O
  simp only at h1 h3 h4 h5
  have hb : base + 1 < xs.length := by omega
  have hk' : k = 1 ∨ k = 2 ∨ k = 3 ∨ k = 4 := by omega
  rcases hk' with rfl | rfl | rfl | rfl
  · exact turns_of (steal1 M hb h2) .steal1
  · by_cases hc : ahd (xs.getD (base + 1) 0) t ≤ 0
    · exact turns_of (steal2_none M hb h2 hc) (.stealN hc)
    · exact turns_of (steal2_some M hb h2 hc) (.stealS hc)
  · exact (steal3 M h1 h2 h3 h5).mono fun _ _ ⟨g1, ⟨j, hj, g2⟩, g3⟩ => ⟨g1, ⟨_, _, .steal3 hj, g2⟩, g3⟩
  · by_cases hc : xs.getD base 0 = t
    · exact turns_of (steal4_yes M hb h2 hc) (.steal4Y hc)
    · exact turns_of (steal4_no M hb h2 hc) (.steal4N hc)
end
end Go.Proofs.YtahpjoknmclbfaaDoor

/- What a step of an operation does to its deque's ends: plain. -/
namespace Go.Proofs.YtahpjoknmclbfaaDoor
open Go.RowKit

theorem getD_set (xs : List Nat) (i j v : Nat) (hi : i < xs.length) : (xs.set i v).getD j 0 = if i = j then v else xs.getD j 0 := by
  rw [List.getD_eq_getElem?_getD, List.getD_eq_getElem?_getD, List.getElem?_set]
  by_cases h : i = j
  · subst h; simp [hi]
  · simp [h]
/-- What an operation knows of the ends. -/
def Knows (o : OpS) (T B : Int) : Prop :=
  (o.kind = 0 → (1 ≤ o.steps → o.steps ≤ 3 → o.b = enc B) ∧ (2 ≤ o.steps → o.done = false → ∃ t : Int, o.t = enc t ∧ 0 ≤ t ∧ t ≤ T ∧ B - t < o.cap)) ∧
  (o.kind = 1 → (o.steps = 1 → o.b = enc (B - 1)) ∧ (2 ≤ o.steps → o.done = false → o.b = enc B) ∧ (3 ≤ o.steps → ∃ t : Int, o.t = enc t ∧ 0 ≤ t ∧ t ≤ T)) ∧
  (o.kind = 2 → 1 ≤ o.steps → ∃ t : Int, o.t = enc t ∧ 0 ≤ t ∧ t ≤ T)
/-- A rise of the top takes away no knowledge; nor does a turn of the bottom what thieves know. -/
theorem Knows.rise {o : OpS} {T T' B : Int} (h : Knows o T B) (hT : T ≤ T') : Knows o T' B :=
  ⟨fun k => ⟨(h.1 k).1, fun s d => by obtain ⟨t, a, b, c, e⟩ := (h.1 k).2 s d; exact ⟨t, a, b, by omega, e⟩⟩,
    fun k => ⟨(h.2.1 k).1, (h.2.1 k).2.1, fun s => by obtain ⟨t, a, b, c⟩ := (h.2.1 k).2.2 s; exact ⟨t, a, b, by omega⟩⟩,
    fun k s => by obtain ⟨t, a, b, c⟩ := h.2.2 k s; exact ⟨t, a, b, by omega⟩⟩
theorem Knows.thief {o : OpS} {T B B' : Int} (h : Knows o T B) (hk : o.kind = 2) : Knows o T B' :=
  ⟨fun k => by omega, fun k => by omega, h.2.2⟩
theorem turn_ends {o o' : OpS} {xs xs' : List Nat} {n : Nat} {T B : Int} (E : Ends xs o.base o.cap n T B) (K : Knows o T B) (hn : n ≤ 100000) (hlen : o.base + 2 + o.cap ≤ xs.length) (hcap : 1 ≤ o.cap ∧ o.cap ≤ 1000)
    {o1 : OpS} (h1 : o1 = { o with steps := o.steps + 1 }) (ht : Turn o1 xs o' xs') : ∃ T' B', Ends xs' o.base o.cap (n + 1) T' B' ∧ Knows o' T' B' ∧ T ≤ T' ∧ (o.kind = 2 → B' = B) ∧ xs'.length = xs.length ∧ o'.base = o.base ∧ o'.cap = o.cap ∧ o'.kind = o.kind ∧ o'.steps = o.steps + 1 ∧ (∀ a, (a < o.base ∨ o.base + 2 + o.cap ≤ a) → xs'.getD a 0 = xs.getD a 0) := by
  obtain ⟨base, cap, kind, k, b, t, x, won, done, err⟩ := o
  simp only at E hlen hcap h1 ⊢
  subst h1
  obtain ⟨e1, e2, e3, e4, e5⟩ := E
  have G : Ends xs base cap (n + 1) T B := ⟨e1, e2, by omega, by omega, e5⟩
  have P : ∀ j v, j < cap → Ends (xs.set (base + 2 + j) v) base cap (n + 1) T B := fun j v hj => ⟨by rw [getD_set _ _ _ _ (by omega), if_neg (by omega)]; exact e1, by rw [getD_set _ _ _ _ (by omega), if_neg (by omega)]; exact e2, by omega, by omega, e5⟩
  have Bt : ∀ v (B' : Int), v = enc B' → -1 ≤ B' + (n + 1 : Nat) ∧ B' ≤ (n + 1 : Nat) → B' - T ≤ cap → Ends (xs.set (base + 1) v) base cap (n + 1) T B' := fun v B' h1 h2 h3 => ⟨by rw [getD_set _ _ _ _ (by omega), if_neg (by omega)]; exact e1, by rw [getD_set _ _ _ _ (by omega), if_pos rfl]; exact h1, by omega, h2, h3⟩
  have Tp : Ends (xs.set base (enc (T + 1))) base cap (n + 1) (T + 1) B := ⟨by rw [getD_set _ _ _ _ (by omega), if_pos rfl], by rw [getD_set _ _ _ _ (by omega), if_neg (by omega)]; exact e2, by omega, by omega, by omega⟩
  have out : ∀ i v, base ≤ i → i < base + 2 + cap → ∀ a, (a < base ∨ base + 2 + cap ≤ a) → (xs.set i v).getD a 0 = xs.getD a 0 := fun i v h1 h2 a ha => by rw [getD_set _ _ _ _ (by omega), if_neg (by omega)]
  obtain ⟨K0, K1, K2⟩ := K
  simp only at K0 K1 K2
  cases ht with
  | push1 => exact ⟨T, B, G, ⟨fun _ => ⟨fun _ _ => e2, fun h => by simp at h⟩, fun h => by simp at h, fun h => by simp at h⟩, by omega, by simp, rfl, rfl, rfl, rfl, rfl, fun _ _ => rfl⟩
  | pushF h => exact ⟨T, B, G, ⟨fun _ => ⟨fun _ _ => (K0 rfl).1 (by omega) (by omega), fun _ h => by simp at h⟩, fun h => by simp at h, fun h => by simp at h⟩, by omega, by simp, rfl, rfl, rfl, rfl, rfl, fun _ _ => rfl⟩
  | pushR h =>
    have hb := (K0 rfl).1 (by omega) (by omega)
    rw [hb, e1, ahd_enc _ _ (by omega)] at h
    exact ⟨T, B, G, ⟨fun _ => ⟨fun _ _ => hb, fun _ _ => ⟨T, e1, by omega, by omega, (by show B - T < (cap : Int); omega)⟩⟩, fun h => by simp at h, fun h => by simp at h⟩, by omega, by simp, rfl, rfl, rfl, rfl, rfl, fun _ _ => rfl⟩
  | push3 h => exact ⟨T, B, P _ _ h, ⟨fun _ => ⟨fun _ _ => (K0 rfl).1 (by omega) (by omega), fun _ _ => (K0 rfl).2 (by omega) rfl⟩, fun h => by simp at h, fun h => by simp at h⟩, by omega, by simp, by simp, rfl, rfl, rfl, rfl, out _ _ (by omega) (by omega)⟩
  | push4 =>
    have hb := (K0 rfl).1 (by omega) (by omega)
    obtain ⟨t0, g1, g2, g3, g4⟩ := (K0 rfl).2 (by omega) rfl
    exact ⟨T, B + 1, Bt _ _ (by rw [hb, up_enc]) (by omega) (by omega), ⟨fun _ => ⟨fun _ h => by simp at h, fun _ h => by simp at h⟩, fun h => by simp at h, fun h => by simp at h⟩, by omega, by simp, by simp, rfl, rfl, rfl, rfl, out _ _ (by omega) (by omega)⟩
  | pop1 => exact ⟨T, B, G, ⟨fun h => by simp at h, fun _ => ⟨fun _ => by rw [e2, down_enc], fun h => by simp at h, fun h => by simp at h⟩, fun h => by simp at h⟩, by omega, by simp, rfl, rfl, rfl, rfl, rfl, fun _ _ => rfl⟩
  | pop2 =>
    have hb := (K1 rfl).1 rfl
    exact ⟨T, B - 1, Bt _ _ hb (by omega) (by omega), ⟨fun h => by simp at h, fun _ => ⟨fun h => by simp at h, fun _ _ => hb, fun h => by simp at h⟩, fun h => by simp at h⟩, by omega, by simp, by simp, rfl, rfl, rfl, rfl, out _ _ (by omega) (by omega)⟩
  | pop3 => exact ⟨T, B, G, ⟨fun h => by simp at h, fun _ => ⟨fun h => by simp at h, fun _ _ => (K1 rfl).2.1 (by omega) rfl, fun _ => ⟨T, e1, by omega, by omega⟩⟩, fun h => by simp at h⟩, by omega, by simp, rfl, rfl, rfl, rfl, rfl, fun _ _ => rfl⟩
  | pop4E h =>
    obtain ⟨t0, g1, g2, g3⟩ := (K1 rfl).2.2 (by omega)
    exact ⟨T, t0, Bt _ _ g1 (by omega) (by omega), ⟨fun h => by simp at h, fun _ => ⟨fun h => by simp at h, fun _ h => by simp at h, fun _ => ⟨t0, g1, g2, g3⟩⟩, fun h => by simp at h⟩, by omega, by simp, by simp, rfl, rfl, rfl, rfl, out _ _ (by omega) (by omega)⟩
  | pop4M h g k => exact ⟨T, B, G, ⟨fun h => by simp at h, fun _ => ⟨fun h => by simp at h, fun _ h => by simp at h, fun _ => (K1 rfl).2.2 (by omega)⟩, fun h => by simp at h⟩, by omega, by simp, rfl, rfl, rfl, rfl, rfl, fun _ _ => rfl⟩
  | pop4O h g k => exact ⟨T, B, G, ⟨fun h => by simp at h, fun _ => ⟨fun h => by simp at h, fun _ _ => (K1 rfl).2.1 (by omega) rfl, fun _ => (K1 rfl).2.2 (by omega)⟩, fun h => by simp at h⟩, by omega, by simp, rfl, rfl, rfl, rfl, rfl, fun _ _ => rfl⟩
  | pop5 =>
    obtain ⟨t0, g1, g2, g3⟩ := (K1 rfl).2.2 (by omega)
    have hb := (K1 rfl).2.1 (by omega) rfl
    by_cases h : xs.getD base 0 = t
    · rw [if_pos h]
      have hu : up t = enc (T + 1) := by rw [← h, e1, up_enc]
      rw [hu]
      exact ⟨T + 1, B, Tp, ⟨fun h => by simp at h, fun _ => ⟨fun h => by simp at h, fun _ _ => hb, fun _ => ⟨t0, g1, g2, by omega⟩⟩, fun h => by simp at h⟩, by omega, by simp, by simp, rfl, rfl, rfl, rfl, out _ _ (by omega) (by omega)⟩
    · rw [if_neg h]
      exact ⟨T, B, G, ⟨fun h => by simp at h, fun _ => ⟨fun h => by simp at h, fun _ _ => hb, fun _ => ⟨t0, g1, g2, g3⟩⟩, fun h => by simp at h⟩, by omega, by simp, rfl, rfl, rfl, rfl, rfl, fun _ _ => rfl⟩
  | pop6 =>
    obtain ⟨t0, g1, g2, g3⟩ := (K1 rfl).2.2 (by omega)
    exact ⟨T, t0 + 1, Bt _ _ (by rw [g1, up_enc]) (by omega) (by omega), ⟨fun h => by simp at h, fun _ => ⟨fun h => by simp at h, fun _ h => by simp at h, fun _ => ⟨t0, g1, g2, g3⟩⟩, fun h => by simp at h⟩, by omega, by simp, by simp, rfl, rfl, rfl, rfl, out _ _ (by omega) (by omega)⟩
  | steal1 => exact ⟨T, B, G, ⟨fun h => by simp at h, fun h => by simp at h, fun _ _ => ⟨T, e1, by omega, by omega⟩⟩, by omega, fun _ => rfl, rfl, rfl, rfl, rfl, rfl, fun _ _ => rfl⟩
  | stealN h => exact ⟨T, B, G, ⟨fun h => by simp at h, fun h => by simp at h, fun _ _ => K2 rfl (by omega)⟩, by omega, fun _ => rfl, rfl, rfl, rfl, rfl, rfl, fun _ _ => rfl⟩
  | stealS h => exact ⟨T, B, G, ⟨fun h => by simp at h, fun h => by simp at h, fun _ _ => K2 rfl (by omega)⟩, by omega, fun _ => rfl, rfl, rfl, rfl, rfl, rfl, fun _ _ => rfl⟩
  | steal3 h => exact ⟨T, B, G, ⟨fun h => by simp at h, fun h => by simp at h, fun _ _ => K2 rfl (by omega)⟩, by omega, fun _ => rfl, rfl, rfl, rfl, rfl, rfl, fun _ _ => rfl⟩
  | steal4Y h =>
    have hu : up t = enc (T + 1) := by rw [← h, e1, up_enc]
    rw [hu]
    obtain ⟨t0, g1, g2, g3⟩ := K2 rfl (by omega)
    exact ⟨T + 1, B, Tp, ⟨fun h => by simp at h, fun h => by simp at h, fun _ _ => ⟨t0, g1, g2, by omega⟩⟩, by omega, fun _ => rfl, by simp, rfl, rfl, rfl, rfl, out _ _ (by omega) (by omega)⟩
  | steal4N h => exact ⟨T, B, G, ⟨fun h => by simp at h, fun h => by simp at h, fun _ _ => K2 rfl (by omega)⟩, by omega, fun _ => rfl, rfl, rfl, rfl, rfl, rfl, fun _ _ => rfl⟩
end Go.Proofs.YtahpjoknmclbfaaDoor

/- Package deque: Step, Result, Seen, Top, Bottom, Steps. -/
namespace Go.Proofs.YtahpjoknmclbfaaDoor
open Go.RowKit

section
variable {w : World} {mb wb ob : Nat} {xs : List Nat} {base cap kind k b t x err : Nat} {won done : Bool}
set_option maxHeartbeats 1600000 in
theorem qStep0 (M : MOp w mb wb ob xs ⟨base, cap, 0, k, b, t, x, won, false, err⟩) (hk : k ≤ 3) (O : OpOk ⟨base, cap, 0, k, b, t, x, won, false, err⟩ xs) : Calls Tryd.prog 52 #[.pointer (some ⟨ob, 0, none⟩), .pointer (some ⟨mb, 0, none⟩)] w fun r w' =>
    (∃ o' xs', Turn ⟨base, cap, 0, k + 1, b, t, x, won, false, err⟩ xs o' xs' ∧ r = .returned (.bool o'.done) ∧ MOp w' mb wb ob xs' o') ∧ Kept [mb, wb, ob] w w' := by
  have hw : IntKind.i64.wrap ((k : Int) + 1) = (k : Int) + 1 := IntWalk.i64_in _ (by omega)
  have M1 := M.setOp 3 (.int .i64 ((k : Int) + 1)) (o' := ⟨base, cap, 0, k + 1, b, t, x, won, false, err⟩) rfl
  have HT := Lib.hid (push_any M1 (by omega) ⟨O.room, O.len, O.cap, O.b, O.t⟩)
  have HK := Lib.hid ((Kept.refl [mb, wb, ob] w).setCell (p := ⟨ob, 3, none⟩) (.inl (by simp)) (.int .i64 ((k : Int) + 1)))
  have c2 := M.op.cell 2
  have c3 := M.op.cell 3
  have f3 := M.op.frozen 3
  have c8 := M.op.cell 8
  simp [opC] at c2 c3 c8
  clear M M1 O
  go_enter Tryd.func52, Tryd.ntmps52
  go_wp2_with fail
  refine HT.out.mono ?_
  rintro e w1 ⟨rfl, ⟨o', xs', T, M2⟩, hk2⟩
  have HR := Lib.hid T
  have HM2 := Lib.hid M2
  have HK2 := Lib.hid (HK.out.trans hk2)
  have c8 : w1.cell? ⟨ob, 8, none⟩ = some (.bool o'.done) := by rw [M2.op.cell]; rfl
  clear T M2 hk2
  go_wp2_with fail
  go_ret
  exact ⟨⟨o', xs', HR.out, rfl, HM2.out⟩, HK2.out⟩
set_option maxHeartbeats 1600000 in
theorem qStep1 (M : MOp w mb wb ob xs ⟨base, cap, 1, k, b, t, x, won, false, err⟩) (hk : k ≤ 5) (O : OpOk ⟨base, cap, 1, k, b, t, x, won, false, err⟩ xs) : Calls Tryd.prog 52 #[.pointer (some ⟨ob, 0, none⟩), .pointer (some ⟨mb, 0, none⟩)] w fun r w' =>
    (∃ o' xs', Turn ⟨base, cap, 1, k + 1, b, t, x, won, false, err⟩ xs o' xs' ∧ r = .returned (.bool o'.done) ∧ MOp w' mb wb ob xs' o') ∧ Kept [mb, wb, ob] w w' := by
  have hw : IntKind.i64.wrap ((k : Int) + 1) = (k : Int) + 1 := IntWalk.i64_in _ (by omega)
  have M1 := M.setOp 3 (.int .i64 ((k : Int) + 1)) (o' := ⟨base, cap, 1, k + 1, b, t, x, won, false, err⟩) rfl
  have HT := Lib.hid (pop_any M1 (by omega) ⟨O.room, O.len, O.cap, O.b, O.t⟩)
  have HK := Lib.hid ((Kept.refl [mb, wb, ob] w).setCell (p := ⟨ob, 3, none⟩) (.inl (by simp)) (.int .i64 ((k : Int) + 1)))
  have c2 := M.op.cell 2
  have c3 := M.op.cell 3
  have f3 := M.op.frozen 3
  have c8 := M.op.cell 8
  simp [opC] at c2 c3 c8
  clear M M1 O
  go_enter Tryd.func52, Tryd.ntmps52
  go_wp2_with fail
  refine HT.out.mono ?_
  rintro e w1 ⟨rfl, ⟨o', xs', T, M2⟩, hk2⟩
  have HR := Lib.hid T
  have HM2 := Lib.hid M2
  have HK2 := Lib.hid (HK.out.trans hk2)
  have c8 : w1.cell? ⟨ob, 8, none⟩ = some (.bool o'.done) := by rw [M2.op.cell]; rfl
  clear T M2 hk2
  go_wp2_with fail
  go_ret
  exact ⟨⟨o', xs', HR.out, rfl, HM2.out⟩, HK2.out⟩
set_option maxHeartbeats 1600000 in
theorem qStep2 (M : MOp w mb wb ob xs ⟨base, cap, 2, k, b, t, x, won, false, err⟩) (hk : k ≤ 3) (O : OpOk ⟨base, cap, 2, k, b, t, x, won, false, err⟩ xs) : Calls Tryd.prog 52 #[.pointer (some ⟨ob, 0, none⟩), .pointer (some ⟨mb, 0, none⟩)] w fun r w' =>
    (∃ o' xs', Turn ⟨base, cap, 2, k + 1, b, t, x, won, false, err⟩ xs o' xs' ∧ r = .returned (.bool o'.done) ∧ MOp w' mb wb ob xs' o') ∧ Kept [mb, wb, ob] w w' := by
  have hw : IntKind.i64.wrap ((k : Int) + 1) = (k : Int) + 1 := IntWalk.i64_in _ (by omega)
  have M1 := M.setOp 3 (.int .i64 ((k : Int) + 1)) (o' := ⟨base, cap, 2, k + 1, b, t, x, won, false, err⟩) rfl
  have HT := Lib.hid (steal_any M1 (by omega) ⟨O.room, O.len, O.cap, O.b, O.t⟩)
  have HK := Lib.hid ((Kept.refl [mb, wb, ob] w).setCell (p := ⟨ob, 3, none⟩) (.inl (by simp)) (.int .i64 ((k : Int) + 1)))
  have c2 := M.op.cell 2
  have c3 := M.op.cell 3
  have f3 := M.op.frozen 3
  have c8 := M.op.cell 8
  simp [opC] at c2 c3 c8
  clear M M1 O
  go_enter Tryd.func52, Tryd.ntmps52
  go_wp2_with fail
  refine HT.out.mono ?_
  rintro e w1 ⟨rfl, ⟨o', xs', T, M2⟩, hk2⟩
  have HR := Lib.hid T
  have HM2 := Lib.hid M2
  have HK2 := Lib.hid (HK.out.trans hk2)
  have c8 : w1.cell? ⟨ob, 8, none⟩ = some (.bool o'.done) := by rw [M2.op.cell]; rfl
  clear T M2 hk2
  go_wp2_with fail
  go_ret
  exact ⟨⟨o', xs', HR.out, rfl, HM2.out⟩, HK2.out⟩
set_option maxHeartbeats 1600000 in
theorem qSteps_any (M : MOp w mb wb ob xs ⟨base, cap, kind, k, b, t, x, won, done, err⟩) : Calls Tryd.prog 72 #[.pointer (some ⟨ob, 0, none⟩)] w fun r w' => r = .returned (.int .i64 k) ∧ Kept [] w w' := by
  have c3 := M.op.cell 3
  simp [opC] at c3
  clear M
  go_enter Tryd.func72, Tryd.ntmps72
  go_wp2
  go_ret
  exact ⟨by first | rfl | simp, Kept.refl [] w⟩
set_option maxHeartbeats 1600000 in
theorem qTop_any (M : MOp w mb wb ob xs ⟨base, cap, 2, k, b, t, x, won, done, err⟩) (hk : 1 ≤ k) : Calls Tryd.prog 71 #[.pointer (some ⟨ob, 0, none⟩)] w fun r w' => r = .returned (.tuple #[U64 t, .bool true]) ∧ Kept [] w w' := by
  have c2 := M.op.cell 2
  have c3 := M.op.cell 3
  have c5 := M.op.cell 5
  simp [opC] at c2 c3 c5
  clear M
  go_enter Tryd.func71, Tryd.ntmps71
  go_wp2
  go_ret2
  exact ⟨by first | rfl | simp, Kept.refl [] w⟩
set_option maxHeartbeats 1600000 in
theorem qBottom_any (M : MOp w mb wb ob xs ⟨base, cap, 0, k, b, t, x, won, done, err⟩) (hk : 1 ≤ k) : Calls Tryd.prog 54 #[.pointer (some ⟨ob, 0, none⟩)] w fun r w' => r = .returned (.tuple #[U64 b, .bool true]) ∧ Kept [] w w' := by
  have c2 := M.op.cell 2
  have c3 := M.op.cell 3
  have c4 := M.op.cell 4
  simp [opC] at c2 c3 c4
  clear M
  go_enter Tryd.func54, Tryd.ntmps54
  go_wp2
  go_ret2
  exact ⟨by first | rfl | simp, Kept.refl [] w⟩
set_option maxHeartbeats 1600000 in
theorem qSeen_yes (M : MOp w mb wb ob xs ⟨base, cap, 2, k, b, t, x, won, done, err⟩) (hk : 3 ≤ k) : Calls Tryd.prog 65 #[.pointer (some ⟨ob, 0, none⟩)] w fun r w' => r = .returned (.tuple #[U64 x, .bool true]) ∧ Kept [] w w' := by
  have c2 := M.op.cell 2
  have c3 := M.op.cell 3
  have c6 := M.op.cell 6
  simp [opC] at c2 c3 c6
  clear M
  go_enter Tryd.func65, Tryd.ntmps65
  go_wp2
  go_ret2
  exact ⟨by first | rfl | simp, Kept.refl [] w⟩
set_option maxHeartbeats 1600000 in
theorem qSeen_no (M : MOp w mb wb ob xs ⟨base, cap, 2, k, b, t, x, won, done, err⟩) (hk : k < 3) : Calls Tryd.prog 65 #[.pointer (some ⟨ob, 0, none⟩)] w fun r w' => r = .returned (.tuple #[U64 0, .bool false]) ∧ Kept [] w w' := by
  have c2 := M.op.cell 2
  have c3 := M.op.cell 3
  have c6 := M.op.cell 6
  simp [opC] at c2 c3 c6
  clear M
  go_enter Tryd.func65, Tryd.ntmps65
  go_wp2
  go_ret2
  exact ⟨by first | rfl | simp, Kept.refl [] w⟩
set_option maxHeartbeats 1600000 in
theorem qResult_not (M : MOp w mb wb ob xs ⟨base, cap, kind, k, b, t, x, won, false, err⟩) : Calls Tryd.prog 53 #[.pointer (some ⟨ob, 0, none⟩)] w fun r w' => r = .returned (.tuple #[U64 0, .int .i64 14]) ∧ Kept [] w w' := by
  have c8 := M.op.cell 8
  simp [opC] at c8
  clear M
  go_enter Tryd.func53, Tryd.ntmps53
  go_wp2
  go_ret2
  exact ⟨by first | rfl | simp, Kept.refl [] w⟩
set_option maxHeartbeats 1600000 in
theorem qResult_ok (M : MOp w mb wb ob xs ⟨base, cap, kind, k, b, t, x, won, true, 0⟩) : Calls Tryd.prog 53 #[.pointer (some ⟨ob, 0, none⟩)] w fun r w' => r = .returned (.tuple #[U64 x, .int .i64 0]) ∧ Kept [] w w' := by
  have c6 := M.op.cell 6
  have c8 := M.op.cell 8
  have c9 := M.op.cell 9
  simp [opC] at c6 c8 c9
  clear M
  go_enter Tryd.func53, Tryd.ntmps53
  go_wp2
  go_ret2
  exact ⟨by first | rfl | simp, Kept.refl [] w⟩
set_option maxHeartbeats 1600000 in
theorem qResult_err (M : MOp w mb wb ob xs ⟨base, cap, kind, k, b, t, x, won, true, err⟩) (he : err ≠ 0) : Calls Tryd.prog 53 #[.pointer (some ⟨ob, 0, none⟩)] w fun r w' => r = .returned (.tuple #[U64 0, .int .i64 err]) ∧ Kept [] w w' := by
  have c8 := M.op.cell 8
  have c9 := M.op.cell 9
  simp [opC] at c8 c9
  have he' : ¬ (err : Int) = 0 := by omega
  clear M
  go_enter Tryd.func53, Tryd.ntmps53
  go_wp2
  go_region_held3 (fun w' => w'.cell? ⟨ob, 9, none⟩ = some (.int .i64 err)) (go_keep) (fail)
  all_goals
    go_wp2
    go_ret2
    exact ⟨by first | rfl | simp, (Kept.refl [] w).drew⟩
end
end Go.Proofs.YtahpjoknmclbfaaDoor

