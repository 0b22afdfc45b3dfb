/- Package rack: mark; Package rack: emptying, popping. -/
import Derived.Test.YtahpjoknmclbfaaDoorStC

/- Package rack: mark. -/
namespace Go.Proofs.YtahpjoknmclbfaaDoor
open Go.RowKit

theorem or_lt (s l : Nat) (hs : s < 256) (hl : l < 8) : s ||| 2 ^ l < 256 := by
  have hp : 2 ^ l < 2 ^ 8 := Nat.pow_lt_pow_right (by omega) hl
  exact Nat.or_lt_two_pow (show s < 2 ^ 8 by omega) hp
section
variable {w : World} {rb kb : Nat} {W : WorkS} {cap s0 s1 turn : Nat}
set_option maxHeartbeats 3200000 in
theorem mark0_true (H : Blk w kb 57 (workC rb W)) (R : Blk w rb 50 (rackC cap s0 s1 turn)) (hk : W.kind = 0) (hl : W.level < 8) (h0 : s0 < 256) (h1 : s1 < 256) : Calls Tryd.prog 56 #[.pointer (some ⟨kb, 0, none⟩), .bool true] w fun r w' =>
    (∃ b r', r' < 256 ∧ r = .returned (.bool b) ∧ Blk w' rb 50 (rackC cap r' s1 turn)) ∧ Kept [rb] w w' := by
  have hne : kb ≠ rb := H.ne R (by decide)
  have c0 := H.cell 0
  have c4 := H.cell 4
  have c5 := H.cell 5
  simp [workC] at c0 c4 c5
  rw [hk] at c5
  have d : w.cell? ⟨rb, 33, none⟩ = some (U64 s0) := R.cell 33
  have df := R.frozen 33
  have HR := Lib.hid R
  have HWo := Lib.hid (fun w => sWithout_any s0 W.level w (by omega) hl)
  have HWi := Lib.hid (fun (s : Nat) w (h : s < 256) => sWith_any s W.level w (by omega) (by omega))
  have HO := Lib.hid (fun (s : Nat) (h : s < 256) => or_lt s W.level h hl)
  generalize W.level = l at *
  clear H R hk
  go_enter Tryd.func56, Tryd.ntmps56
  go_wp2_with fail
  go_region_held3 (fun w' => w'.cell? ⟨kb, 0, none⟩ = some (.pointer (some ⟨rb, 0, none⟩)) ∧ w'.cell? ⟨kb, 4, none⟩ = some (.int .i64 l) ∧ w'.cell? ⟨kb, 5, none⟩ = some (.int .i64 0) ∧ w'.cell? ⟨rb, 33, none⟩ = some (U64 s0)) (go_keep) (first | (go_at_call 74; refine (HWo.out _).mono ?_; rintro e w1 ⟨⟨r, hr, rfl⟩, rfl⟩))
  all_goals
    have HRL := Lib.hid hr
    clear hr
    go_wp2_with fail
    refine (HWi.out r _ HRL.out).mono ?_
    rintro e w1 ⟨rfl, rfl⟩
    have HQ := Lib.hid (HO.out r HRL.out)
    generalize r ||| 2 ^ l = q at *
    go_wp2_with fail
    have hS : (w.setCell ⟨rb, 33, none⟩ (U64 q)).drew.drew.drew.cell? ⟨kb, 0, none⟩ = some (.pointer (some ⟨rb, 0, none⟩)) ∧ (w.setCell ⟨rb, 33, none⟩ (U64 q)).drew.drew.drew.cell? ⟨kb, 5, none⟩ = some (.int .i64 0) := by
      constructor
      · exact (World.cell?_setCell_other w ⟨rb, 33, none⟩ ⟨kb, 0, none⟩ (U64 q) (by simp [hne])).trans c0
      · exact (World.cell?_setCell_other w ⟨rb, 33, none⟩ ⟨kb, 5, none⟩ (U64 q) (by simp [hne])).trans c5
    go_region_held3 (fun w' => w'.cell? ⟨kb, 0, none⟩ = some (.pointer (some ⟨rb, 0, none⟩)) ∧ w'.cell? ⟨kb, 5, none⟩ = some (.int .i64 0) ∧ w'.cell? ⟨rb, 33, none⟩ = some (U64 s0)) (go_keep) (fail)
    all_goals
      go_wp2_with fail
      go_region_held3 (fun w' => w'.cell? ⟨kb, 0, none⟩ = some (.pointer (some ⟨rb, 0, none⟩)) ∧ w'.cell? ⟨kb, 5, none⟩ = some (.int .i64 0)) (first | go_keep | exact hS) (fail)
      all_goals
        have c5' : (w.setCell ⟨rb, 33, none⟩ (U64 q)).cell? ⟨kb, 5, none⟩ = some (.int .i64 0) := (World.cell?_setCell_other w ⟨rb, 33, none⟩ ⟨kb, 5, none⟩ (U64 q) (by simp [hne])).trans c5
        go_wp2_with fail
        all_goals
          go_ret
          first
            | exact ⟨⟨_, q, HQ.out, rfl, (HR.out.set 33 (U64 q)).drew.drew.drew⟩, ((((Kept.refl [rb] w).setCell (.inl (by simp)) _).drew).drew).drew⟩
            | exact ⟨⟨_, s0, h0, rfl, (HR.out.set 33 (U64 s0)).drew.drew.drew⟩, ((((Kept.refl [rb] w).setCell (.inl (by simp)) _).drew).drew).drew⟩
set_option maxHeartbeats 3200000 in
theorem mark0_false (H : Blk w kb 57 (workC rb W)) (R : Blk w rb 50 (rackC cap s0 s1 turn)) (hk : W.kind = 0) (hl : W.level < 8) (h0 : s0 < 256) (h1 : s1 < 256) : Calls Tryd.prog 56 #[.pointer (some ⟨kb, 0, none⟩), .bool false] w fun r w' =>
    (∃ b r', r' < 256 ∧ r = .returned (.bool b) ∧ Blk w' rb 50 (rackC cap r' s1 turn)) ∧ Kept [rb] w w' := by
  have hne : kb ≠ rb := H.ne R (by decide)
  have c0 := H.cell 0
  have c4 := H.cell 4
  have c5 := H.cell 5
  simp [workC] at c0 c4 c5
  rw [hk] at c5
  have d : w.cell? ⟨rb, 33, none⟩ = some (U64 s0) := R.cell 33
  have df := R.frozen 33
  have HR := Lib.hid R
  have HWo := Lib.hid (fun w => sWithout_any s0 W.level w (by omega) hl)
  have HWi := Lib.hid (fun (s : Nat) w (h : s < 256) => sWith_any s W.level w (by omega) (by omega))
  have HO := Lib.hid (fun (s : Nat) (h : s < 256) => or_lt s W.level h hl)
  generalize W.level = l at *
  clear H R hk
  go_enter Tryd.func56, Tryd.ntmps56
  go_wp2_with fail
  go_region_held3 (fun w' => w'.cell? ⟨kb, 0, none⟩ = some (.pointer (some ⟨rb, 0, none⟩)) ∧ w'.cell? ⟨kb, 4, none⟩ = some (.int .i64 l) ∧ w'.cell? ⟨kb, 5, none⟩ = some (.int .i64 0) ∧ w'.cell? ⟨rb, 33, none⟩ = some (U64 s0)) (go_keep) (first | (go_at_call 74; refine (HWo.out _).mono ?_; rintro e w1 ⟨⟨r, hr, rfl⟩, rfl⟩))
  all_goals
    have HRL := Lib.hid hr
    clear hr
    have HQ := HRL
    go_wp2_with fail
    have hS : (w.setCell ⟨rb, 33, none⟩ (U64 r)).drew.drew.drew.cell? ⟨kb, 0, none⟩ = some (.pointer (some ⟨rb, 0, none⟩)) ∧ (w.setCell ⟨rb, 33, none⟩ (U64 r)).drew.drew.drew.cell? ⟨kb, 5, none⟩ = some (.int .i64 0) := by
      constructor
      · exact (World.cell?_setCell_other w ⟨rb, 33, none⟩ ⟨kb, 0, none⟩ (U64 r) (by simp [hne])).trans c0
      · exact (World.cell?_setCell_other w ⟨rb, 33, none⟩ ⟨kb, 5, none⟩ (U64 r) (by simp [hne])).trans c5
    go_region_held3 (fun w' => w'.cell? ⟨kb, 0, none⟩ = some (.pointer (some ⟨rb, 0, none⟩)) ∧ w'.cell? ⟨kb, 5, none⟩ = some (.int .i64 0) ∧ w'.cell? ⟨rb, 33, none⟩ = some (U64 s0)) (go_keep) (fail)
    all_goals
      go_wp2_with fail
      go_region_held3 (fun w' => w'.cell? ⟨kb, 0, none⟩ = some (.pointer (some ⟨rb, 0, none⟩)) ∧ w'.cell? ⟨kb, 5, none⟩ = some (.int .i64 0)) (first | go_keep | exact hS) (fail)
      all_goals
        have c5' : (w.setCell ⟨rb, 33, none⟩ (U64 r)).cell? ⟨kb, 5, none⟩ = some (.int .i64 0) := (World.cell?_setCell_other w ⟨rb, 33, none⟩ ⟨kb, 5, none⟩ (U64 r) (by simp [hne])).trans c5
        go_wp2_with fail
        all_goals
          go_ret
          first
            | exact ⟨⟨_, r, HQ.out, rfl, (HR.out.set 33 (U64 r)).drew.drew.drew⟩, ((((Kept.refl [rb] w).setCell (.inl (by simp)) _).drew).drew).drew⟩
            | exact ⟨⟨_, s0, h0, rfl, (HR.out.set 33 (U64 s0)).drew.drew.drew⟩, ((((Kept.refl [rb] w).setCell (.inl (by simp)) _).drew).drew).drew⟩
set_option maxHeartbeats 3200000 in
theorem mark1_true (H : Blk w kb 57 (workC rb W)) (R : Blk w rb 50 (rackC cap s0 s1 turn)) (hk : W.kind = 1) (hl : W.level < 8) (h0 : s0 < 256) (h1 : s1 < 256) : Calls Tryd.prog 56 #[.pointer (some ⟨kb, 0, none⟩), .bool true] w fun r w' =>
    (∃ b r', r' < 256 ∧ r = .returned (.bool b) ∧ Blk w' rb 50 (rackC cap s0 r' turn)) ∧ Kept [rb] w w' := by
  have hne : kb ≠ rb := H.ne R (by decide)
  have c0 := H.cell 0
  have c4 := H.cell 4
  have c5 := H.cell 5
  simp [workC] at c0 c4 c5
  rw [hk] at c5
  have d : w.cell? ⟨rb, 34, none⟩ = some (U64 s1) := R.cell 34
  have df := R.frozen 34
  have HR := Lib.hid R
  have HWo := Lib.hid (fun w => sWithout_any s1 W.level w (by omega) hl)
  have HWi := Lib.hid (fun (s : Nat) w (h : s < 256) => sWith_any s W.level w (by omega) (by omega))
  have HO := Lib.hid (fun (s : Nat) (h : s < 256) => or_lt s W.level h hl)
  generalize W.level = l at *
  clear H R hk
  go_enter Tryd.func56, Tryd.ntmps56
  go_wp2_with fail
  go_region_held3 (fun w' => w'.cell? ⟨kb, 0, none⟩ = some (.pointer (some ⟨rb, 0, none⟩)) ∧ w'.cell? ⟨kb, 4, none⟩ = some (.int .i64 l) ∧ w'.cell? ⟨kb, 5, none⟩ = some (.int .i64 1) ∧ w'.cell? ⟨rb, 34, none⟩ = some (U64 s1)) (go_keep) (first | (go_at_call 74; refine (HWo.out _).mono ?_; rintro e w1 ⟨⟨r, hr, rfl⟩, rfl⟩))
  all_goals
    have HRL := Lib.hid hr
    clear hr
    go_wp2_with fail
    refine (HWi.out r _ HRL.out).mono ?_
    rintro e w1 ⟨rfl, rfl⟩
    have HQ := Lib.hid (HO.out r HRL.out)
    generalize r ||| 2 ^ l = q at *
    go_wp2_with fail
    have hS : (w.setCell ⟨rb, 34, none⟩ (U64 q)).drew.drew.drew.cell? ⟨kb, 0, none⟩ = some (.pointer (some ⟨rb, 0, none⟩)) ∧ (w.setCell ⟨rb, 34, none⟩ (U64 q)).drew.drew.drew.cell? ⟨kb, 5, none⟩ = some (.int .i64 1) := by
      constructor
      · exact (World.cell?_setCell_other w ⟨rb, 34, none⟩ ⟨kb, 0, none⟩ (U64 q) (by simp [hne])).trans c0
      · exact (World.cell?_setCell_other w ⟨rb, 34, none⟩ ⟨kb, 5, none⟩ (U64 q) (by simp [hne])).trans c5
    go_region_held3 (fun w' => w'.cell? ⟨kb, 0, none⟩ = some (.pointer (some ⟨rb, 0, none⟩)) ∧ w'.cell? ⟨kb, 5, none⟩ = some (.int .i64 1) ∧ w'.cell? ⟨rb, 34, none⟩ = some (U64 s1)) (go_keep) (fail)
    all_goals
      go_wp2_with fail
      go_region_held3 (fun w' => w'.cell? ⟨kb, 0, none⟩ = some (.pointer (some ⟨rb, 0, none⟩)) ∧ w'.cell? ⟨kb, 5, none⟩ = some (.int .i64 1)) (first | go_keep | exact hS) (fail)
      all_goals
        have c5' : (w.setCell ⟨rb, 34, none⟩ (U64 q)).cell? ⟨kb, 5, none⟩ = some (.int .i64 1) := (World.cell?_setCell_other w ⟨rb, 34, none⟩ ⟨kb, 5, none⟩ (U64 q) (by simp [hne])).trans c5
        go_wp2_with fail
        all_goals
          go_ret
          first
            | exact ⟨⟨_, q, HQ.out, rfl, (HR.out.set 34 (U64 q)).drew.drew.drew⟩, ((((Kept.refl [rb] w).setCell (.inl (by simp)) _).drew).drew).drew⟩
            | exact ⟨⟨_, s1, h1, rfl, (HR.out.set 34 (U64 s1)).drew.drew.drew⟩, ((((Kept.refl [rb] w).setCell (.inl (by simp)) _).drew).drew).drew⟩
set_option maxHeartbeats 3200000 in
theorem mark1_false (H : Blk w kb 57 (workC rb W)) (R : Blk w rb 50 (rackC cap s0 s1 turn)) (hk : W.kind = 1) (hl : W.level < 8) (h0 : s0 < 256) (h1 : s1 < 256) : Calls Tryd.prog 56 #[.pointer (some ⟨kb, 0, none⟩), .bool false] w fun r w' =>
    (∃ b r', r' < 256 ∧ r = .returned (.bool b) ∧ Blk w' rb 50 (rackC cap s0 r' turn)) ∧ Kept [rb] w w' := by
  have hne : kb ≠ rb := H.ne R (by decide)
  have c0 := H.cell 0
  have c4 := H.cell 4
  have c5 := H.cell 5
  simp [workC] at c0 c4 c5
  rw [hk] at c5
  have d : w.cell? ⟨rb, 34, none⟩ = some (U64 s1) := R.cell 34
  have df := R.frozen 34
  have HR := Lib.hid R
  have HWo := Lib.hid (fun w => sWithout_any s1 W.level w (by omega) hl)
  have HWi := Lib.hid (fun (s : Nat) w (h : s < 256) => sWith_any s W.level w (by omega) (by omega))
  have HO := Lib.hid (fun (s : Nat) (h : s < 256) => or_lt s W.level h hl)
  generalize W.level = l at *
  clear H R hk
  go_enter Tryd.func56, Tryd.ntmps56
  go_wp2_with fail
  go_region_held3 (fun w' => w'.cell? ⟨kb, 0, none⟩ = some (.pointer (some ⟨rb, 0, none⟩)) ∧ w'.cell? ⟨kb, 4, none⟩ = some (.int .i64 l) ∧ w'.cell? ⟨kb, 5, none⟩ = some (.int .i64 1) ∧ w'.cell? ⟨rb, 34, none⟩ = some (U64 s1)) (go_keep) (first | (go_at_call 74; refine (HWo.out _).mono ?_; rintro e w1 ⟨⟨r, hr, rfl⟩, rfl⟩))
  all_goals
    have HRL := Lib.hid hr
    clear hr
    have HQ := HRL
    go_wp2_with fail
    have hS : (w.setCell ⟨rb, 34, none⟩ (U64 r)).drew.drew.drew.cell? ⟨kb, 0, none⟩ = some (.pointer (some ⟨rb, 0, none⟩)) ∧ (w.setCell ⟨rb, 34, none⟩ (U64 r)).drew.drew.drew.cell? ⟨kb, 5, none⟩ = some (.int .i64 1) := by
      constructor
      · exact (World.cell?_setCell_other w ⟨rb, 34, none⟩ ⟨kb, 0, none⟩ (U64 r) (by simp [hne])).trans c0
      · exact (World.cell?_setCell_other w ⟨rb, 34, none⟩ ⟨kb, 5, none⟩ (U64 r) (by simp [hne])).trans c5
    go_region_held3 (fun w' => w'.cell? ⟨kb, 0, none⟩ = some (.pointer (some ⟨rb, 0, none⟩)) ∧ w'.cell? ⟨kb, 5, none⟩ = some (.int .i64 1) ∧ w'.cell? ⟨rb, 34, none⟩ = some (U64 s1)) (go_keep) (fail)
    all_goals
      go_wp2_with fail
      go_region_held3 (fun w' => w'.cell? ⟨kb, 0, none⟩ = some (.pointer (some ⟨rb, 0, none⟩)) ∧ w'.cell? ⟨kb, 5, none⟩ = some (.int .i64 1)) (first | go_keep | exact hS) (fail)
      all_goals
        have c5' : (w.setCell ⟨rb, 34, none⟩ (U64 r)).cell? ⟨kb, 5, none⟩ = some (.int .i64 1) := (World.cell?_setCell_other w ⟨rb, 34, none⟩ ⟨kb, 5, none⟩ (U64 r) (by simp [hne])).trans c5
        go_wp2_with fail
        all_goals
          go_ret
          first
            | exact ⟨⟨_, r, HQ.out, rfl, (HR.out.set 34 (U64 r)).drew.drew.drew⟩, ((((Kept.refl [rb] w).setCell (.inl (by simp)) _).drew).drew).drew⟩
            | exact ⟨⟨_, s1, h1, rfl, (HR.out.set 34 (U64 s1)).drew.drew.drew⟩, ((((Kept.refl [rb] w).setCell (.inl (by simp)) _).drew).drew).drew⟩
end
end Go.Proofs.YtahpjoknmclbfaaDoor

/- Package rack: emptying, popping. -/
namespace Go.Proofs.YtahpjoknmclbfaaDoor
open Go.RowKit

section
variable {w : World} {mb wb ob rb kb : Nat} {xs : List Nat} {o : OpS} {W : WorkS} {cap s0 s1 turn : Nat}
set_option maxHeartbeats 1600000 in
theorem kEmptying_any (H : Blk w kb 57 (workC rb W)) (R : Blk w rb 50 (rackC cap s0 s1 turn)) (M : MOp w mb wb ob xs o) (hx : 0 < xs.length) : Calls Tryd.prog 60 #[.pointer (some ⟨kb, 0, none⟩), .pointer (some ⟨mb, 0, none⟩)] w fun r w' =>
    r = .returned (.tuple #[]) ∧ MOp w' mb wb ob (xs.set 0 s0) o ∧ Blk w' kb 57 (workC rb { W with done := true, err := 8 }) ∧ Kept [mb, wb, ob, kb] w w' := by
  have k1 : kb ≠ mb := by obtain ⟨u, h⟩ := M.mem; exact H.ne h (by decide)
  have k2 : kb ≠ wb := H.ne M.words (by decide)
  have k3 : kb ≠ ob := H.ne M.op (by decide)
  have HS := Lib.hid (kWsign_any H R M hx)
  have HH := Lib.hid H
  clear H R M
  go_enter Tryd.func60, Tryd.ntmps60
  go_wp2_with fail
  refine HS.out.mono ?_
  rintro e w1 ⟨rfl, M1, hk1⟩
  have H1 := HH.out.kept hk1 (by simp [k1, k2, k3])
  have HE := Lib.hid (kWend_any H1 8)
  have HM1 := Lib.hid M1
  have HK1 := Lib.hid (hk1.mono (G' := [mb, wb, ob, kb]) (by simp +contextual))
  clear M1 hk1 H1
  go_wp2_with fail
  refine HE.out.mono ?_
  rintro e w2 ⟨rfl, H2, hk2⟩
  have HM2 := Lib.hid (show MOp w2 mb wb ob (xs.set 0 s0) o from by
    obtain ⟨u, h⟩ := HM1.out.mem
    exact ⟨⟨u, h.kept hk2 (by simp [Ne.symm k1])⟩, HM1.out.words.kept hk2 (by simp [Ne.symm k2]), HM1.out.op.kept hk2 (by simp [Ne.symm k3])⟩)
  have HH2 := Lib.hid H2
  have HK2 := Lib.hid (HK1.out.trans (hk2.mono (G' := [mb, wb, ob, kb]) (by simp +contextual)))
  clear H2 hk2
  go_wp2_with fail
  go_end0
  exact ⟨rfl, HM2.out, HH2.out, HK2.out⟩
/-- What stays of a memory beside a work that turns. -/
theorem MOp.beside {w' : World} (M : MOp w mb wb ob xs o) (hk : Kept [kb] w w') (k1 : kb ≠ mb) (k2 : kb ≠ wb) (k3 : kb ≠ ob) : MOp w' mb wb ob xs o := by
  obtain ⟨u, h⟩ := M.mem
  exact ⟨⟨u, h.kept hk (by simp [Ne.symm k1])⟩, M.words.kept hk (by simp [Ne.symm k2]), M.op.kept hk (by simp [Ne.symm k3])⟩
set_option maxHeartbeats 3200000 in
theorem kPopping_any {base oc k b t x err : Nat} {won : Bool} (H : Blk w kb 57 (workC rb W)) (hop : W.op = .pointer (some ⟨ob, 0, none⟩)) (M : MOp w mb wb ob xs ⟨base, oc, 1, k, b, t, x, won, false, err⟩) (hk : k ≤ 5) (O : OpOk ⟨base, oc, 1, k, b, t, x, won, false, err⟩ xs) : Calls Tryd.prog 47 #[.pointer (some ⟨kb, 0, none⟩), .pointer (some ⟨mb, 0, none⟩)] w fun r w' =>
    r = .returned (.tuple #[]) ∧ (∃ o' xs' x', Turn ⟨base, oc, 1, k + 1, b, t, x, won, false, err⟩ xs o' xs' ∧ MOp w' mb wb ob xs' o' ∧ Blk w' kb 57 (workC rb { W with x := x', done := W.done || o'.done, err := if o'.done then o'.err else W.err })) ∧ Kept [mb, wb, ob, kb] w w' := by
  have k1 : kb ≠ mb := by obtain ⟨u, h⟩ := M.mem; exact H.ne h (by decide)
  have k2 : kb ≠ wb := H.ne M.words (by decide)
  have k3 : kb ≠ ob := H.ne M.op (by decide)
  have HS := Lib.hid (qStep1 M hk O)
  have HH := Lib.hid H
  have c6 := H.cell 6
  simp [workC] at c6
  rw [hop] at c6
  clear H M O hop
  go_enter Tryd.func47, Tryd.ntmps47
  go_wp2_with fail
  refine HS.out.mono ?_
  rintro e w1 ⟨⟨o', xs', T, rfl, M1⟩, hk1⟩
  obtain ⟨base', cap', kind', k', b', t', x', won', done', err'⟩ := o'
  have H1 := HH.out.kept hk1 (by simp [k1, k2, k3])
  have HTu := Lib.hid T
  have HM1 := Lib.hid M1
  have HH1 := Lib.hid H1
  have HK1 := Lib.hid (hk1.mono (G' := [mb, wb, ob, kb]) (by simp +contextual))
  have c6 := hk1.cell_some c6 (by simp [k1, k2, k3])
  clear T M1 H1 hk1
  cases done' with
  | false =>
    go_wp2_with fail
    go_end0
    exact ⟨rfl, ⟨_, _, W.x, HTu.out, HM1.out, by simpa using HH1.out⟩, HK1.out⟩
  | true =>
    have HRe : ∃ y : Nat, Calls Tryd.prog 53 #[.pointer (some ⟨ob, 0, none⟩)] w1 fun r w' => r = .returned (.tuple #[U64 y, .int .i64 err']) ∧ Kept [] w1 w' := by
      by_cases he : err' = 0
      · subst he; exact ⟨x', qResult_ok HM1.out⟩
      · exact ⟨0, qResult_err HM1.out he⟩
    obtain ⟨y, hr⟩ := HRe
    have HR := Lib.hid hr
    clear hr
    go_wp2_with fail
    refine HR.out.mono ?_
    rintro e w2 ⟨rfl, hk2⟩
    have H2 := HH1.out.kept hk2 (by simp)
    have c3 := H2.cell 3
    have f3 := H2.frozen 3
    simp [workC] at c3
    have H3 : Blk (w2.setCell ⟨kb, 3, none⟩ (U64 y)) kb 57 (workC rb { W with x := y }) := H2.set 3 (U64 y)
    have hk3 : Kept [kb] w1 (w2.setCell ⟨kb, 3, none⟩ (U64 y)) := (hk2.mono (by simp)).setCell (.inl (by simp)) _
    have HE := Lib.hid (kWend_any H3 err')
    have HM3 := Lib.hid (HM1.out.beside hk3 k1 k2 k3)
    have HK3 := Lib.hid (HK1.out.trans (hk3.mono (G' := [mb, wb, ob, kb]) (by simp +contextual)))
    clear hk2 H2 H3 hk3
    go_wp2_with fail
    refine HE.out.mono ?_
    rintro e w3 ⟨rfl, H4, hk4⟩
    have HM4 := Lib.hid (HM3.out.beside hk4 k1 k2 k3)
    have HH4 := Lib.hid H4
    have HK4 := Lib.hid (HK3.out.trans (hk4.mono (G' := [mb, wb, ob, kb]) (by simp +contextual)))
    clear H4 hk4
    go_wp2_with fail
    go_end0
    exact ⟨rfl, ⟨_, _, y, HTu.out, HM4.out, by simpa using HH4.out⟩, HK4.out⟩
end
end Go.Proofs.YtahpjoknmclbfaaDoor

