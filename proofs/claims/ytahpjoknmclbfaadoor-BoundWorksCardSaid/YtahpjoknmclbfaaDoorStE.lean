/- Package rack: taking; Package rack: robbing, again. -/
import Derived.Test.YtahpjoknmclbfaaDoorStD
import Derived.Test.YtahpjoknmclbfaaDoorStA

/- Package rack: taking. -/
namespace Go.Proofs.YtahpjoknmclbfaaDoor
open Go.RowKit

@[go_sem] theorem run_store_fun {a : Addr} {m : Mode} {P : Program} {w : World} (f : Fn) (x y : Array Value) : (store a (.func f x y) m).run P w = stored P w a (.func f x y) m := run_store P w a _ m rfl
section
variable {w : World} {mb wb ob rb kb : Nat} {xs : List Nat} {o : OpS} {W : WorkS} {cap s0 s1 turn : Nat}
theorem MOp.besideR {w' : World} (M : MOp w mb wb ob xs o) (hk : Kept [rb] w w') (k1 : rb ≠ mb) (k2 : rb ≠ wb) (k3 : rb ≠ ob) : MOp w' mb wb ob xs o := M.beside hk k1 k2 k3
/-- What mark does, whatever the kind. -/
theorem mark_false (H : Blk w kb 57 (workC rb W)) (R : Blk w rb 50 (rackC cap s0 s1 turn)) (hk : W.kind < 2) (hl : W.level < 8) (h0 : s0 < 256) (h1 : s1 < 256) : Calls Tryd.prog 56 #[.pointer (some ⟨kb, 0, none⟩), .bool false] w fun r w' =>
    (∃ b r0 r1, r0 < 256 ∧ r1 < 256 ∧ r = .returned (.bool b) ∧ Blk w' rb 50 (rackC cap r0 r1 turn)) ∧ Kept [rb] w w' := by
  have : W.kind = 0 ∨ W.kind = 1 := by omega
  rcases this with h | h
  · exact (mark0_false H R h hl h0 h1).mono fun _ _ ⟨⟨b, r, a1, a2, a3⟩, a4⟩ => ⟨⟨b, r, s1, a1, h1, a2, a3⟩, a4⟩
  · exact (mark1_false H R h hl h0 h1).mono fun _ _ ⟨⟨b, r, a1, a2, a3⟩, a4⟩ => ⟨⟨b, s0, r, h0, a1, a2, a3⟩, a4⟩
theorem mark_true (H : Blk w kb 57 (workC rb W)) (R : Blk w rb 50 (rackC cap s0 s1 turn)) (hk : W.kind < 2) (hl : W.level < 8) (h0 : s0 < 256) (h1 : s1 < 256) : Calls Tryd.prog 56 #[.pointer (some ⟨kb, 0, none⟩), .bool true] w fun r w' =>
    (∃ b r0 r1, r0 < 256 ∧ r1 < 256 ∧ r = .returned (.bool b) ∧ Blk w' rb 50 (rackC cap r0 r1 turn)) ∧ Kept [rb] w w' := by
  have : W.kind = 0 ∨ W.kind = 1 := by omega
  rcases this with h | h
  · exact (mark0_true H R h hl h0 h1).mono fun _ _ ⟨⟨b, r, a1, a2, a3⟩, a4⟩ => ⟨⟨b, r, s1, a1, h1, a2, a3⟩, a4⟩
  · exact (mark1_true H R h hl h0 h1).mono fun _ _ ⟨⟨b, r, a1, a2, a3⟩, a4⟩ => ⟨⟨b, s0, r, h0, a1, a2, a3⟩, a4⟩
set_option maxHeartbeats 3200000 in
theorem kTaking_any {base oc k b t x err : Nat} {won : Bool} (H : Blk w kb 57 (workC rb W)) (R : Blk w rb 50 (rackC cap s0 s1 turn)) (hW : W.kind < 2 ∧ W.level < 8 ∧ W.done = false) (h0 : s0 < 256) (h1 : s1 < 256) (hop : W.op = .pointer (some ⟨ob, 0, none⟩)) (M : MOp w mb wb ob xs ⟨base, oc, 2, k, b, t, x, won, false, err⟩) (hk : k ≤ 3) (O : OpOk ⟨base, oc, 2, k, b, t, x, won, false, err⟩ xs) : Calls Tryd.prog 44 #[.pointer (some ⟨kb, 0, none⟩), .pointer (some ⟨mb, 0, none⟩)] w fun r w' =>
    r = .returned (.tuple #[]) ∧ (∃ o' xs' x' r0 r1 nx dn er, Turn ⟨base, oc, 2, k + 1, b, t, x, won, false, err⟩ xs o' xs' ∧ MOp w' mb wb ob xs' o' ∧ r0 < 256 ∧ r1 < 256 ∧ Blk w' rb 50 (rackC cap r0 r1 turn) ∧ Blk w' kb 57 (workC rb { W with x := x', next := nx, done := dn, err := er }) ∧
      (o'.done = false → nx = W.next ∧ dn = false) ∧ (o'.done = true → dn = true ∨ (nx = 60 ∧ dn = false ∧ o'.err = 7))) ∧ Kept [mb, wb, ob, kb, rb] w w' := by
  have k1 : kb ≠ mb := by obtain ⟨u, h⟩ := M.mem; exact H.ne h (by decide)
  have k2 : kb ≠ wb := H.ne M.words (by decide)
  have k3 : kb ≠ ob := H.ne M.op (by decide)
  have r1 : rb ≠ mb := by obtain ⟨u, h⟩ := M.mem; exact R.ne h (by decide)
  have r2 : rb ≠ wb := R.ne M.words (by decide)
  have r3 : rb ≠ ob := R.ne M.op (by decide)
  have kr : kb ≠ rb := H.ne R (by decide)
  have HS := Lib.hid (qStep2 M hk O)
  have HH := Lib.hid H
  have HRk := Lib.hid R
  have HW := Lib.hid hW
  have c6 := H.cell 6
  simp [workC] at c6
  rw [hop] at c6
  clear H M O hop R hW
  go_enter Tryd.func44, Tryd.ntmps44
  go_wp2_with fail
  refine HS.out.mono ?_
  rintro e w1 ⟨⟨o', xs', T, rfl, M1⟩, hk1⟩
  obtain ⟨base', cap', kind', k', b', t', x', won', done', err'⟩ := o'
  have H1 := HH.out.kept hk1 (by simp [k1, k2, k3])
  have HR1 := Lib.hid (HRk.out.kept hk1 (by simp [r1, r2, r3]))
  have HTu := Lib.hid T
  have HM1 := Lib.hid M1
  have HH1 := Lib.hid H1
  have HK1 := Lib.hid (hk1.mono (G' := [mb, wb, ob, kb, rb]) (by simp +contextual))
  have c6 := hk1.cell_some c6 (by simp [k1, k2, k3])
  have hWe : W = { W with x := W.x, next := W.next, done := false, err := W.err } := by
    have := HW.out.2.2
    cases W; simp_all
  have HWe := Lib.hid hWe
  have HWn : Hid (∀ n, { W with next := n } = { W with x := W.x, next := n, done := false, err := W.err }) := fun n => by
    have := HW.out.2.2
    cases W; simp_all
  clear T M1 H1 hk1 hWe
  cases done' with
  | false =>
    go_wp2_with fail
    first | go_end0 | refine bodyPost_ret (results_none rfl _ _ _) rfl ?_
    exact ⟨rfl, ⟨_, _, W.x, s0, s1, W.next, false, W.err, HTu.out, HM1.out, h0, h1, HR1.out, HWe.out ▸ HH1.out, fun _ => ⟨rfl, rfl⟩, fun h => by cases h⟩, HK1.out⟩
  | true =>
    have HRe : ∃ y : Nat, Calls Tryd.prog 53 #[.pointer (some ⟨ob, 0, none⟩)] w1 fun r w' => r = .returned (.tuple #[U64 y, .int .i64 err']) ∧ Kept [] w1 w' := by
      by_cases he : err' = 0
      · subst he; exact ⟨x', qResult_ok HM1.out⟩
      · exact ⟨0, qResult_err HM1.out he⟩
    obtain ⟨y, hr⟩ := HRe
    have HR := Lib.hid hr
    clear hr
    go_wp2_with fail
    refine HR.out.mono ?_
    rintro e w2 ⟨rfl, hk2⟩
    have H2 := HH1.out.kept hk2 (by simp)
    have R2 := HR1.out.kept hk2 (by simp)
    have HM2 := Lib.hid (HM1.out.old hk2)
    have HK2 := Lib.hid (HK1.out.trans (hk2.mono (G' := [mb, wb, ob, kb, rb]) (by simp)))
    have c3 := H2.cell 3
    have f3 := H2.frozen 3
    simp [workC] at c3
    by_cases h7 : err' = 7
    · subst h7
      have HMk := Lib.hid (mark_false H2 R2 HW.out.1 HW.out.2.1 h0 h1)
      have HH2 := Lib.hid H2
      clear H2 R2 hk2
      go_wp2_with fail
      refine HMk.out.mono ?_
      rintro e w3 ⟨⟨bb, q0, q1, g0, g1, rfl, R3⟩, hk3⟩
      have H3 := HH2.out.kept hk3 (by simp [kr])
      have HM3 := Lib.hid (HM2.out.besideR hk3 r1 r2 r3)
      have HR3 := Lib.hid R3
      have HK3 := Lib.hid (HK2.out.trans (hk3.mono (G' := [mb, wb, ob, kb, rb]) (by simp +contextual)))
      have HG := Lib.hid (And.intro g0 g1)
      clear R3 hk3 g0 g1
      cases bb with
      | true =>
        have c1 := H3.cell 1
        have f1 := H3.frozen 1
        simp [workC] at c1
        have H4 : Blk (w3.setCell ⟨kb, 1, none⟩ (.func (.func 60) #[] #[])) kb 57 (workC rb { W with next := 60 }) := H3.set 1 _
        have HH4 := Lib.hid H4
        have hk4 : Kept [kb] w3 (w3.setCell ⟨kb, 1, none⟩ (.func (.func 60) #[] #[])) := (Kept.refl _ _).setCell (.inl (by simp)) _
        have HM4 := Lib.hid (HM3.out.beside hk4 k1 k2 k3)
        have HR4 := Lib.hid (HR3.out.kept hk4 (by simp [Ne.symm kr]))
        have HK4 := Lib.hid (HK3.out.trans (hk4.mono (G' := [mb, wb, ob, kb, rb]) (by simp +contextual)))
        clear H3 H4 hk4
        go_wp2_with fail
        first | go_end0 | refine bodyPost_ret (results_none rfl _ _ _) rfl ?_
        exact ⟨rfl, ⟨_, _, W.x, q0, q1, 60, false, W.err, HTu.out, HM4.out, HG.out.1, HG.out.2, HR4.out, (HWn.out _) ▸ HH4.out, (fun h => by cases h), fun _ => .inr ⟨rfl, rfl, rfl⟩⟩, HK4.out⟩
      | false =>
        have HE := Lib.hid (kWend_any H3 8)
        clear H3
        go_wp2_with fail
        refine HE.out.mono ?_
        rintro e w4 ⟨rfl, H4, hk4⟩
        have HM4 := Lib.hid (HM3.out.beside hk4 k1 k2 k3)
        have HR4 := Lib.hid (HR3.out.kept hk4 (by simp [Ne.symm kr]))
        have HH4 := Lib.hid H4
        have HK4 := Lib.hid (HK3.out.trans (hk4.mono (G' := [mb, wb, ob, kb, rb]) (by simp +contextual)))
        clear H4 hk4
        go_wp2_with fail
        first | go_end0 | refine bodyPost_ret (results_none rfl _ _ _) rfl ?_
        exact ⟨rfl, ⟨_, _, W.x, q0, q1, W.next, true, 8, HTu.out, HM4.out, HG.out.1, HG.out.2, HR4.out, HH4.out, (fun h => by cases h), fun _ => .inl rfl⟩, HK4.out⟩
    · have H3 : Blk (w2.setCell ⟨kb, 3, none⟩ (U64 y)) kb 57 (workC rb { W with x := y }) := H2.set 3 (U64 y)
      have hk3 : Kept [kb] w2 (w2.setCell ⟨kb, 3, none⟩ (U64 y)) := (Kept.refl _ _).setCell (.inl (by simp)) _
      have HE := Lib.hid (kWend_any H3 err')
      have HM3 := Lib.hid (HM2.out.beside hk3 k1 k2 k3)
      have HR3 := Lib.hid (R2.kept hk3 (by simp [Ne.symm kr]))
      have HK3 := Lib.hid (HK2.out.trans (hk3.mono (G' := [mb, wb, ob, kb, rb]) (by simp +contextual)))
      have h7' : ¬ (err' : Int) = 7 := by omega
      clear H2 R2 hk2 H3 hk3
      go_wp2_with fail
      refine HE.out.mono ?_
      rintro e w4 ⟨rfl, H4, hk4⟩
      have HM4 := Lib.hid (HM3.out.beside hk4 k1 k2 k3)
      have HR4 := Lib.hid (HR3.out.kept hk4 (by simp [Ne.symm kr]))
      have HH4 := Lib.hid H4
      have HK4 := Lib.hid (HK3.out.trans (hk4.mono (G' := [mb, wb, ob, kb, rb]) (by simp +contextual)))
      clear H4 hk4
      go_wp2_with fail
      first | go_end0 | refine bodyPost_ret (results_none rfl _ _ _) rfl ?_
      exact ⟨rfl, ⟨_, _, y, s0, s1, W.next, true, err', HTu.out, HM4.out, h0, h1, HR4.out, HH4.out, (fun h => by cases h), fun _ => .inl rfl⟩, HK4.out⟩
end
end Go.Proofs.YtahpjoknmclbfaaDoor

/- Package rack: robbing, again. -/
namespace Go.Proofs.YtahpjoknmclbfaaDoor
open Go.RowKit

section
variable {w : World} {mb wb ob rb kb : Nat} {xs : List Nat} {o : OpS} {W : WorkS} {cap s0 s1 turn : Nat}
/-- What robbing leaves. -/
inductive RobPost (w' : World) (mb wb ob rb kb : Nat) (xs : List Nat) (W : WorkS) (o1 : OpS) : Prop
  | mk (o' : OpS) (xs' : List Nat) (x' nx er : Nat) (t : Turn o1 xs o' xs') (m : MOp w' mb wb ob xs' o') (h : Blk w' kb 57 (workC rb { W with x := x', next := nx, done := o'.done, err := er })) (n : o'.done = false → nx = if 3 ≤ o1.steps then 66 else W.next) : RobPost w' mb wb ob rb kb xs W o1
/-- What an operation that is done tells. -/
theorem qResult_done {base oc kind k b t x err : Nat} {won : Bool} (M : MOp w mb wb ob xs ⟨base, oc, kind, k, b, t, x, won, true, err⟩) : ∃ y : Nat, Calls Tryd.prog 53 #[.pointer (some ⟨ob, 0, none⟩)] w fun r w' => r = .returned (.tuple #[U64 y, .int .i64 err]) ∧ Kept [] w w' := by
  by_cases he : err = 0
  · subst he; exact ⟨x, qResult_ok M⟩
  · exact ⟨0, qResult_err M he⟩
theorem qSeen_any {base oc k b t x err : Nat} {won dn : Bool} (M : MOp w mb wb ob xs ⟨base, oc, 2, k, b, t, x, won, dn, err⟩) : ∃ y : Nat, Calls Tryd.prog 65 #[.pointer (some ⟨ob, 0, none⟩)] w fun r w' => r = .returned (.tuple #[U64 y, .bool (decide (3 ≤ k))]) ∧ Kept [] w w' := by
  by_cases hk : 3 ≤ k
  · rw [decide_eq_true hk]; exact ⟨x, qSeen_yes M hk⟩
  · rw [decide_eq_false hk]; exact ⟨0, qSeen_no M (by omega)⟩
set_option maxHeartbeats 3200000 in
theorem kRobbing_any {base oc k b t x err : Nat} {won : Bool} (H : Blk w kb 57 (workC rb W)) (hd : W.done = false) (hop : W.op = .pointer (some ⟨ob, 0, none⟩)) (M : MOp w mb wb ob xs ⟨base, oc, 2, k, b, t, x, won, false, err⟩) (hk : k ≤ 3) (O : OpOk ⟨base, oc, 2, k, b, t, x, won, false, err⟩ xs) : Calls Tryd.prog 50 #[.pointer (some ⟨kb, 0, none⟩), .pointer (some ⟨mb, 0, none⟩)] w fun r w' =>
    r = .returned (.tuple #[]) ∧ RobPost w' mb wb ob rb kb xs W ⟨base, oc, 2, k + 1, b, t, x, won, false, err⟩ ∧ Kept [mb, wb, ob, kb] w w' := by
  have k1 : kb ≠ mb := by obtain ⟨u, h⟩ := M.mem; exact H.ne h (by decide)
  have k2 : kb ≠ wb := H.ne M.words (by decide)
  have k3 : kb ≠ ob := H.ne M.op (by decide)
  have HS := Lib.hid (qStep2 M hk O)
  have HH := Lib.hid H
  have c6 := H.cell 6
  simp [workC] at c6
  rw [hop] at c6
  have hWe : W = { W with x := W.x, next := W.next, done := false, err := W.err } := by cases W; simp_all
  have HWe := Lib.hid hWe
  have HWn : Hid (∀ n, { W with next := n } = { W with x := W.x, next := n, done := false, err := W.err }) := fun n => by cases W; simp_all
  clear H M O hop hWe hd
  go_enter Tryd.func50, Tryd.ntmps50
  go_wp2_with fail
  refine HS.out.mono ?_
  rintro e w1 ⟨⟨o', xs', T, rfl, M1⟩, hk1⟩
  obtain ⟨z1, z2, z3, z4⟩ := T.same
  obtain ⟨base', cap', kind', k', b', t', x', won', done', err'⟩ := o'
  simp only at z1 z2 z3 z4
  subst z1 z2 z3 z4
  have H1 := HH.out.kept hk1 (by simp [k1, k2, k3])
  have HTu := Lib.hid T
  have HM1 := Lib.hid M1
  have HH1 := Lib.hid H1
  have HK1 := Lib.hid (hk1.mono (G' := [mb, wb, ob, kb]) (by simp +contextual))
  have c6 := hk1.cell_some c6 (by simp [k1, k2, k3])
  clear T M1 H1 hk1
  cases done' with
  | false =>
    obtain ⟨y, hs⟩ := qSeen_any HM1.out
    have HSe := Lib.hid hs
    clear hs
    go_wp2_with fail
    refine HSe.out.mono ?_
    rintro e w2 ⟨rfl, hk2⟩
    have H2 := HH1.out.kept hk2 (by simp)
    have HM2 := Lib.hid (HM1.out.old hk2)
    have HK2 := Lib.hid (HK1.out.trans (hk2.mono (G' := [mb, wb, ob, kb]) (by simp)))
    clear hk2
    by_cases h3 : 2 ≤ k
    · have e3 : decide (2 ≤ k) = true := decide_eq_true h3
      have c1 := H2.cell 1
      have f1 := H2.frozen 1
      simp [workC] at c1
      have H4 : Blk (w2.setCell ⟨kb, 1, none⟩ (.func (.func 66) #[] #[])) kb 57 (workC rb { W with next := 66 }) := H2.set 1 _
      have HH4 := Lib.hid H4
      have hk4 : Kept [kb] w2 (w2.setCell ⟨kb, 1, none⟩ (.func (.func 66) #[] #[])) := (Kept.refl _ _).setCell (.inl (by simp)) _
      have HM4 := Lib.hid (HM2.out.beside hk4 k1 k2 k3)
      have HK4 := Lib.hid (HK2.out.trans (hk4.mono (G' := [mb, wb, ob, kb]) (by simp +contextual)))
      have H3 := Lib.hid h3
      clear H2 H4 hk4 h3
      go_wp2_with fail
      first | go_end0 | refine bodyPost_ret (results_none rfl _ _ _) rfl ?_
      exact ⟨rfl, ⟨_, _, W.x, 66, W.err, HTu.out, HM4.out, (HWn.out _) ▸ HH4.out, fun _ => (if_pos (show 3 ≤ k + 1 by have := H3.out; omega)).symm⟩, HK4.out⟩
    · have e3 : decide (2 ≤ k) = false := decide_eq_false h3
      have HH2 := Lib.hid H2
      have H3 := Lib.hid h3
      clear H2 h3
      go_wp2_with fail
      first | go_end0 | refine bodyPost_ret (results_none rfl _ _ _) rfl ?_
      exact ⟨rfl, ⟨_, _, W.x, W.next, W.err, HTu.out, HM2.out, HWe.out ▸ HH2.out, fun _ => (if_neg (show ¬ 3 ≤ k + 1 by have := H3.out; omega)).symm⟩, HK2.out⟩
  | true =>
    obtain ⟨y, hr⟩ := qResult_done HM1.out
    have HR := Lib.hid hr
    clear hr
    go_wp2_with fail
    refine HR.out.mono ?_
    rintro e w2 ⟨rfl, hk2⟩
    have H2 := HH1.out.kept hk2 (by simp)
    have HM2 := Lib.hid (HM1.out.old hk2)
    have HK2 := Lib.hid (HK1.out.trans (hk2.mono (G' := [mb, wb, ob, kb]) (by simp)))
    have c3 := H2.cell 3
    have f3 := H2.frozen 3
    simp [workC] at c3
    have H3 : Blk (w2.setCell ⟨kb, 3, none⟩ (U64 y)) kb 57 (workC rb { W with x := y }) := H2.set 3 (U64 y)
    have hk3 : Kept [kb] w2 (w2.setCell ⟨kb, 3, none⟩ (U64 y)) := (Kept.refl _ _).setCell (.inl (by simp)) _
    have HE := Lib.hid (kWend_any H3 err')
    have HM3 := Lib.hid (HM2.out.beside hk3 k1 k2 k3)
    have HK3 := Lib.hid (HK2.out.trans (hk3.mono (G' := [mb, wb, ob, kb]) (by simp +contextual)))
    clear H2 hk2 H3 hk3
    go_wp2_with fail
    refine HE.out.mono ?_
    rintro e w4 ⟨rfl, H4, hk4⟩
    have HM4 := Lib.hid (HM3.out.beside hk4 k1 k2 k3)
    have HH4 := Lib.hid H4
    have HK4 := Lib.hid (HK3.out.trans (hk4.mono (G' := [mb, wb, ob, kb]) (by simp +contextual)))
    clear H4 hk4
    go_wp2_with fail
    first | go_end0 | refine bodyPost_ret (results_none rfl _ _ _) rfl ?_
    exact ⟨rfl, ⟨_, _, y, W.next, err', HTu.out, HM4.out, HH4.out, fun h => by cases h⟩, HK4.out⟩
/-- A new operation, and what is next. -/
theorem newOp_of {w1 : World} {og : Nat} (H : Blk w1 kb 57 (workC rb W)) (n : Nat) : Blk ((w1.setCell ⟨kb, 6, none⟩ (.pointer (some ⟨og, 0, none⟩))).setCell ⟨kb, 1, none⟩ (.func (.func n) #[] #[])) kb 57 (workC rb { W with op := .pointer (some ⟨og, 0, none⟩), next := n }) := (H.set 6 _).set 1 _
end
end Go.Proofs.YtahpjoknmclbfaaDoor

