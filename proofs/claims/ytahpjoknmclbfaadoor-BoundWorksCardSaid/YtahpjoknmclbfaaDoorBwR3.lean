/- Package rack: sweeping. -/
import Derived.Test.YtahpjoknmclbfaaDoorStH
namespace Go.Proofs.YtahpjoknmclbfaaDoor
open Go.RowKit

inductive SweepPost (w w' : World) (mb wb ob rb kb cap : Nat) (xs : List Nat) (W : WorkS) (o1 : OpS) : Prop
  | stay (o' : OpS) (xs' : List Nat) (t : Turn o1 xs o' xs') (m : MOp w' mb wb ob xs' o') (h : Blk w' kb 57 (workC rb W)) (d : o'.done = false) (c : o1.steps = 1 → ¬ ahd W.src o'.t ≤ 0) : SweepPost w w' mb wb ob rb kb cap xs W o1
  | push (o' : OpS) (xs' : List Nat) (og : Nat) (t : Turn o1 xs o' xs') (m : MOp w' mb wb og xs' ⟨atJ cap (W.kind * 8 + W.level), cap, 0, 0, 0, 0, W.x, false, false, 0⟩) (h : Blk w' kb 57 (workC rb { W with op := .pointer (some ⟨og, 0, none⟩), next := 35 })) (c : (o1.steps = 1 ∧ ahd W.src o'.t ≤ 0) ∨ (o'.done = true ∧ o'.err = 7)) (g : w.heap.size ≤ og) : SweepPost w w' mb wb ob rb kb cap xs W o1
  | steal (o' : OpS) (xs' : List Nat) (og : Nat) (t : Turn o1 xs o' xs') (m : MOp w' mb wb og xs' ⟨atJ cap (W.kind * 8 + W.level), cap, 2, 0, 0, 0, 0, false, false, 0⟩) (h : Blk w' kb 57 (workC rb { W with op := .pointer (some ⟨og, 0, none⟩) })) (d : o'.done = true) (e : o'.err = 8) (g : w.heap.size ≤ og) : SweepPost w w' mb wb ob rb kb cap xs W o1
  | ask (o' : OpS) (xs' : List Nat) (x : Nat) (t : Turn o1 xs o' xs') (m : MOp w' mb wb ob xs' o') (h : Blk w' kb 57 (workC rb { W with swept := x, holds := true, next := 73 })) (d : o'.done = true) (e : o'.err = 0) : SweepPost w w' mb wb ob rb kb cap xs W o1
section
variable {w : World} {mb wb ob rb kb : Nat} {xs : List Nat} {o : OpS} {W : WorkS} {cap s0 s1 turn : Nat}
set_option maxHeartbeats 6400000 in
theorem kSweeping_any {base oc k b t x err : Nat} {won : Bool} (H : Blk w kb 57 (workC rb W)) (R : Blk w rb 50 (rackC cap s0 s1 turn)) (hW : W.kind < 2 ∧ W.level < 8) (hop : W.op = .pointer (some ⟨ob, 0, none⟩)) (M : MOp w mb wb ob xs ⟨base, oc, 2, k, b, t, x, won, false, err⟩) (hk : k ≤ 3) (O : OpOk ⟨base, oc, 2, k, b, t, x, won, false, err⟩ xs) : Calls Tryd.prog 55 #[.pointer (some ⟨kb, 0, none⟩), .pointer (some ⟨mb, 0, none⟩)] w fun r w' =>
    r = .returned (.tuple #[]) ∧ SweepPost w w' mb wb ob rb kb cap xs W ⟨base, oc, 2, k + 1, b, t, x, won, false, err⟩ ∧ Kept [mb, wb, ob, kb] w w' := by
  have k1 : kb ≠ mb := by obtain ⟨u, h⟩ := M.mem; exact H.ne h (by decide)
  have k2 : kb ≠ wb := H.ne M.words (by decide)
  have k3 : kb ≠ ob := H.ne M.op (by decide)
  have r1 : rb ≠ mb := by obtain ⟨u, h⟩ := M.mem; exact R.ne h (by decide)
  have r2 : rb ≠ wb := R.ne M.words (by decide)
  have r3 : rb ≠ ob := R.ne M.op (by decide)
  have kr : kb ≠ rb := H.ne R (by decide)
  have HS := Lib.hid (qStep2 M hk O)
  have HDq : Hid (∀ W2 : World, Blk W2 kb 57 (workC rb W) → Blk W2 rb 50 (rackC cap s0 s1 turn) → Calls Tryd.prog 36 #[.pointer (some ⟨kb, 0, none⟩)] W2 fun e w' => e = .returned (.agg #[.int .i64 (atJ cap (W.kind * 8 + W.level)), .int .i64 cap]) ∧ Kept [] W2 w') := fun W2 h2 h3 => kWdeque_any h2 h3 hW.1 hW.2
  have HH := Lib.hid H
  have HRk := Lib.hid R
  have c6 := H.cell 6
  have c7 := H.cell 7
  simp [workC] at c6 c7
  rw [hop] at c6
  clear H M O hop R hW
  go_enter Tryd.func55, Tryd.ntmps55
  go_step3
  go_wp2_with fail
  refine HS.out.mono ?_
  rintro e w1 ⟨⟨o', xs', T, rfl, M1⟩, hk1⟩
  obtain ⟨z1, z2, z3, z4⟩ := T.same
  have hT2 := turn2 T rfl
  obtain ⟨base', cap', kind', k', b', t', x', won', done', err'⟩ := o'
  simp only at z1 z2 z3 z4 hT2
  subst z1 z2 z3 z4
  have HH1 := Lib.hid (HH.out.kept hk1 (by simp [k1, k2, k3]))
  have HR1 := Lib.hid (HRk.out.kept hk1 (by simp [r1, r2, r3]))
  have HTu := Lib.hid T
  have HM1 := Lib.hid M1
  have HK1 := Lib.hid (hk1.mono (G' := [mb, wb, ob, kb]) (by simp +contextual))
  have c6 := hk1.cell_some c6 (by simp [k1, k2, k3])
  have c7 := hk1.cell_some c7 (by simp [k1, k2, k3])
  have HTop := Lib.hid (qTop_any M1 (by omega))
  have hs1 := hk1.size
  clear T M1 hk1
  go_wp2_with fail
  refine HTop.out.mono ?_
  rintro e w2 ⟨rfl, hk2⟩
  have HH2 := Lib.hid (HH1.out.kept hk2 (by simp))
  have HR2 := Lib.hid (HR1.out.kept hk2 (by simp))
  have HM2 := Lib.hid (HM1.out.old hk2)
  have HK2 := Lib.hid (HK1.out.trans (hk2.mono (G' := [mb, wb, ob, kb]) (by simp)))
  have c6 := hk2.cell_some c6 (by simp)
  have c7 := hk2.cell_some c7 (by simp)
  have hs2 := hk2.size
  clear hk2
  cases done' with
  | false =>
    have HRe := Lib.hid (qResult_not HM2.out)
    go_wp2_with fail
    refine HRe.out.mono ?_
    rintro e w3 ⟨rfl, hk3⟩
    have HH3 := Lib.hid (HH2.out.kept hk3 (by simp))
    have HR3 := Lib.hid (HR2.out.kept hk3 (by simp))
    have HM3 := Lib.hid (HM2.out.old hk3)
    have HK3 := Lib.hid (HK2.out.trans (hk3.mono (G' := [mb, wb, ob, kb]) (by simp)))
    have c6 := hk3.cell_some c6 (by simp)
    have c7 := hk3.cell_some c7 (by simp)
    have hs3 := hk3.size
    have HSp := Lib.hid (qSteps_any HM3.out)
    clear hk3
    by_cases hk0 : k = 0
    · subst hk0
      by_cases ha : ahd W.src t' ≤ 0
      · have ha' : wrap64 (IntKind.u64.wrap ((W.src : Int) - t')) ≤ 0 := ha
        go_wp2_with fail
        go_step3
        go_wp2_with fail
        refine HSp.out.mono ?_
        rintro e w4 ⟨rfl, hk4⟩
        have c7 := hk4.cell_some c7 (by simp)
        have HH4 := Lib.hid (HH3.out.kept hk4 (by simp))
        have HR4 := Lib.hid (HR3.out.kept hk4 (by simp))
        have HM4 := Lib.hid (HM3.out.old hk4)
        have HK4 := Lib.hid (HK3.out.trans (hk4.mono (G' := [mb, wb, ob, kb]) (by simp)))
        have hs4 := hk4.size
        clear hk4
        have HA := Lib.hid ha
        have c3 := HH4.out.cell 3
        simp [workC] at c3
        have HDq2 := Lib.hid (fun (W2 : World) (hk : Kept [] w4 W2) => HDq.out W2 (HH4.out.kept hk (by simp)) (HR4.out.kept hk (by simp)))
        clear HDq
        go_wp2_with fail
        go_region_with (first
          | (go_at_call 36; refine (HDq2.out _ ((Kept.refl [] w4).drew)).mono ?_; rintro e w5 ⟨rfl, hk5⟩; have c3 := hk5.cell_some c3 (by simp); have HSt := Lib.hid (qPush_any (atJ cap (W.kind * 8 + W.level)) cap W.x w5); have HK5 := Lib.hid (((Kept.refl [] w4).drew).trans hk5); have hs5 := hk5.size; clear hk5)
          | (go_at_call 37; refine HSt.out.mono ?_; rintro e w6 ⟨⟨g, hg, rfl, N6⟩, hk6⟩; have H6 := HH4.out.kept (HK5.out.trans hk6) (by simp); have HK6 := Lib.hid (HK5.out.trans hk6); have c1 := H6.cell 1; have f1 := H6.frozen 1; have c6 := H6.cell 6; have f6 := H6.frozen 6; simp [workC] at c1 c6; have HH6 := Lib.hid H6; have HN6 := Lib.hid N6; clear H6 N6 hk6))
        all_goals
          have hge := HH6.out.ne HN6.out (by decide)
          have HM6 := Lib.hid (HM4.out.new HK6.out HN6.out)
          have HH7 := Lib.hid (newOp_of (og := g) HH6.out 35)
          have hk7 : Kept [kb] w6 ((w6.setCell ⟨kb, 6, none⟩ (.pointer (some ⟨g, 0, none⟩))).setCell ⟨kb, 1, none⟩ (.func (.func 35) #[] #[])) := ((Kept.refl _ _).setCell (.inl (by simp)) _).setCell (.inl (by simp)) _
          have HM7 := Lib.hid (HM6.out.beside hk7 k1 k2 hge)
          have HK7 := Lib.hid ((HK4.out.trans (HK6.out.mono (G' := [mb, wb, ob, kb]) (by simp))).trans (hk7.mono (G' := [mb, wb, ob, kb]) (by simp +contextual)))
          have hgw : w.heap.size ≤ g := by have := HK5.out.size; have := HK4.out.size; omega
          go_wp2_with fail
          simp only [Exit.noGoto]
          go_end0
          exact ⟨rfl, .push _ _ g HTu.out HM7.out HH7.out (.inl ⟨rfl, HA.out⟩) hgw, HK7.out⟩
      · have HA := Lib.hid ha
        have ha' : ¬ wrap64 (IntKind.u64.wrap ((W.src : Int) - t')) ≤ 0 := ha
        go_wp2_with fail
        go_step3
        go_wp2_with fail
        refine HSp.out.mono ?_
        rintro e w4 ⟨rfl, hk4⟩
        have c7 := hk4.cell_some c7 (by simp)
        have HH4 := Lib.hid (HH3.out.kept hk4 (by simp))
        have HR4 := Lib.hid (HR3.out.kept hk4 (by simp))
        have HM4 := Lib.hid (HM3.out.old hk4)
        have HK4 := Lib.hid (HK3.out.trans (hk4.mono (G' := [mb, wb, ob, kb]) (by simp)))
        have hs4 := hk4.size
        clear hk4
        go_wp2_with fail
        simp only [Exit.noGoto]
        go_end0
        exact ⟨rfl, .stay _ _ HTu.out HM4.out HH4.out rfl (fun _ => Int.not_le.2 HA.out), HK4.out⟩
    · have hk2 : ¬ ((k : Int) + 1) = 1 := by omega
      have HK0 := Lib.hid hk0
      go_wp2_with fail
      go_step3
      go_wp2_with fail
      refine HSp.out.mono ?_
      rintro e w4 ⟨rfl, hk4⟩
      have c7 := hk4.cell_some c7 (by simp)
      have HH4 := Lib.hid (HH3.out.kept hk4 (by simp))
      have HR4 := Lib.hid (HR3.out.kept hk4 (by simp))
      have HM4 := Lib.hid (HM3.out.old hk4)
      have HK4 := Lib.hid (HK3.out.trans (hk4.mono (G' := [mb, wb, ob, kb]) (by simp)))
      have hs4 := hk4.size
      clear hk4
      go_wp2_with fail
      simp only [Exit.noGoto]
      go_end0
      exact ⟨rfl, .stay _ _ HTu.out HM4.out HH4.out rfl (fun h => absurd (show k = 0 by have : k + 1 = 1 := h; omega) HK0.out), HK4.out⟩
  | true =>
    have hk1' : ¬ ((k : Int) + 1) = 1 := by
      rcases hT2 with ⟨h, _⟩ | ⟨_, ⟨_, h⟩ | ⟨_, h⟩⟩
      · cases h
      · omega
      · omega
    have hE : err' = 7 ∨ err' = 8 ∨ err' = 0 := by
      rcases hT2 with ⟨h, _⟩ | ⟨_, ⟨h, _⟩ | ⟨h, _⟩⟩
      · cases h
      · exact .inl h
      · exact .inr h.symm
    rcases hE with rfl | rfl | rfl
    · have HRe := Lib.hid (qResult_err HM2.out (by decide))
      go_wp2_with fail
      refine HRe.out.mono ?_
      rintro e w3 ⟨rfl, hk3⟩
      have HH3 := Lib.hid (HH2.out.kept hk3 (by simp))
      have HR3 := Lib.hid (HR2.out.kept hk3 (by simp))
      have HM3 := Lib.hid (HM2.out.old hk3)
      have HK3 := Lib.hid (HK2.out.trans (hk3.mono (G' := [mb, wb, ob, kb]) (by simp)))
      have c6 := hk3.cell_some c6 (by simp)
      have c7 := hk3.cell_some c7 (by simp)
      have hs3 := hk3.size
      have HSp := Lib.hid (qSteps_any HM3.out)
      clear hk3
      go_wp2_with fail
      go_step3
      go_wp2_with fail
      refine HSp.out.mono ?_
      rintro e w4 ⟨rfl, hk4⟩
      have c7 := hk4.cell_some c7 (by simp)
      have HH4 := Lib.hid (HH3.out.kept hk4 (by simp))
      have HR4 := Lib.hid (HR3.out.kept hk4 (by simp))
      have HM4 := Lib.hid (HM3.out.old hk4)
      have HK4 := Lib.hid (HK3.out.trans (hk4.mono (G' := [mb, wb, ob, kb]) (by simp)))
      have hs4 := hk4.size
      clear hk4
      have c3 := HH4.out.cell 3
      simp [workC] at c3
      have HDq2 := Lib.hid (fun (W2 : World) (hk : Kept [] w4 W2) => HDq.out W2 (HH4.out.kept hk (by simp)) (HR4.out.kept hk (by simp)))
      clear HDq
      go_wp2_with fail
      go_region_with (first
        | (go_at_call 36; refine (HDq2.out _ ((Kept.refl [] w4).drew)).mono ?_; rintro e w5 ⟨rfl, hk5⟩; have c3 := hk5.cell_some c3 (by simp); have HSt := Lib.hid (qPush_any (atJ cap (W.kind * 8 + W.level)) cap W.x w5); have HK5 := Lib.hid (((Kept.refl [] w4).drew).trans hk5); have hs5 := hk5.size; clear hk5)
        | (go_at_call 37; refine HSt.out.mono ?_; rintro e w6 ⟨⟨g, hg, rfl, N6⟩, hk6⟩; have H6 := HH4.out.kept (HK5.out.trans hk6) (by simp); have HK6 := Lib.hid (HK5.out.trans hk6); have c1 := H6.cell 1; have f1 := H6.frozen 1; have c6 := H6.cell 6; have f6 := H6.frozen 6; simp [workC] at c1 c6; have HH6 := Lib.hid H6; have HN6 := Lib.hid N6; clear H6 N6 hk6))
      all_goals
        have hge := HH6.out.ne HN6.out (by decide)
        have HM6 := Lib.hid (HM4.out.new HK6.out HN6.out)
        have HH7 := Lib.hid (newOp_of (og := g) HH6.out 35)
        have hk7 : Kept [kb] w6 ((w6.setCell ⟨kb, 6, none⟩ (.pointer (some ⟨g, 0, none⟩))).setCell ⟨kb, 1, none⟩ (.func (.func 35) #[] #[])) := ((Kept.refl _ _).setCell (.inl (by simp)) _).setCell (.inl (by simp)) _
        have HM7 := Lib.hid (HM6.out.beside hk7 k1 k2 hge)
        have HK7 := Lib.hid ((HK4.out.trans (HK6.out.mono (G' := [mb, wb, ob, kb]) (by simp))).trans (hk7.mono (G' := [mb, wb, ob, kb]) (by simp +contextual)))
        have hgw : w.heap.size ≤ g := by have := HK5.out.size; have := HK4.out.size; omega
        go_wp2_with fail
        simp only [Exit.noGoto]
        go_end0
        exact ⟨rfl, .push _ _ g HTu.out HM7.out HH7.out (.inr ⟨rfl, rfl⟩) hgw, HK7.out⟩
    · have HRe := Lib.hid (qResult_err HM2.out (by decide))
      go_wp2_with fail
      refine HRe.out.mono ?_
      rintro e w3 ⟨rfl, hk3⟩
      have HH3 := Lib.hid (HH2.out.kept hk3 (by simp))
      have HR3 := Lib.hid (HR2.out.kept hk3 (by simp))
      have HM3 := Lib.hid (HM2.out.old hk3)
      have HK3 := Lib.hid (HK2.out.trans (hk3.mono (G' := [mb, wb, ob, kb]) (by simp)))
      have c6 := hk3.cell_some c6 (by simp)
      have c7 := hk3.cell_some c7 (by simp)
      have hs3 := hk3.size
      have HSp := Lib.hid (qSteps_any HM3.out)
      clear hk3
      go_wp2_with fail
      go_step3
      go_wp2_with fail
      refine HSp.out.mono ?_
      rintro e w4 ⟨rfl, hk4⟩
      have c7 := hk4.cell_some c7 (by simp)
      have HH4 := Lib.hid (HH3.out.kept hk4 (by simp))
      have HR4 := Lib.hid (HR3.out.kept hk4 (by simp))
      have HM4 := Lib.hid (HM3.out.old hk4)
      have HK4 := Lib.hid (HK3.out.trans (hk4.mono (G' := [mb, wb, ob, kb]) (by simp)))
      have hs4 := hk4.size
      clear hk4
      have HDq2 := Lib.hid (HDq.out w4 HH4.out HR4.out)
      clear HDq
      go_wp2_with fail
      refine HDq2.out.mono ?_
      rintro e w5 ⟨rfl, hk5⟩
      have HSt := Lib.hid (qSteal_any (atJ cap (W.kind * 8 + W.level)) cap w5)
      have HH5 := Lib.hid (HH4.out.kept hk5 (by simp))
      have HM5 := Lib.hid (HM4.out.old hk5)
      have HK5 := Lib.hid (HK4.out.trans (hk5.mono (G' := [mb, wb, ob, kb]) (by simp)))
      clear hk5
      go_wp2_with fail
      refine HSt.out.mono ?_
      rintro e w6 ⟨⟨g, hg, rfl, N6⟩, hk6⟩
      have H6 := HH5.out.kept hk6 (by simp)
      have HM6 := Lib.hid (HM5.out.new hk6 N6)
      have HK6 := Lib.hid (HK5.out.trans (hk6.mono (G' := [mb, wb, ob, kb]) (by simp)))
      have c6 := H6.cell 6
      have f6 := H6.frozen 6
      simp [workC] at c6
      have hge := H6.ne N6 (by decide)
      have H7 : Blk (w6.setCell ⟨kb, 6, none⟩ (.pointer (some ⟨g, 0, none⟩))) kb 57 (workC rb { W with op := .pointer (some ⟨g, 0, none⟩) }) := H6.set 6 _
      have HH7 := Lib.hid H7
      have hk7 : Kept [kb] w6 (w6.setCell ⟨kb, 6, none⟩ (.pointer (some ⟨g, 0, none⟩))) := (Kept.refl _ _).setCell (.inl (by simp)) _
      have HM7 := Lib.hid (HM6.out.beside hk7 k1 k2 hge)
      have HK7 := Lib.hid (HK6.out.trans (hk7.mono (G' := [mb, wb, ob, kb]) (by simp +contextual)))
      have hgw : w.heap.size ≤ g := by have := HK5.out.size; omega
      clear H6 N6 hk6 H7 hk7 hg
      go_wp2_with fail
      simp only [Exit.noGoto]
      go_end0
      exact ⟨rfl, .steal _ _ g HTu.out HM7.out HH7.out rfl rfl hgw, HK7.out⟩
    · have HRe := Lib.hid (qResult_ok HM2.out)
      go_wp2_with fail
      refine HRe.out.mono ?_
      rintro e w3 ⟨rfl, hk3⟩
      have HH3 := Lib.hid (HH2.out.kept hk3 (by simp))
      have HR3 := Lib.hid (HR2.out.kept hk3 (by simp))
      have HM3 := Lib.hid (HM2.out.old hk3)
      have HK3 := Lib.hid (HK2.out.trans (hk3.mono (G' := [mb, wb, ob, kb]) (by simp)))
      have c6 := hk3.cell_some c6 (by simp)
      have c7 := hk3.cell_some c7 (by simp)
      have hs3 := hk3.size
      have HSp := Lib.hid (qSteps_any HM3.out)
      clear hk3
      go_wp2_with fail
      go_step3
      go_wp2_with fail
      refine HSp.out.mono ?_
      rintro e w4 ⟨rfl, hk4⟩
      have c7 := hk4.cell_some c7 (by simp)
      have HH4 := Lib.hid (HH3.out.kept hk4 (by simp))
      have HR4 := Lib.hid (HR3.out.kept hk4 (by simp))
      have HM4 := Lib.hid (HM3.out.old hk4)
      have HK4 := Lib.hid (HK3.out.trans (hk4.mono (G' := [mb, wb, ob, kb]) (by simp)))
      have hs4 := hk4.size
      clear hk4
      have H4 := HH4.out
      have c8 := H4.cell 8
      have f8 := H4.frozen 8
      have c10 := H4.cell 10
      have f10 := H4.frozen 10
      have c1 := H4.cell 1
      have f1 := H4.frozen 1
      simp [workC] at c8 c10 c1
      have HH7 : Hid (Blk (((w4.setCell ⟨kb, 8, none⟩ (U64 x')).setCell ⟨kb, 10, none⟩ (.bool true)).setCell ⟨kb, 1, none⟩ (.func (.func 73) #[] #[])) kb 57 (workC rb { W with swept := x', holds := true, next := 73 })) := ((H4.set 8 _).set 10 _).set 1 _
      have hk7 : Kept [kb] w4 (((w4.setCell ⟨kb, 8, none⟩ (U64 x')).setCell ⟨kb, 10, none⟩ (.bool true)).setCell ⟨kb, 1, none⟩ (.func (.func 73) #[] #[])) := (((Kept.refl _ _).setCell (.inl (by simp)) _).setCell (.inl (by simp)) _).setCell (.inl (by simp)) _
      have HM7 := Lib.hid (HM4.out.beside hk7 k1 k2 k3)
      have HK7 := Lib.hid (HK4.out.trans (hk7.mono (G' := [mb, wb, ob, kb]) (by simp +contextual)))
      clear H4 hk7
      go_wp2_with fail
      simp only [Exit.noGoto]
      go_end0
      exact ⟨rfl, .ask _ _ _ HTu.out HM7.out HH7.out rfl rfl, HK7.out⟩
end
end Go.Proofs.YtahpjoknmclbfaaDoor
