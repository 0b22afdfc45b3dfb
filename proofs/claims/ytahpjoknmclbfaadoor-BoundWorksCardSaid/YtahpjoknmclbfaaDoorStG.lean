/- Package rack: again, pushing; Package rack: pushing; A rack, its memory and a work: what a step leaves. -/
import Derived.Test.YtahpjoknmclbfaaDoorStE
import Derived.Test.YtahpjoknmclbfaaDoorBwN
import Derived.Test.YtahpjoknmclbfaaDoorStA

/- Package rack: again, pushing. -/
namespace Go.Proofs.YtahpjoknmclbfaaDoor
open Go.RowKit

/-- What a push of a swept word leaves. -/
inductive AgainPost (w w' : World) (mb wb ob rb kb cap : Nat) (xs : List Nat) (W : WorkS) (o1 : OpS) : Prop
  | more (o' : OpS) (xs' : List Nat) (t : Turn o1 xs o' xs') (m : MOp w' mb wb ob xs' o') (h : Blk w' kb 57 (workC rb W)) (d : o'.done = false) : AgainPost w w' mb wb ob rb kb cap xs W o1
  | done (o' : OpS) (xs' : List Nat) (og : Nat) (t : Turn o1 xs o' xs') (m : MOp w' mb wb og xs' ⟨atJ cap (W.kind * 8 + W.level), cap, 2, 0, 0, 0, 0, false, false, 0⟩) (h : Blk w' kb 57 (workC rb { W with holds := false, op := .pointer (some ⟨og, 0, none⟩), next := 55 })) (d : o'.done = true) (g : w.heap.size ≤ og) : AgainPost w w' mb wb ob rb kb cap xs W o1
section
variable {w : World} {mb wb ob rb kb : Nat} {xs : List Nat} {o : OpS} {W : WorkS} {cap s0 s1 turn : Nat}
theorem MOp.new {w1 w2 : World} {og : Nat} {o2 : OpS} (M : MOp w1 mb wb ob xs o) (hk : Kept [] w1 w2) (h : Blk w2 og 88 (opC o2)) : MOp w2 mb wb og xs o2 := by
  obtain ⟨u, hm⟩ := M.mem
  exact ⟨⟨u, hm.kept hk (by simp)⟩, M.words.kept hk (by simp), h⟩
set_option maxHeartbeats 3200000 in
theorem kAgain_any {base oc k b t x err : Nat} {won : Bool} (H : Blk w kb 57 (workC rb W)) (R : Blk w rb 50 (rackC cap s0 s1 turn)) (hW : W.kind < 2 ∧ W.level < 8) (hop : W.op = .pointer (some ⟨ob, 0, none⟩)) (M : MOp w mb wb ob xs ⟨base, oc, 0, k, b, t, x, won, false, err⟩) (hk : k ≤ 3) (O : OpOk ⟨base, oc, 0, k, b, t, x, won, false, err⟩ xs) : Calls Tryd.prog 91 #[.pointer (some ⟨kb, 0, none⟩), .pointer (some ⟨mb, 0, none⟩)] w fun r w' =>
    r = .returned (.tuple #[]) ∧ AgainPost w w' mb wb ob rb kb cap xs W ⟨base, oc, 0, k + 1, b, t, x, won, false, err⟩ ∧ Kept [mb, wb, ob, kb] w w' := by
  have k1 : kb ≠ mb := by obtain ⟨u, h⟩ := M.mem; exact H.ne h (by decide)
  have k2 : kb ≠ wb := H.ne M.words (by decide)
  have k3 : kb ≠ ob := H.ne M.op (by decide)
  have r1 : rb ≠ mb := by obtain ⟨u, h⟩ := M.mem; exact R.ne h (by decide)
  have r2 : rb ≠ wb := R.ne M.words (by decide)
  have r3 : rb ≠ ob := R.ne M.op (by decide)
  have kr : kb ≠ rb := H.ne R (by decide)
  have HS := Lib.hid (qStep0 M hk O)
  have HH := Lib.hid H
  have HRk := Lib.hid R
  have HW := Lib.hid hW
  have c6 := H.cell 6
  simp [workC] at c6
  rw [hop] at c6
  clear H M O hop R hW
  go_enter Tryd.func91, Tryd.ntmps91
  go_wp2_with fail
  refine HS.out.mono ?_
  rintro e w1 ⟨⟨o', xs', T, rfl, M1⟩, hk1⟩
  have H1 := HH.out.kept hk1 (by simp [k1, k2, k3])
  have R1 := HRk.out.kept hk1 (by simp [r1, r2, r3])
  have HTu := Lib.hid T
  have HM1 := Lib.hid M1
  have HK1 := Lib.hid (hk1.mono (G' := [mb, wb, ob, kb]) (by simp +contextual))
  have hs1 := hk1.size
  clear T M1
  cases hd : o'.done with
  | false =>
    have HH1 := Lib.hid H1
    have HD := Lib.hid hd
    clear H1 R1 hk1 hd
    go_wp2_with fail
    first | go_end0 | refine bodyPost_ret (results_none rfl _ _ _) rfl ?_
    exact ⟨rfl, .more _ _ HTu.out HM1.out HH1.out HD.out, HK1.out⟩
  | true =>
    have HD := Lib.hid hd
    have c10 := H1.cell 10
    have f10 := H1.frozen 10
    simp [workC] at c10
    have H2 : Blk (w1.setCell ⟨kb, 10, none⟩ (.bool false)) kb 57 (workC rb { W with holds := false }) := H1.set 10 _
    have hk2 : Kept [kb] w1 (w1.setCell ⟨kb, 10, none⟩ (.bool false)) := (Kept.refl _ _).setCell (.inl (by simp)) _
    have HDq := Lib.hid (kWdeque_any H2 (R1.kept hk2 (by simp [Ne.symm kr])) HW.out.1 HW.out.2)
    have HH2 := Lib.hid H2
    have HM2 := Lib.hid (HM1.out.beside hk2 k1 k2 k3)
    have HK2 := Lib.hid (HK1.out.trans (hk2.mono (G' := [mb, wb, ob, kb]) (by simp +contextual)))
    have hs2 := hk2.size
    clear H1 R1 hk1 hd H2 hk2
    go_wp2_with fail
    refine HDq.out.mono ?_
    rintro e w3 ⟨rfl, hk3⟩
    have HSt := Lib.hid (qSteal_any (atJ cap (W.kind * 8 + W.level)) cap w3)
    have HH3 := Lib.hid (HH2.out.kept hk3 (by simp))
    have HM3 := Lib.hid (HM2.out.old hk3)
    have HK3 := Lib.hid (HK2.out.trans (hk3.mono (G' := [mb, wb, ob, kb]) (by simp)))
    have hs3 := hk3.size
    clear hk3
    go_wp2_with fail
    refine HSt.out.mono ?_
    rintro e w4 ⟨⟨g, hg, rfl, N4⟩, hk4⟩
    have H4 := HH3.out.kept hk4 (by simp)
    have HM4 := Lib.hid (HM3.out.new hk4 N4)
    have HK4 := Lib.hid (HK3.out.trans (hk4.mono (G' := [mb, wb, ob, kb]) (by simp)))
    have c1 := H4.cell 1
    have f1 := H4.frozen 1
    have c6 := H4.cell 6
    have f6 := H4.frozen 6
    simp [workC] at c1 c6
    have HH5 := Lib.hid (newOp_of (og := g) H4 55)
    have k3' := H4.ne N4 (by decide)
    have hk5 : Kept [kb] w4 ((w4.setCell ⟨kb, 6, none⟩ (.pointer (some ⟨g, 0, none⟩))).setCell ⟨kb, 1, none⟩ (.func (.func 55) #[] #[])) := ((Kept.refl _ _).setCell (.inl (by simp)) _).setCell (.inl (by simp)) _
    have HM5 := Lib.hid (HM4.out.beside hk5 k1 k2 k3')
    have HK5 := Lib.hid (HK4.out.trans (hk5.mono (G' := [mb, wb, ob, kb]) (by simp +contextual)))
    have hgw : w.heap.size ≤ g := by omega
    clear H4 N4 hk4 hk5 hs1 hs2 hs3 hg
    go_wp2_with fail
    first | go_end0 | refine bodyPost_ret (results_none rfl _ _ _) rfl ?_
    exact ⟨rfl, .done _ _ g HTu.out HM5.out HH5.out HD.out hgw, HK5.out⟩
end
end Go.Proofs.YtahpjoknmclbfaaDoor

/- Package rack: pushing. -/
namespace Go.Proofs.YtahpjoknmclbfaaDoor
open Go.RowKit

/-- What a push leaves. -/
inductive PushPost (w w' : World) (mb wb ob rb kb cap turn : Nat) (xs : List Nat) (W : WorkS) (o1 : OpS) : Prop
  | mk (o' : OpS) (xs' : List Nat) (W' : WorkS) (ob' : Nat) (o2 : OpS) (r0 r1 : Nat) (t : Turn o1 xs o' xs') (m : MOp w' mb wb ob' xs' o2) (h0 : r0 < 256) (h1 : r1 < 256) (r : Blk w' rb 50 (rackC cap r0 r1 turn)) (h : Blk w' kb 57 (workC rb W'))
      (p1 : o'.done = false → ob' = ob ∧ o2 = o' ∧ W' = W)
      (p2 : o'.done = true → o'.err = 6 → W.full = true → ob' = ob ∧ W' = { W with done := true, err := 6 })
      (p3 : o'.done = true → o'.err = 6 → W.full = false → w.heap.size ≤ ob' ∧ o2 = ⟨atJ cap (W.kind * 8 + W.level), cap, 2, 0, 0, 0, 0, false, false, 0⟩ ∧ W' = { W with full := true, src := o'.b, op := .pointer (some ⟨ob', 0, none⟩), next := 55 })
      (p4 : o'.done = true → o'.err ≠ 6 → ob' = ob ∧ (W' = { W with there := true, done := true, err := 0 } ∨ W' = { W with there := true, next := 57 })) : PushPost w w' mb wb ob rb kb cap turn xs W o1
section
variable {w : World} {mb wb ob rb kb : Nat} {xs : List Nat} {o : OpS} {W : WorkS} {cap s0 s1 turn : Nat}
set_option maxHeartbeats 6400000 in
theorem kPushing_any {base oc k b t x err : Nat} {won : Bool} (H : Blk w kb 57 (workC rb W)) (R : Blk w rb 50 (rackC cap s0 s1 turn)) (hW : W.kind < 2 ∧ W.level < 8) (hd : W.done = false) (h0 : s0 < 256) (h1 : s1 < 256) (hop : W.op = .pointer (some ⟨ob, 0, none⟩)) (M : MOp w mb wb ob xs ⟨base, oc, 0, k, b, t, x, won, false, err⟩) (hk : k ≤ 3) (O : OpOk ⟨base, oc, 0, k, b, t, x, won, false, err⟩ xs) : Calls Tryd.prog 35 #[.pointer (some ⟨kb, 0, none⟩), .pointer (some ⟨mb, 0, none⟩)] w fun r w' =>
    r = .returned (.tuple #[]) ∧ PushPost w w' mb wb ob rb kb cap turn xs W ⟨base, oc, 0, k + 1, b, t, x, won, false, err⟩ ∧ Kept [mb, wb, ob, kb, rb] w w' := by
  have k1 : kb ≠ mb := by obtain ⟨u, h⟩ := M.mem; exact H.ne h (by decide)
  have k2 : kb ≠ wb := H.ne M.words (by decide)
  have k3 : kb ≠ ob := H.ne M.op (by decide)
  have r1 : rb ≠ mb := by obtain ⟨u, h⟩ := M.mem; exact R.ne h (by decide)
  have r2 : rb ≠ wb := R.ne M.words (by decide)
  have r3 : rb ≠ ob := R.ne M.op (by decide)
  have kr : kb ≠ rb := H.ne R (by decide)
  have HS := Lib.hid (qStep0 M hk O)
  have HH := Lib.hid H
  have HRk := Lib.hid R
  have HW := Lib.hid hW
  have c6 := H.cell 6
  simp [workC] at c6
  rw [hop] at c6
  clear H M O hop R hW
  go_enter Tryd.func35, Tryd.ntmps35
  go_wp2_with fail
  refine HS.out.mono ?_
  rintro e w1 ⟨⟨o', xs', T, rfl, M1⟩, hk1⟩
  obtain ⟨z1, z2, z3, z4⟩ := T.same
  obtain ⟨base', cap', kind', k', b', t', x', won', done', err'⟩ := o'
  simp only at z1 z2 z3 z4
  subst z1 z2 z3 z4
  have H1 := HH.out.kept hk1 (by simp [k1, k2, k3])
  have HR1 := Lib.hid (HRk.out.kept hk1 (by simp [r1, r2, r3]))
  have HTu := Lib.hid T
  have HM1 := Lib.hid M1
  have HK1 := Lib.hid (hk1.mono (G' := [mb, wb, ob, kb, rb]) (by simp +contextual))
  have c6 := hk1.cell_some c6 (by simp [k1, k2, k3])
  have hs1 := hk1.size
  clear T M1
  cases done' with
  | false =>
    have HH1 := Lib.hid H1
    clear H1 hk1
    go_wp2_with fail
    first | go_end0 | refine bodyPost_ret (results_none rfl _ _ _) rfl ?_
    exact ⟨rfl, ⟨_, _, W, ob, _, s0, s1, HTu.out, HM1.out, h0, h1, HR1.out, HH1.out, fun _ => ⟨rfl, rfl, rfl⟩, (fun h => by cases h), (fun h => by cases h), (fun h => by cases h)⟩, HK1.out⟩
  | true =>
    obtain ⟨y, hr⟩ := qResult_done HM1.out
    have HR := Lib.hid hr
    have HH1 := Lib.hid H1
    clear hr H1 hk1
    go_wp2_with fail
    refine HR.out.mono ?_
    rintro e w2 ⟨rfl, hk2⟩
    have H2 := HH1.out.kept hk2 (by simp)
    have HR2 := Lib.hid (HR1.out.kept hk2 (by simp))
    have HM2 := Lib.hid (HM1.out.old hk2)
    have HK2 := Lib.hid (HK1.out.trans (hk2.mono (G' := [mb, wb, ob, kb, rb]) (by simp)))
    have hs2 := hk2.size
    have c6 := hk2.cell_some c6 (by simp)
    clear hk2
    by_cases h6 : err' = 6
    · subst h6
      have c9 := H2.cell 9
      have f9 := H2.frozen 9
      simp [workC] at c9
      cases hfull : W.full with
      | true =>
        rw [hfull] at c9
        have HE := Lib.hid (kWend_any H2 6)
        have HF := Lib.hid hfull
        clear H2 hfull
        go_wp2_with fail
        refine HE.out.mono ?_
        rintro e w3 ⟨rfl, H3, hk3⟩
        have HM3 := Lib.hid (HM2.out.beside hk3 k1 k2 k3)
        have HR3 := Lib.hid (HR2.out.kept hk3 (by simp [Ne.symm kr]))
        have HH3 := Lib.hid H3
        have HK3 := Lib.hid (HK2.out.trans (hk3.mono (G' := [mb, wb, ob, kb, rb]) (by simp +contextual)))
        clear H3 hk3
        go_wp2_with fail
        first | go_end0 | refine bodyPost_ret (results_none rfl _ _ _) rfl ?_
        exact ⟨rfl, ⟨_, _, _, ob, _, s0, s1, HTu.out, HM3.out, h0, h1, HR3.out, HH3.out, (fun h => by cases h), fun _ _ _ => ⟨rfl, rfl⟩, (fun _ _ h => by rw [HF.out] at h; cases h), (fun _ h => absurd rfl h)⟩, HK3.out⟩
      | false =>
        rw [hfull] at c9
        have HF := Lib.hid hfull
        have H3 : Blk (w2.setCell ⟨kb, 9, none⟩ (.bool true)) kb 57 (workC rb { W with full := true }) := H2.set 9 _
        have hk3 : Kept [kb] w2 (w2.setCell ⟨kb, 9, none⟩ (.bool true)) := (Kept.refl _ _).setCell (.inl (by simp)) _
        have HM3 := Lib.hid (HM2.out.beside hk3 k1 k2 k3)
        have HR3 := Lib.hid (HR2.out.kept hk3 (by simp [Ne.symm kr]))
        have HK3 := Lib.hid (HK2.out.trans (hk3.mono (G' := [mb, wb, ob, kb, rb]) (by simp +contextual)))
        have HB := Lib.hid (qBottom_any HM3.out (by omega))
        have HH3 := Lib.hid H3
        have hs3 := hk3.size
        clear H2 H3 hk3 hfull
        go_wp2_with fail
        refine HB.out.mono ?_
        rintro e w4 ⟨rfl, hk4⟩
        have H4 := HH3.out.kept hk4 (by simp)
        have HM4 := Lib.hid (HM3.out.old hk4)
        have HR4 := Lib.hid (HR3.out.kept hk4 (by simp))
        have HK4 := Lib.hid (HK3.out.trans (hk4.mono (G' := [mb, wb, ob, kb, rb]) (by simp)))
        have c7 := H4.cell 7
        have f7 := H4.frozen 7
        simp [workC] at c7
        have H5 : Blk (w4.setCell ⟨kb, 7, none⟩ (U64 b')) kb 57 (workC rb { W with full := true, src := b' }) := H4.set 7 _
        have hk5 : Kept [kb] w4 (w4.setCell ⟨kb, 7, none⟩ (U64 b')) := (Kept.refl _ _).setCell (.inl (by simp)) _
        have HM5 := Lib.hid (HM4.out.beside hk5 k1 k2 k3)
        have R5 := HR4.out.kept hk5 (by simp [Ne.symm kr])
        have HR5 := Lib.hid R5
        have HK5 := Lib.hid (HK4.out.trans (hk5.mono (G' := [mb, wb, ob, kb, rb]) (by simp +contextual)))
        have HDq := Lib.hid (kWdeque_any H5 R5 HW.out.1 HW.out.2)
        have HH5 := Lib.hid H5
        have hs4 := hk4.size
        have hs5 := hk5.size
        clear H4 H5 R5 hk4 hk5
        go_wp2_with fail
        refine HDq.out.mono ?_
        rintro e w6 ⟨rfl, hk6⟩
        have HSt := Lib.hid (qSteal_any (atJ cap (W.kind * 8 + W.level)) cap w6)
        have HH6 := Lib.hid (HH5.out.kept hk6 (by simp))
        have HM6 := Lib.hid (HM5.out.old hk6)
        have HR6 := Lib.hid (HR5.out.kept hk6 (by simp))
        have HK6 := Lib.hid (HK5.out.trans (hk6.mono (G' := [mb, wb, ob, kb, rb]) (by simp)))
        have hs6 := hk6.size
        clear hk6
        go_wp2_with fail
        refine HSt.out.mono ?_
        rintro e w7 ⟨⟨g, hg, rfl, N7⟩, hk7⟩
        have H7 := HH6.out.kept hk7 (by simp)
        have HM7 := Lib.hid (HM6.out.new hk7 N7)
        have HR7 := Lib.hid (HR6.out.kept hk7 (by simp))
        have HK7 := Lib.hid (HK6.out.trans (hk7.mono (G' := [mb, wb, ob, kb, rb]) (by simp)))
        have c1 := H7.cell 1
        have f1 := H7.frozen 1
        have c6 := H7.cell 6
        have f6 := H7.frozen 6
        simp [workC] at c1 c6
        have HH8 := Lib.hid (newOp_of (og := g) H7 55)
        have k3' := H7.ne N7 (by decide)
        have hk8 : Kept [kb] w7 ((w7.setCell ⟨kb, 6, none⟩ (.pointer (some ⟨g, 0, none⟩))).setCell ⟨kb, 1, none⟩ (.func (.func 55) #[] #[])) := ((Kept.refl _ _).setCell (.inl (by simp)) _).setCell (.inl (by simp)) _
        have HM8 := Lib.hid (HM7.out.beside hk8 k1 k2 k3')
        have HR8 := Lib.hid (HR7.out.kept hk8 (by simp [Ne.symm kr]))
        have HK8 := Lib.hid (HK7.out.trans (hk8.mono (G' := [mb, wb, ob, kb, rb]) (by simp +contextual)))
        have hgw : w.heap.size ≤ g := by omega
        clear H7 N7 hk7 hk8 hs1 hs2 hs3 hs4 hs5 hs6 hg
        go_wp2_with fail
        first | go_end0 | refine bodyPost_ret (results_none rfl _ _ _) rfl ?_
        exact ⟨rfl, ⟨_, _, _, g, _, s0, s1, HTu.out, HM8.out, h0, h1, HR8.out, HH8.out, (fun h => by cases h), (fun _ _ h => by rw [HF.out] at h; cases h), fun _ _ _ => ⟨hgw, rfl, rfl⟩, (fun _ h => absurd rfl h)⟩, HK8.out⟩
    · have h6' : ¬ (err' : Int) = 6 := by omega
      have c11 := H2.cell 11
      have f11 := H2.frozen 11
      simp [workC] at c11
      have H3 : Blk (w2.setCell ⟨kb, 11, none⟩ (.bool true)) kb 57 (workC rb { W with there := true }) := H2.set 11 _
      have hk3 : Kept [kb] w2 (w2.setCell ⟨kb, 11, none⟩ (.bool true)) := (Kept.refl _ _).setCell (.inl (by simp)) _
      have HM3 := Lib.hid (HM2.out.beside hk3 k1 k2 k3)
      have R3 := HR2.out.kept hk3 (by simp [Ne.symm kr])
      have HK3 := Lib.hid (HK2.out.trans (hk3.mono (G' := [mb, wb, ob, kb, rb]) (by simp +contextual)))
      have HMk := Lib.hid (mark_true H3 R3 HW.out.1 HW.out.2 h0 h1)
      have HH3 := Lib.hid H3
      have H6 := Lib.hid h6
      clear H2 H3 R3 hk3 h6
      go_wp2_with fail
      refine HMk.out.mono ?_
      rintro e w4 ⟨⟨bb, q0, q1, g0, g1, rfl, R4⟩, hk4⟩
      have H4 := HH3.out.kept hk4 (by simp [kr])
      have HM4 := Lib.hid (HM3.out.besideR hk4 r1 r2 r3)
      have HR4 := Lib.hid R4
      have HK4 := Lib.hid (HK3.out.trans (hk4.mono (G' := [mb, wb, ob, kb, rb]) (by simp +contextual)))
      have HG := Lib.hid (And.intro g0 g1)
      clear R4 hk4 g0 g1
      cases bb with
      | true =>
        have c1 := H4.cell 1
        have f1 := H4.frozen 1
        simp [workC] at c1
        have H5 : Blk (w4.setCell ⟨kb, 1, none⟩ (.func (.func 57) #[] #[])) kb 57 (workC rb { W with there := true, next := 57 }) := H4.set 1 _
        have HH5 := Lib.hid H5
        have hk5 : Kept [kb] w4 (w4.setCell ⟨kb, 1, none⟩ (.func (.func 57) #[] #[])) := (Kept.refl _ _).setCell (.inl (by simp)) _
        have HM5 := Lib.hid (HM4.out.beside hk5 k1 k2 k3)
        have HR5 := Lib.hid (HR4.out.kept hk5 (by simp [Ne.symm kr]))
        have HK5 := Lib.hid (HK4.out.trans (hk5.mono (G' := [mb, wb, ob, kb, rb]) (by simp +contextual)))
        clear H4 H5 hk5
        go_wp2_with fail
        first | go_end0 | refine bodyPost_ret (results_none rfl _ _ _) rfl ?_
        exact ⟨rfl, ⟨_, _, _, ob, _, q0, q1, HTu.out, HM5.out, HG.out.1, HG.out.2, HR5.out, HH5.out, (fun h => by cases h), (fun _ h => absurd h H6.out), (fun _ h => absurd h H6.out), fun _ _ => ⟨rfl, .inr rfl⟩⟩, HK5.out⟩
      | false =>
        have HE := Lib.hid (kWend_any H4 0)
        clear H4
        go_wp2_with fail
        refine HE.out.mono ?_
        rintro e w5 ⟨rfl, H5, hk5⟩
        have HM5 := Lib.hid (HM4.out.beside hk5 k1 k2 k3)
        have HR5 := Lib.hid (HR4.out.kept hk5 (by simp [Ne.symm kr]))
        have HH5 := Lib.hid H5
        have HK5 := Lib.hid (HK4.out.trans (hk5.mono (G' := [mb, wb, ob, kb, rb]) (by simp +contextual)))
        clear H5 hk5
        go_wp2_with fail
        first | go_end0 | refine bodyPost_ret (results_none rfl _ _ _) rfl ?_
        exact ⟨rfl, ⟨_, _, _, ob, _, q0, q1, HTu.out, HM5.out, HG.out.1, HG.out.2, HR5.out, HH5.out, (fun h => by cases h), (fun _ h => absurd h H6.out), (fun _ h => absurd h H6.out), fun _ _ => ⟨rfl, .inl rfl⟩⟩, HK5.out⟩
end
end Go.Proofs.YtahpjoknmclbfaaDoor

/- A rack, its memory and a work: what a step leaves. -/
namespace Go.Proofs.YtahpjoknmclbfaaDoor
open Go.RowKit

/-- The state of a rack and its memory. -/
structure GS where
  xs : List Nat
  s0 : Nat
  s1 : Nat
  turn : Nat
  T : Nat → Int
  B : Nat → Int
  n : Nat
structure Mach (w : World) (mb wb rb cap : Nat) (g : GS) : Prop where
  mem : ∃ u : Int, Blk w mb 43 #[.slice (some ⟨wb, 0, none⟩) g.xs.length g.xs.length, .int .u64 u]
  words : Blk w wb 30 (g.xs.map U64).toArray
  rack : Blk w rb 50 (rackC cap g.s0 g.s1 g.turn)
  h0 : g.s0 < 256
  h1 : g.s1 < 256
  turn : g.turn < 2
  len : g.xs.length = 1 + 16 * (2 + cap)
  sign : g.xs.getD 0 0 < 256
  dq : Dq g.xs cap g.n g.T g.B
/-- A work: where it stands, its operation. -/
structure VS where
  kb : Nat
  ob : Nat
  W : WorkS
  o : OpS
structure Wmem (w : World) (rb : Nat) (v : VS) : Prop where
  work : Blk w v.kb 57 (workC rb v.W)
  op : (v.W.op = .pointer none ∧ v.ob = v.kb ∧ (v.W.next = 30 ∨ v.W.next = 32 ∨ v.W.next = 31)) ∨ (v.W.op = .pointer (some ⟨v.ob, 0, none⟩) ∧ Blk w v.ob 88 (opC v.o))
structure Live (cap : Nat) (g : GS) (v : VS) (r : Int) : Prop where
  done : v.W.done = false
  kind : v.W.kind < 2
  level : v.W.level < 8
  wok : Wok cap g.T g.B v.W v.o r
def Post (mb wb rb cap : Nat) (g : GS) (v : VS) (r : Int) (w w' : World) : Prop := ∃ g' v', Mach w' mb wb rb cap g' ∧ Wmem w' rb v' ∧ v'.kb = v.kb ∧ (v'.ob = v.ob ∨ w.heap.size ≤ v'.ob) ∧ v'.W.steps = v.W.steps ∧ v'.W.good = v.W.good ∧ g'.n = g.n + 1 ∧ (∀ i, g.T i ≤ g'.T i) ∧ (Thief v.W → g'.B = g.B) ∧ (v'.W.done = false → Live cap g' v' (r - 1) ∧ famOf v'.W.next = famOf v.W.next ∧ v'.W.next ≠ 31) ∧ Kept [mb, wb, v.ob, v.kb, rb] w w'
section
variable {w : World} {mb wb rb cap : Nat} {g : GS} {v : VS} {r : Int}
theorem Live.j (L : Live cap g v r) : jOf v.W < 16 := by have := L.kind; have := L.level; unfold jOf; omega
theorem Wmem.has (V : Wmem w rb v) (h : v.W.next ≠ 30 ∧ v.W.next ≠ 32 ∧ v.W.next ≠ 31) : v.W.op = .pointer (some ⟨v.ob, 0, none⟩) ∧ Blk w v.ob 88 (opC v.o) := by
  rcases V.op with ⟨_, _, h1 | h1 | h1⟩ | h1
  · exact absurd h1 h.1
  · exact absurd h1 h.2.1
  · exact absurd h1 h.2.2
  · exact h1
theorem Mach.mop (G : Mach w mb wb rb cap g) {ob : Nat} {o : OpS} (h : Blk w ob 88 (opC o)) : MOp w mb wb ob g.xs o := ⟨G.mem, G.words, h⟩
theorem Mach.ok (G : Mach w mb wb rb cap g) {W : WorkS} {o : OpS} {kind most : Nat} (O : OpAt cap g.T g.B W o kind most) (hj : jOf W < 16) (hcap : 1 ≤ cap ∧ cap ≤ 1000) : OpOk o g.xs := by
  have := atJ_room (cap := cap) hj
  have := G.len
  exact ⟨by rw [O.base, O.cap]; omega, by omega, by rw [O.cap]; exact hcap, O.b, O.t⟩
theorem post_of {w' : World} (G : Mach w mb wb rb cap g) {xs' : List Nat} {o2 : OpS} {W' : WorkS} {ob' r0 r1 turn' : Nat} (M' : MOp w' mb wb ob' xs' o2) (h0 : r0 < 256) (h1 : r1 < 256) (ht : turn' < 2) (R' : Blk w' rb 50 (rackC cap r0 r1 turn')) (H' : Blk w' v.kb 57 (workC rb W')) (hop : W'.op = .pointer (some ⟨ob', 0, none⟩)) (hob : ob' = v.ob ∨ w.heap.size ≤ ob') (hst : W'.steps = v.W.steps) (hg : W'.good = v.W.good) (hk : W'.done = false → W'.kind < 2 ∧ W'.level < 8) (N : Next cap g.n g.xs xs' g.T g.B v.W W' o2 r) (hK : Kept [mb, wb, v.ob, v.kb, rb] w w') : Post mb wb rb cap g v r w w' := by
  obtain ⟨T', B', n1, n2, n3, n4, n5⟩ := N
  exact ⟨⟨xs', r0, r1, turn', T', B', g.n + 1⟩, ⟨v.kb, ob', W', o2⟩, ⟨M'.mem, M'.words, R', h0, h1, ht, n4.1.trans G.len, (by rw [n4.2]; exact G.sign), n1⟩, ⟨H', .inr ⟨hop, M'.op⟩⟩, rfl, hob, hst, hg, rfl, n2, n3, fun h => ⟨⟨h, (hk h).1, (hk h).2, (n5 h).1⟩, (n5 h).2⟩, hK⟩
/-- A work's end. -/
theorem post_end {w' : World} (G : Mach w mb wb rb cap g) {xs' : List Nat} {W' : WorkS} (hm : ∃ u : Int, Blk w' mb 43 #[.slice (some ⟨wb, 0, none⟩) xs'.length xs'.length, .int .u64 u]) (hw : Blk w' wb 30 (xs'.map U64).toArray) (hd : Dq xs' cap (g.n + 1) g.T g.B) (hl : xs'.length = g.xs.length) (hs : xs'.getD 0 0 < 256) {r0 r1 turn' : Nat} (h0 : r0 < 256) (h1 : r1 < 256) (ht : turn' < 2) (R' : Blk w' rb 50 (rackC cap r0 r1 turn')) (V' : Wmem w' rb ⟨v.kb, v.ob, W', v.o⟩) (hst : W'.steps = v.W.steps) (hg : W'.good = v.W.good) (hdn : W'.done = true) (hK : Kept [mb, wb, v.ob, v.kb, rb] w w') : Post mb wb rb cap g v r w w' :=
  ⟨⟨xs', r0, r1, turn', g.T, g.B, g.n + 1⟩, ⟨v.kb, v.ob, W', v.o⟩, ⟨hm, hw, R', h0, h1, ht, hl.trans G.len, hs, hd⟩, V', rfl, .inl rfl, hst, hg, rfl, fun _ => Int.le_refl _, fun _ => rfl, fun h => (by rw [hdn] at h; cases h), hK⟩
def Does (f : FuncId) (mb wb rb cap : Nat) (g : GS) (v : VS) (r : Int) (w : World) : Prop := Calls Tryd.prog f #[.pointer (some ⟨v.kb, 0, none⟩), .pointer (some ⟨mb, 0, none⟩)] w fun e w' => e = .returned (.tuple #[]) ∧ Post mb wb rb cap g v r w w'
theorem does_taking (G : Mach w mb wb rb cap g) (V : Wmem w rb v) (L : Live cap g v r) (hcap : 1 ≤ cap ∧ cap ≤ 1000) (hn : g.n ≤ 100000) (hN : v.W.next = 44) : Does 44 mb wb rb cap g v r w := by
  obtain ⟨g1, g2⟩ := V.has (by rw [hN]; decide)
  cases L.wok with
  | taking _ O hr =>
    have OK := G.ok O L.j hcap
    obtain ⟨kb, ob, W, base, oc, kind, k, b, t, x, won, done, err⟩ := v
    obtain rfl : kind = 2 := O.kind
    obtain rfl : done = false := O.done
    refine (kTaking_any V.work G.rack ⟨L.kind, L.level, L.done⟩ G.h0 G.h1 g1 (G.mop g2) O.steps OK).mono ?_
    rintro e w' ⟨he, ⟨o', xs', x', r0, r1, nx, dn, er, T, M', q0, q1, R', H', p1, p2⟩, hK⟩
    refine ⟨he, post_of G M' q0 q1 G.turn R' H' g1 (.inl rfl) rfl rfl (fun _ => ⟨L.kind, L.level⟩) (taking_next G.dq hN O hr L.j hn G.len hcap T rfl (fun h => (p1 h).1.trans hN) (fun h => ?_)) (hK.mono (by simp +contextual))⟩
    rcases p2 h with h | ⟨h1, h2, h3⟩
    · exact .inl h
    · exact .inr ⟨h1, h3⟩
  | _ h => exact absurd (h.symm.trans hN) (by decide)
theorem does_robbing (G : Mach w mb wb rb cap g) (V : Wmem w rb v) (L : Live cap g v r) (hcap : 1 ≤ cap ∧ cap ≤ 1000) (hn : g.n ≤ 100000) (hN : v.W.next = 50) : Does 50 mb wb rb cap g v r w := by
  obtain ⟨g1, g2⟩ := V.has (by rw [hN]; decide)
  cases L.wok with
  | robbing _ O hr =>
    have OK := G.ok O L.j hcap
    obtain ⟨kb, ob, W, base, oc, kind, k, b, t, x, won, done, err⟩ := v
    obtain rfl : kind = 2 := O.kind
    obtain rfl : done = false := O.done
    have r1 : rb ≠ mb := by obtain ⟨u, h⟩ := G.mem; exact G.rack.ne h (by decide)
    have r2 : rb ≠ wb := G.rack.ne G.words (by decide)
    have r3 : rb ≠ ob := G.rack.ne g2 (by decide)
    have r4 : rb ≠ kb := G.rack.ne V.work (by decide)
    refine (kRobbing_any V.work L.done g1 (G.mop g2) O.steps OK).mono ?_
    rintro e w' ⟨he, ⟨o', xs', x', nx, er, T, M', H', p1⟩, hK⟩
    refine ⟨he, post_of G M' G.h0 G.h1 G.turn (G.rack.kept hK (by simp [r1, r2, r3, r4])) H' g1 (.inl rfl) rfl rfl (fun _ => ⟨L.kind, L.level⟩) (robbing_next G.dq hN O hr L.j hn G.len hcap T rfl (fun h => ?_) (fun h => h)) (hK.mono (by simp +contextual))⟩
    have := p1 h
    simp only at hN
    rw [hN] at this
    exact this
  | _ h => exact absurd (h.symm.trans hN) (by decide)
theorem does_popping (G : Mach w mb wb rb cap g) (V : Wmem w rb v) (L : Live cap g v r) (hcap : 1 ≤ cap ∧ cap ≤ 1000) (hn : g.n ≤ 100000) (hN : v.W.next = 47) : Does 47 mb wb rb cap g v r w := by
  obtain ⟨g1, g2⟩ := V.has (by rw [hN]; decide)
  cases L.wok with
  | popping _ O hr =>
    have OK := G.ok O L.j hcap
    have hd := L.done
    obtain ⟨kb, ob, W, base, oc, kind, k, b, t, x, won, done, err⟩ := v
    obtain rfl : kind = 1 := O.kind
    obtain rfl : done = false := O.done
    have r1 : rb ≠ mb := by obtain ⟨u, h⟩ := G.mem; exact G.rack.ne h (by decide)
    have r2 : rb ≠ wb := G.rack.ne G.words (by decide)
    have r3 : rb ≠ ob := G.rack.ne g2 (by decide)
    have r4 : rb ≠ kb := G.rack.ne V.work (by decide)
    refine (kPopping_any V.work g1 (G.mop g2) O.steps OK).mono ?_
    rintro e w' ⟨he, ⟨o', xs', x', T, M', H'⟩, hK⟩
    exact ⟨he, post_of G M' G.h0 G.h1 G.turn (G.rack.kept hK (by simp [r1, r2, r3, r4])) H' g1 (.inl rfl) rfl rfl (fun _ => ⟨L.kind, L.level⟩) (popping_next G.dq hN O hr L.j hn G.len hcap T rfl (fun _ => hN) (fun h => by simp [h])) (hK.mono (by simp +contextual))⟩
  | _ h => exact absurd (h.symm.trans hN) (by decide)
theorem does_signing (G : Mach w mb wb rb cap g) (V : Wmem w rb v) (L : Live cap g v r) (hN : v.W.next = 57) : Does 57 mb wb rb cap g v r w := by
  obtain ⟨g1, g2⟩ := V.has (by rw [hN]; decide)
  have r1 : rb ≠ mb := by obtain ⟨u, h⟩ := G.mem; exact G.rack.ne h (by decide)
  have r2 : rb ≠ wb := G.rack.ne G.words (by decide)
  have r3 : rb ≠ v.ob := G.rack.ne g2 (by decide)
  have r4 : rb ≠ v.kb := G.rack.ne V.work (by decide)
  have hx : 0 < g.xs.length := by have := G.len; omega
  refine (kSigning_any V.work G.rack (G.mop g2) hx).mono ?_
  rintro e w' ⟨he, M', H', hK⟩
  exact ⟨he, post_end (W' := { v.W with done := true, err := 0 }) G M'.mem M'.words (G.dq.sign _ _ hx (by omega)) (by simp) (by rw [getD_set _ _ _ _ hx, if_pos rfl]; exact G.h0) G.h0 G.h1 G.turn (G.rack.kept hK (by simp [r1, r2, r3, r4])) ⟨H', .inr ⟨g1, M'.op⟩⟩ rfl rfl rfl (hK.mono (by simp +contextual))⟩
theorem does_emptying (G : Mach w mb wb rb cap g) (V : Wmem w rb v) (L : Live cap g v r) (hN : v.W.next = 60) : Does 60 mb wb rb cap g v r w := by
  obtain ⟨g1, g2⟩ := V.has (by rw [hN]; decide)
  have r1 : rb ≠ mb := by obtain ⟨u, h⟩ := G.mem; exact G.rack.ne h (by decide)
  have r2 : rb ≠ wb := G.rack.ne G.words (by decide)
  have r3 : rb ≠ v.ob := G.rack.ne g2 (by decide)
  have r4 : rb ≠ v.kb := G.rack.ne V.work (by decide)
  have hx : 0 < g.xs.length := by have := G.len; omega
  refine (kEmptying_any V.work G.rack (G.mop g2) hx).mono ?_
  rintro e w' ⟨he, M', H', hK⟩
  exact ⟨he, post_end (W' := { v.W with done := true, err := 8 }) G M'.mem M'.words (G.dq.sign _ _ hx (by omega)) (by simp) (by rw [getD_set _ _ _ _ hx, if_pos rfl]; exact G.h0) G.h0 G.h1 G.turn (G.rack.kept hK (by simp [r1, r2, r3, r4])) ⟨H', .inr ⟨g1, M'.op⟩⟩ rfl rfl rfl (hK.mono (by simp +contextual))⟩
theorem does_again (G : Mach w mb wb rb cap g) (V : Wmem w rb v) (L : Live cap g v r) (hcap : 1 ≤ cap ∧ cap ≤ 1000) (hn : g.n ≤ 100000) (hN : v.W.next = 91) : Does 91 mb wb rb cap g v r w := by
  obtain ⟨g1, g2⟩ := V.has (by rw [hN]; decide)
  cases L.wok with
  | again _ hf O F hF hr =>
    have OK := G.ok O L.j hcap
    obtain ⟨kb, ob, W, base, oc, kind, k, b, t, x, won, done, err⟩ := v
    obtain rfl : kind = 0 := O.kind
    obtain rfl : done = false := O.done
    have r1 : rb ≠ mb := by obtain ⟨u, h⟩ := G.mem; exact G.rack.ne h (by decide)
    have r2 : rb ≠ wb := G.rack.ne G.words (by decide)
    have r3 : rb ≠ ob := G.rack.ne g2 (by decide)
    have r4 : rb ≠ kb := G.rack.ne V.work (by decide)
    refine (kAgain_any V.work G.rack ⟨L.kind, L.level⟩ g1 (G.mop g2) O.steps OK).mono ?_
    rintro e w' ⟨he, hP, hK⟩
    have HR' := G.rack.kept hK (by simp [r1, r2, r3, r4])
    refine ⟨he, ?_⟩
    cases hP with
    | more o' xs' T M' H' hd =>
      exact post_of G M' G.h0 G.h1 G.turn HR' H' g1 (.inl rfl) rfl rfl (fun _ => ⟨L.kind, L.level⟩) (again_next G.dq hN O hF hr L.j hn G.len hcap T rfl hf rfl (fun _ => ⟨rfl, hN⟩) (fun h => by rw [hd] at h; cases h)) (hK.mono (by simp +contextual))
    | done o' xs' og T M' H' hd p3 =>
      exact post_of G M' G.h0 G.h1 G.turn HR' H' rfl (.inr p3) rfl rfl (fun _ => ⟨L.kind, L.level⟩) (again_next G.dq hN O hF hr L.j hn G.len hcap T rfl hf rfl (fun h => by rw [hd] at h; cases h) (fun _ => ⟨rfl, rfl⟩)) (hK.mono (by simp +contextual))
  | _ h => exact absurd (h.symm.trans hN) (by decide)
theorem does_pushing (G : Mach w mb wb rb cap g) (V : Wmem w rb v) (L : Live cap g v r) (hcap : 1 ≤ cap ∧ cap ≤ 1000) (hn : g.n ≤ 100000) (hN : v.W.next = 35) : Does 35 mb wb rb cap g v r w := by
  obtain ⟨g1, g2⟩ := V.has (by rw [hN]; decide)
  have key : ∀ O : OpAt cap g.T g.B v.W v.o 0 3, (∀ (W' : WorkS) (ob' : Nat) (o' o2 : OpS) (xs' : List Nat), Turn { v.o with steps := v.o.steps + 1 } g.xs o' xs' →
      (o'.done = false → o2 = o' ∧ W' = v.W) → (o'.done = true → o'.err = 6 → v.W.full = true → W' = { v.W with done := true, err := 6 }) →
      (o'.done = true → o'.err = 6 → v.W.full = false → o2 = ⟨atJ cap (v.W.kind * 8 + v.W.level), cap, 2, 0, 0, 0, 0, false, false, 0⟩ ∧ W' = { v.W with full := true, src := o'.b, op := .pointer (some ⟨ob', 0, none⟩), next := 55 }) →
      (o'.done = true → o'.err ≠ 6 → (W' = { v.W with there := true, done := true, err := 0 } ∨ W' = { v.W with there := true, next := 57 })) → Next cap g.n g.xs xs' g.T g.B v.W W' o2 r) → Does 35 mb wb rb cap g v r w := by
    intro O step
    have OK := G.ok O L.j hcap
    obtain ⟨kb, ob, W, base, oc, kind, k, b, t, x, won, done, err⟩ := v
    obtain rfl : kind = 0 := O.kind
    obtain rfl : done = false := O.done
    refine (kPushing_any V.work G.rack ⟨L.kind, L.level⟩ L.done G.h0 G.h1 g1 (G.mop g2) O.steps OK).mono ?_
    rintro e w' ⟨he, ⟨o', xs', W', ob', o2, r0, r1, T, M', q0, q1, R', H', p1, p2, p3, p4⟩, hK⟩
    refine ⟨he, ?_⟩
    have N := step W' ob' o' o2 xs' T (fun h => ⟨(p1 h).2.1, (p1 h).2.2⟩) (fun a b c => (p2 a b c).2) (fun a b c => (p3 a b c).2) (fun a b => (p4 a b).2)
    have all : W'.op = .pointer (some ⟨ob', 0, none⟩) ∧ (ob' = ob ∨ w.heap.size ≤ ob') ∧ W'.steps = W.steps ∧ W'.good = W.good ∧ W'.kind = W.kind ∧ W'.level = W.level := by
      cases hd : o'.done with
      | false => obtain ⟨rfl, _, rfl⟩ := p1 hd; exact ⟨g1, .inl rfl, rfl, rfl, rfl, rfl⟩
      | true =>
        by_cases h6 : o'.err = 6
        · cases hf : W.full with
          | true => obtain ⟨rfl, rfl⟩ := p2 hd h6 hf; exact ⟨g1, .inl rfl, rfl, rfl, rfl, rfl⟩
          | false => obtain ⟨hg, _, rfl⟩ := p3 hd h6 hf; exact ⟨rfl, .inr hg, rfl, rfl, rfl, rfl⟩
        · obtain ⟨rfl, rfl | rfl⟩ := p4 hd h6 <;> exact ⟨g1, .inl rfl, rfl, rfl, rfl, rfl⟩
    exact post_of G M' q0 q1 G.turn R' H' all.1 all.2.1 all.2.2.1 all.2.2.2.1 (fun _ => ⟨by rw [all.2.2.2.2.1]; exact L.kind, by rw [all.2.2.2.2.2]; exact L.level⟩) N (hK.mono (by simp +contextual))
  cases L.wok with
  | push _ hf O hr =>
    refine key O fun W' ob' o' o2 xs' T p1 p2 p3 p4 => push_next G.dq hN O hr L.j hn G.len hcap T ?_ (fun h => ⟨(p1 h).1, by rw [(p1 h).2]; exact ⟨hN, hf⟩⟩) (fun a b => ?_) (fun a b => ?_)
    · cases hd : o'.done with
      | false => rw [(p1 hd).2]
      | true =>
        by_cases h6 : o'.err = 6
        · rw [(p3 hd h6 hf).2]; rfl
        · rcases p4 hd h6 with h | h <;> rw [h] <;> rfl
    · rcases p4 a b with h | h
      · exact .inl (by rw [h])
      · exact .inr (by rw [h])
    · obtain ⟨h1, h2⟩ := p3 a b hf
      exact ⟨by rw [h2], by rw [h2], by rw [h2], h1⟩
  | last _ hf O hr =>
    refine key O fun W' ob' o' o2 xs' T p1 p2 p3 p4 => ?_
    have e2 : o'.done = true ∨ o2 = o' := by
      cases hd : o'.done with
      | false => exact .inr (p1 hd).1
      | true => exact .inl rfl
    rcases e2 with hd | rfl
    · have N := last_next (W' := W') G.dq hN O hr L.j hn G.len hcap T (by
          by_cases h6 : o'.err = 6
          · rw [p2 hd h6 hf]; rfl
          · rcases p4 hd h6 with h | h <;> rw [h] <;> rfl) (fun h => by rw [hd] at h; cases h) (fun _ => by
          by_cases h6 : o'.err = 6
          · exact .inl (by rw [p2 hd h6 hf])
          · rcases p4 hd h6 with h | h
            · exact .inl (by rw [h])
            · exact .inr ⟨by rw [h], h6⟩)
      obtain ⟨T', B', n1, n2, n3, n4, n5⟩ := N
      refine ⟨T', B', n1, n2, n3, n4, fun h => ?_⟩
      obtain ⟨m1, m2⟩ := n5 h
      refine ⟨?_, m2⟩
      cases m1 with
      | signing a b => exact .signing a b
      | _ a =>
        exfalso
        by_cases h6 : o'.err = 6
        · rw [p2 hd h6 hf] at h; cases h
        · rcases p4 hd h6 with h' | h'
          · rw [h'] at h; cases h
          · rw [h'] at a; simp at a
    · exact last_next G.dq hN O hr L.j hn G.len hcap T (by
        cases hd : o2.done with
        | false => rw [(p1 hd).2]
        | true =>
          by_cases h6 : o2.err = 6
          · rw [p2 hd h6 hf]; rfl
          · rcases p4 hd h6 with h | h <;> rw [h] <;> rfl) (fun h => by rw [(p1 h).2]; exact ⟨hN, hf⟩) (fun hd => by
        by_cases h6 : o2.err = 6
        · exact .inl (by rw [p2 hd h6 hf])
        · rcases p4 hd h6 with h | h
          · exact .inl (by rw [h])
          · exact .inr ⟨by rw [h], h6⟩)
  | _ h => exact absurd (h.symm.trans hN) (by decide)
end
end Go.Proofs.YtahpjoknmclbfaaDoor

