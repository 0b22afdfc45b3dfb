/- Package rack: choosing. -/
import Derived.Test.YtahpjoknmclbfaaDoorStI
namespace Go.Proofs.YtahpjoknmclbfaaDoor
open Go.RowKit

inductive ChoosePost (w w' : World) (rb kb cap s0 s1 : Nat) (W : WorkS) : Prop
  | none (turn : Nat) (ht : turn < 2) (h : Blk w' kb 57 (workC rb { W with level := 8, done := true, err := 7 })) (r : Blk w' rb 50 (rackC cap s0 s1 turn)) : ChoosePost w w' rb kb cap s0 s1 W
  | some (og l k turn : Nat) (g : w.heap.size ≤ og) (hk : k < 2) (hl : l < 8) (ht : turn < 2) (m : Blk w' og 88 (opC ⟨atJ cap (k * 8 + l), cap, 2, 0, 0, 0, 0, false, false, 0⟩)) (h : Blk w' kb 57 (workC rb { W with level := l, kind := k, op := .pointer (some ⟨og, 0, none⟩), next := 44 })) (r : Blk w' rb 50 (rackC cap s0 s1 turn)) : ChoosePost w w' rb kb cap s0 s1 W
section
variable {w : World} {mb wb ob rb kb : Nat} {xs : List Nat} {o : OpS} {W : WorkS} {cap s0 s1 turn : Nat}
set_option maxRecDepth 100000 in
set_option maxHeartbeats 6400000 in
theorem kChoosing_any (H : Blk w kb 57 (workC rb W)) (R : Blk w rb 50 (rackC cap s0 s1 turn)) (hW : W.kind < 2) (h0 : s0 < 256) (h1 : s1 < 256) (ht : turn < 2) (hT : HasDb w) : Calls Tryd.prog 30 #[.pointer (some ⟨kb, 0, none⟩), .pointer (some ⟨mb, 0, none⟩)] w fun r w' =>
    r = .returned (.tuple #[]) ∧ ChoosePost w w' rb kb cap s0 s1 W ∧ Kept [kb, rb] w w' := by
  have kr : kb ≠ rb := H.ne R (by decide)
  have c0 := H.cell 0
  simp [workC] at c0
  have HB := Lib.hid (kBest_any R h0 h1 hT)
  have HHs : Hid (∀ (s l : Nat) (W2 : World), s < 256 → l < 8 → Calls Tryd.prog 42 #[.int .u64 s, .int .i64 l] W2 fun e w' => (∃ b, e = .returned (.bool b)) ∧ W2 = w') := fun s l W2 hs hl => sHas_any s l W2 hs hl
  have HH := Lib.hid H
  have HR := Lib.hid R
  have HS := Lib.hid (And.intro h0 (And.intro h1 (And.intro ht hW)))
  clear H R hW h0 h1 ht hT
  go_enter Tryd.func30, Tryd.ntmps30
  go_wp2_with fail
  refine HB.out.mono ?_
  rintro e w1 ⟨⟨l, hl, rfl⟩, hk1⟩
  have H1 := HH.out.kept hk1 (by simp)
  have R1 := HR.out.kept hk1 (by simp)
  have c4 := H1.cell 4
  have f4 := H1.frozen 4
  simp [workC] at c4
  have H2 : Blk (w1.setCell ⟨kb, 4, none⟩ (.int .i64 l)) kb 57 (workC rb { W with level := l }) := H1.set 4 _
  have hk2 : Kept [kb] w1 (w1.setCell ⟨kb, 4, none⟩ (.int .i64 l)) := (Kept.refl _ _).setCell (.inl (by simp)) _
  have R2 := R1.kept hk2 (by simp [Ne.symm kr])
  have HK2 := Lib.hid ((hk1.mono (G' := [kb, rb]) (by simp)).trans (hk2.mono (G' := [kb, rb]) (by simp +contextual)))
  have hs2 := hk2.size
  have hs1 := hk1.size
  clear H1 R1 hk1 hk2
  by_cases hl8 : l = 8
  · subst hl8
    have HE := Lib.hid (kWend_any H2 7)
    have HR2 := Lib.hid R2
    clear H2 R2
    go_wp2_with fail
    refine HE.out.mono ?_
    rintro e w3 ⟨rfl, H3, hk3⟩
    have HH3 := Lib.hid H3
    have HR3 := Lib.hid (HR2.out.kept hk3 (by simp [Ne.symm kr]))
    have HK3 := Lib.hid (HK2.out.trans (hk3.mono (G' := [kb, rb]) (by simp +contextual)))
    clear H3 hk3
    go_wp2_with fail
    first | go_end0 | refine bodyPost_ret (results_none rfl _ _ _) rfl ?_
    exact ⟨rfl, .none turn HS.out.2.2.1 HH3.out HR3.out, HK3.out⟩
  · have hl7 : l < 8 := by omega
    have hl9 : ¬ (l : Int) = 8 := by omega
    have HHs0 := Lib.hid (fun W2 => HHs.out s0 l W2 HS.out.1 hl7)
    have HHs1 := Lib.hid (fun W2 => HHs.out s1 l W2 HS.out.2.1 hl7)
    have HL7 := Lib.hid hl7
    have HH2 := Lib.hid H2
    have HR2 := Lib.hid R2
    have d33 : (w1.setCell ⟨kb, 4, none⟩ (.int .i64 l)).cell? ⟨rb, 33, none⟩ = some (U64 s0) := R2.cell 33
    have d34 : (w1.setCell ⟨kb, 4, none⟩ (.int .i64 l)).cell? ⟨rb, 34, none⟩ = some (U64 s1) := R2.cell 34
    have d35 : (w1.setCell ⟨kb, 4, none⟩ (.int .i64 l)).cell? ⟨rb, 35, none⟩ = some (.int .i64 turn) := R2.cell 35
    have e35 := R2.frozen 35
    have e4 := H2.cell 4
    simp [workC] at e4
    have e5 := H2.cell 5
    have g5 := H2.frozen 5
    simp [workC] at e5
    clear H2 R2 HHs HB
    generalize hw2 : w1.setCell ⟨kb, 4, none⟩ (.int .i64 l) = w2 at *
    go_wp2_with (simp only [hw2])
    go_region_held3 (fun w' => w'.cell? ⟨rb, 33, none⟩ = some (U64 s0) ∧ w'.cell? ⟨rb, 34, none⟩ = some (U64 s1) ∧ w'.cell? ⟨kb, 4, none⟩ = some (.int .i64 l)) (go_keep) (first | (go_at_call 42; refine (HHs0.out _).mono ?_; rintro e w3 ⟨⟨b0, rfl⟩, rfl⟩) | (go_at_call 42; refine (HHs1.out _).mono ?_; rintro e w3 ⟨⟨b1, rfl⟩, rfl⟩))
    all_goals
      have HKD := Lib.hid (HK2.out.trans ((Kept.refl [kb, rb] w2).drew))
      clear HHs0 HHs1
      cases b1 with
      | false =>
        have H4 : Blk w2.drew kb 57 (workC rb { W with level := l, kind := W.kind }) := HH2.out
        have R4 : Blk w2.drew rb 50 (rackC cap s0 s1 turn) := HR2.out
        have HK4 := HKD
        cases b0
        all_goals
          obtain ⟨aj, haj⟩ : ∃ aj, aj = atJ cap (W.kind * 8 + l) := ⟨_, rfl⟩
          have HDq := Lib.hid (kWdeque_any H4 R4 (show W.kind < 2 from HS.out.2.2.2) HL7.out)
          simp only [← haj] at HDq
          have HAJ := Lib.hid haj
          clear haj
          have HH4 := Lib.hid H4
          have HR4 := Lib.hid R4
          have hs4 := HK4.out.size
          clear H4 R4
          go_wp2_with fail
          refine HDq.out.mono ?_
          rintro e w5 ⟨rfl, hk5⟩
          have HSt := Lib.hid (qSteal_any aj cap w5)
          have HH5 := Lib.hid (HH4.out.kept hk5 (by simp))
          have HR5 := Lib.hid (HR4.out.kept hk5 (by simp))
          have HK5 := Lib.hid (HK4.out.trans (hk5.mono (G' := [kb, rb]) (by simp)))
          clear hk5
          go_wp2_with fail
          refine HSt.out.mono ?_
          rintro e w6 ⟨⟨g, hg, rfl, N6⟩, hk6⟩
          have H6 := HH5.out.kept hk6 (by simp)
          have HR6 := Lib.hid (HR5.out.kept hk6 (by simp))
          have HK6 := Lib.hid (HK5.out.trans (hk6.mono (G' := [kb, rb]) (by simp)))
          have c1 := H6.cell 1
          have f1 := H6.frozen 1
          have c6 := H6.cell 6
          have f6 := H6.frozen 6
          simp [workC] at c1 c6
          have hge := H6.ne N6 (by decide)
          have HH7 := Lib.hid (newOp_of (og := g) H6 44)
          have HN7 := Lib.hid ((N6.far (Ne.symm hge) (p := ⟨kb, 6, none⟩) (.pointer (some ⟨g, 0, none⟩))).far (Ne.symm hge) (p := ⟨kb, 1, none⟩) (.func (.func 44) #[] #[]))
          have hk7 : Kept [kb] w6 ((w6.setCell ⟨kb, 6, none⟩ (.pointer (some ⟨g, 0, none⟩))).setCell ⟨kb, 1, none⟩ (.func (.func 44) #[] #[])) := ((Kept.refl _ _).setCell (.inl (by simp)) _).setCell (.inl (by simp)) _
          have HR7 := Lib.hid (HR6.out.kept hk7 (by simp [Ne.symm kr]))
          have HK7 := Lib.hid (HK6.out.trans (hk7.mono (G' := [kb, rb]) (by simp +contextual)))
          have hgw : w.heap.size ≤ g := by have := HK5.out.size; omega
          clear H6 N6 hk6 hk7 hs4 hg
          go_wp2_with fail
          first | go_end0 | refine bodyPost_ret (results_none rfl _ _ _) rfl ?_
          exact ⟨rfl, .some g l (W.kind) (turn) hgw HS.out.2.2.2 HL7.out HS.out.2.2.1 (HAJ.out ▸ HN7.out) HH7.out HR7.out, HK7.out⟩
      | true =>
        cases b0 with
        | false =>
          have H4 : Blk (w2.drew.setCell ⟨kb, 5, none⟩ (.int .i64 1)) kb 57 (workC rb { W with level := l, kind := 1 }) := Blk.set (w := w2.drew) HH2.out 5 _
          have hk4 : Kept [kb] w2.drew (w2.drew.setCell ⟨kb, 5, none⟩ (.int .i64 1)) := (Kept.refl _ _).setCell (.inl (by simp)) _
          have R4 : Blk (w2.drew.setCell ⟨kb, 5, none⟩ (.int .i64 1)) rb 50 (rackC cap s0 s1 turn) := Blk.kept (w := w2.drew) HR2.out hk4 (by simp [Ne.symm kr])
          have HK4 := Lib.hid (HKD.out.trans (hk4.mono (G' := [kb, rb]) (by simp +contextual)))
          clear hk4
          obtain ⟨aj, haj⟩ : ∃ aj, aj = atJ cap (1 * 8 + l) := ⟨_, rfl⟩
          have HDq := Lib.hid (kWdeque_any H4 R4 (show 1 < 2 from (by omega)) HL7.out)
          simp only [← haj] at HDq
          have HAJ := Lib.hid haj
          clear haj
          have HH4 := Lib.hid H4
          have HR4 := Lib.hid R4
          have hs4 := HK4.out.size
          clear H4 R4
          go_wp2_with fail
          refine HDq.out.mono ?_
          rintro e w5 ⟨rfl, hk5⟩
          have HSt := Lib.hid (qSteal_any aj cap w5)
          have HH5 := Lib.hid (HH4.out.kept hk5 (by simp))
          have HR5 := Lib.hid (HR4.out.kept hk5 (by simp))
          have HK5 := Lib.hid (HK4.out.trans (hk5.mono (G' := [kb, rb]) (by simp)))
          clear hk5
          go_wp2_with fail
          refine HSt.out.mono ?_
          rintro e w6 ⟨⟨g, hg, rfl, N6⟩, hk6⟩
          have H6 := HH5.out.kept hk6 (by simp)
          have HR6 := Lib.hid (HR5.out.kept hk6 (by simp))
          have HK6 := Lib.hid (HK5.out.trans (hk6.mono (G' := [kb, rb]) (by simp)))
          have c1 := H6.cell 1
          have f1 := H6.frozen 1
          have c6 := H6.cell 6
          have f6 := H6.frozen 6
          simp [workC] at c1 c6
          have hge := H6.ne N6 (by decide)
          have HH7 := Lib.hid (newOp_of (og := g) H6 44)
          have HN7 := Lib.hid ((N6.far (Ne.symm hge) (p := ⟨kb, 6, none⟩) (.pointer (some ⟨g, 0, none⟩))).far (Ne.symm hge) (p := ⟨kb, 1, none⟩) (.func (.func 44) #[] #[]))
          have hk7 : Kept [kb] w6 ((w6.setCell ⟨kb, 6, none⟩ (.pointer (some ⟨g, 0, none⟩))).setCell ⟨kb, 1, none⟩ (.func (.func 44) #[] #[])) := ((Kept.refl _ _).setCell (.inl (by simp)) _).setCell (.inl (by simp)) _
          have HR7 := Lib.hid (HR6.out.kept hk7 (by simp [Ne.symm kr]))
          have HK7 := Lib.hid (HK6.out.trans (hk7.mono (G' := [kb, rb]) (by simp +contextual)))
          have hgw : w.heap.size ≤ g := by have := HK5.out.size; omega
          clear H6 N6 hk6 hk7 hs4 hg
          go_wp2_with fail
          first | go_end0 | refine bodyPost_ret (results_none rfl _ _ _) rfl ?_
          exact ⟨rfl, .some g l (1) (turn) hgw (by omega) HL7.out HS.out.2.2.1 (HAJ.out ▸ HN7.out) HH7.out HR7.out, HK7.out⟩
        | true =>
          have ht : turn = 0 ∨ turn = 1 := by have := HS.out.2.2.1; omega
          rcases ht with rfl | rfl
          · go_wp2_with fail
            go_region_with (fail)
            all_goals
              have H4 : Blk (((w2.setCell ⟨kb, 5, none⟩ (.int .i64 0)).setCell ⟨rb, 35, none⟩ (.int .i64 (IntKind.i64.wrap 1))).drew.drew) kb 57 (workC rb { W with level := l, kind := 0 }) := (HH2.out.set 5 _).far (w := w2.setCell ⟨kb, 5, none⟩ (.int .i64 0)) (p := ⟨rb, 35, none⟩) kr _
              have R4 : Blk (((w2.setCell ⟨kb, 5, none⟩ (.int .i64 0)).setCell ⟨rb, 35, none⟩ (.int .i64 (IntKind.i64.wrap 1))).drew.drew) rb 50 (rackC cap s0 s1 1) := (HR2.out.far (p := ⟨kb, 5, none⟩) (Ne.symm kr) _).set 35 _
              have HK4 : Hid (Kept [kb, rb] w (((w2.setCell ⟨kb, 5, none⟩ (.int .i64 0)).setCell ⟨rb, 35, none⟩ (.int .i64 (IntKind.i64.wrap 1))).drew.drew)) := Lib.hid (((HK2.out.setCell (p := ⟨kb, 5, none⟩) (.inl (by simp)) _).setCell (p := ⟨rb, 35, none⟩) (.inl (by simp)) _).drew.drew)
              obtain ⟨aj, haj⟩ : ∃ aj, aj = atJ cap (0 * 8 + l) := ⟨_, rfl⟩
              have HDq := Lib.hid (kWdeque_any H4 R4 (show 0 < 2 from (by omega)) HL7.out)
              simp only [← haj] at HDq
              have HAJ := Lib.hid haj
              clear haj
              have HH4 := Lib.hid H4
              have HR4 := Lib.hid R4
              have hs4 := HK4.out.size
              clear H4 R4
              go_wp2_with fail
              refine HDq.out.mono ?_
              rintro e w5 ⟨rfl, hk5⟩
              have HSt := Lib.hid (qSteal_any aj cap w5)
              have HH5 := Lib.hid (HH4.out.kept hk5 (by simp))
              have HR5 := Lib.hid (HR4.out.kept hk5 (by simp))
              have HK5 := Lib.hid (HK4.out.trans (hk5.mono (G' := [kb, rb]) (by simp)))
              clear hk5
              go_wp2_with fail
              refine HSt.out.mono ?_
              rintro e w6 ⟨⟨g, hg, rfl, N6⟩, hk6⟩
              have H6 := HH5.out.kept hk6 (by simp)
              have HR6 := Lib.hid (HR5.out.kept hk6 (by simp))
              have HK6 := Lib.hid (HK5.out.trans (hk6.mono (G' := [kb, rb]) (by simp)))
              have c1 := H6.cell 1
              have f1 := H6.frozen 1
              have c6 := H6.cell 6
              have f6 := H6.frozen 6
              simp [workC] at c1 c6
              have hge := H6.ne N6 (by decide)
              have HH7 := Lib.hid (newOp_of (og := g) H6 44)
              have HN7 := Lib.hid ((N6.far (Ne.symm hge) (p := ⟨kb, 6, none⟩) (.pointer (some ⟨g, 0, none⟩))).far (Ne.symm hge) (p := ⟨kb, 1, none⟩) (.func (.func 44) #[] #[]))
              have hk7 : Kept [kb] w6 ((w6.setCell ⟨kb, 6, none⟩ (.pointer (some ⟨g, 0, none⟩))).setCell ⟨kb, 1, none⟩ (.func (.func 44) #[] #[])) := ((Kept.refl _ _).setCell (.inl (by simp)) _).setCell (.inl (by simp)) _
              have HR7 := Lib.hid (HR6.out.kept hk7 (by simp [Ne.symm kr]))
              have HK7 := Lib.hid (HK6.out.trans (hk7.mono (G' := [kb, rb]) (by simp +contextual)))
              have hgw : w.heap.size ≤ g := by have := HK5.out.size; omega
              clear H6 N6 hk6 hk7 hs4 hg
              go_wp2_with fail
              first | go_end0 | refine bodyPost_ret (results_none rfl _ _ _) rfl ?_
              exact ⟨rfl, .some g l (0) (1) hgw (by omega) HL7.out (by omega) (HAJ.out ▸ HN7.out) HH7.out HR7.out, HK7.out⟩
          · go_wp2_with fail
            go_region_with (fail)
            all_goals
              have H4 : Blk (((w2.setCell ⟨kb, 5, none⟩ (.int .i64 1)).setCell ⟨rb, 35, none⟩ (.int .i64 (IntKind.i64.wrap 0))).drew.drew) kb 57 (workC rb { W with level := l, kind := 1 }) := (HH2.out.set 5 _).far (w := w2.setCell ⟨kb, 5, none⟩ (.int .i64 1)) (p := ⟨rb, 35, none⟩) kr _
              have R4 : Blk (((w2.setCell ⟨kb, 5, none⟩ (.int .i64 1)).setCell ⟨rb, 35, none⟩ (.int .i64 (IntKind.i64.wrap 0))).drew.drew) rb 50 (rackC cap s0 s1 0) := (HR2.out.far (p := ⟨kb, 5, none⟩) (Ne.symm kr) _).set 35 _
              have HK4 : Hid (Kept [kb, rb] w (((w2.setCell ⟨kb, 5, none⟩ (.int .i64 1)).setCell ⟨rb, 35, none⟩ (.int .i64 (IntKind.i64.wrap 0))).drew.drew)) := Lib.hid (((HK2.out.setCell (p := ⟨kb, 5, none⟩) (.inl (by simp)) _).setCell (p := ⟨rb, 35, none⟩) (.inl (by simp)) _).drew.drew)
              obtain ⟨aj, haj⟩ : ∃ aj, aj = atJ cap (1 * 8 + l) := ⟨_, rfl⟩
              have HDq := Lib.hid (kWdeque_any H4 R4 (show 1 < 2 from (by omega)) HL7.out)
              simp only [← haj] at HDq
              have HAJ := Lib.hid haj
              clear haj
              have HH4 := Lib.hid H4
              have HR4 := Lib.hid R4
              have hs4 := HK4.out.size
              clear H4 R4
              go_wp2_with fail
              refine HDq.out.mono ?_
              rintro e w5 ⟨rfl, hk5⟩
              have HSt := Lib.hid (qSteal_any aj cap w5)
              have HH5 := Lib.hid (HH4.out.kept hk5 (by simp))
              have HR5 := Lib.hid (HR4.out.kept hk5 (by simp))
              have HK5 := Lib.hid (HK4.out.trans (hk5.mono (G' := [kb, rb]) (by simp)))
              clear hk5
              go_wp2_with fail
              refine HSt.out.mono ?_
              rintro e w6 ⟨⟨g, hg, rfl, N6⟩, hk6⟩
              have H6 := HH5.out.kept hk6 (by simp)
              have HR6 := Lib.hid (HR5.out.kept hk6 (by simp))
              have HK6 := Lib.hid (HK5.out.trans (hk6.mono (G' := [kb, rb]) (by simp)))
              have c1 := H6.cell 1
              have f1 := H6.frozen 1
              have c6 := H6.cell 6
              have f6 := H6.frozen 6
              simp [workC] at c1 c6
              have hge := H6.ne N6 (by decide)
              have HH7 := Lib.hid (newOp_of (og := g) H6 44)
              have HN7 := Lib.hid ((N6.far (Ne.symm hge) (p := ⟨kb, 6, none⟩) (.pointer (some ⟨g, 0, none⟩))).far (Ne.symm hge) (p := ⟨kb, 1, none⟩) (.func (.func 44) #[] #[]))
              have hk7 : Kept [kb] w6 ((w6.setCell ⟨kb, 6, none⟩ (.pointer (some ⟨g, 0, none⟩))).setCell ⟨kb, 1, none⟩ (.func (.func 44) #[] #[])) := ((Kept.refl _ _).setCell (.inl (by simp)) _).setCell (.inl (by simp)) _
              have HR7 := Lib.hid (HR6.out.kept hk7 (by simp [Ne.symm kr]))
              have HK7 := Lib.hid (HK6.out.trans (hk7.mono (G' := [kb, rb]) (by simp +contextual)))
              have hgw : w.heap.size ≤ g := by have := HK5.out.size; omega
              clear H6 N6 hk6 hk7 hs4 hg
              go_wp2_with fail
              first | go_end0 | refine bodyPost_ret (results_none rfl _ _ _) rfl ?_
              exact ⟨rfl, .some g l (1) (0) hgw (by omega) HL7.out (by omega) (HAJ.out ▸ HN7.out) HH7.out HR7.out, HK7.out⟩
end
end Go.Proofs.YtahpjoknmclbfaaDoor
