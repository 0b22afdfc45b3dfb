/- Package rack: Best, reading, choosing; Package rack: reading, choosing. -/
import Derived.Test.YtahpjoknmclbfaaDoorBwR3
import Derived.Test.YtahpjoknmclbfaaDoorStC

/- Package rack: Best, reading, choosing. -/
namespace Go.Proofs.YtahpjoknmclbfaaDoor
open Go.RowKit

theorem ctz_lt8 : ∀ x : Fin 256, x.1 ≠ 0 → Lib.ctz 64 x.1 < 8 := by decide +kernel
theorem and255 : ∀ x : Fin 256, bits BinOp.and IntKind.u64 (x.1 : Int) 255 = x.1 := by decide +kernel
theorem or_lt256 : ∀ x y : Nat, x < 256 → y < 256 → x ||| y < 256 := fun x y hx hy => Nat.or_lt_two_pow (n := 8) hx hy
section
variable {w : World} {mb wb ob rb kb : Nat} {xs : List Nat} {o : OpS} {W : WorkS} {cap s0 s1 turn : Nat}
theorem least8 (x : Nat) (h0 : x ≠ 0) (hx : x < 256) (w : World) (hT : HasDb w) : Calls Tryd.prog 49 #[.int .u64 x] w fun e w' => (∃ l : Nat, l < 8 ∧ e = .returned (.int .i64 l)) ∧ w' = w :=
  (sLeast_any x h0 (by omega) w hT).mono fun _ _ ⟨h1, h2⟩ => ⟨⟨_, ctz_lt8 ⟨x, hx⟩ h0, h1⟩, h2⟩
set_option maxHeartbeats 3200000 in
theorem kBest_any (R : Blk w rb 50 (rackC cap s0 s1 turn)) (h0 : s0 < 256) (h1 : s1 < 256) (hT : HasDb w) : Calls Tryd.prog 40 #[.pointer (some ⟨rb, 0, none⟩)] w fun r w' => (∃ l : Nat, l ≤ 8 ∧ r = .returned (.int .i64 l)) ∧ Kept [] w w' := by
  have d0 : w.cell? ⟨rb, 33, none⟩ = some (U64 s0) := R.cell 33
  have d1 : w.cell? ⟨rb, 34, none⟩ = some (U64 s1) := R.cell 34
  have hor := bits_or_u64_nat s0 s1 (by omega) (by omega)
  by_cases hz : s0 ||| s1 = 0
  · rw [hz] at hor
    clear R hz
    go_enter Tryd.func40, Tryd.ntmps40
    go_wp2_with fail
    go_region_held3 (fun w' => w'.cell? ⟨rb, 33, none⟩ = some (U64 s0) ∧ w'.cell? ⟨rb, 34, none⟩ = some (U64 s1)) (go_keep) (fail)
    all_goals
      go_wp2_with (simp only [hor])
      go_ret
      exact ⟨⟨8, by omega, rfl⟩, (Kept.refl [] w).drew⟩
  · have HL := Lib.hid (fun W2 (hk : Kept [] w W2) => least8 _ hz (or_lt256 s0 s1 h0 h1) W2 (hT.old hk))
    generalize s0 ||| s1 = x at *
    have hx : ¬ (x : Int) = 0 := by omega
    clear R hz hT
    go_enter Tryd.func40, Tryd.ntmps40
    go_wp2_with fail
    go_region_held3 (fun w' => w'.cell? ⟨rb, 33, none⟩ = some (U64 s0) ∧ w'.cell? ⟨rb, 34, none⟩ = some (U64 s1)) (go_keep) (fail)
    all_goals
      go_wp2_with (simp only [hor])
      go_region_held3 (fun w' => w'.cell? ⟨rb, 33, none⟩ = some (U64 s0) ∧ w'.cell? ⟨rb, 34, none⟩ = some (U64 s1)) (go_keep) (first | simp only [hor] | (go_at_call 49; refine (HL.out _ ((Kept.refl [] w).drew.drew)).mono ?_; rintro e w1 ⟨⟨l, hl, rfl⟩, rfl⟩))
      all_goals
        go_wp2_with (simp only [hor])
        go_ret
        exact ⟨⟨l, by omega, rfl⟩, (Kept.refl [] w).drew.drew⟩
end
end Go.Proofs.YtahpjoknmclbfaaDoor

/- Package rack: reading, choosing. -/
namespace Go.Proofs.YtahpjoknmclbfaaDoor
open Go.RowKit

section
variable {w : World} {mb wb ob rb kb : Nat} {xs : List Nat} {o : OpS} {W : WorkS} {cap s0 s1 turn : Nat}
theorem mem_load (hm : ∃ u : Int, Blk w mb 43 #[.slice (some ⟨wb, 0, none⟩) xs.length xs.length, .int .u64 u]) (hw : Blk w wb 30 (xs.map U64).toArray) {a : Nat} (ha : a < xs.length) : Calls Tryd.prog 48 #[.pointer (some ⟨mb, 0, none⟩), .int .i64 a] w fun e w' => e = .returned (U64 (xs.getD a 0)) ∧ (∃ u : Int, Blk w' mb 43 #[.slice (some ⟨wb, 0, none⟩) xs.length xs.length, .int .u64 u]) ∧ Kept [mb] w w' := by
  obtain ⟨u, h⟩ := hm
  refine (mLoad_any w mb wb xs.length a (xs.getD a 0) u (by rw [h.cell]; rfl) (by rw [h.cell]; rfl) (h.frozen 1) ha (by rw [hw.cell]; simp [ha])).mono ?_
  rintro e w' ⟨rfl, rfl⟩
  exact ⟨rfl, ⟨_, h.set 1 _⟩, (Kept.refl _ w).setCell (.inl (by simp)) _⟩
inductive ReadPost (w w' : World) (rb kb cap : Nat) (W : WorkS) : Prop
  | none (h : Blk w' kb 57 (workC rb { W with done := true, err := 7 })) : ReadPost w w' rb kb cap W
  | some (og l : Nat) (g : w.heap.size ≤ og) (hl : l < 8) (m : Blk w' og 88 (opC ⟨atJ cap (W.kind * 8 + l), cap, 2, 0, 0, 0, 0, false, false, 0⟩)) (h : Blk w' kb 57 (workC rb { W with level := l, op := .pointer (some ⟨og, 0, none⟩), next := 50 })) : ReadPost w w' rb kb cap W
set_option maxHeartbeats 3200000 in
theorem kReading_any (H : Blk w kb 57 (workC rb W)) (R : Blk w rb 50 (rackC cap s0 s1 turn)) (hW : W.kind < 2) (hm : ∃ u : Int, Blk w mb 43 #[.slice (some ⟨wb, 0, none⟩) xs.length xs.length, .int .u64 u]) (hw : Blk w wb 30 (xs.map U64).toArray) (hx : 0 < xs.length) (hs : xs.getD 0 0 < 256) (hT : HasDb w) (hg : 0 ≠ mb) : Calls Tryd.prog 32 #[.pointer (some ⟨kb, 0, none⟩), .pointer (some ⟨mb, 0, none⟩)] w fun r w' =>
    r = .returned (.tuple #[]) ∧ ReadPost w w' rb kb cap W ∧ (∃ u : Int, Blk w' mb 43 #[.slice (some ⟨wb, 0, none⟩) xs.length xs.length, .int .u64 u]) ∧ Kept [mb, kb] w w' := by
  have k1 : kb ≠ mb := by obtain ⟨u, h⟩ := hm; exact H.ne h (by decide)
  have r1 : rb ≠ mb := by obtain ⟨u, h⟩ := hm; exact R.ne h (by decide)
  have kr : kb ≠ rb := H.ne R (by decide)
  have c0 := H.cell 0
  have d0 : w.cell? ⟨rb, 0, none⟩ = some (.int .i64 0) := R.cell 0
  simp [workC] at c0
  have HL := Lib.hid (mem_load hm hw hx)
  have HH := Lib.hid H
  have HR := Lib.hid R
  have HT := Lib.hid (fun W2 (hk : Kept [mb] w W2) => hT.kept hk (by simp [hg]))
  have hand := and255 ⟨_, hs⟩
  simp only at hand
  have HLt := Lib.hid hs
  have HWk := Lib.hid hW
  generalize xs.getD 0 0 = x at *
  clear H R hm hw hx hT hW hs
  go_enter Tryd.func32, Tryd.ntmps32
  go_wp2_with fail
  refine HL.out.mono ?_
  rintro e w1 ⟨rfl, hm1, hk1⟩
  have H1 := HH.out.kept hk1 (by simp [k1])
  have HR1 := Lib.hid (HR.out.kept hk1 (by simp [r1]))
  have HM1 := Lib.hid hm1
  have HK1 := Lib.hid (hk1.mono (G' := [mb, kb]) (by simp +contextual))
  have HT1 := Lib.hid (HT.out w1 hk1)
  have hs1 := hk1.size
  clear hm1 hk1
  by_cases hx0 : x = 0
  · subst hx0
    have HE := Lib.hid (kWend_any H1 7)
    clear H1
    go_wp2_with (simp only [hand])
    refine HE.out.mono ?_
    rintro e w2 ⟨rfl, H2, hk2⟩
    have HM2 : Hid (∃ u : Int, Blk w2 mb 43 #[.slice (some ⟨wb, 0, none⟩) xs.length xs.length, .int .u64 u]) := by
      obtain ⟨u, h⟩ := HM1.out
      exact ⟨u, h.kept hk2 (by simp [Ne.symm k1])⟩
    have HH2 := Lib.hid H2
    have HK2 := Lib.hid (HK1.out.trans (hk2.mono (G' := [mb, kb]) (by simp +contextual)))
    clear H2 hk2
    go_wp2_with fail
    first | go_end0 | refine bodyPost_ret (results_none rfl _ _ _) rfl ?_
    exact ⟨rfl, .none HH2.out, HM2.out, HK2.out⟩
  · have hx1 : ¬ (x : Int) = 0 := by omega
    have HLe := Lib.hid (least8 x hx0 HLt.out w1 HT1.out)
    have HH1 := Lib.hid H1
    have c4 := H1.cell 4
    have f4 := H1.frozen 4
    simp [workC] at c4
    clear hx0 H1
    go_wp2_with (simp only [hand])
    refine HLe.out.mono ?_
    rintro e w2 ⟨⟨l, hl, rfl⟩, rfl⟩
    have H2 : Blk (w2.setCell ⟨kb, 4, none⟩ (.int .i64 l)) kb 57 (workC rb { W with level := l }) := HH1.out.set 4 _
    have hk2 : Kept [kb] w2 (w2.setCell ⟨kb, 4, none⟩ (.int .i64 l)) := (Kept.refl _ _).setCell (.inl (by simp)) _
    have HM2 : Hid (∃ u : Int, Blk (w2.setCell ⟨kb, 4, none⟩ (.int .i64 l)) mb 43 #[.slice (some ⟨wb, 0, none⟩) xs.length xs.length, .int .u64 u]) := by
      obtain ⟨u, h⟩ := HM1.out
      exact ⟨u, h.kept hk2 (by simp [Ne.symm k1])⟩
    have HDq := Lib.hid (kWdeque_any H2 (HR1.out.kept hk2 (by simp [Ne.symm kr])) HWk.out hl)
    have HH2 := Lib.hid H2
    have HK2 := Lib.hid (HK1.out.trans (hk2.mono (G' := [mb, kb]) (by simp +contextual)))
    have hs2 := hk2.size
    clear H2 hk2
    go_wp2_with fail
    refine HDq.out.mono ?_
    rintro e w3 ⟨rfl, hk3⟩
    have HSt := Lib.hid (qSteal_any (atJ cap (W.kind * 8 + l)) cap w3)
    have HH3 := Lib.hid (HH2.out.kept hk3 (by simp))
    have HM3 : Hid (∃ u : Int, Blk w3 mb 43 #[.slice (some ⟨wb, 0, none⟩) xs.length xs.length, .int .u64 u]) := by
      obtain ⟨u, h⟩ := HM2.out
      exact ⟨u, h.kept hk3 (by simp)⟩
    have HK3 := Lib.hid (HK2.out.trans (hk3.mono (G' := [mb, kb]) (by simp)))
    have hs3 := hk3.size
    clear hk3
    go_wp2_with fail
    refine HSt.out.mono ?_
    rintro e w4 ⟨⟨g, hg4, rfl, N4⟩, hk4⟩
    have H4 := HH3.out.kept hk4 (by simp)
    have HM4 : Hid (∃ u : Int, Blk w4 mb 43 #[.slice (some ⟨wb, 0, none⟩) xs.length xs.length, .int .u64 u]) := by
      obtain ⟨u, h⟩ := HM3.out
      exact ⟨u, h.kept hk4 (by simp)⟩
    have HK4 := Lib.hid (HK3.out.trans (hk4.mono (G' := [mb, kb]) (by simp)))
    have c1 := H4.cell 1
    have f1 := H4.frozen 1
    have c6 := H4.cell 6
    have f6 := H4.frozen 6
    simp [workC] at c1 c6
    have hge := H4.ne N4 (by decide)
    have HH5 := Lib.hid (newOp_of (og := g) H4 50)
    have HN5 := Lib.hid ((N4.far (Ne.symm hge) (p := ⟨kb, 6, none⟩) (.pointer (some ⟨g, 0, none⟩))).far (Ne.symm hge) (p := ⟨kb, 1, none⟩) (.func (.func 50) #[] #[]))
    have hk5 : Kept [kb] w4 ((w4.setCell ⟨kb, 6, none⟩ (.pointer (some ⟨g, 0, none⟩))).setCell ⟨kb, 1, none⟩ (.func (.func 50) #[] #[])) := ((Kept.refl _ _).setCell (.inl (by simp)) _).setCell (.inl (by simp)) _
    have HM5 : Hid (∃ u : Int, Blk ((w4.setCell ⟨kb, 6, none⟩ (.pointer (some ⟨g, 0, none⟩))).setCell ⟨kb, 1, none⟩ (.func (.func 50) #[] #[])) mb 43 #[.slice (some ⟨wb, 0, none⟩) xs.length xs.length, .int .u64 u]) := by
      obtain ⟨u, h⟩ := HM4.out
      exact ⟨u, h.kept hk5 (by simp [Ne.symm k1])⟩
    have HK5 := Lib.hid (HK4.out.trans (hk5.mono (G' := [mb, kb]) (by simp +contextual)))
    have hgw : w.heap.size ≤ g := by have := HK3.out.size; omega
    clear H4 N4 hk4 hk5 hs2 hs3 hg4
    go_wp2_with fail
    first | go_end0 | refine bodyPost_ret (results_none rfl _ _ _) rfl ?_
    exact ⟨rfl, .some g l hgw hl HN5.out HH5.out, HM5.out, HK5.out⟩
end
end Go.Proofs.YtahpjoknmclbfaaDoor

