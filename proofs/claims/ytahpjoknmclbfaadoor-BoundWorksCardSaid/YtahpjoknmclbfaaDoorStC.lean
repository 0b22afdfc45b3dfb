/- Package rack: sign, signing; Package sets: Without, Has; package rack: mark. -/
import Derived.Test.YtahpjoknmclbfaaDoorStA
import Derived.Test.YtahpjoknmclbfaaDoorStB

/- Package rack: sign, signing. -/
namespace Go.Proofs.YtahpjoknmclbfaaDoor
open Go.RowKit

section
variable {w : World} {mb wb ob rb kb : Nat} {xs : List Nat} {o : OpS} {W : WorkS} {cap s0 s1 turn : Nat}
theorem Blk.old {t : TypeId} {cs : Array Value} {g : Nat} {G : List Nat} {w' : World} (h : Blk w g t cs) (hk : Kept G w w') (hg : g ∉ G) : Blk w' g t cs := h.kept hk hg
set_option maxHeartbeats 3200000 in
theorem kWsign_any (H : Blk w kb 57 (workC rb W)) (R : Blk w rb 50 (rackC cap s0 s1 turn)) (M : MOp w mb wb ob xs o) (hx : 0 < xs.length) : Calls Tryd.prog 76 #[.pointer (some ⟨kb, 0, none⟩), .pointer (some ⟨mb, 0, none⟩)] w fun r w' =>
    r = .returned (.tuple #[]) ∧ MOp w' mb wb ob (xs.set 0 s0) o ∧ Kept [mb, wb, ob] w w' := by
  have k1 : kb ≠ mb := by obtain ⟨u, h⟩ := M.mem; exact H.ne h (by decide)
  have k2 : kb ≠ wb := H.ne M.words (by decide)
  have k3 : kb ≠ ob := H.ne M.op (by decide)
  have r1 : rb ≠ mb := by obtain ⟨u, h⟩ := M.mem; exact R.ne h (by decide)
  have r2 : rb ≠ wb := R.ne M.words (by decide)
  have r3 : rb ≠ ob := R.ne M.op (by decide)
  have HH := Lib.hid H
  have HR := Lib.hid R
  have HS := Lib.hid (M.drew.store (a := 0) s0 hx)
  have c0 := H.cell 0
  have d0 := R.cell 0
  have d33 := R.cell 33
  simp [workC] at c0
  have e0 : w.cell? ⟨rb, 0, none⟩ = some (.int .i64 0) := d0
  have e33 : w.cell? ⟨rb, 33, none⟩ = some (U64 s0) := d33
  have HN : Hid (∀ w' : World, Kept [mb, wb, ob] w.drew w' → w'.cell? ⟨kb, 0, none⟩ = some (.pointer (some ⟨rb, 0, none⟩)) ∧ w'.cell? ⟨rb, 0, none⟩ = some (.int .i64 0) ∧ w'.cell? ⟨rb, 33, none⟩ = some (U64 s0)) := fun w' hk =>
    ⟨hk.cell_some c0 (by simp [k1, k2, k3]), hk.cell_some e0 (by simp [r1, r2, r3]), hk.cell_some e33 (by simp [r1, r2, r3])⟩
  clear H R M d0 d33
  go_enter Tryd.func76, Tryd.ntmps76
  go_wp2_with fail
  go_region_held3 (fun w' => w'.cell? ⟨kb, 0, none⟩ = some (.pointer (some ⟨rb, 0, none⟩)) ∧ w'.cell? ⟨rb, 0, none⟩ = some (.int .i64 0) ∧ w'.cell? ⟨rb, 33, none⟩ = some (U64 s0)) (first | go_keep | exact hN) (first | (go_at_call 88; refine HS.out.mono ?_; rintro e w1 ⟨rfl, M1, hk1⟩; have hN := HN.out _ hk1; have HM1 := Lib.hid M1; have HK1 := Lib.hid (((Kept.refl [mb, wb, ob] w).drew).trans hk1); clear M1 hk1))
  all_goals
    go_wp2_with fail
    go_end0
    exact ⟨rfl, HM1.out, HK1.out⟩
set_option maxHeartbeats 1600000 in
theorem kSigning_any (H : Blk w kb 57 (workC rb W)) (R : Blk w rb 50 (rackC cap s0 s1 turn)) (M : MOp w mb wb ob xs o) (hx : 0 < xs.length) : Calls Tryd.prog 57 #[.pointer (some ⟨kb, 0, none⟩), .pointer (some ⟨mb, 0, none⟩)] w fun r w' =>
    r = .returned (.tuple #[]) ∧ MOp w' mb wb ob (xs.set 0 s0) o ∧ Blk w' kb 57 (workC rb { W with done := true, err := 0 }) ∧ Kept [mb, wb, ob, kb] w w' := by
  have k1 : kb ≠ mb := by obtain ⟨u, h⟩ := M.mem; exact H.ne h (by decide)
  have k2 : kb ≠ wb := H.ne M.words (by decide)
  have k3 : kb ≠ ob := H.ne M.op (by decide)
  have HS := Lib.hid (kWsign_any H R M hx)
  have HH := Lib.hid H
  clear H R M
  go_enter Tryd.func57, Tryd.ntmps57
  go_wp2_with fail
  refine HS.out.mono ?_
  rintro e w1 ⟨rfl, M1, hk1⟩
  have H1 := HH.out.kept hk1 (by simp [k1, k2, k3])
  have HE := Lib.hid (kWend_any H1 0)
  have HM1 := Lib.hid M1
  have HK1 := Lib.hid (hk1.mono (G' := [mb, wb, ob, kb]) (by simp +contextual))
  clear M1 hk1 H1
  go_wp2_with fail
  refine HE.out.mono ?_
  rintro e w2 ⟨rfl, H2, hk2⟩
  have HM2 := Lib.hid (show MOp w2 mb wb ob (xs.set 0 s0) o from by
    obtain ⟨u, h⟩ := HM1.out.mem
    exact ⟨⟨u, h.kept hk2 (by simp [Ne.symm k1])⟩, HM1.out.words.kept hk2 (by simp [Ne.symm k2]), HM1.out.op.kept hk2 (by simp [Ne.symm k3])⟩)
  have HH2 := Lib.hid H2
  have HK2 := Lib.hid (HK1.out.trans (hk2.mono (G' := [mb, wb, ob, kb]) (by simp +contextual)))
  clear H2 hk2
  go_wp2_with fail
  go_end0
  exact ⟨rfl, HM2.out, HH2.out, HK2.out⟩
end
end Go.Proofs.YtahpjoknmclbfaaDoor

/- Package sets: Without, Has; package rack: mark. -/
namespace Go.Proofs.YtahpjoknmclbfaaDoor
open Go.RowKit

set_option maxHeartbeats 800000 in
theorem sWithout_any (s n : Nat) (w : World) (hs : s < 256) (hn : n < 8) : Calls Tryd.prog 74 #[.int .u64 s, .int .i64 n] w fun e w' => (∃ r : Nat, r < 256 ∧ e = .returned (U64 r)) ∧ w = w' := by
  have HC := Lib.hid (sbit_any n w (by omega))
  have hp : 2 ^ n < 256 := Nat.lt_of_lt_of_le (Nat.pow_lt_pow_right (by omega) hn) (by decide)
  have hor := u64_andNot_nat s (2 ^ n) (by omega) (by omega)
  have hr : s &&& (18446744073709551615 - 2 ^ n) ≤ s := Nat.and_le_left
  generalize s &&& (18446744073709551615 - 2 ^ n) = r at *
  generalize 2 ^ n = p at *
  go_enter Tryd.func74, Tryd.ntmps74
  go_wp2_with fail
  refine (HC.out).mono ?_
  rintro e w1 ⟨rfl, rfl⟩
  go_wp2_with fail
  go_ret
  exact ⟨⟨r, by omega, by first | rfl | (congr 2)⟩, rfl⟩
set_option maxHeartbeats 800000 in
theorem sHas_any (s n : Nat) (w : World) (hs : s < 256) (hn : n < 8) : Calls Tryd.prog 42 #[.int .u64 s, .int .i64 n] w fun e w' => (∃ b, e = .returned (.bool b)) ∧ w = w' := by
  have HC := Lib.hid (sbit_any n w (by omega))
  go_enter Tryd.func42, Tryd.ntmps42
  go_wp2_with fail
  refine (HC.out).mono ?_
  rintro e w1 ⟨rfl, rfl⟩
  go_wp2_with fail
  go_ret
  exact ⟨⟨_, rfl⟩, rfl⟩
end Go.Proofs.YtahpjoknmclbfaaDoor

