/- Law 03: NumsPrints, NumsReads: the walks. -/
import Derived.Test.YtkgnfnliboahaaaDoorNumsP
import Derived.Test.YtkgnfnliboahaaaDoorNumsHexes
namespace Go.Proofs.YtkgnfnliboahaaaDoor
open Go.RowKit

set_option maxHeartbeats 1000000 in
theorem prints_walk (x : Nat) (w : World) (hx : x < 18446744073709551616) (hM : HasMax w) (hP : HasPow w) :
    Calls Tryd.prog 6 #[.int .u64 x] w fun e w' => e = .returned (.bool true) ∧ Kept [] w w' := by
  have HM := Lib.hid hM
  have HPO := Lib.hid hP
  have HP : Hid (∀ w, HasPow w → Calls Tryd.prog 20 #[.int .u64 x] w fun e w' => e = .returned (strV (dec x)) ∧ Kept [] w w') := fun w h => print_any x w hx h
  have HR : Hid (∀ w, Calls Tryd.prog 16 #[strV (dec x)] w fun e w' => e = .returned (.tuple #[.int .u64 x, .int .i64 0]) ∧ Kept [] w w') := fun w => by
    have := read_any (dec x) w (by rw [← dec_digits x hx]; have := decDigits_len x hx; omega)
    rw [read_dec x hx] at this
    exact this
  have HH : Hid (∀ w, Calls Tryd.prog 15 #[.int .u64 x] w fun e w' => e = .returned (strV (hex x)) ∧ Kept [] w w') := fun w => hex_any x w hx
  have HRH : Hid (∀ w, Calls Tryd.prog 13 #[strV (hex x)] w fun e w' => e = .returned (.tuple #[.int .u64 x, .int .i64 0]) ∧ w = w') := fun w => by
    have := readHex_any (hex x) w (by rw [hex, hexN_len]; omega)
    rw [readH_hex x hx] at this
    exact this
  have HRP : Hid (∀ w, Calls Tryd.prog 21 #[.int .u64 x] w fun e w' => e = .returned (strV (dec x)) ∧ w = w') := fun w => refPrint x w hx
  have HRX : Hid (∀ w, Calls Tryd.prog 22 #[.int .u64 x] w fun e w' => e = .returned (strV (hex x)) ∧ w = w') := fun w => refHex x w hx
  clear hM hP
  generalize dec x = d at *
  generalize hex x = h at *
  go_enter Tryd.func6, Tryd.ntmps6
  go_wp2_with fail
  refine (HP.out _ HPO.out).mono ?_
  rintro e w1 ⟨rfl, hk1⟩
  go_wp2_with fail
  refine (HR.out _).mono ?_
  rintro e w2 ⟨rfl, hk2⟩
  go_wp2_with fail
  refine (HH.out _).mono ?_
  rintro e w3 ⟨rfl, hk3⟩
  go_wp2_with fail
  refine (HRH.out _).mono ?_
  rintro e w3' ⟨rfl, rfl⟩
  have HK3 := Lib.hid ((hk1.trans hk2).trans hk3)
  clear hk1 hk2 hk3
  go_wp2_with fail
  refine (HP.out _ (HPO.out.old HK3.out)).mono ?_
  rintro e w4 ⟨rfl, hk4⟩
  go_wp2_with fail
  refine (HRP.out _).mono ?_
  rintro e w4' ⟨rfl, rfl⟩
  go_wp2_with fail
  refine (HH.out _).mono ?_
  rintro e w5 ⟨rfl, hk5⟩
  go_wp2_with fail
  refine (HRX.out _).mono ?_
  rintro e w5' ⟨rfl, rfl⟩
  have HK5 := Lib.hid ((HK3.out.trans hk4).trans hk5)
  clear hk4 hk5
  go_wp2_with fail
  refine (awake3 _ (HM.out.old HK5.out)).mono ?_
  rintro e w6 ⟨rfl, hk6⟩
  go_wp2_with fail
  go_ret
  exact ⟨rfl, HK5.out.trans hk6⟩

theorem intD_code (l : List UInt8) (most : Int) (h : (readD l).2 = 0) : ((intD l most).2 == 0) = (decide (0 ≤ most) && decide (((readD l).1 : Int) ≤ most)) := by
  unfold intD
  rw [if_neg (by simp [h])]
  by_cases h0 : 0 ≤ most <;> by_cases h1 : ((readD l).1 : Int) ≤ most
  · rw [if_neg (by omega)]; simp [h0, h1]
  · rw [if_pos (by omega)]; simp [h0, h1]
  · rw [if_pos (by omega)]; simp [h0]
  · rw [if_pos (by omega)]; simp [h0]
theorem intD_bad (l : List UInt8) (most : Int) (h : (readD l).2 ≠ 0) : intD l most = (0, (readD l).2) := by
  unfold intD; rw [if_pos h]
theorem readD_bad (l : List UInt8) (h : (readD l).2 ≠ 0) : (readD l).1 = 0 := by
  unfold readD at *
  split at h
  · rename_i h1; rw [if_pos h1]
  · rename_i h1
    rw [if_neg h1]
    split at h
    · rename_i h2; rw [if_pos h2]
    · exact absurd rfl h

set_option maxHeartbeats 2000000 in
theorem reads_walk (l : List UInt8) (most : Int) (w : World) (hl : l.length ≤ 9223372036854775807) (hm1 : -9223372036854775808 ≤ most) (hm2 : most ≤ 9223372036854775807) (hM : HasMax w) (hP : HasPow w) :
    Calls Tryd.prog 5 #[strV l, .int .i64 most] w fun e w' => e = .returned (.bool true) ∧ Kept [] w w' := by
  have HM := Lib.hid hM
  have HPO := Lib.hid hP
  have HC := Lib.hid (cut3 l w hl)
  have hl2 : (l.take 200).length ≤ 200 := by simp; omega
  generalize l.take 200 = s at *
  have HR1 := Lib.hid (fun w => read_any s w (by omega))
  have HR2 := Lib.hid (fun w => refRead s w (by omega))
  have HI1 := Lib.hid (fun w => int_any s most w (by omega) hm1 hm2)
  have HI2 := Lib.hid (fun w => refInt s most w (by omega) hm1 hm2)
  have hlt := readD_lt s
  by_cases he : (readD s).2 = 0
  · have hd := dec_read s he
    have HPR : Hid (∀ w, HasPow w → Calls Tryd.prog 20 #[.int .u64 ((readD s).1 : Nat)] w fun e w' => e = .returned (strV s) ∧ Kept [] w w') := fun w h => by
      have := print_any (readD s).1 w (by omega) h
      rw [hd] at this
      exact this
    have hi : intD s most = if most < 0 ∨ most < (readD s).1 then (0, 5) else ((readD s).1, 0) := by unfold intD; rw [if_neg (by simp [he])]
    obtain ⟨x, hx⟩ : ∃ x, (readD s).1 = x := ⟨_, rfl⟩
    rw [hi] at HI1 HI2
    have hr : readD s = (x, 0) := by rw [← hx, ← he]
    rw [hr] at HR1 HR2 HI1 HI2 HPR hlt
    simp only at HR1 HR2 HI1 HI2 HPR hlt
    clear hd hi he hx hr hM hP
    by_cases h0 : most < 0
    · rw [if_pos (.inl h0)] at HI1 HI2
      simp only at HI1 HI2
      go_enter Tryd.func5, Tryd.ntmps5
      go_wp2_with fail
      refine HC.out.mono ?_
      rintro e w1 ⟨rfl, rfl⟩
      go_wp2_with fail
      refine (HR1.out _).mono ?_
      rintro e w1 ⟨rfl, hk1⟩
      go_wp2_with fail
      refine (HR2.out _).mono ?_
      rintro e w1' ⟨rfl, rfl⟩
      go_wp2_with fail
      refine (HI1.out _).mono ?_
      rintro e w2 ⟨rfl, hk2⟩
      go_wp2_with fail
      refine (HI2.out _).mono ?_
      rintro e w2' ⟨rfl, rfl⟩
      have HK2 := Lib.hid (hk1.trans hk2)
      clear hk1 hk2
      go_wp2_with fail
      refine (awake3 _ (HM.out.old HK2.out)).mono ?_
      rintro e w3 ⟨rfl, hk3⟩
      have HK3 := Lib.hid (HK2.out.trans hk3)
      clear hk3
      go_wp2_with fail
      refine (HPR.out _ (HPO.out.old HK3.out)).mono ?_
      rintro e w4 ⟨rfl, hk4⟩
      go_wp2_with fail
      go_ret
      exact ⟨rfl, HK3.out.trans hk4⟩
    · by_cases h1 : most < (x : Int)
      · rw [if_pos (.inr h1)] at HI1 HI2
        simp only at HI1 HI2
        have hd : decide ((x : Int) ≤ most) = false := by simp; omega
        go_enter Tryd.func5, Tryd.ntmps5
        go_wp2_with fail
        refine HC.out.mono ?_
        rintro e w1 ⟨rfl, rfl⟩
        go_wp2_with fail
        refine (HR1.out _).mono ?_
        rintro e w1 ⟨rfl, hk1⟩
        go_wp2_with fail
        refine (HR2.out _).mono ?_
        rintro e w1' ⟨rfl, rfl⟩
        go_wp2_with fail
        refine (HI1.out _).mono ?_
        rintro e w2 ⟨rfl, hk2⟩
        go_wp2_with fail
        refine (HI2.out _).mono ?_
        rintro e w2' ⟨rfl, rfl⟩
        have HK2 := Lib.hid (hk1.trans hk2)
        clear hk1 hk2
        go_wp2_with fail
        refine (awake3 _ (HM.out.old HK2.out)).mono ?_
        rintro e w3 ⟨rfl, hk3⟩
        have HK3 := Lib.hid (HK2.out.trans hk3)
        clear hk3
        go_wp2_with fail
        refine (HPR.out _ (HPO.out.old HK3.out)).mono ?_
        rintro e w4 ⟨rfl, hk4⟩
        go_wp2_with fail
        go_ret
        exact ⟨rfl, HK3.out.trans hk4⟩
      · rw [if_neg (by omega)] at HI1 HI2
        simp only at HI1 HI2
        go_enter Tryd.func5, Tryd.ntmps5
        go_wp2_with fail
        refine HC.out.mono ?_
        rintro e w1 ⟨rfl, rfl⟩
        go_wp2_with fail
        refine (HR1.out _).mono ?_
        rintro e w1 ⟨rfl, hk1⟩
        go_wp2_with fail
        refine (HR2.out _).mono ?_
        rintro e w1' ⟨rfl, rfl⟩
        go_wp2_with fail
        refine (HI1.out _).mono ?_
        rintro e w2 ⟨rfl, hk2⟩
        go_wp2_with fail
        refine (HI2.out _).mono ?_
        rintro e w2' ⟨rfl, rfl⟩
        have HK2 := Lib.hid (hk1.trans hk2)
        clear hk1 hk2
        go_wp2_with fail
        refine (awake3 _ (HM.out.old HK2.out)).mono ?_
        rintro e w3 ⟨rfl, hk3⟩
        have HK3 := Lib.hid (HK2.out.trans hk3)
        clear hk3
        go_wp2_with fail
        refine (HPR.out _ (HPO.out.old HK3.out)).mono ?_
        rintro e w4 ⟨rfl, hk4⟩
        go_wp2_with fail
        go_ret
        exact ⟨rfl, HK3.out.trans hk4⟩
  · have hi := intD_bad s most he
    have hx := readD_bad s he
    obtain ⟨c, hc⟩ : ∃ c, (readD s).2 = c := ⟨_, rfl⟩
    have hr : readD s = (0, c) := by rw [← hx, ← hc]
    rw [hi] at HI1 HI2
    rw [hr] at HR1 HR2 HI1 HI2 he
    simp only at HR1 HR2 HI1 HI2 he
    have hb : (c != 0) = true := by simpa using he
    clear hi hx hc hr he hM hP hlt
    go_enter Tryd.func5, Tryd.ntmps5
    go_wp2_with fail
    refine HC.out.mono ?_
    rintro e w1 ⟨rfl, rfl⟩
    go_wp2_with fail
    refine (HR1.out _).mono ?_
    rintro e w1 ⟨rfl, hk1⟩
    go_wp2_with fail
    refine (HR2.out _).mono ?_
    rintro e w1' ⟨rfl, rfl⟩
    go_wp2_with fail
    refine (HI1.out _).mono ?_
    rintro e w2 ⟨rfl, hk2⟩
    go_wp2_with fail
    refine (HI2.out _).mono ?_
    rintro e w2' ⟨rfl, rfl⟩
    have HK2 := Lib.hid (hk1.trans hk2)
    clear hk1 hk2
    go_wp2_with fail
    refine (awake3 _ (HM.out.old HK2.out)).mono ?_
    rintro e w3 ⟨rfl, hk3⟩
    have HK3 := Lib.hid (HK2.out.trans hk3)
    clear hk3
    go_wp2_with fail
    go_ret
    exact ⟨rfl, HK3.out⟩

end Go.Proofs.YtkgnfnliboahaaaDoor
