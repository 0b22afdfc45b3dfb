/- Law 07: DeedLines: the walk. -/
import Derived.Test.YtmhlmoojmdfnfaaDoorDeedA
import Derived.Test.YtmhlmoojmdfnfaaDoorDeedB
import Derived.Test.YtmhlmoojmdfnfaaDoorDeedRL
namespace Go.Proofs.YtmhlmoojmdfnfaaDoor
open Go.RowKit
attribute [local go_sem] eqDeed

theorem lineD_len (o a b r : Int) (n m : Nat) (l : Bool) (hn : n < 18446744073709551616) : (lineD ⟨o, a, b, r, n, m, l⟩).length ≤ 1000 := by
  by_cases hg : goodD ⟨o, a, b, r, n, m, l⟩ = true
  · have hr := goodD_ranges hg
    simp only at hr
    rw [lineD, if_pos hg]
    have h1 := nameD_len o
    have h2 : ∀ c, (pieceL ⟨o, a, b, r, n, m, l⟩ c).length ≤ 21 := by
      intro c
      have hx : (hex m).length ≤ 16 := by rw [hex, hexN_len]; omega
      have d1 := dec_len a.toNat (by omega)
      have d2 := dec_len b.toNat (by omega)
      have d3 := dec_len r.toNat (by omega)
      have d4 := dec_len n (by omega)
      unfold pieceL
      (repeat' split) <;> simp <;> omega
    have h3 : ∀ ps : List UInt8, (ps.flatMap (pieceL ⟨o, a, b, r, n, m, l⟩)).length ≤ 21 * ps.length := by
      intro ps
      induction ps with
      | nil => simp
      | cons c t ih => have := h2 c; simp only [List.flatMap_cons, List.length_append, List.length_cons]; omega
    have h4 := h3 (partsL o)
    have h5 := partsL_len o
    simp only [List.length_append]
    omega
  · rw [lineD, if_neg hg]; simp

set_option maxHeartbeats 3200000 in
theorem deedLines_true (o a b r : Int) (n m : Nat) (l : Bool) (w : World) (hM : HasMax w) (hP : HasPow w) (hn : n < 18446744073709551616) (hm : m < 18446744073709551616) (hg : goodD ⟨o, a, b, r, n, m, l⟩ = true) :
    Calls Tryd.prog 6 #[.agg (dC o a b r n m l)] w fun e w' => e = .returned (.bool true) ∧ Kept [] w w' := by
  have HG2 : Hid (∀ w, Calls Tryd.prog 34 #[.agg (dC o a b r n m l)] w fun e w' => e = .returned (.bool true) ∧ Kept [] w w') := fun w => by have := refGood o a b r n m l w; rw [hg] at this; exact this
  have hlen := lineD_len o a b r n m l hn
  have HL1 := Lib.hid (fun w h => line_any o a b r n m l w hn hm h)
  have HL2 := Lib.hid (fun w => refLine o a b r n m l w hn hm)
  have HPS : Hid (∀ w, HasMax w → Calls Tryd.prog 31 #[strV (lineD ⟨o, a, b, r, n, m, l⟩)] w fun e w' => e = .returned (.tuple #[.agg (if true then dC o a b r n m l else dC 0 0 0 0 0 0 false), .int .i64 (if true then 0 else 15)]) ∧ Kept [] w w') := fun w h => by
    have := parse_any (lineD ⟨o, a, b, r, n, m, l⟩) w (by omega) h
    first
      | (rw [parse_line _ (by omega) o a b r n m l hg hn hm] at this; exact this)
      | (rw [parse_line_bad _ _ hg] at this; exact this)
  simp only [if_true, Bool.false_eq_true, if_false] at HPS
  generalize lineD ⟨o, a, b, r, n, m, l⟩ = s at *
  have HM := Lib.hid hM
  have HP := Lib.hid hP
  clear hM hP hg
  go_enter Tryd.func6, Tryd.ntmps6
  go_wp2_with fail
  refine (HL1.out _ (HP.out.old ((Kept.refl _ _).alloc _))).mono ?_
  rintro e w1 ⟨rfl, hk1⟩
  have HB1 := Lib.hid ((Blk.new w 41 (dC o a b r n m l)).kept hk1 (by simp))
  have HK1 := Lib.hid (((Kept.refl [] w).alloc _).trans hk1)
  clear hk1
  go_wp2_with fail
  refine (HPS.out _ (HM.out.old HK1.out)).mono ?_
  rintro e w2 ⟨rfl, hk2⟩
  have HB2 := Lib.hid (HB1.out.kept hk2 (by simp))
  have HK2 := Lib.hid (HK1.out.trans hk2)
  have hc2 := HB2.out.cell
  have hl2 := HB2.out.lt
  clear hk2
  go_wp2_with fail
  refine (HL2.out _).mono ?_
  rintro e w3 ⟨rfl, hk3⟩
  have HB3 := Lib.hid ((HB2.out.alloc _).kept hk3 (by simp))
  have HX3 := Lib.hid ((Blk.new w2 _ _).kept hk3 (by simp))
  have HK3 := Lib.hid ((HK2.out.alloc _).trans hk3)
  clear hk3 hc2
  go_wp2_with fail
  refine (awake7 _ (HM.out.old HK3.out) (HP.out.old HK3.out)).mono ?_
  rintro e w4 ⟨rfl, hk4⟩
  have HB4 := Lib.hid (HB3.out.kept hk4 (by simp))
  have HX4 := Lib.hid (HX3.out.kept hk4 (by simp))
  have HK4 := Lib.hid (HK3.out.trans hk4)
  have hc4 := HB4.out.cell
  clear hk4
  go_wp2_with fail
  refine (HG2.out _).mono ?_
  rintro e w5 ⟨rfl, hk5⟩
  have HB5 := Lib.hid (HB4.out.kept hk5 (by simp))
  have HX5 := Lib.hid (HX4.out.kept hk5 (by simp))
  have HK5 := Lib.hid (HK4.out.trans hk5)
  have hc5 := HB5.out.cell
  have hx5 := HX5.out.cell
  clear hk5 hc4
  go_wp2_with fail
  go_ret
  exact ⟨by first | rfl | simp, HK5.out⟩

set_option maxHeartbeats 3200000 in
theorem deedLines_false (o a b r : Int) (n m : Nat) (l : Bool) (w : World) (hM : HasMax w) (hP : HasPow w) (hn : n < 18446744073709551616) (hm : m < 18446744073709551616) (hg : goodD ⟨o, a, b, r, n, m, l⟩ = false) :
    Calls Tryd.prog 6 #[.agg (dC o a b r n m l)] w fun e w' => e = .returned (.bool true) ∧ Kept [] w w' := by
  have HG2 : Hid (∀ w, Calls Tryd.prog 34 #[.agg (dC o a b r n m l)] w fun e w' => e = .returned (.bool false) ∧ Kept [] w w') := fun w => by have := refGood o a b r n m l w; rw [hg] at this; exact this
  have hlen := lineD_len o a b r n m l hn
  have HL1 := Lib.hid (fun w h => line_any o a b r n m l w hn hm h)
  have HL2 := Lib.hid (fun w => refLine o a b r n m l w hn hm)
  have HPS : Hid (∀ w, HasMax w → Calls Tryd.prog 31 #[strV (lineD ⟨o, a, b, r, n, m, l⟩)] w fun e w' => e = .returned (.tuple #[.agg (if false then dC o a b r n m l else dC 0 0 0 0 0 0 false), .int .i64 (if false then 0 else 15)]) ∧ Kept [] w w') := fun w h => by
    have := parse_any (lineD ⟨o, a, b, r, n, m, l⟩) w (by omega) h
    first
      | (rw [parse_line _ (by omega) o a b r n m l hg hn hm] at this; exact this)
      | (rw [parse_line_bad _ _ hg] at this; exact this)
  simp only [if_true, Bool.false_eq_true, if_false] at HPS
  generalize lineD ⟨o, a, b, r, n, m, l⟩ = s at *
  have HM := Lib.hid hM
  have HP := Lib.hid hP
  clear hM hP hg
  go_enter Tryd.func6, Tryd.ntmps6
  go_wp2_with fail
  refine (HL1.out _ (HP.out.old ((Kept.refl _ _).alloc _))).mono ?_
  rintro e w1 ⟨rfl, hk1⟩
  have HB1 := Lib.hid ((Blk.new w 41 (dC o a b r n m l)).kept hk1 (by simp))
  have HK1 := Lib.hid (((Kept.refl [] w).alloc _).trans hk1)
  clear hk1
  go_wp2_with fail
  refine (HPS.out _ (HM.out.old HK1.out)).mono ?_
  rintro e w2 ⟨rfl, hk2⟩
  have HB2 := Lib.hid (HB1.out.kept hk2 (by simp))
  have HK2 := Lib.hid (HK1.out.trans hk2)
  have hc2 := HB2.out.cell
  have hl2 := HB2.out.lt
  clear hk2
  go_wp2_with fail
  refine (HL2.out _).mono ?_
  rintro e w3 ⟨rfl, hk3⟩
  have HB3 := Lib.hid ((HB2.out.alloc _).kept hk3 (by simp))
  have HX3 := Lib.hid ((Blk.new w2 _ _).kept hk3 (by simp))
  have HK3 := Lib.hid ((HK2.out.alloc _).trans hk3)
  clear hk3 hc2
  go_wp2_with fail
  refine (awake7 _ (HM.out.old HK3.out) (HP.out.old HK3.out)).mono ?_
  rintro e w4 ⟨rfl, hk4⟩
  have HB4 := Lib.hid (HB3.out.kept hk4 (by simp))
  have HX4 := Lib.hid (HX3.out.kept hk4 (by simp))
  have HK4 := Lib.hid (HK3.out.trans hk4)
  have hc4 := HB4.out.cell
  clear hk4
  go_wp2_with fail
  refine (HG2.out _).mono ?_
  rintro e w5 ⟨rfl, hk5⟩
  have HB5 := Lib.hid (HB4.out.kept hk5 (by simp))
  have HX5 := Lib.hid (HX4.out.kept hk5 (by simp))
  have HK5 := Lib.hid (HK4.out.trans hk5)
  have hc5 := HB5.out.cell
  have hx5 := HX5.out.cell
  clear hk5 hc4
  go_wp2_with fail
  go_ret
  exact ⟨by first | rfl | simp, HK5.out⟩

end Go.Proofs.YtmhlmoojmdfnfaaDoor
