/- Package nums: Int, and the document's Int. -/
import Derived.Test.YtkgnfnliboahaaaDoorNumsD
namespace Go.Proofs.YtkgnfnliboahaaaDoor
open Go.RowKit

/-- What Int answers. -/
def intD (l : List UInt8) (most : Int) : Nat × Int := if (readD l).2 ≠ 0 then (0, (readD l).2) else if most < 0 ∨ most < (readD l).1 then (0, 5) else ((readD l).1, 0)
theorem readD_lt (l : List UInt8) : (readD l).1 ≤ 18446744073709551615 := by
  unfold readD; split
  · exact Nat.zero_le _
  · split
    · exact Nat.zero_le _
    · show valD l ≤ _; omega
theorem readD_code (l : List UInt8) : (readD l).2 = 0 ∨ (readD l).2 = 3 ∨ (readD l).2 = 5 := by
  unfold readD; (repeat' split) <;> simp

set_option maxHeartbeats 800000 in
theorem int_any (l : List UInt8) (most : Int) (w : World) (hl : l.length ≤ 1000000000) (hm1 : -9223372036854775808 ≤ most) (hm2 : most ≤ 9223372036854775807) :
    Calls Tryd.prog 18 #[strV l, .int .i64 most] w fun e w' => e = .returned (.tuple #[.int .i64 (intD l most).1, .int .i64 (intD l most).2]) ∧ Kept [] w w' := by
  have hc := read_any l w hl
  have hlt := readD_lt l
  have hcode := readD_code l
  unfold intD
  generalize readD l = r at *
  obtain ⟨x, e⟩ := r
  simp only at hc hlt hcode ⊢
  have HC := Lib.hid hc
  clear hc
  by_cases he : e = 0
  · subst he
    rw [if_neg (by simp)]
    clear hcode
    by_cases hmm : most < 0
    · rw [if_pos (.inl hmm)]
      go_enter Tryd.func18, Tryd.ntmps18
      go_wp2_with fail
      refine HC.out.mono ?_
      rintro e w1 ⟨rfl, hk1⟩
      go_wp2_with fail
      go_ret2
      exact ⟨rfl, hk1⟩
    · by_cases hx : most < (x : Int)
      · rw [if_pos (.inr hx)]
        go_enter Tryd.func18, Tryd.ntmps18
        go_wp2_with fail
        refine HC.out.mono ?_
        rintro e w1 ⟨rfl, hk1⟩
        go_wp2_with fail
        go_ret2
        exact ⟨rfl, hk1⟩
      · rw [if_neg (by omega)]
        go_enter Tryd.func18, Tryd.ntmps18
        go_wp2_with fail
        refine HC.out.mono ?_
        rintro e w1 ⟨rfl, hk1⟩
        go_wp2_with fail
        go_ret2
        exact ⟨rfl, hk1⟩
  · rw [if_pos (by simpa using he)]
    have hb : (e != 0) = true := by simpa using he
    clear he hcode
    go_enter Tryd.func18, Tryd.ntmps18
    go_wp2_with fail
    refine HC.out.mono ?_
    rintro e w1 ⟨rfl, hk1⟩
    go_wp2_with fail
    go_ret2
    exact ⟨rfl, hk1⟩

set_option maxHeartbeats 800000 in
theorem refInt (l : List UInt8) (most : Int) (w : World) (hl : l.length ≤ 1000000000) (hm1 : -9223372036854775808 ≤ most) (hm2 : most ≤ 9223372036854775807) :
    Calls Tryd.prog 19 #[strV l, .int .i64 most] w fun e w' => e = .returned (.tuple #[.int .i64 (intD l most).1, .int .i64 (intD l most).2]) ∧ w = w' := by
  have hc := refRead l w hl
  have hlt := readD_lt l
  have hcode := readD_code l
  unfold intD
  generalize readD l = r at *
  obtain ⟨x, e⟩ := r
  simp only at hc hlt hcode ⊢
  have HC := Lib.hid hc
  clear hc
  by_cases he : e = 0
  · subst he
    rw [if_neg (by simp)]
    clear hcode
    by_cases hmm : most < 0
    · rw [if_pos (.inl hmm)]
      go_enter Tryd.func19, Tryd.ntmps19
      go_wp2_with fail
      refine HC.out.mono ?_
      rintro e w1 ⟨rfl, rfl⟩
      go_wp2_with fail
      go_ret2
      exact ⟨rfl, rfl⟩
    · by_cases hx : most < (x : Int)
      · rw [if_pos (.inr hx)]
        go_enter Tryd.func19, Tryd.ntmps19
        go_wp2_with fail
        refine HC.out.mono ?_
        rintro e w1 ⟨rfl, rfl⟩
        go_wp2_with fail
        go_ret2
        exact ⟨rfl, rfl⟩
      · rw [if_neg (by omega)]
        go_enter Tryd.func19, Tryd.ntmps19
        go_wp2_with fail
        refine HC.out.mono ?_
        rintro e w1 ⟨rfl, rfl⟩
        go_wp2_with fail
        go_ret2
        exact ⟨rfl, rfl⟩
  · rw [if_pos (by simpa using he)]
    have hb : (e != 0) = true := by simpa using he
    clear he hcode
    go_enter Tryd.func19, Tryd.ntmps19
    go_wp2_with fail
    refine HC.out.mono ?_
    rintro e w1 ⟨rfl, rfl⟩
    go_wp2_with fail
    go_ret2
    exact ⟨rfl, rfl⟩

end Go.Proofs.YtkgnfnliboahaaaDoor
