/- Law 08: ProgParses: the walk. -/
import Derived.Test.YtmhlmoojmdfnfaaDoorPgLp
import Derived.Test.YtmhlmoojmdfnfaaDoorPgLr
import Derived.Test.YtmhlmoojmdfnfaaDoorPgSame
namespace Go.Proofs.YtmhlmoojmdfnfaaDoor
open Go.RowKit

/-- What both Parses do with a text. -/
theorem progParses_in (l : List UInt8) (hl : l.length ≤ 70000) :
    ∃ r : List Dd × Int × Int, r.1.length ≤ 256 ∧ (∀ w, HasMax w → Calls Tryd.prog 51 #[strV l] w fun e w' => ∃ A n c, e = .returned (.tuple #[.slice A n c, .int .i64 r.2.1, .int .i64 r.2.2]) ∧ RowD w w' r.1 A n c ∧ Kept [] w w') ∧
      ∀ w, Calls Tryd.prog 52 #[strV l] w fun e w' => ∃ A n c, e = .returned (.tuple #[.slice A n c, .int .i64 r.2.1, .int .i64 r.2.2]) ∧ RowD w w' r.1 A n c ∧ Kept [] w w' :=
  ⟨parseP (linesF [] l), parseP_len _, fun w hM => pparse_any l w (by omega) hM, fun w => refParse8 l w (by omega)⟩

set_option maxHeartbeats 3200000 in
set_option maxRecDepth 100000 in
theorem progParses_walk (l : List UInt8) (w : World) (hl : l.length ≤ 9223372036854775807) (hM : HasMax w) (hP : HasPow w) :
    Calls Tryd.prog 12 #[strV l] w fun e w' => e = .returned (.bool true) ∧ Kept [] w w' := by
  have hlt : (l.take 3000).length ≤ 3000 := by simp; omega
  obtain ⟨⟨es, nn, ec⟩, hel, h1, h2⟩ := progParses_in (l.take 3000) (by omega)
  simp only at hel h1 h2
  have H1 := Lib.hid h1
  have H2 := Lib.hid h2
  have HP := Lib.hid hP
  have HM := Lib.hid hM
  clear hM hP h1 h2
  by_cases h : 3000 < l.length
  · have hx := str_extract l 0 3000
    simp only [List.drop_zero, Nat.sub_zero] at hx
    generalize l.take 3000 = l4 at *
    go_enter Tryd.func12, Tryd.ntmps12
    go_wp2_with fail
    try rw [hx]
    refine (H1.out _ HM.out).mono ?_
    rintro e w1 ⟨A1, n1, c1, rfl, hf1, hk1⟩
    have HF1 := Lib.hid hf1
    have HK1 := Lib.hid hk1
    clear hf1 hk1
    go_wp2_with fail
    try rw [hx]
    refine (H2.out _).mono ?_
    rintro e w2 ⟨A2, n2, c2, rfl, hf2, hk2⟩
    have HR := Lib.hid (refSameD A1 n1 c1 A2 n2 c2 es _ (HF1.out.reads.old hk2) hf2.reads (by omega))
    have HK2 := Lib.hid (HK1.out.trans hk2)
    clear hf2 hk2
    go_wp2_with fail
    refine (HR.out).mono ?_
    rintro e w3 ⟨rfl, hk3⟩
    have HK3 := Lib.hid (HK2.out.trans hk3)
    clear hk3
    go_wp2_with fail
    refine (awake8 _ (HP.out.old HK3.out)).mono ?_
    rintro e w4 ⟨rfl, hk4⟩
    have HK4 := Lib.hid (HK3.out.trans hk4)
    clear hk4
    go_wp2_with fail
    go_ret
    exact ⟨rfl, HK4.out⟩
  · have hx : l.take 3000 = l := List.take_of_length_le (by omega)
    rw [hx] at H1 H2
    go_enter Tryd.func12, Tryd.ntmps12
    go_wp2_with fail
    refine (H1.out _ HM.out).mono ?_
    rintro e w1 ⟨A1, n1, c1, rfl, hf1, hk1⟩
    have HF1 := Lib.hid hf1
    have HK1 := Lib.hid hk1
    clear hf1 hk1
    go_wp2_with fail
    refine (H2.out _).mono ?_
    rintro e w2 ⟨A2, n2, c2, rfl, hf2, hk2⟩
    have HR := Lib.hid (refSameD A1 n1 c1 A2 n2 c2 es _ (HF1.out.reads.old hk2) hf2.reads (by omega))
    have HK2 := Lib.hid (HK1.out.trans hk2)
    clear hf2 hk2
    go_wp2_with fail
    refine (HR.out).mono ?_
    rintro e w3 ⟨rfl, hk3⟩
    have HK3 := Lib.hid (HK2.out.trans hk3)
    clear hk3
    go_wp2_with fail
    refine (awake8 _ (HP.out.old HK3.out)).mono ?_
    rintro e w4 ⟨rfl, hk4⟩
    have HK4 := Lib.hid (HK3.out.trans hk4)
    clear hk4
    go_wp2_with fail
    go_ret
    exact ⟨rfl, HK4.out⟩

end Go.Proofs.YtmhlmoojmdfnfaaDoor
