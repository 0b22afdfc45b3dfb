/- Law 31: EventParses: the walk. -/
import Derived.Test.YtohkgdgdblnbfaaDoorEventPicksW
import Derived.Test.YtohkgdgdblnbfaaDoorEventRP2
namespace Go.Proofs.YtohkgdgdblnbfaaDoor
open Go.RowKit

set_option maxHeartbeats 3200000 in
set_option maxRecDepth 100000 in
theorem eventParses_walk (l : List UInt8) (w : World) (hl : l.length ≤ 9223372036854775807) (hM : HasMax w) (hP : HasPow w) :
    Calls Tryd.prog 5 #[strV l] w fun e w' => e = .returned (.bool true) ∧ Kept [] w w' := by
  have hlt : (l.take 400).length ≤ 400 := by simp; omega
  have H1 := Lib.hid (fun w h => eparse_any (l.take 400) w (by omega) h)
  have H2 := Lib.hid (fun w => refParseE_any (l.take 400) w (by omega))
  generalize parseE (l.take 400) = r at *
  obtain ⟨⟨s, c, k, t, g, o, d, n⟩, ec⟩ := r
  simp only at H1 H2
  have HM := Lib.hid hM
  have HP := Lib.hid hP
  have hq : ∀ W, (Op.equalIn 10000 30 (.agg (eC s c k t g o d n)) (.agg (eC s c k t g o d n))).run Tryd.prog W = .ok true W := fun W => by rw [eqEv]; simp
  clear hM hP
  by_cases h : 400 < l.length
  · have hx := str_extract l 0 400
    simp only [List.drop_zero, Nat.sub_zero] at hx
    generalize l.take 400 = l4 at *
    go_enter Tryd.func5, Tryd.ntmps5
    go_wp2_with fail
    try rw [hx]
    refine (H1.out _ HM.out).mono ?_
    rintro e w1 ⟨rfl, hk1⟩
    have HK1 := Lib.hid hk1
    clear hk1
    go_wp2_with fail
    refine (H2.out _).mono ?_
    rintro e w2 ⟨rfl, hk2⟩
    have HX := Lib.hid ((Blk.new w1 30 _).kept hk2 (by simp))
    have hcx := HX.out.cell
    have hlx := HX.out.lt
    have HK2 := Lib.hid ((HK1.out.alloc _).trans hk2)
    clear hk2
    go_wp2_with fail
    refine (awake31 _ (HP.out.old (HK2.out.alloc _))).mono ?_
    rintro e w3 ⟨rfl, hk3⟩
    have HK3 := Lib.hid ((HK2.out.alloc _).trans hk3)
    clear hk3
    go_wp2_with fail
    go_ret
    exact ⟨rfl, HK3.out⟩
  · have hx : l.take 400 = l := List.take_of_length_le (by omega)
    rw [hx] at H1 H2
    go_enter Tryd.func5, Tryd.ntmps5
    go_wp2_with fail
    refine (H1.out _ HM.out).mono ?_
    rintro e w1 ⟨rfl, hk1⟩
    have HK1 := Lib.hid hk1
    clear hk1
    go_wp2_with fail
    refine (H2.out _).mono ?_
    rintro e w2 ⟨rfl, hk2⟩
    have HX := Lib.hid ((Blk.new w1 30 _).kept hk2 (by simp))
    have hcx := HX.out.cell
    have hlx := HX.out.lt
    have HK2 := Lib.hid ((HK1.out.alloc _).trans hk2)
    clear hk2
    go_wp2_with fail
    refine (awake31 _ (HP.out.old (HK2.out.alloc _))).mono ?_
    rintro e w3 ⟨rfl, hk3⟩
    have HK3 := Lib.hid ((HK2.out.alloc _).trans hk3)
    clear hk3
    go_wp2_with fail
    go_ret
    exact ⟨rfl, HK3.out⟩

end Go.Proofs.YtohkgdgdblnbfaaDoor
