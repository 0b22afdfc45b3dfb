/- Law 08: ProgChecks: the walk. -/
import Derived.Test.YtmhlmoojmdfnfaaDoorPgT
import Derived.Test.YtmhlmoojmdfnfaaDoorPgH
import Derived.Test.YtmhlmoojmdfnfaaDoorPgK
namespace Go.Proofs.YtmhlmoojmdfnfaaDoor
open Go.RowKit

set_option maxHeartbeats 3200000 in
set_option maxRecDepth 100000 in
theorem progChecks_walk (A : Option Addr) (n c : Nat) (l0 : List Dd) (w : World) (hr : ReadsD w A n l0) (hc : n ≤ c) (hc2 : c ≤ 9223372036854775807) (hok : ∀ d ∈ l0, d.n < 18446744073709551616 ∧ d.mask < 18446744073709551616) (hP : HasPow w) :
    Calls Tryd.prog 3 #[.slice A n c] w fun e w' => e = .returned (.bool true) ∧ Kept [] w w' := by
  have HFEW := Lib.hid (few8_any A n c l0 w hr hc hc2)
  have HR := Lib.hid hr.few
  have hnb : ∀ d ∈ l0.take 300, d.n < 18446744073709551616 := fun d hd => (hok d (List.mem_of_mem_take hd)).1
  have hl : (l0.take 300).length ≤ 9223372036854775807 := by rw [List.length_take]; omega
  clear hr hok
  generalize l0.take 300 = l at *
  have HS1 := Lib.hid (fun w h => psimple_any A l.length c l w h hl hnb)
  have HS2 := Lib.hid (fun w h => refSimple A l.length c l w h hl hnb)
  have HC1 := Lib.hid (fun w h => pcheck_any A l.length c l w h hl)
  have HC2 := Lib.hid (fun w h => refCheckP A l.length c l w h hl)
  have HL1 := Lib.hid (fun w h => plocks_any A l.length c l w h hl)
  have HL2 := Lib.hid (fun w h => refLocks A l.length c l w h hl)
  have HT1 := Lib.hid (fun w h => psteps_any A l.length c l w h hl hnb)
  have HT2 := Lib.hid (fun w h => refSteps A l.length c l w h hl hnb)
  have hle := simple_le l
  generalize simpleP l = sp at *
  obtain ⟨sn, sb⟩ := sp
  simp only at HS1 HS2 hle
  generalize checkP l = ck at *
  generalize locksP l = lk at *
  generalize stepsP l = st at *
  have d1 : ((sn : Int) != (sn : Int)) = false := by simp
  have d2 : (sb != sb) = false := by simp
  have d3 : (ck != ck) = false := by simp
  have d4 : ((lk : Int) != (lk : Int)) = false := by simp
  have d5 : ((st : Int) == (st : Int)) = true := by simp
  have d6 : decide ((sn : Int) ≤ (st : Int)) = true := by simp; omega
  have HP := Lib.hid hP
  clear hP hnb
  go_enter Tryd.func3, Tryd.ntmps3
  go_wp2_with fail
  refine (HFEW.out).mono ?_
  rintro e w0 ⟨rfl, rfl⟩
  go_wp2_with fail
  refine (HS1.out _ HR.out).mono ?_
  rintro e w1 ⟨rfl, hk1⟩
  have HK1 := Lib.hid hk1
  clear hk1
  go_wp2_with fail
  refine (HS2.out _ (HR.out.old HK1.out)).mono ?_
  rintro e w2 ⟨rfl, hk2⟩
  have HK2 := Lib.hid (HK1.out.trans hk2)
  clear hk2
  go_wp2_with fail
  refine (HC1.out _ (HR.out.old HK2.out)).mono ?_
  rintro e w3 ⟨rfl, hk3⟩
  have HK3 := Lib.hid (HK2.out.trans hk3)
  clear hk3
  go_wp2_with fail
  refine (HC2.out _ (HR.out.old HK3.out)).mono ?_
  rintro e w4 ⟨rfl, hk4⟩
  have HK4 := Lib.hid (HK3.out.trans hk4)
  clear hk4
  go_wp2_with fail
  refine (HL1.out _ (HR.out.old HK4.out)).mono ?_
  rintro e w5 ⟨rfl, hk5⟩
  have HK5 := Lib.hid (HK4.out.trans hk5)
  clear hk5
  go_wp2_with fail
  refine (HL2.out _ (HR.out.old HK5.out)).mono ?_
  rintro e w6 ⟨rfl, hk6⟩
  have HK6 := Lib.hid (HK5.out.trans hk6)
  clear hk6
  go_wp2_with fail
  refine (awake8 _ (HP.out.old HK6.out)).mono ?_
  rintro e w7 ⟨rfl, hk7⟩
  have HK7 := Lib.hid (HK6.out.trans hk7)
  clear hk7
  go_wp2_with fail
  refine (HT1.out _ (HR.out.old HK7.out)).mono ?_
  rintro e w8 ⟨rfl, hk8⟩
  have HK8 := Lib.hid (HK7.out.trans hk8)
  clear hk8
  go_wp2_with fail
  refine (HT2.out _ (HR.out.old HK8.out)).mono ?_
  rintro e w9 ⟨rfl, hk9⟩
  have HK9 := Lib.hid (HK8.out.trans hk9)
  clear hk9
  go_wp2_with fail
  refine (HT1.out _ (HR.out.old HK9.out)).mono ?_
  rintro e w10 ⟨rfl, hk10⟩
  have HK10 := Lib.hid (HK9.out.trans hk10)
  clear hk10
  go_wp2_with fail
  go_ret
  exact ⟨rfl, HK10.out⟩

end Go.Proofs.YtmhlmoojmdfnfaaDoor
