/- AuditTexts returns true for every input: the walk. -/
import Derived.Test.YthahmfeaekddnaaGreatDoorAuT2
import Derived.Test.YthahmfeaekddnaaGreatDoorAuT3
import Derived.Test.YthahmfeaekddnaaGreatDoorAuA
namespace Go.Proofs.YthahmfeaekddnaaGreatDoor
open Go.RowKit Go.Sort
attribute [local go_sem ↓] Go.wp_at_zero Go.wp_at_succ

theorem auText_any (k s c : Int) (w : World) (hs : s ≤ 9223372036854775807) (hc : c ≤ 9223372036854775807) (hP : HasPow w) :
    Calls Tryz.prog 30 #[.agg #[.int .i64 k, .int .i64 s, .int .i64 c]] w fun e w' => e = .returned (strV (textD k s c)) ∧ Kept [] w w' := by
  by_cases hb : 1 ≤ k ∧ k ≤ 4 ∧ 0 ≤ s ∧ 0 ≤ c
  · obtain ⟨h1, h2, h3, h4⟩ := hb
    obtain ⟨s, rfl⟩ := Int.eq_ofNat_of_zero_le h3
    obtain ⟨c, rfl⟩ := Int.eq_ofNat_of_zero_le h4
    have hk : k = 1 ∨ k = 2 ∨ k = 3 ∨ k = 4 := by omega
    rcases hk with rfl | rfl | rfl | rfl
    · exact auText_good1 s c w (by omega) (by omega) hP
    · exact auText_good2 s c w (by omega) (by omega) hP
    · exact auText_good3 s c w (by omega) (by omega) hP
    · exact auText_good4 s c w (by omega) (by omega) hP
  · exact auText_bad k s c w hb
theorem R34Text_any (k s c : Int) (w : World) (hs : s ≤ 9223372036854775807) (hc : c ≤ 9223372036854775807) :
    Calls Tryz.prog 31 #[.int .i64 k, .int .i64 s, .int .i64 c] w fun e w' => e = .returned (strV (textD k s c)) ∧ Kept [] w w' := by
  by_cases hb : 1 ≤ k ∧ k ≤ 4 ∧ 0 ≤ s ∧ 0 ≤ c
  · obtain ⟨h1, h2, h3, h4⟩ := hb
    obtain ⟨s, rfl⟩ := Int.eq_ofNat_of_zero_le h3
    obtain ⟨c, rfl⟩ := Int.eq_ofNat_of_zero_le h4
    have hk : k = 1 ∨ k = 2 ∨ k = 3 ∨ k = 4 := by omega
    rcases hk with rfl | rfl | rfl | rfl
    · exact R34Text_good1 s c w (by omega) (by omega)
    · exact R34Text_good2 s c w (by omega) (by omega)
    · exact R34Text_good3 s c w (by omega) (by omega)
    · exact R34Text_good4 s c w (by omega) (by omega)
  · exact R34Text_bad k s c w hb
set_option maxRecDepth 100000 in
set_option maxHeartbeats 3200000 in
theorem auditTexts_walk (k s c x : Int) (w : World) (hs : s ≤ 9223372036854775807) (hc : c ≤ 9223372036854775807) (hT : Ru.Tab w) (hP : HasPow w) :
    Calls Tryz.prog 5 #[.int .i64 k, .int .i64 s, .int .i64 c, .int .u64 x] w fun e w' => e = .returned (.bool true) ∧ Kept [] w w' := by
  have HW := Lib.hid (fun (w : World) (h : Ru.Tab w) => Ru.auWords_nil h)
  have HX := Lib.hid (fun w h => auText_any k s c w hs hc h)
  have HR := Lib.hid (fun w => R34Text_any k s c w hs hc)
  have HL := Lib.hid (fun (w : World) (h : Ru.Tab w) => Ru.auPlaces_nil x h)
  have HC := Lib.hid (fun (w : World) (h : Ru.Tab w) => Ru.auCheck_nil h)
  have HA := Lib.hid (fun (w : World) (h : Ru.Tab w) => Ru.auA_awakes.calls h)
  generalize textD k s c = td at *
  have HT := Lib.hid hT
  have HP := Lib.hid hP
  clear hT hP
  go_enter Tryz.func5, Tryz.ntmps5
  go_wp2_with fail
  refine (HW.out _ HT.out).mono ?_
  rintro e w1 ⟨rfl, hk1⟩
  have HT1 := Lib.hid (HT.out.kept hk1)
  have HP1 := Lib.hid (HP.out.old hk1)
  have HK1 := Lib.hid hk1
  clear hk1
  go_wp2_with fail
  refine (HX.out _ HP1.out).mono ?_
  rintro e w2 ⟨rfl, hk2⟩
  have HT2 := Lib.hid (HT1.out.kept hk2)
  have HK2 := Lib.hid (HK1.out.trans hk2)
  clear hk2
  go_wp2_with fail
  refine (HR.out _).mono ?_
  rintro e w3 ⟨rfl, hk3⟩
  have HT3 := Lib.hid (HT2.out.kept hk3)
  have HK3 := Lib.hid (HK2.out.trans hk3)
  clear hk3
  go_wp2_with fail
  refine (HL.out _ HT3.out).mono ?_
  rintro e w4 ⟨rfl, hk4⟩
  have HT4 := Lib.hid (HT3.out.kept hk4)
  have HK4 := Lib.hid (HK3.out.trans hk4)
  clear hk4
  go_wp2_with fail
  refine (HC.out _ HT4.out).mono ?_
  rintro e w5 ⟨rfl, hk5⟩
  have HT5 := Lib.hid (HT4.out.kept hk5)
  have HK5 := Lib.hid (HK4.out.trans hk5)
  clear hk5
  go_wp2_with fail
  refine (HA.out _ HT5.out).mono ?_
  rintro e w6 ⟨rfl, hk6⟩
  have HK6 := Lib.hid (HK5.out.trans hk6)
  clear hk6
  go_wp2_with fail
  go_ret
  exact ⟨rfl, HK6.out⟩
end Go.Proofs.YthahmfeaekddnaaGreatDoor
