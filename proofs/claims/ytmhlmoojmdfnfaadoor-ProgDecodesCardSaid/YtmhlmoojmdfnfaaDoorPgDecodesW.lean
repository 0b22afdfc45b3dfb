/- Law 08: ProgDecodes: the walk. -/
import Derived.Test.YtmhlmoojmdfnfaaDoorPgT
import Derived.Test.YtmhlmoojmdfnfaaDoorPgR2
import Derived.Deep.QuietTactic
import Derived.BigQuiet
namespace Go.Proofs.YtmhlmoojmdfnfaaDoor
open Go.RowKit

set_option maxHeartbeats 3200000 in
set_option maxRecDepth 100000 in
theorem progDecodes_in (A : Option Addr) (m0 m c : Nat) (l : List UInt8) (w : World) (hm : (m0 ≤ 2000 ∧ m = m0) ∨ (2000 < m0 ∧ m = 2000)) (hmc : m0 ≤ c) (hc : c ≤ maxLen) (hr : Reads w 1 A m (l.map B)) (hA : ∀ ad, A = some ad → ad.block < w.heap.size) (hP : HasPow w) :
    Calls Tryd.prog 5 #[.slice A m0 c] w fun e w' => e = .returned (.bool true) ∧ Kept [] w w' := by
  have hml : m = l.length := by have := hr.1; simpa using this.symm
  have hcm := hc
  unfold maxLen at hcm
  have hsl := run_cut_h (P := Tryd.prog) 32 5 (.int .u8 0) 1 Tryd.underlying32 Tryd.info5 A m0 c .i64 2000 2000 rfl
  have HD1 := Lib.hid (pdecode_any A m c l w hr (by omega))
  have HD2 := Lib.hid (fun w' (hk : Kept [] w w') => refDecodeP A m c l w' ⟨by simpa [restS] using hr.old hk, by omega, hc, fun ad e => by have := hA ad e; have := hk.size; omega⟩)
  have HR0 := Lib.hid hr
  have hdl := decP_len l
  have hon := @decP_once l
  have her := @decP_err l
  generalize decP l = x at *
  obtain ⟨p, ev⟩ := x
  simp only at HD1 HD2 hon her hdl
  have HSM := Lib.hid (fun A n c A2 d w ha hb => refSameD A n c A2 n d p w ha hb (by omega))
  have HP := Lib.hid hP
  have hz0 : (ev != ev) = false := by simp
  clear hr hP hA hml
  rcases hm with ⟨h1, rfl⟩ | ⟨h1, rfl⟩
  all_goals
    try have hsl2 := hsl (by omega)
    clear hsl
    by_cases h0 : ev = 0
    · have hb0 : (ev != 0) = false := by simp [h0]
      obtain ⟨hck, hok, hbs⟩ := hon h0
      have HBS := Lib.hid hbs
      have HEN := Lib.hid (fun A n c w hr hA => pencode_ok A n c p w hr hA hck hok)
      clear hon her hck hok h0 hbs
      go_enter Tryd.func5, Tryd.ntmps5
      go_wp2_with fail
      refine (HD1.out).mono ?_
      rintro e w1 ⟨A1, n1, c1, rfl, hrow1, hk1⟩
      have HK1 := Lib.hid hk1
      have HR1 := Lib.hid hrow1.reads
      have HL1 := Lib.hid (fun ad (e : A1 = some ad) => own_lt hrow1.1 ad.block (by rw [fp_slice, e]; simp))
      have hn1 := hrow1.reads.len
      clear hrow1 hk1
      go_wp2_with fail
      refine (HD2.out _ HK1.out).mono ?_
      rintro e w2 ⟨A2, n2, c2, rfl, hrow2, hk2⟩
      have HK2 := Lib.hid (HK1.out.trans hk2)
      have HR2 := Lib.hid hrow2.reads
      have hn2 := hrow2.reads.len
      have HR3 := Lib.hid (HR1.out.old hk2)
      have HKK := Lib.hid hk2
      subst hn1 hn2
      clear hrow2 hk2
      go_wp2_with fail
      refine (HSM.out A1 p.length c1 A2 c2 _ HR3.out HR2.out).mono ?_
      rintro e w3 ⟨rfl, hk3⟩
      have HK3 := Lib.hid (HK2.out.trans hk3)
      have HR4 := Lib.hid (HR3.out.old hk3)
      have HKL := Lib.hid (HKK.out.trans hk3)
      clear hk3
      go_wp2_with fail
      refine (awake8 _ (HP.out.old HK3.out)).mono ?_
      rintro e w4 ⟨rfl, hk4⟩
      have HK4 := Lib.hid (HK3.out.trans hk4)
      have HR5 := Lib.hid (HR4.out.old hk4)
      have HKM := Lib.hid (HKL.out.trans hk4)
      clear hk4
      go_wp2_with fail
      refine (HEN.out A1 p.length c1 _ HR5.out ?_).mono ?_
      · exact fun ad e => by have := HL1.out ad e; have := HKM.out.size; omega
      rintro e w5 ⟨v, rfl, hnb⟩
      obtain ⟨A5, c5, rfl, _, _⟩ := own_form hnb.1
      have HK5 := Lib.hid (HK4.out.trans hnb.2.1)
      have hst5 := run_string_of (P := Tryd.prog) (c := c5) (Reads.of_own hnb.1) 32 9 5 Tryd.underlying32 Tryd.underlying5 Tryd.underlying9
      have hst6 := run_string_of (P := Tryd.prog) (c := c) (HR0.out.old HK5.out) 32 9 5 Tryd.underlying32 Tryd.underlying5 Tryd.underlying9
      rw [HBS.out] at hst6
      clear hnb
      go_wp2_with fail
      go_ret
      exact ⟨rfl, HK5.out⟩
    · have hb0 : (ev != 0) = true := by simp [h0]
      obtain rfl : p = [] := her h0
      clear hon her h0
      go_enter Tryd.func5, Tryd.ntmps5
      go_wp2_with fail
      refine (HD1.out).mono ?_
      rintro e w1 ⟨A1, n1, c1, rfl, hrow1, hk1⟩
      have HK1 := Lib.hid hk1
      have HR1 := Lib.hid hrow1.reads
      have hn1 := hrow1.reads.len
      clear hrow1 hk1
      go_wp2_with fail
      refine (HD2.out _ HK1.out).mono ?_
      rintro e w2 ⟨A2, n2, c2, rfl, hrow2, hk2⟩
      have HK2 := Lib.hid (HK1.out.trans hk2)
      have HR2 := Lib.hid hrow2.reads
      have hn2 := hrow2.reads.len
      have HR3 := Lib.hid (HR1.out.old hk2)
      obtain rfl : n1 = 0 := hn1
      obtain rfl : n2 = 0 := hn2
      clear hrow2 hk2
      go_wp2_with fail
      refine (HSM.out A1 0 c1 A2 c2 _ HR3.out HR2.out).mono ?_
      rintro e w3 ⟨rfl, hk3⟩
      have HK3 := Lib.hid (HK2.out.trans hk3)
      clear hk3
      go_wp2_with fail
      refine (awake8 _ (HP.out.old HK3.out)).mono ?_
      rintro e w4 ⟨rfl, hk4⟩
      have HK4 := Lib.hid (HK3.out.trans hk4)
      clear hk4
      go_wp2_with fail
      go_ret
      exact ⟨rfl, HK4.out⟩

end Go.Proofs.YtmhlmoojmdfnfaaDoor
