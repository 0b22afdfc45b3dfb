/- Law 07: DeedGets: the walk. -/
import Derived.Test.YtmhlmoojmdfnfaaDoorDeedA
import Derived.Test.YtmhlmoojmdfnfaaDoorDeedGet2
import Derived.Test.YtmhlmoojmdfnfaaDoorDeedRG
import Derived.Deep.QuietTactic
import Derived.BigQuiet
namespace Go.Proofs.YtmhlmoojmdfnfaaDoor
open Go.RowKit
attribute [local go_sem] eqDeed

theorem rbyte_nil7 (w : World) : Calls Tryd.prog 67 #[.pointer none] w fun e w' => e = .returned (.int .u8 0) ∧ w = w' := by
  have HT : Hid (∀ (n : Int) (w : World), Calls Tryd.prog 120 #[.pointer none, .int .i64 n] w fun e w' => e = .returned (.tuple #[.slice none 0 0, .bool false]) ∧ w = w') := fun n w => by
    go_enter Tryd.func120, Tryd.ntmps120
    go_wp2
    go_ret2
    exact ⟨rfl, rfl⟩
  go_enter Tryd.func67, Tryd.ntmps67
  go_wp2_with fail
  refine (HT.out _ _).mono ?_
  rintro e w1 ⟨rfl, rfl⟩
  go_wp2_with fail
  go_ret
  exact ⟨rfl, rfl⟩
theorem rerr_nil7 (w : World) : Calls Tryd.prog 103 #[.pointer none] w fun e w' => e = .returned (.int .i64 14) ∧ w = w' := by
  go_enter Tryd.func103, Tryd.ntmps103
  go_wp2
  go_ret
  exact ⟨rfl, rfl⟩
set_option maxHeartbeats 1600000 in
theorem dget_nil (w : World) : Calls Tryd.prog 46 #[.pointer none] w fun e w' => e = .returned (.tuple #[.agg (dC 0 0 0 0 0 0 false), .int .i64 14]) ∧ Kept [] w w' := by
  go_enter Tryd.func46, Tryd.ntmps46
  go_wp2_with fail
  refine (rbyte_nil7 _).mono ?_
  rintro e w1 ⟨rfl, rfl⟩
  go_wp2_with fail
  refine (rerr_nil7 _).mono ?_
  rintro e w2 ⟨rfl, rfl⟩
  go_wp2_with fail
  refine bodyPost_ret (v := .tuple #[.agg (dC 0 0 0 0 0 0 false), .int .i64 14]) (by simp [results, Tryd.results46, go_sem]) rfl ⟨rfl, ?_⟩
  (repeat (first | (with_reducible exact Kept.refl _ _) | (with_reducible assumption) | (with_reducible refine Kept.alloc ?_ _) | (with_reducible refine Kept.drew ?_) | (with_reducible refine Kept.drewN ?_ _) | (with_reducible refine Kept.setCell ?_ ?_ _) | (exact .inr (Nat.le_refl _)) | (exact .inr (by simp only; omega)) | (exact .inr (by omega))))

theorem refS_err (s : RS) : (refS (getD s)).1 = (getD s).2.2 := by
  unfold refS
  split
  · rename_i h
    rw [h]
    exact (get_once (s := s) (s' := (getD s).1) (d := (getD s).2.1) (by rw [← h])).2.1
  · rfl
theorem refS_left (s : RS) (h : (getD s).2.2 = 0) : refS (getD s) = (getD s).1 := if_pos h

set_option maxHeartbeats 6400000 in
set_option maxRecDepth 100000 in
theorem deedGets_in (A : Option Addr) (m0 m c : Nat) (l : List UInt8) (w : World) (hm : (m0 ≤ 60 ∧ m = m0) ∨ (60 < m0 ∧ m = 60)) (hmc : m0 ≤ c) (hc : c ≤ maxLen) (hr : Reads w 1 A m (l.map B)) (hA : ∀ ad, A = some ad → ad.block < w.heap.size) (hM : HasMax w) (hP : HasPow w) :
    Calls Tryd.prog 10 #[.slice A m0 c] w fun e w' => e = .returned (.bool true) ∧ Kept [] w w' := by
  have hml : m = l.length := by have := hr.1; simpa using this.symm
  have hm60 : m ≤ 60 := by omega
  have hcm := hc
  unfold maxLen at hcm
  have hsl := run_cut_h (P := Tryd.prog) 32 5 (.int .u8 0) 1 Tryd.underlying32 Tryd.info5 A m0 c .i64 60 60 rfl
  have HRD := Lib.hid (rread_any A m c l w hr (by omega))
  have HDR : Hid (∀ w', Kept [] w w' → IsD w' w.heap.size A m c (0, l)) := fun w' hk => ⟨by simpa [restS] using hr.old hk, by omega, hc, hA⟩
  have HG1 := Lib.hid (fun g A c w h => dget_any g A c (0, l) w h)
  have HG2 := Lib.hid (fun w' (hk : Kept [] w w') => refGetD w.heap.size A m c (0, l) w' (HDR.out w' hk) hk.size)
  have HSE := Lib.hid (refS_err (0, l))
  have HSL := Lib.hid (refS_left (0, l))
  generalize refS (getD (0, l)) = sr at *
  generalize getD (0, l) = x at *
  obtain ⟨s2, ⟨o2, a2, b2, r2, n2, m2, l2⟩, ev⟩ := x
  simp only at HG2 HSE HSL
  obtain ⟨se, sl⟩ := sr
  obtain rfl : se = ev := HSE.out
  have HM := Lib.hid hM
  have HP := Lib.hid hP
  have hz0 : (se != se) = false := by simp
  clear hr hM hP hA hml
  rcases hm with ⟨h1, rfl⟩ | ⟨h1, rfl⟩
  all_goals
    try have hsl2 := hsl (by omega)
    clear hsl
    go_enter Tryd.func10, Tryd.ntmps10
    go_wp2_with fail
    refine (HRD.out).mono ?_
    rintro e w1 ⟨g, A1, c1, rfl, hR1, hk1, hg1, hA1⟩
    have HR1 := Lib.hid hR1
    have HK1 := Lib.hid hk1
    clear hR1 hk1 hA1
    go_wp2_with fail
    refine (HG1.out g A1 c1 _ HR1.out).mono ?_
    rintro e w2 ⟨rfl, hgo⟩
    obtain ⟨A2, c2, hR2, hk2, _⟩ := hgo
    have HK2 : Hid (Kept [] w w2) := HK1.out.trans' hk2 (fun k hm => .inr (by simp at hm; omega))
    have HR2 := Lib.hid hR2
    clear hR2 hk2
    simp only [dCd]
    go_wp2_with fail
    refine (HG2.out _ (HK2.out.alloc _)).mono ?_
    rintro e w3 ⟨A3, m3, c3, rfl, hD3, hk3⟩
    have HK3 := Lib.hid ((HK2.out.alloc _).trans hk3)
    have HR3 := Lib.hid ((HR2.out.kept ((Kept.refl [] w2).alloc (.cells (dC o2 a2 b2 r2 n2 m2 l2) 41)) (by simp) (by simp)).kept hk3 (by simp) (by simp))
    have HX3 := Lib.hid ((Blk.new w2 41 (dC o2 a2 b2 r2 n2 m2 l2)).kept hk3 (by simp))
    have hm3 := hD3.len
    have HM3 := Lib.hid hm3
    clear hD3 hk3 hm3
    simp only [dCd]
    go_wp2_with fail
    refine (dget_nil _).mono ?_
    rintro e w4 ⟨rfl, hk4⟩
    have HK4 := Lib.hid (((HK3.out.alloc _).alloc _).trans hk4)
    have HR4 := Lib.hid ((HR3.out.kept (((Kept.refl [] w3).alloc (.cells #[.slice A3 m3 c3, .int .i64 se] 62)).alloc (.cells (dC o2 a2 b2 r2 n2 m2 l2) 41)) (by simp) (by simp)).kept hk4 (by simp) (by simp))
    have HX4 := Lib.hid (((HX3.out.alloc (.cells #[.slice A3 m3 c3, .int .i64 se] 62)).alloc (.cells (dC o2 a2 b2 r2 n2 m2 l2) 41)).kept hk4 (by simp))
    have HS4 := Lib.hid (((Blk.new w3 62 #[.slice A3 m3 c3, .int .i64 se]).alloc (.cells (dC o2 a2 b2 r2 n2 m2 l2) 41)).kept hk4 (by simp))
    have HY4 := Lib.hid ((Blk.newAt (w := w3.alloc (.cells #[.slice A3 m3 c3, .int .i64 se] 62)) (g := w3.heap.size + 1) (by simp) 41 (dC o2 a2 b2 r2 n2 m2 l2)).kept hk4 (by simp))
    have hx4 := HX4.out.cell
    have hxl4 := HX4.out.lt
    have hs4 := HS4.out.cell
    have hsl4 := HS4.out.lt
    have hy4 := HY4.out.cell
    have hyl4 := HY4.out.lt
    clear hk4
    go_wp2_with fail
    refine (awake7 _ (HM.out.old (HK4.out.alloc _)) (HP.out.old (HK4.out.alloc _))).mono ?_
    rintro e w5 ⟨rfl, hk5⟩
    have HK5 := Lib.hid ((HK4.out.alloc _).trans hk5)
    have HR5 := Lib.hid ((HR4.out.kept ((Kept.refl [] w4).alloc (.cells (dC 0 0 0 0 0 0 false) 41)) (by simp) (by simp)).kept hk5 (by simp) (by simp))
    have HS5 := Lib.hid ((HS4.out.alloc (.cells (dC 0 0 0 0 0 0 false) 41)).kept hk5 (by simp))
    have hs5 : w5.cell? ⟨w3.heap.size, 0, none⟩ = some (.slice A3 m3 c3) := by rw [HS5.out.cell]; rfl
    clear hk5 hx4 hxl4 hs4 hsl4 hy4 hyl4
    by_cases h0 : se = 0
    · subst h0
      obtain rfl : (0, sl) = s2 := HSL.out rfl
      have hml : m3 = sl.length := by rw [HM3.out]; rfl
      have HLF := Lib.hid (fun w h => rleft_any g A2 c2 (0, sl) w h)
      rw [show leftS (0, sl) = m3 by rw [hml]; rfl] at HLF
      have hbm : ((m3 : Int) == (m3 : Int)) = true := by simp
      clear hml
      go_wp2_with fail
      go_region_held3 (fun w' => w'.cell? ⟨w3.heap.size, 0, none⟩ = some (.slice A3 m3 c3)) (go_keep) (first | (go_at_call 48; refine (HLF.out _ (by exact HR5.out)).mono ?_; rintro e w6 ⟨rfl, rfl⟩))
      all_goals
        go_wp2_with fail
        go_ret
        exact ⟨rfl, HK5.out.drew⟩
    · have hb0 : (se != 0) = true := by simp [h0]
      clear h0
      go_wp2_with fail
      go_quiet (fail)
      go_wp2_with fail
      go_ret
      exact ⟨rfl, by first | exact HK5.out.drewN _ | exact HK5.out.drew⟩

end Go.Proofs.YtmhlmoojmdfnfaaDoor
