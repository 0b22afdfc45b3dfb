/- The document's Same of programs. -/
import Derived.Test.YtmhlmoojmdfnfaaDoorPgC
import Derived.Deep.QuietTactic
import Derived.BigQuiet
namespace Go.Proofs.YtmhlmoojmdfnfaaDoor
open Go.RowKit
attribute [local go_sem] eqDeed

set_option maxHeartbeats 3200000 in
set_option maxRecDepth 100000 in
theorem refSameD (A : Option Addr) (n c : Nat) (A2 : Option Addr) (m d : Nat) (l : List Dd) (w : World) (ha : ReadsD w A n l) (hb : ReadsD w A2 m l) (hl : l.length ≤ 100000) :
    Calls Tryd.prog 28 #[.slice A n c, .slice A2 m d] w fun e w' => e = .returned (.bool true) ∧ Kept [] w w' := by
  have hn := ha.len
  have hm := hb.len
  subst hn hm
  have HA := Lib.hid ha
  have HB := Lib.hid hb
  have hbn : ((l.length : Int) != (l.length : Int)) = false := by simp
  clear ha hb
  go_enter Tryd.func28, Tryd.ntmps28
  go_wp2_with fail
  go_loopw [5] (fun iv wr => ∃ k : Nat, k ≤ l.length ∧ iv = .int .i64 k ∧ Hid (Kept [] w wr)) (fun i _ => l.length - (intOf i).toNat)
  case atStart => exact ⟨0, by omega, rfl, Kept.refl _ _⟩
  case round =>
    obtain ⟨k, hk, rfl, HK⟩ := hrel
    by_cases hlt : k < l.length
    · obtain ⟨e, b, o, rfl, hx, hb, hc0, hc1, hc2, hc3, hc4, hc5, hc6⟩ := (HA.out.old HK.out).at_ hlt
      obtain ⟨e2, b2, o2, rfl, hx2, hb2, hd0, hd1, hd2, hd3, hd4, hd5, hd6⟩ := (HB.out.old HK.out).at_ hlt
      rw [hx] at hx2
      injection hx2 with hx2
      subst hx2
      obtain ⟨o1, a1, b1, r1, n1, m1, l1⟩ := e
      simp only at hc0 hc1 hc2 hc3 hc4 hc5 hc6 hd0 hd1 hd2 hd3 hd4 hd5 hd6
      have hi0 : (0 : Int) ≤ (k : Int) := by omega
      have hi1 : (k : Int) < (l.length : Int) := by omega
      clear hx
      go_wp2_with fail
      go_quiet (fail)
      go_wp2_with fail
      go_roundw
      case rel => exact ⟨k + 1, by omega, by go_num, HK.out.trans (by (repeat (first | (with_reducible exact Kept.refl _ _) | (with_reducible assumption) | (with_reducible refine Kept.alloc ?_ _) | (with_reducible refine Kept.drew ?_) | (with_reducible refine Kept.drewN ?_ _) | (with_reducible refine Kept.setCell ?_ ?_ _) | (exact .inr (Nat.le_refl _)) | (exact .inr (by simp only; omega)) | (exact .inr (by omega)))))⟩
      case measure => simp [intOf]; omega
    · obtain rfl : k = l.length := by omega
      go_wp2_with fail
      go_ret
      exact ⟨rfl, HK.out⟩

end Go.Proofs.YtmhlmoojmdfnfaaDoor
