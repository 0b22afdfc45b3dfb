/- Package wait: the order of waiters, the closures, put and take of a row. -/
import Derived.Test.YtfoeijiejpenpaaGreatDoorWaitSl2
import Derived.Deep.QuietTactic
import Derived.BigQuiet
import Derived.Deep.RegionHeld3
import Derived.Deep.DrawnRows
namespace Go.Proofs.YtfoeijiejpenpaaGreatDoor
open Go.RowKit

/-- Stands a waiter ahead of another one? -/
def aheadB (x y : WO) : Bool := decide (x.l < y.l ∨ x.l = y.l ∧ x.n < y.n)
theorem aheadB_iff (x y : WO) : aheadB x y = true ↔ (x.l < y.l ∨ x.l = y.l ∧ x.n < y.n) := by simp [aheadB]

set_option maxHeartbeats 1600000 in
theorem ahead_any (x y : WO) (w : World) : Calls Tryz.prog 41 #[.agg (oC x.p x.l x.n), .agg (oC y.p y.l y.n)] w fun e w' => e = .returned (.bool (aheadB x y)) ∧ Kept [] w w' := by
  obtain ⟨xp, xl, xn⟩ := x
  obtain ⟨yp, yl, yn⟩ := y
  rcases Int.lt_trichotomy xl yl with h | h | h
  · have hb : aheadB ⟨xp, xl, xn⟩ ⟨yp, yl, yn⟩ = true := (aheadB_iff _ _).2 (.inl h)
    rw [hb]
    have hd : decide (xl < yl) = true := by simpa using h
    clear hb
    go_enter Tryz.func41, Tryz.ntmps41
    go_wp2
    go_ret
    exact ⟨rfl, ((Kept.refl _ _).alloc _).alloc _⟩
  · subst h
    by_cases hn : xn < yn
    · have hb : aheadB ⟨xp, xl, xn⟩ ⟨yp, xl, yn⟩ = true := (aheadB_iff _ _).2 (.inr ⟨rfl, hn⟩)
      rw [hb]
      clear hb
      go_enter Tryz.func41, Tryz.ntmps41
      go_wp2
      go_ret
      exact ⟨rfl, ((Kept.refl _ _).alloc _).alloc _⟩
    · have hb : aheadB ⟨xp, xl, xn⟩ ⟨yp, xl, yn⟩ = false := by
        rw [← Bool.not_eq_true, aheadB_iff]; simp only; omega
      rw [hb]
      clear hb
      go_enter Tryz.func41, Tryz.ntmps41
      go_wp2
      go_ret
      exact ⟨rfl, ((Kept.refl _ _).alloc _).alloc _⟩
  · have hb : aheadB ⟨xp, xl, xn⟩ ⟨yp, yl, yn⟩ = false := by
      rw [← Bool.not_eq_true, aheadB_iff]; simp only; omega
    rw [hb]
    have hd : decide (xl < yl) = false := by simp; omega
    have hd2 : (xl == yl) = false := beq_eq_false_iff_ne.2 (by omega)
    clear hb
    go_enter Tryz.func41, Tryz.ntmps41
    go_wp2
    go_ret
    exact ⟨rfl, ((Kept.refl _ _).alloc _).alloc _⟩

set_option maxHeartbeats 1600000 in
theorem is1_any (x : WO) (pl : Int) (bp : Nat) (w : World) (h : Blk w bp 3 #[.int .i64 pl]) : Calls Tryz.prog 102 #[.agg (oC x.p x.l x.n), .pointer (some ⟨bp, 0, none⟩)] w fun e w' => e = .returned (.bool (x.p == pl)) ∧ Kept [] w w' := by
  obtain ⟨xp, xl, xn⟩ := x
  have hc := h.cell
  have hlt := h.lt
  clear h
  go_enter Tryz.func102, Tryz.ntmps102
  go_wp2
  go_ret
  exact ⟨rfl, (Kept.refl _ _).alloc _⟩

theorem is_any (pl : Int) (w : World) : Calls Tryz.prog 79 #[.int .i64 pl] w fun e w' => e = .returned (.func (.func 102) #[] #[.pointer (some ⟨w.heap.size, 0, none⟩)]) ∧ w' = w.alloc (.cells #[.int .i64 pl] 3) := by
  go_enter Tryz.func79, Tryz.ntmps79
  go_wp2
  go_ret
  exact ⟨rfl, rfl⟩

/-- A level, held. -/
def holdL (l : Int) : Int := if l < 0 then 0 else if 7 < l then 7 else l
theorem holdL_lo (l : Int) : 0 ≤ holdL l := by unfold holdL; split <;> (try split) <;> omega
theorem holdL_hi (l : Int) : holdL l ≤ 7 := by unfold holdL; split <;> (try split) <;> omega
set_option maxHeartbeats 1600000 in
theorem hold_any (l : Int) (w : World) : Calls Tryz.prog 66 #[.int .i64 l] w fun e w' => e = .returned (.int .i64 (holdL l)) ∧ w = w' := by
  rcases (by omega : l < 0 ∨ (0 ≤ l ∧ 7 < l) ∨ (0 ≤ l ∧ l ≤ 7)) with h | ⟨h1, h2⟩ | ⟨h1, h2⟩
  · rw [show holdL l = 0 by rw [holdL, if_pos h]]
    have h3 : ¬ (0 ≤ l) := by omega
    go_enter Tryz.func66, Tryz.ntmps66
    go_wp2
    go_ret
    exact ⟨rfl, rfl⟩
  · rw [show holdL l = 7 by rw [holdL, if_neg (by omega), if_pos h2]]
    go_enter Tryz.func66, Tryz.ntmps66
    go_wp2
    go_ret
    exact ⟨rfl, rfl⟩
  · rw [show holdL l = l by rw [holdL, if_neg (by omega), if_neg (by omega)]]
    go_enter Tryz.func66, Tryz.ntmps66
    go_wp2
    go_ret
    exact ⟨rfl, rfl⟩
set_option maxHeartbeats 1600000 in
theorem refHold_any (l : Int) (w : World) : Calls Tryz.prog 67 #[.int .i64 l] w fun e w' => e = .returned (.int .i64 (holdL l)) ∧ w = w' := by
  rcases (by omega : l < 0 ∨ (0 ≤ l ∧ 7 < l) ∨ (0 ≤ l ∧ l ≤ 7)) with h | ⟨h1, h2⟩ | ⟨h1, h2⟩
  · rw [show holdL l = 0 by rw [holdL, if_pos h]]
    go_enter Tryz.func67, Tryz.ntmps67
    go_wp2
    go_ret
    exact ⟨rfl, rfl⟩
  · rw [show holdL l = 7 by rw [holdL, if_neg (by omega), if_pos h2]]
    go_enter Tryz.func67, Tryz.ntmps67
    go_wp2
    go_ret
    exact ⟨rfl, rfl⟩
  · rw [show holdL l = l by rw [holdL, if_neg (by omega), if_neg (by omega)]]
    go_enter Tryz.func67, Tryz.ntmps67
    go_wp2
    go_ret
    exact ⟨rfl, rfl⟩

set_option maxHeartbeats 1600000 in
theorem put1_any (x y : WO) (br bx g : Nat) (v z : Value) (w : World) (hr : Blk w br 128 #[.pointer (some ⟨g, 0, none⟩)]) (hx : Blk w bx 108 (oC x.p x.l x.n)) (hg : Blk w g 91 #[.func (.func 41) #[] #[], v, z]) :
    Calls Tryz.prog 112 #[.agg (oC y.p y.l y.n), .pointer (some ⟨br, 0, none⟩), .pointer (some ⟨bx, 0, none⟩)] w fun e w' => e = .returned (.bool (aheadB x y)) ∧ Kept [] w w' := by
  have HA := Lib.hid (fun w => ahead_any x y w)
  generalize aheadB x y = r at *
  have hc1 := hr.cell
  have hl1 := hr.lt
  have hc2 := hx.cell
  have hl2 := hx.lt
  have hc3 := hg.cell
  have hl3 := hg.lt
  have HR := Lib.hid hr
  have HX := Lib.hid hx
  have HG := Lib.hid hg
  clear hr hx hg
  obtain ⟨xp, xl, xn⟩ := x
  obtain ⟨yp, yl, yn⟩ := y
  go_enter Tryz.func112, Tryz.ntmps112
  go_wp2_with fail
  have hb4 := (Blk.new w 108 (oC yp yl yn)).cell
  go_region_held3 (fun w' => w'.cell? ⟨br, 0, none⟩ = some (.pointer (some ⟨g, 0, none⟩)) ∧ w'.cell? ⟨g, 0, none⟩ = some (.func (.func 41) #[] #[]) ∧ w'.cell? ⟨bx, 0, none⟩ = some (.int .i64 xp) ∧ w'.cell? ⟨bx, 1, none⟩ = some (.int .i64 xl) ∧ w'.cell? ⟨bx, 2, none⟩ = some (.int .u64 xn) ∧ w'.cell? ⟨w.heap.size, 0, none⟩ = some (.int .i64 yp) ∧ w'.cell? ⟨w.heap.size, 1, none⟩ = some (.int .i64 yl) ∧ w'.cell? ⟨w.heap.size, 2, none⟩ = some (.int .u64 yn)) (go_keep) (first | (go_at_call 41; refine (HA.out _).mono ?_; rintro e w1 ⟨rfl, hk3⟩; have HK : Hid (Kept [] (w.alloc (.cells (oC yp yl yn) 108)) w1) := (by first | exact hk3 | exact (Kept.refl _ _).drew.trans hk3); have f1 := ((HR.out.alloc _).kept HK.out (by simp)).cell; have f2 := ((HX.out.alloc _).kept HK.out (by simp)).cell; have f3 := ((HG.out.alloc _).kept HK.out (by simp)).cell; have f4 := ((Blk.new w 108 (oC yp yl yn)).kept HK.out (by simp)).cell; clear hk3))
  all_goals
    go_wp2_with fail
    go_ret
    exact ⟨rfl, by first | exact ((Kept.refl _ _).alloc _).trans HK.out | exact (((Kept.refl _ _).alloc _).trans HK.out).drew⟩

end Go.Proofs.YtfoeijiejpenpaaGreatDoor
