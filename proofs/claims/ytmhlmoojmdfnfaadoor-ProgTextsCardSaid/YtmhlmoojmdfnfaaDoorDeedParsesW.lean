/- Law 07: DeedParses: the walk. -/
import Derived.Test.YtmhlmoojmdfnfaaDoorDeedA
import Derived.Test.YtmhlmoojmdfnfaaDoorDeedPR3
namespace Go.Proofs.YtmhlmoojmdfnfaaDoor
open Go.RowKit

/-- Two deeds that differ in small parts alone that are too great. -/
def Sim (x y : Dd) : Prop := x.op = y.op ∧ (x.a = y.a ∨ 64 ≤ x.a ∧ 64 ≤ y.a) ∧ (x.b = y.b ∨ 64 ≤ x.b ∧ 64 ≤ y.b) ∧ (x.r = y.r ∨ 64 ≤ x.r ∧ 64 ≤ y.r) ∧ x.n = y.n ∧ x.mask = y.mask ∧ x.loose = y.loose
theorem Sim.fill {x y : Dd} (h : Sim x y) (cw : UInt8 × List UInt8) : Sim (fillP 64 x cw) (fillP 1048576 y cw) := by
  obtain ⟨h1, h2, h3, h4, h5, h6, h7⟩ := h
  have hm : ((min (readD cw.2).1 64 : Nat) : Int) = ((min (readD cw.2).1 1048576 : Nat) : Int) ∨ 64 ≤ ((min (readD cw.2).1 64 : Nat) : Int) ∧ 64 ≤ ((min (readD cw.2).1 1048576 : Nat) : Int) := by omega
  unfold fillP
  (repeat' split) <;> exact ⟨by assumption, by assumption, by assumption, by assumption, by first | assumption | rfl, by first | assumption | rfl, by first | assumption | rfl⟩
theorem Sim.foldl (l : List (UInt8 × List UInt8)) : ∀ {x y : Dd}, Sim x y → Sim (l.foldl (fillP 64) x) (l.foldl (fillP 1048576) y) := by
  induction l with
  | nil => exact fun h => h
  | cons a t ih => exact fun h => ih (h.fill a)
theorem Sim.good {x y : Dd} (h : Sim x y) : (if goodD x then (x, (0 : Int)) else (Dd.zero, 5)) = if goodD y then (y, 0) else (Dd.zero, 5) := by
  by_cases he : x = y
  · rw [he]
  · have hx : goodD x = false := by
      rw [← Bool.not_eq_true]; intro hg
      have := goodD_ranges hg
      obtain ⟨h1, h2, h3, h4, h5, h6, h7⟩ := h
      exact he (Dd.ext' h1 (by omega) (by omega) (by omega) h5 h6 h7)
    have hy : goodD y = false := by
      rw [← Bool.not_eq_true]; intro hg
      have := goodD_ranges hg
      obtain ⟨h1, h2, h3, h4, h5, h6, h7⟩ := h
      exact he (Dd.ext' h1 (by omega) (by omega) (by omega) h5 h6 h7)
    rw [hx, hy]; rfl
/-- It is the same from which number on a small part is too great. -/
theorem parse_same (l : List UInt8) : parseD 64 l = parseD 1048576 l := by
  unfold parseD
  cases words l with
  | nil => rfl
  | cons w0 ws =>
    simp only
    generalize (if opOf w0 = 2 ∧ ws.length = 4 then [65, 66, 82, 77] else partsL (opOf w0)) = ps
    split
    · rfl
    · split
      · rfl
      · split
        · rfl
        · exact (Sim.foldl _ ⟨rfl, .inl rfl, .inl rfl, .inl rfl, rfl, rfl, rfl⟩).good

set_option maxHeartbeats 3200000 in
set_option maxRecDepth 100000 in
theorem deedParses_walk (l : List UInt8) (w : World) (hl : l.length ≤ 9223372036854775807) (hM : HasMax w) (hP : HasPow w) :
    Calls Tryd.prog 7 #[strV l] w fun e w' => e = .returned (.bool true) ∧ Kept [] w w' := by
  have hlt : (l.take 200).length ≤ 200 := by simp; omega
  have H1 := Lib.hid (fun w h => parse_any (l.take 200) w (by omega) h)
  have H2 := Lib.hid (fun w => refParse_any (l.take 200) w (by omega))
  rw [parse_same] at H2
  generalize parseD 1048576 (l.take 200) = r at *
  obtain ⟨⟨o, a, b, rr, n, m, lo⟩, ec⟩ := r
  simp only [dCd] at H1 H2
  have HM := Lib.hid hM
  have HP := Lib.hid hP
  have hq : ∀ W, (Op.equalIn 10000 41 (.agg (dC o a b rr n m lo)) (.agg (dC o a b rr n m lo))).run Tryd.prog W = .ok true W := fun W => by rw [eqDeed]; simp
  clear hM hP
  by_cases h : 200 < l.length
  · have hx := str_extract l 0 200
    simp only [List.drop_zero, Nat.sub_zero] at hx
    generalize l.take 200 = l4 at *
    go_enter Tryd.func7, Tryd.ntmps7
    go_wp2_with fail
    try rw [hx]
    refine (H1.out _ HM.out).mono ?_
    rintro e w1 ⟨rfl, hk1⟩
    have HK1 := Lib.hid hk1
    clear hk1
    go_wp2_with fail
    refine (H2.out _).mono ?_
    rintro e w2 ⟨rfl, hk2⟩
    have HX := Lib.hid ((Blk.new w1 41 _).kept hk2 (by simp))
    have hcx := HX.out.cell
    have hlx := HX.out.lt
    have HK2 := Lib.hid ((HK1.out.alloc _).trans hk2)
    clear hk2
    go_wp2_with fail
    refine (awake7 _ (HM.out.old (HK2.out.alloc _)) (HP.out.old (HK2.out.alloc _))).mono ?_
    rintro e w3 ⟨rfl, hk3⟩
    have HK3 := Lib.hid ((HK2.out.alloc _).trans hk3)
    clear hk3
    go_wp2_with fail
    go_ret
    exact ⟨rfl, HK3.out⟩
  · have hx : l.take 200 = l := List.take_of_length_le (by omega)
    rw [hx] at H1 H2
    go_enter Tryd.func7, Tryd.ntmps7
    go_wp2_with fail
    refine (H1.out _ HM.out).mono ?_
    rintro e w1 ⟨rfl, hk1⟩
    have HK1 := Lib.hid hk1
    clear hk1
    go_wp2_with fail
    refine (H2.out _).mono ?_
    rintro e w2 ⟨rfl, hk2⟩
    have HX := Lib.hid ((Blk.new w1 41 _).kept hk2 (by simp))
    have hcx := HX.out.cell
    have hlx := HX.out.lt
    have HK2 := Lib.hid ((HK1.out.alloc _).trans hk2)
    clear hk2
    go_wp2_with fail
    refine (awake7 _ (HM.out.old (HK2.out.alloc _)) (HP.out.old (HK2.out.alloc _))).mono ?_
    rintro e w3 ⟨rfl, hk3⟩
    have HK3 := Lib.hid ((HK2.out.alloc _).trans hk3)
    clear hk3
    go_wp2_with fail
    go_ret
    exact ⟨rfl, HK3.out⟩

end Go.Proofs.YtmhlmoojmdfnfaaDoor
