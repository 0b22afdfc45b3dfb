/- bosunref01.Same, walked; the law's example. -/
import Derived.Test.YtfoeijiejpenpaaGreatDoorNewN
import Derived.WalkKit
import Derived.Deep.QuietTactic
import Derived.BigQuiet
namespace Go.Proofs.YtfoeijiejpenpaaGreatDoor
open Go.RowKit

set_option maxHeartbeats 3200000 in
set_option maxRecDepth 100000 in
theorem refSameI (A : Option Addr) (n c : Nat) (A2 : Option Addr) (m d : Nat) (l : List Int) (w : World) (ha : Reads w 1 A n (l.map (Value.int .i64))) (hb : Reads w 1 A2 m (l.map (Value.int .i64))) (hl : l.length ≤ 100000) :
    Calls Tryz.prog 23 #[.slice A n c, .slice A2 m d] w fun e w' => e = .returned (.bool true) ∧ Kept [] w w' := by
  have hn : n = l.length := by have := ha.1; simp at this; omega
  have hm : m = l.length := by have := hb.1; simp at this; omega
  subst hn hm
  have HA := Lib.hid ha
  have HB := Lib.hid hb
  have hbn : ((l.length : Int) != (l.length : Int)) = false := by simp
  clear ha hb
  go_enter Tryz.func23, Tryz.ntmps23
  go_wp2_with fail
  go_loopw [5] (fun kv wr => ∃ k : Nat, k ≤ l.length ∧ kv = .int .i64 k ∧ Hid (Kept [] w wr)) (fun k _ => l.length - (intOf k).toNat)
  case atStart => exact ⟨0, by omega, rfl, Kept.refl _ _⟩
  case round =>
    obtain ⟨k, hk1, rfl, HK⟩ := hrel
    by_cases hlt : k < l.length
    · obtain ⟨b, o, rfl, hb0, hc⟩ := HA.out.addr (by omega) (by omega)
      obtain ⟨b2, o2, rfl, hb2, hc2⟩ := HB.out.addr (by omega) (by omega)
      have hx : (l.map (Value.int .i64))[k]? = some (.int .i64 l[k]) := by rw [List.getElem?_map, List.getElem?_eq_getElem hlt]; rfl
      have c1 := HK.out.cell_some (hc k _ hx) (by simp)
      have c2 := HK.out.cell_some (hc2 k _ hx) (by simp)
      have hi0 : (0 : Int) ≤ (k : Int) := by omega
      have hi1 : (k : Int) < (l.length : Int) := by omega
      generalize l[k] = z at *
      have hz : (z != z) = false := by simp
      clear hc hc2 hx
      go_wp2_with fail
      go_quiet (fail)
      go_wp2_with fail
      go_roundw
      case rel => exact ⟨k + 1, by omega, by go_num, HK.out.trans (by (repeat (first | (with_reducible exact Kept.refl _ _) | (with_reducible assumption) | (with_reducible refine Kept.alloc ?_ _) | (with_reducible refine Kept.drew ?_) | (with_reducible refine Kept.drewN ?_ _) | (with_reducible refine Kept.setCell ?_ ?_ _) | (exact .inr (Nat.le_refl _)) | (exact .inr (by simp only; omega)) | (exact .inr (by omega)))))⟩
      case measure => simp [intOf]; omega
    · obtain rfl : k = l.length := by omega
      go_wp2_with fail
      go_ret
      exact ⟨rfl, HK.out⟩

theorem reads_ints (w : World) (x y : Int) : Reads (w.alloc (.cells #[.int .i64 x, .int .i64 y] 3)) 1 (some ⟨w.heap.size, 0, none⟩) 2 ([x, y].map (Value.int .i64)) :=
  Reads.of_own (own_of_blk (Blk.new w 3 #[.int .i64 x, .int .i64 y]) rfl (by simp only [maxLen, List.length_map, List.length_cons, List.length_nil]; omega))

/-- The example's states. -/
def e0 : Lk := ⟨[-1], [(-1, -1), (-1, -1), (-1, -1)], [7, 7, 7], [7, 7, 7], [([], 0)]⟩
def e1 : Lk := ⟨[-1], [(-1, -1), (-1, -1), (-1, -1)], [5, 7, 7], [5, 7, 7], [([], 0)]⟩
def e2 : Lk := ⟨[-1], [(-1, -1), (-1, -1), (-1, -1)], [5, 3, 7], [5, 3, 7], [([], 0)]⟩
def e3 : Lk := ⟨[-1], [(-1, -1), (-1, -1), (-1, -1)], [5, 3, 1], [5, 3, 1], [([], 0)]⟩
def e4 : Lk := ⟨[0], [(-1, -1), (-1, -1), (-1, -1)], [5, 3, 1], [5, 3, 1], [([], 0)]⟩
def e5 : Lk := ⟨[0], [(-1, -1), (0, -1), (-1, -1)], [5, 3, 1], [3, 3, 1], [([⟨1, 3, 1⟩], 1)]⟩
def e6 : Lk := ⟨[0], [(-1, -1), (0, -1), (0, -1)], [5, 3, 1], [1, 3, 1], [([⟨2, 1, 2⟩, ⟨1, 3, 1⟩], 2)]⟩
def e7 : Lk := ⟨[2], [(-1, -1), (0, -1), (-1, -1)], [5, 3, 1], [5, 3, 1], [([⟨1, 3, 1⟩], 2)]⟩
theorem t1 : setLevelS e0 0 5 = e1 := by kernel_rfl
theorem t2 : setLevelS e1 1 3 = e2 := by kernel_rfl
theorem t3 : setLevelS e2 2 1 = e3 := by kernel_rfl
theorem t4 : ({ e3 with owner := e3.owner.set 0 0 } : Lk) = e4 := by kernel_rfl
theorem t5 : betterS (putS e4 1 0) (getO e4.owner 0) (e4.eff.getD 1 0) = e5 := by kernel_rfl
theorem t6 : betterS (putS e5 2 0) (getO e5.owner 0) (e5.eff.getD 2 0) = e6 := by kernel_rfl
theorem t7 : unlS e6 0 0 = e7 := by kernel_rfl
theorem hw0 : e0.Whole 10 := ⟨by decide, by decide, by decide, by decide, by decide, by decide, by decide, by decide, by decide, by decide, by decide, by decide⟩
theorem hw1 : e1.Whole 10 := ⟨by decide, by decide, by decide, by decide, by decide, by decide, by decide, by decide, by decide, by decide, by decide, by decide⟩
theorem hw2 : e2.Whole 10 := ⟨by decide, by decide, by decide, by decide, by decide, by decide, by decide, by decide, by decide, by decide, by decide, by decide⟩
theorem hw3 : e3.Whole 10 := ⟨by decide, by decide, by decide, by decide, by decide, by decide, by decide, by decide, by decide, by decide, by decide, by decide⟩
theorem hw4 : e4.Whole 10 := ⟨by decide, by decide, by decide, by decide, by decide, by decide, by decide, by decide, by decide, by decide, by decide, by decide⟩
theorem hw5 : e5.Whole 10 := ⟨by decide, by decide, by decide, by decide, by decide, by decide, by decide, by decide, by decide, by decide, by decide, by decide⟩
theorem hw6 : e6.Whole 10 := ⟨by decide, by decide, by decide, by decide, by decide, by decide, by decide, by decide, by decide, by decide, by decide, by decide⟩
theorem hw7 : e7.Whole 10 := ⟨by decide, by decide, by decide, by decide, by decide, by decide, by decide, by decide, by decide, by decide, by decide, by decide⟩
theorem hwa5 : ({ e4 with waits := e4.waits.set 1 ((0 : Nat), -1) } : Lk).Whole 10 := ⟨by decide, by decide, by decide, by decide, by decide, by decide, by decide, by decide, by decide, by decide, by decide, by decide⟩
theorem hwb5 : (putS e4 1 0).Whole 11 := ⟨by decide, by decide, by decide, by decide, by decide, by decide, by decide, by decide, by decide, by decide, by decide, by decide⟩
theorem hwa6 : ({ e5 with waits := e5.waits.set 2 ((0 : Nat), -1) } : Lk).Whole 10 := ⟨by decide, by decide, by decide, by decide, by decide, by decide, by decide, by decide, by decide, by decide, by decide, by decide⟩
theorem hwb6 : (putS e5 2 0).Whole 11 := ⟨by decide, by decide, by decide, by decide, by decide, by decide, by decide, by decide, by decide, by decide, by decide, by decide⟩

set_option maxHeartbeats 6400000 in
set_option maxRecDepth 100000 in
theorem awake26 (w : World) : Calls Tryz.prog 8 #[] w fun e w' => e = .returned (.bool true) ∧ Kept [] w w' := by
  have HN := Lib.hid (lkNew_any 3 1 3 1 rfl rfl w)
  have HS1 : Hid (∀ w' a, LkIs w w' a e0 → Calls Tryz.prog 26 #[.pointer (some ⟨a.g, 0, none⟩), .int .i64 0, .int .i64 5] w' fun e w'' => e = .returned (.bool true) ∧ ∃ a', a'.key = a.key ∧ LkIs w w'' a' e1) := fun w' a h => by have := lkSetLevel_any h hw0 0 5; rw [t1] at this; exact this
  have HS2 : Hid (∀ w' a, LkIs w w' a e1 → Calls Tryz.prog 26 #[.pointer (some ⟨a.g, 0, none⟩), .int .i64 1, .int .i64 3] w' fun e w'' => e = .returned (.bool true) ∧ ∃ a', a'.key = a.key ∧ LkIs w w'' a' e2) := fun w' a h => by have := lkSetLevel_any h hw1 1 3; rw [t2] at this; exact this
  have HS3 : Hid (∀ w' a, LkIs w w' a e2 → Calls Tryz.prog 26 #[.pointer (some ⟨a.g, 0, none⟩), .int .i64 2, .int .i64 1] w' fun e w'' => e = .returned (.bool true) ∧ ∃ a', a'.key = a.key ∧ LkIs w w'' a' e3) := fun w' a h => by have := lkSetLevel_any h hw2 2 1; rw [t3] at this; exact this
  have HS4 : Hid (∀ w' a, LkIs w w' a e3 → Calls Tryz.prog 28 #[.pointer (some ⟨a.g, 0, none⟩), .int .i64 0, .int .i64 0] w' fun e w'' => e = .returned (.tuple #[.bool true, .int .i64 0]) ∧ LkIs w w'' a e4) := fun w' a h => by have := lock_got h hw3 0 0 (by decide) (by decide) (by kernel_rfl) (by decide); exact this
  have HS5 : Hid (∀ w' a, LkIs w w' a e4 → Calls Tryz.prog 28 #[.pointer (some ⟨a.g, 0, none⟩), .int .i64 1, .int .i64 0] w' fun e w'' => e = .returned (.tuple #[.bool false, .int .i64 0]) ∧ ∃ a', a'.key = a.key ∧ LkIs w w'' a' e5) := fun w' a h => by have := lock_wait h hw4 (by omega) 1 0 (by decide) (by decide) (by kernel_rfl) (by decide) (by rfl) hwa5 hwb5; rw [show betterS (putS e4 1 0) (getO e4.owner ((0 : Nat) : Int)) (e4.eff.getD 1 0) = e5 from t5] at this; exact this
  have HS6 : Hid (∀ w' a, LkIs w w' a e5 → Calls Tryz.prog 28 #[.pointer (some ⟨a.g, 0, none⟩), .int .i64 2, .int .i64 0] w' fun e w'' => e = .returned (.tuple #[.bool false, .int .i64 0]) ∧ ∃ a', a'.key = a.key ∧ LkIs w w'' a' e6) := fun w' a h => by have := lock_wait h hw5 (by omega) 2 0 (by decide) (by decide) (by kernel_rfl) (by decide) (by rfl) hwa6 hwb6; rw [show betterS (putS e5 2 0) (getO e5.owner ((0 : Nat) : Int)) (e5.eff.getD 2 0) = e6 from t6] at this; exact this
  have HE6 : Hid (∀ w' a, LkIs w w' a e6 → Calls Tryz.prog 33 #[.pointer (some ⟨a.g, 0, none⟩), .int .i64 0] w' fun e w'' => e = .returned (.int .i64 1) ∧ w' = w'') := fun w' a h => lkEff_any h.at_ 0
  have HL6 : Hid (∀ w' a, LkIs w w' a e6 → Calls Tryz.prog 39 #[.pointer (some ⟨a.g, 0, none⟩), .int .i64 0] w' fun e w'' => ∃ A n c, e = .returned (.slice A n c) ∧ FreshI w' w'' [2, 1] A n c) := fun w' a h => lkLine_any h hw6 0
  have HU : Hid (∀ w' a, LkIs w w' a e6 → Calls Tryz.prog 15 #[.pointer (some ⟨a.g, 0, none⟩), .int .i64 0, .int .i64 0] w' fun e w'' => e = .returned (.tuple #[.int .i64 2, .int .i64 0]) ∧ ∃ a', a'.key = a.key ∧ LkIs w w'' a' e7) := fun w' a h => by
    have := lkUnlock_any h hw6 0 0 (by decide)
    rw [t7, show unlN e6 0 0 = 2 by kernel_rfl, show unlE e6 0 0 = 0 by kernel_rfl] at this
    exact this
  have HE7 : Hid (∀ w' a, LkIs w w' a e7 → Calls Tryz.prog 33 #[.pointer (some ⟨a.g, 0, none⟩), .int .i64 0] w' fun e w'' => e = .returned (.int .i64 5) ∧ w' = w'') := fun w' a h => lkEff_any h.at_ 0
  go_enter Tryz.func8, Tryz.ntmps8
  go_wp2_with fail
  refine (HN.out).mono ?_
  rintro e w1 ⟨a0, jb, rfl, _, _, hl0⟩
  have HL0 : Hid (LkIs w w1 a0 e0) := hl0
  clear hl0
  go_wp2_with fail
  refine (HS1.out _ _ HL0.out).mono ?_
  rintro e w2 ⟨rfl, a1, ha1, hl1⟩
  have HL1 := Lib.hid hl1
  have hq1 : a0.g = a1.g := (congrArg Prod.fst ha1).symm
  clear hl1 ha1
  go_wp2_with fail
  refine (HS2.out _ _ HL1.out).mono ?_
  rintro e w3 ⟨rfl, a2, ha2, hl2⟩
  have HL2 := Lib.hid hl2
  have hq2 : a1.g = a2.g := (congrArg Prod.fst ha2).symm
  clear hl2 ha2
  go_wp2_with fail
  refine (HS3.out _ _ HL2.out).mono ?_
  rintro e w4 ⟨rfl, a3, ha3, hl3⟩
  have HL3 := Lib.hid hl3
  have hq3 : a2.g = a3.g := (congrArg Prod.fst ha3).symm
  clear hl3 ha3
  go_wp2_with fail
  refine (HS4.out _ _ HL3.out).mono ?_
  rintro e w5 ⟨rfl, hl4⟩
  have HL4 := Lib.hid hl4
  clear hl4
  go_wp2_with fail
  refine (HS5.out _ _ HL4.out).mono ?_
  rintro e w6 ⟨rfl, a5, ha5, hl5⟩
  have HL5 := Lib.hid hl5
  have hq5 : a3.g = a5.g := (congrArg Prod.fst ha5).symm
  clear hl5 ha5
  go_wp2_with fail
  refine (HS6.out _ _ HL5.out).mono ?_
  rintro e w7 ⟨rfl, a6, ha6, hl6⟩
  have HL6' := Lib.hid hl6
  have hq6 : a5.g = a6.g := (congrArg Prod.fst ha6).symm
  clear hl6 ha6
  go_wp2_with fail
  refine (HE6.out _ _ HL6'.out).mono ?_
  rintro e w8 ⟨rfl, rfl⟩
  go_wp2_with fail
  refine (HL6.out _ _ HL6'.out).mono ?_
  rintro e w8 ⟨A, n, c, rfl, hf⟩
  have HF := Lib.hid hf
  clear hf
  go_wp2_with fail
  refine (refSameI A n c (some ⟨w8.heap.size, 0, none⟩) 2 2 [2, 1] _ (HF.out.reads.old (by (repeat (first | (with_reducible exact Kept.refl _ _) | (with_reducible assumption) | (with_reducible refine Kept.alloc ?_ _) | (with_reducible refine Kept.drew ?_) | (with_reducible refine Kept.drewN ?_ _) | (with_reducible refine Kept.setCell ?_ ?_ _) | (exact .inr (Nat.le_refl _)) | (exact .inr (by simp only; omega)) | (exact .inr (by omega)))))) (reads_ints w8 2 1) (by decide)).mono ?_
  rintro e w9 ⟨rfl, hk9⟩
  have HL9 := Lib.hid (HL6'.out.old ((HF.out.2.1.trans (show Kept [] w8 _ by (repeat (first | (with_reducible exact Kept.refl _ _) | (with_reducible assumption) | (with_reducible refine Kept.alloc ?_ _) | (with_reducible refine Kept.drew ?_) | (with_reducible refine Kept.drewN ?_ _) | (with_reducible refine Kept.setCell ?_ ?_ _) | (exact .inr (Nat.le_refl _)) | (exact .inr (by simp only; omega)) | (exact .inr (by omega)))))).trans hk9))
  clear hk9 HF
  go_wp2_with fail
  refine (HU.out _ _ HL9.out).mono ?_
  rintro e w10 ⟨rfl, a7, ha7, hl7⟩
  have HL7 := Lib.hid hl7
  have hq7 : a6.g = a7.g := (congrArg Prod.fst ha7).symm
  clear hl7 ha7
  go_wp2_with fail
  refine (HE7.out _ _ HL7.out).mono ?_
  rintro e w11 ⟨rfl, rfl⟩
  go_wp2_with fail
  go_ret
  exact ⟨rfl, HL7.out.kept⟩

end Go.Proofs.YtfoeijiejpenpaaGreatDoor
