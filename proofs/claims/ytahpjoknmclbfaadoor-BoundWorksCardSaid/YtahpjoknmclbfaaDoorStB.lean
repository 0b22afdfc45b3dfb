/- The ones of a number, rising (no program in sight); Package sets: Least, With, Each (its iterator's contract); bits.TrailingZeros64; walked. -/
import Derived.Lib.TrailingZeros
import Derived.Test.YtahpjoknmclbfaaDoorProg
import Derived.Test.YtahpjoknmclbfaaDoorMem
import Derived.Shelf.Spec.TrailingZeros
import Derived.Laws.BitsAllLaws
import Derived.WalkKit
import Derived.RangeFuncNested
import Derived.RangeFuncLeaves
import Derived.Shelf.Abstract
import Derived.OwnWalkIn
import Derived.TacticsInMore
import Derived.LoopNIn
import Derived.LoopIn

/- The ones of a number, rising (no program in sight). -/
namespace Go.Proofs.YtahpjoknmclbfaaDoor

theorem filter_range_cons (p : Nat → Bool) (k : Nat) (h1 : p k = true) (h2 : ∀ i, i < k → p i = false) : ∀ n, k < n → (List.range n).filter p = k :: (List.range n).filter (fun i => p i && i != k)
  | 0, h => by omega
  | n + 1, h => by
    rw [List.range_succ, List.filter_append, List.filter_append]
    by_cases hk : k < n
    · rw [filter_range_cons p k h1 h2 n hk, List.cons_append]
      have hne : (n != k) = true := by simp; omega
      simp [List.filter_cons, hne]
    · obtain rfl : k = n := by omega
      have e1 : (List.range k).filter p = [] := List.filter_eq_nil_iff.2 fun x hx => by rw [h2 x (List.mem_range.1 hx)]; simp
      have e2 : (List.range k).filter (fun i => p i && i != k) = [] := List.filter_eq_nil_iff.2 fun x hx => by rw [h2 x (List.mem_range.1 hx)]; simp
      rw [e1, e2]
      simp [h1]
/-- The ones of a number below 2^64, rising. -/
def bitsL (x : Nat) : List Nat := (List.range 64).filter fun i => x.testBit i
theorem bitsL_zero : bitsL 0 = [] := by simp [bitsL]
theorem bitsL_mem {x i : Nat} : i ∈ bitsL x ↔ i < 64 ∧ x.testBit i = true := by simp [bitsL]
theorem ctz_bits {x : Nat} (h0 : x ≠ 0) (h : x < 18446744073709551616) : Lib.ctz 64 x < 64 ∧ ∀ i, (x &&& (x - 1)).testBit i = (x.testBit i && i != Lib.ctz 64 x) ∧ (i < Lib.ctz 64 x → x.testBit i = false) ∧ (i = Lib.ctz 64 x → x.testBit i = true) := by
  unfold Lib.ctz
  rw [if_neg h0]
  obtain ⟨m, hm, hk⟩ := Lib.ctzFrom_spec 64 x (by omega) (by omega)
  generalize Lib.ctzFrom 64 x = k at *
  refine ⟨hk, fun i => ?_⟩
  have hp : 0 < 2 ^ k := Nat.two_pow_pos k
  have hlow : i < k → x.testBit i = false := fun hi => by
    rw [hm, Nat.mul_comm, Nat.testBit_mul_two_pow]
    simp; omega
  have hat : i = k → x.testBit i = true := fun hi => by
    subst hi
    rw [hm, Nat.mul_comm, Nat.testBit_mul_two_pow]
    simp [Nat.testBit_zero]
  refine ⟨?_, hlow, hat⟩
  rw [Nat.testBit_and]
  rcases Nat.lt_trichotomy i k with hi | hi | hi
  · rw [hlow hi]; simp
  · rw [hat hi]
    subst hi
    have e : x - 1 = 2 ^ (i + 1) * m + (2 ^ i - 1) := by
      rw [hm, Nat.pow_succ, Nat.mul_add, ← Nat.mul_assoc, Nat.mul_one]
      omega
    rw [e, Nat.testBit_two_pow_mul_add _ (by rw [Nat.pow_succ]; omega)]
    simp [Nat.testBit_two_pow_sub_one]
  · have e : x - 1 = 2 ^ (k + 1) * m + (2 ^ k - 1) := by
      rw [hm, Nat.pow_succ, Nat.mul_add, ← Nat.mul_assoc, Nat.mul_one]
      omega
    have e2 : x = 2 ^ (k + 1) * m + 2 ^ k := by
      rw [hm, Nat.pow_succ, Nat.mul_add, ← Nat.mul_assoc, Nat.mul_one]
    have e3 : (x - 1).testBit i = x.testBit i := by
      rw [e, e2, Nat.testBit_two_pow_mul_add _ (by rw [Nat.pow_succ]; omega), Nat.testBit_two_pow_mul_add _ (by rw [Nat.pow_succ]; omega), if_neg (by omega), if_neg (by omega)]
    rw [e3]
    have hne : (i != k) = true := by simp; omega
    rw [hne]; simp
/-- The least one comes first. -/
theorem bitsL_step {x : Nat} (h0 : x ≠ 0) (h : x < 18446744073709551616) : bitsL x = Lib.ctz 64 x :: bitsL (x &&& (x - 1)) := by
  obtain ⟨hk, hb⟩ := ctz_bits h0 h
  unfold bitsL
  rw [filter_range_cons (fun i => x.testBit i) (Lib.ctz 64 x) ((hb _).2.2 rfl) (fun i hi => (hb i).2.1 hi) 64 hk]
  congr 1
  exact List.filter_congr fun i _ => ((hb i).1).symm
theorem and_pred_lt {x : Nat} (h0 : x ≠ 0) : x &&& (x - 1) < x := Nat.lt_of_le_of_lt Nat.and_le_right (by omega)

/-- The set of the numbers below k that have a property. -/
def setN (p : Nat → Bool) : Nat → Nat
  | 0 => 0
  | k + 1 => if p k = true then setN p k ||| 2 ^ k else setN p k
theorem setN_bit (p : Nat → Bool) : ∀ k i, (setN p k).testBit i = (decide (i < k) && p i)
  | 0, i => by simp [setN]
  | k + 1, i => by
    unfold setN
    split
    · rename_i hp
      rw [Nat.testBit_or, setN_bit p k i, Nat.testBit_two_pow]
      by_cases hik : i = k
      · subst hik; simp [hp]
      · by_cases hlt : i < k
        · simp [hlt, show i < k + 1 by omega, show ¬ k = i by omega]
        · simp [hlt, show ¬ i < k + 1 by omega, show ¬ k = i by omega]
    · rename_i hp
      rw [setN_bit p k i]
      by_cases hik : i = k
      · subst hik; simp [show p i = false by simpa using hp]
      · by_cases hlt : i < k
        · simp [hlt, show i < k + 1 by omega]
        · simp [hlt, show ¬ i < k + 1 by omega]
theorem setN_lt (p : Nat → Bool) (k : Nat) (hk : k ≤ 64) : setN p k < 18446744073709551616 := by
  have h : setN p k < 2 ^ 64 := Nat.lt_pow_two_of_testBit _ fun i hi => by rw [setN_bit]; simp; omega
  simpa using h
theorem bitsL_setN (p : Nat → Bool) (k : Nat) (hk : k ≤ 64) : bitsL (setN p k) = (List.range k).filter p := by
  have h : ∀ d, (List.range (k + d)).filter (fun i => (setN p k).testBit i) = (List.range k).filter p := fun d => by
    induction d with
    | zero => exact List.filter_congr fun i hi => by have hi' : i < k := List.mem_range.1 hi; rw [setN_bit]; simp [hi']
    | succ d ih =>
      rw [← Nat.add_assoc, List.range_succ, List.filter_append, ih]
      have e : (setN p k).testBit (k + d) = false := by rw [setN_bit, show decide (k + d < k) = false by simp]; rfl
      simp [e]
  have := h (64 - k)
  rw [show k + (64 - k) = 64 by omega] at this
  exact this

end Go.Proofs.YtahpjoknmclbfaaDoor

/- Package sets: Least, With, Each (its iterator's contract); bits.TrailingZeros64; walked. -/
namespace Go.Proofs.YtahpjoknmclbfaaDoor
open Go.RowKit Go.Shelf

attribute [local go_sem] Oper.semAt_some

/-- The library's table of de Bruijn lies. -/
def HasDb (w : World) : Prop := TabAt 0 Lib.deBruijn64tab w
theorem HasDb.old {w w' : World} (h : HasDb w) (hk : Kept [] w w') : HasDb w' := fun j hj => hk.cell_some (h j hj) (by simp)
theorem HasDb.kept {G : List Nat} {w w' : World} (h : HasDb w) (hk : Kept G w w') (hg : 0 ∉ G) : HasDb w' := fun j hj => hk.cell_some (h j hj) hg

theorem tz64_core (x k idx : Nat) (w : World) (hx0 : ((x : Int) == 0) = false)
    (key : IntKind.u64.wrap (bits BinOp.and IntKind.u64 (x : Int) (IntKind.u64.wrap (-(x : Int))) * 285870213051353865) / 288230376151711744 = (idx : Int))
    (hi : idx < 64) (hk : k < 64) (hcell : w.cell? ⟨0, idx, none⟩ = some (.int .u8 k)) :
    Calls Tryd.prog 64 #[.int .u64 x] w fun e w' => e = .returned (.int .i64 k) ∧ w' = w := by
  go_enter Tryd.func64, Tryd.ntmps64
  go_wp2_with (simp only [key])
  go_ret
  exact ⟨rfl, rfl⟩
theorem tz64_any (x : Nat) (h0 : x ≠ 0) (hx : x < 18446744073709551616) (w : World) (hT : HasDb w) : Calls Tryd.prog 64 #[.int .u64 x] w fun e w' => e = .returned (.int .i64 (Lib.ctz 64 x)) ∧ w' = w := by
  obtain ⟨hlow, hk⟩ := Lib.lowest_bit 64 x h0 hx
  obtain ⟨hi, htab⟩ := Lib.deBruijn64_at _ hk
  have hcell := hT _ hi
  rw [htab] at hcell
  exact tz64_core x _ _ w (by simp; omega) (tz64_key x _ hx h0 hlow) hi hk hcell
theorem sLeast_any (x : Nat) (h0 : x ≠ 0) (hx : x < 18446744073709551616) (w : World) (hT : HasDb w) : Calls Tryd.prog 49 #[.int .u64 x] w fun e w' => e = .returned (.int .i64 (Lib.ctz 64 x)) ∧ w' = w := by
  have HC := Lib.hid (tz64_any x h0 hx w hT)
  have hb : ((x : Int) == 0) = false := beq_eq_false_iff_ne.2 (by omega)
  generalize Lib.ctz 64 x = k at *
  clear h0 hT
  go_enter Tryd.func49, Tryd.ntmps49
  go_wp2_with fail
  refine (HC.out).mono ?_
  rintro e w1 ⟨rfl, rfl⟩
  go_wp2_with fail
  go_ret
  exact ⟨rfl, rfl⟩
theorem two_pow_lt64 {n : Nat} (h : n < 64) : 2 ^ n < 18446744073709551616 := by
  have := Nat.pow_lt_pow_right (a := 2) (by omega) h
  omega
theorem sbit_any (n : Nat) (w : World) (hn : n < 64) : Calls Tryd.prog 59 #[.int .i64 n] w fun e w' => e = .returned (.int .u64 (2 ^ n : Nat)) ∧ w = w' := by
  have hp := two_pow_lt64 hn
  have hw2 : ((2 : Int) ^ n) = ((2 ^ n : Nat) : Int) := by simp
  generalize 2 ^ n = p at *
  have hq0 : (0 : Int) ≤ (n : Int) := by omega
  have hq1 : (n : Int) ≤ 64 := by omega
  have b2 : decide ((64 : Int) ≤ (n : Int)) = false := by simp; omega
  have hwr : IntKind.u64.wrap (n : Int) = (n : Int) := IntWalk.u64_in _ (by omega)
  go_enter Tryd.func59, Tryd.ntmps59
  go_wp2_with fail
  go_ret
  exact ⟨by first | rfl | (congr 2; omega), rfl⟩
theorem sWith_any (s n : Nat) (w : World) (hs : s < 18446744073709551616) (hn : n < 64) : Calls Tryd.prog 75 #[.int .u64 s, .int .i64 n] w fun e w' => e = .returned (.int .u64 (s ||| 2 ^ n : Nat)) ∧ w = w' := by
  have HC := Lib.hid (sbit_any n w hn)
  have hor := bits_or_u64_nat s (2 ^ n) hs (two_pow_lt64 hn)
  generalize s ||| 2 ^ n = r at *
  generalize 2 ^ n = p at *
  go_enter Tryd.func75, Tryd.ntmps75
  go_wp2_with fail
  refine (HC.out).mono ?_
  rintro e w1 ⟨rfl, rfl⟩
  go_wp2_with fail
  go_ret
  exact ⟨by first | rfl | (congr 2), rfl⟩

/-- The ones of a number, as a type. -/
abbrev BitOf (x : Nat) := { i : Nat // i ∈ bitsL x }
/-- What an iterator over the ones wants kept. -/
def KeepDb (W W' : World) : Prop := HasDb W → HasDb W'

set_option maxRecDepth 100000 in
set_option maxHeartbeats 2000000 in
theorem each1_in (n : Nat) (hn : 1 ≤ n) (l Bs x : Nat) (hx : x < 18446744073709551616) (J Jx : List (BitOf x) → World → Prop)
    (hY : ∀ pre y W, J pre W → pre.length < 64 → YieldAt Fence.wide (n - 1) Tryd.prog l #[.int .i64 (y.1 : Nat)] W fun e W' =>
      (e = .returned (.bool true) ∧ J (pre ++ [y]) W' ∧ KeepDb W W') ∨ (e = .returned (.bool false) ∧ Jx (pre ++ [y]) W'))
    (W : World) (hBs : W.cell? ⟨Bs, 0, none⟩ = some (.int .u64 x)) (hT : HasDb W) (h0 : J [] W) :
    CallsIn Fence.wide n Tryd.prog 61 #[.func (.yield l) #[] #[], .pointer (some ⟨Bs, 0, none⟩)] W fun e W' => (∃ v, e = .returned v) ∧
      ((∃ ys, ys.map Subtype.val = bitsL x ∧ J ys W') ∨ (∃ pre, (∃ r, pre.map Subtype.val ++ r = bitsL x) ∧ Jx pre W')) := by
  have HY := Lib.hid hY
  have HT := Lib.hid hT
  clear hY hT
  refine callsIn_of_wp Tryd.func61 rfl trivial ?_ rfl
  simp only [Tryd.ntmps61, List.size_toArray, List.length_cons, List.length_nil, Nat.reduceAdd, Nat.reduceSub, Array.replicate_succ, Array.replicate_zero, List.push_toArray, List.append_toArray, List.nil_append, List.cons_append]
  gi_wp2
  gi_loopw [3] (fun i wr => ∃ (r : Nat) (pre : List (BitOf x)), i = .int .u64 r ∧ r ≤ x ∧ Hid (pre.map Subtype.val ++ bitsL r = bitsL x) ∧ Hid (J pre wr) ∧ Hid (HasDb wr))
    (fun i _ => (intOf i).toNat)
  case atStart => exact ⟨x, [], rfl, Nat.le_refl _, (by show List.map Subtype.val [] ++ bitsL x = bitsL x; rfl), h0, HT.out⟩
  case round =>
    obtain ⟨r, pre, rfl, hr, HP, HJ, HD⟩ := hrel
    by_cases h0r : r = 0
    · subst h0r
      gi_wp2
      go_end0
      exact ⟨⟨_, rfl⟩, .inl ⟨pre, by have := HP.out; rw [bitsL_zero, List.append_nil] at this; exact this, HJ.out⟩⟩
    · have hst := bitsL_step h0r (Nat.lt_of_le_of_lt hr hx)
      have hpl : pre.length < 64 := by
        have h1 := congrArg List.length HP.out
        rw [hst] at h1
        have h2 : (bitsL x).length ≤ 64 := by
          have := List.length_filter_le (fun i => x.testBit i) (List.range 64)
          simpa [bitsL] using this
        simp at h1
        omega
      have hmem : Lib.ctz 64 r ∈ bitsL x := by rw [← HP.out, hst]; simp
      have hyv := HY.out pre ⟨_, hmem⟩ wr HJ.out hpl
      have HNX : Hid ((pre ++ [(⟨_, hmem⟩ : BitOf x)]).map Subtype.val ++ bitsL (r &&& (r - 1)) = bitsL x) := by
        show List.map Subtype.val (pre ++ [(⟨_, hmem⟩ : BitOf x)]) ++ bitsL (r &&& (r - 1)) = bitsL x
        have h1 := HP.out
        rw [hst] at h1
        rw [List.map_append, List.append_assoc]
        exact h1
      have HLE := Lib.hid (sLeast_any r h0r (Nat.lt_of_le_of_lt hr hx) wr HD.out)
      have hand := bits_and_u64_nat r (r - 1) (Nat.lt_of_le_of_lt hr hx) (by omega)
      have hpr : ((r : Int) - 1) = ((r - 1 : Nat) : Int) := by omega
      have hwr : IntKind.u64.wrap ((r : Int) - 1) = ((r - 1 : Nat) : Int) := by rw [hpr]; exact IntWalk.u64_in _ (by omega)
      have hlt := and_pred_lt h0r
      have hb : ((r : Int) != 0) = true := by rw [bne_iff_ne]; omega
      have hrx : r &&& (r - 1) ≤ x := by omega
      clear hst hpl hpr
      generalize r &&& (r - 1) = rn at *
      obtain ⟨fn, tmps, assign, body, hy, hR⟩ := hyv
      dsimp only at hy
      generalize Lib.ctz 64 r = k at *
      gi_wp2_with (refine ⟨trivial, ?_⟩; gi_at_call 49; refine (callsIn_wide.2 HLE.out).mono ?_; rintro e w1 ⟨rfl, rfl⟩)
      refine hR.mono ?_
      rintro e W3 (⟨rfl, hJ3, hk3⟩ | ⟨rfl, hJx3⟩)
      · gi_wp2
        go_roundw
        case rel => exact ⟨rn, _, by first | rfl | exact congrArg (Value.int .u64) hand, hrx, HNX.out, hJ3, hk3 HD.out⟩
        case measure => simp [intOf, hand]; omega
      · gi_wp2
        refine bodyPost_ret (results_none rfl _ _ _) rfl ?_
        exact ⟨⟨_, rfl⟩, .inr ⟨_, ⟨_, HNX.out⟩, hJx3⟩⟩

set_option maxHeartbeats 1000000 in
theorem each_in (n x : Nat) (w : World) :
    CallsIn Fence.wide n Tryd.prog 45 #[.int .u64 x] w fun e w' => e = .returned (.func (.func 61) #[] #[.pointer (some ⟨w.heap.size, 0, none⟩)]) ∧ w' = w.alloc (.cells #[.int .u64 x] 30) := by
  refine callsIn_of_wp Tryd.func45 rfl trivial ?_ rfl
  simp only [Tryd.ntmps45, List.size_toArray, List.length_cons, List.length_nil, Nat.reduceAdd, Nat.reduceSub, Array.replicate_succ, Array.replicate_zero, List.push_toArray, List.append_toArray, List.nil_append, List.cons_append]
  gi_wp2
  go_ret
  exact ⟨rfl, rfl⟩

theorem each_stops (n : Nat) (hn : 1 ≤ n) (Bs x : Nat) (hx : x < 18446744073709551616) (w : World) (hBs : Bs < w.heap.size) (hg : 0 < w.heap.size) (hc : w.cell? ⟨Bs, 0, none⟩ = some (.int .u64 x)) (hT : HasDb w) :
    SeqStopsK Fence.wide n Tryd.prog 61 #[.pointer (some ⟨Bs, 0, none⟩)] (fun y : BitOf x => #[Value.int .i64 ((y.1 : Nat) : Int)]) KeepDb (fun ys => ys.map Subtype.val = bitsL x)
      (fun pre => ∃ r, pre.map Subtype.val ++ r = bitsL x) 64 w := fun l J Jx W hW _ _ hY h0 =>
  each1_in n hn l Bs x hx J Jx hY W ((hW.cell (p := ⟨Bs, 0, none⟩) hBs).trans hc) (fun j hj => (hW.cell (p := ⟨0, j, none⟩) hg).trans (hT j hj)) h0

end Go.Proofs.YtahpjoknmclbfaaDoor

