/- Package bosunref01: Row, Set, Put: a set as a row of truths. -/
import Derived.Test.YtfoeijiejpenpaaGreatDoorProg
import Derived.Test.YtfoeijiejpenpaaGreatDoorMem
import Derived.Test.YtfoeijiejpenpaaGreatDoorRowK
import Derived.Laws.ResultCell
import Derived.Laws.BitsAllLaws
namespace Go.Proofs.YtfoeijiejpenpaaGreatDoor
open Go.RowKit

/-- The row of truths of a set. -/
def rowB (s : Nat) : List Bool := (List.range 64).map fun i => s.testBit i
def setB : List Bool → Nat
  | [] => 0
  | b :: t => 2 * setB t + b.toNat
theorem rowB_len (s : Nat) : (rowB s).length = 64 := by simp [rowB]
theorem setB_bit : ∀ (l : List Bool) (i : Nat), (setB l).testBit i = l.getD i false
  | [], i => by simp [setB]
  | b :: t, 0 => by cases b <;> simp [setB, Nat.testBit_zero]
  | b :: t, i + 1 => by
    rw [setB, Nat.testBit_succ, show (2 * setB t + b.toNat) / 2 = setB t by cases b <;> simp <;> omega, setB_bit t i]
    simp
theorem setB_lt : ∀ (l : List Bool), setB l < 2 ^ l.length
  | [] => by simp [setB]
  | b :: t => by
    have := setB_lt t
    rw [setB, List.length_cons, Nat.pow_succ]
    cases b <;> simp <;> omega
theorem setB_put (s i : Nat) (hs : s < 18446744073709551616) (hi : i < 64) : setB ((rowB s).set i true) = s ||| 2 ^ i := by
  refine Nat.eq_of_testBit_eq fun j => ?_
  rw [setB_bit, Nat.testBit_or, Nat.testBit_two_pow]
  by_cases hj : j < 64
  · by_cases he : i = j
    · subst he
      simp [List.getD, rowB_len, hi]
    · simp [List.getD, he, rowB, hj]
  · have hs2 : s.testBit j = false := Nat.testBit_lt_two_pow (Nat.lt_of_lt_of_le hs (Nat.pow_le_pow_right (n := 2) (i := 64) (by omega) (by omega)))
    have he : i ≠ j := by omega
    simp [List.getD, hs2, he, rowB, show 64 ≤ j by omega]
theorem setB_row (s : Nat) (hs : s < 18446744073709551616) : setB (rowB s) = s := by
  refine Nat.eq_of_testBit_eq fun j => ?_
  rw [setB_bit]
  by_cases hj : j < 64
  · simp [List.getD, rowB, hj]
  · have hs2 : s.testBit j = false := Nat.testBit_lt_two_pow (Nat.lt_of_lt_of_le hs (Nat.pow_le_pow_right (n := 2) (i := 64) (by omega) (by omega)))
    simp [List.getD, hs2, rowB, show 64 ≤ j by omega]
/-- The cells of a row. -/
def bC (l : List Bool) : Array Value := (l.map Value.bool).toArray
theorem bC_size (l : List Bool) : (bC l).size = l.length := by simp [bC]
theorem bC_get (l : List Bool) (i : Nat) (h : i < l.length) : (bC l)[i]? = some (.bool (l.getD i false)) := by
  simp [bC, List.getD, h]
theorem bC_set (l : List Bool) (i : Nat) (b : Bool) : (bC l).setIfInBounds i (.bool b) = bC (l.set i b) := by
  simp [bC]
theorem bC_one (l : List Bool) : (bC l).all (·.oneCell') = true := by
  rw [Array.all_eq_true_iff_forall_mem]
  intro x hx
  simp [bC] at hx
  rcases hx with ⟨_, rfl⟩ | ⟨_, rfl⟩ <;> rfl
/-- What Row has laid behind k rounds. -/
def rowK (s k : Nat) : List Bool := (List.range 64).map fun i => decide (i < k) && s.testBit i
theorem rowK_len (s k : Nat) : (rowK s k).length = 64 := by simp [rowK]
theorem rowK_zero (s : Nat) : bC (rowK s 0) = bC (List.replicate 64 false) := by
  congr 1
theorem rowK_step (s k : Nat) : (rowK s k).set k (s.testBit k) = rowK s (k + 1) := by
  refine List.ext_getElem? fun j => ?_
  rw [List.getElem?_set, rowK_len]
  by_cases h : k = j
  · subst h
    by_cases h2 : k < 64 <;> simp [rowK, h2]
  · simp only [h, if_false, rowK, List.getElem?_map]
    by_cases h2 : j < 64
    · have e : decide (j < k) = decide (j < k + 1) := by rw [Bool.eq_iff_iff]; simp; omega
      simp [List.getElem?_range h2, e]
    · simp [h2]
theorem rowK_done (s : Nat) : rowK s 64 = rowB s := by
  refine List.map_congr_left fun i hi => ?_
  simp at hi
  simp [hi]

theorem Tryz.size125 : (Tryz.prog.info? 125).map (·.size) = some 64 := by kernel_rfl

/-- A whole array is stored: the world behind it under a name. -/
theorem wpList_store_blk {P : Program} {ops : Array Oper} {rest : List Oper} {o : Oper} {a : Act} {w : World} {Q : Exit → Act → World → Prop} (hgd : o.guard = none) (ty : TypeId) (x y : Operand) (ho : o.op = .store ty x y)
    (g : Nat) (cells : Array Value) (hx : a.eval x = .pointer (some ⟨g, 0, none⟩)) (hy : a.eval y = .agg cells)
    (t : TypeId) (old : Array Value) (hg : Blk w g t old) (hi : (P.info? ty).map (·.size) = some cells.size)
    (hold : old.size = cells.size) (h1 : cells.all (·.oneCell') = true)
    (h : ∀ W2, Blk W2 g t cells → Kept [g] w W2 → wpList P ops Q rest (a.put o.dst undef) W2) : wpList P ops Q (o :: rest) a w :=
  wpList_store_row hgd ty x y ho g cells hx hy t old hg hi hold h1 (h _ (hg.setRow _) ((Kept.refl _ _).setRow (.inl (by simp)) _))
theorem row_size (l : List Bool) (h : l.length = 64) : (Tryz.prog.info? 125).map (·.size) = some (bC l).size := by rw [bC_size, h]; exact Tryz.size125

set_option maxHeartbeats 3200000 in
set_option maxRecDepth 100000 in
theorem refRow (s : Nat) (w : World) (hs : s < 18446744073709551616) : Calls Tryz.prog 97 #[.int .u64 s] w fun e w' => e = .returned (.agg (bC (rowB s))) ∧ Kept [] w w' := by
  go_enter Tryz.func97, Tryz.ntmps97
  go_wp2_with fail
  go_loopw [0, 4] (fun sv iv wr => ∃ k : Nat, k ≤ 64 ∧ sv = .int .u64 (s / 2 ^ k : Nat) ∧ iv = .int .i64 k ∧ Hid (Blk wr w.heap.size 125 (bC (List.replicate 64 false))) ∧ Hid (Blk wr (w.heap.size + 1) 125 (bC (rowK s k))) ∧ Hid (Kept [] w wr)) (fun _ i _ => 64 - (intOf i).toNat)
  case atStart => exact ⟨0, by omega, by simp, rfl, (Blk.new w 125 (bC (List.replicate 64 false))).alloc _, by rw [rowK_zero]; exact Blk.newAt (by simp) 125 (bC (List.replicate 64 false)), ((Kept.refl _ _).alloc _).alloc _⟩
  case round =>
    obtain ⟨k, hk, rfl, rfl, HB0, HB1, HK⟩ := hrel
    by_cases hlt : k < 64
    · have hfr := HB1.out.frozen
      have hlt1 := HB1.out.lt
      have hc1 : wr.cell? ⟨w.heap.size + 1, k, none⟩ = some (.bool ((rowK s k).getD k false)) := by rw [HB1.out.cell, bC_get _ _ (by rw [rowK_len]; exact hlt)]
      have hyb : s / 2 ^ k < 18446744073709551616 := Nat.lt_of_le_of_lt (Nat.div_le_self _ _) hs
      have htb : s.testBit k = decide (s / 2 ^ k % 2 = 1) := Nat.testBit_eq_decide_div_mod_eq
      have HST := Lib.hid (rowK_step s k)
      have HD : Hid (s / 2 ^ (k + 1) = s / 2 ^ k / 2) := by show _ = _; rw [Nat.pow_succ, ← Nat.div_div_eq_div_mul]
      generalize s.testBit k = tb at *
      generalize s / 2 ^ k = y at *
      have hb : (((y : Int) % 2) == 1) = tb := by rw [htb, Bool.eq_iff_iff]; simp; omega
      have hi0 : (0 : Int) ≤ (k : Int) := by omega
      have hi1 : (k : Int) < 64 := by omega
      clear htb
      go_wp2_with fail
      go_roundw
      case rel =>
        refine ⟨k + 1, by omega, by rw [HD.out]; go_num, by go_num, ?_, ?_, HK.out.setCell (.inr (by simp)) _⟩
        · exact HB0.out.far (by simp) _
        · rw [← HST.out, ← bC_set]; exact HB1.out.set _ _
      case measure => simp [intOf]; omega
    · obtain rfl : k = 64 := by omega
      rw [rowK_done] at HB1
      go_wp2_with (first
        | refine wpList_load_row rfl 125 _ rfl (w.heap.size + 1) rfl 125 (bC (rowB s)) (0, 0) _ HB1.out Tryz.underlying125 rfl (row_size _ (rowB_len s)) ?_
        | refine wpList_store_row rfl 125 _ _ rfl w.heap.size (bC (rowB s)) rfl rfl 125 (bC (List.replicate 64 false)) HB0.out (row_size _ (rowB_len s)) (by rw [bC_size, bC_size, rowB_len]; rfl) (bC_one _) ?_)
      refine bodyPost_ret (v := .agg (bC (rowB s))) (results_cell_row rfl _ _ w.heap.size 125 _ (0, 0) _ rfl (HB0.out.setRow _) Tryz.underlying125 rfl (row_size _ (rowB_len s))) rfl ⟨rfl, HK.out.setRow (.inr (Nat.le_refl _)) _⟩

set_option maxHeartbeats 3200000 in
set_option maxRecDepth 100000 in
theorem refSet (f : List Bool) (w : World) (hf : f.length = 64) : Calls Tryz.prog 98 #[.agg (bC f)] w fun e w' => e = .returned (.int .u64 (setB f : Nat)) ∧ Kept [] w w' := by
  have HF := Lib.hid hf
  clear hf
  go_enter Tryz.func98, Tryz.ntmps98
  go_wp2_with fail
  have HB : Hid (Blk (w.alloc (.cells (bC f) 125)) w.heap.size 125 (bC f)) := Blk.new _ _ _
  go_loop [3, 4] (fun sv iv => ∃ k : Nat, k ≤ 64 ∧ sv = .int .u64 (setB (f.drop k) : Nat) ∧ iv = .int .i64 ((k : Int) - 1)) (fun _ i => ((intOf i) + 1).toNat)
  case atStart => exact ⟨64, by omega, by rw [List.drop_of_length_le (by rw [HF.out]; omega)]; rfl, rfl⟩
  case round =>
    obtain ⟨k, hk, rfl, rfl⟩ := hrel
    rcases k with _ | m
    · have h0 : (((0 : Nat) : Int) - 1) = -1 := rfl
      rw [h0]
      rw [List.drop_zero]
      clear h0
      go_wp2_with fail
      go_ret
      exact ⟨rfl, (Kept.refl _ _).alloc _⟩
    · have hml : m < f.length := by rw [HF.out]; omega
      have hsn : setB (f.drop m) = 2 * setB (f.drop (m + 1)) + (f.getD m false).toNat := by
        rw [List.drop_eq_getElem_cons hml, setB]
        simp [List.getD, hml]
      have hlt : setB (f.drop (m + 1)) < 9223372036854775808 := by
        have h1 := setB_lt (f.drop (m + 1))
        rw [List.length_drop, HF.out] at h1
        exact Nat.lt_of_lt_of_le h1 (Nat.pow_le_pow_right (n := 2) (j := 63) (by omega) (by omega))
      have hc1 : (w.alloc (.cells (bC f) 125)).cell? ⟨w.heap.size, m, none⟩ = some (.bool (f.getD m false)) := by rw [HB.out.cell, bC_get _ _ hml]
      have HSN := Lib.hid hsn
      generalize setB (f.drop (m + 1)) = y at *
      generalize f.getD m false = tb at *
      have hij : (((m + 1 : Nat) : Int) - 1) = (m : Int) := by omega
      rw [hij]
      have hi0 : (0 : Int) ≤ (m : Int) := by omega
      have hi1 : (m : Int) < 64 := by omega
      have hy2 : (0 : Int) ≤ (y : Int) * 2 := by omega
      have hy3 : (y : Int) * 2 < 18446744073709551615 := by omega
      clear hsn hml hij
      cases tb
      · go_wp2_with fail
        go_round
        case rel => exact ⟨m, by omega, by rw [HSN.out]; simp only [Bool.toNat_false, Nat.add_zero]; rw [Nat.mul_comm]; go_num, rfl⟩
        case measure => simp [intOf]
      · go_wp2_with fail
        go_round
        case rel => exact ⟨m, by omega, by rw [HSN.out]; simp only [Bool.toNat_true]; rw [Nat.mul_comm]; go_num, rfl⟩
        case measure => simp [intOf]

set_option maxHeartbeats 3200000 in
set_option maxRecDepth 100000 in
theorem refPut1 (s i : Nat) (w : World) (hs : s < 18446744073709551616) (hi : i < 64) : Calls Tryz.prog 72 #[.int .u64 s, .int .i64 i, .bool true] w fun e w' => e = .returned (.int .u64 (s ||| 2 ^ i : Nat)) ∧ Kept [] w w' := by
  have HRW := Lib.hid (fun w => refRow s w hs)
  have HST : Hid (∀ w, Calls Tryz.prog 98 #[.agg (bC ((rowB s).set i true))] w fun e w' => e = .returned (.int .u64 (s ||| 2 ^ i : Nat)) ∧ Kept [] w w') := fun w => by
    have := refSet ((rowB s).set i true) w (by rw [List.length_set, rowB_len])
    rw [setB_put s i hs hi] at this
    exact this
  generalize s ||| 2 ^ i = r at *
  have hrl := rowB_len s
  generalize rowB s = row at *
  have HRL := Lib.hid hrl
  have HSS := Lib.hid (bC_set row i true)
  have hi0 : (0 : Int) ≤ (i : Int) := by omega
  have hi1 : (i : Int) < 64 := by omega
  clear hrl
  go_enter Tryz.func72, Tryz.ntmps72
  go_wp2_with fail
  refine (HRW.out _).mono ?_
  rintro e w1 ⟨rfl, hk1⟩
  have HK1 := Lib.hid hk1
  clear hk1
  go_wp2_with (first | (refine wpList_store_blk rfl 125 _ _ rfl w1.heap.size (bC row) rfl rfl 125 (bC (List.replicate 64 false)) (Blk.new w1 125 (bC (List.replicate 64 false))) (row_size _ HRL.out) (by rw [bC_size, bC_size, HRL.out]; rfl) (bC_one _) ?_; intro W2 hB2 hK2; have HB2 := Lib.hid hB2; have HK2 := Lib.hid ((HK1.out.alloc _).trans' hK2 (fun k hk => .inr (by have := HK1.out.size; simp at hk; omega))); have hc2 : W2.cell? ⟨w1.heap.size, i, none⟩ = some (.bool (row.getD i false)) := (by rw [hB2.cell, bC_get _ _ (by rw [HRL.out]; exact hi)]); have hf2 := hB2.frozen; have hl2 := hB2.lt; clear hB2 hK2) | (have HB3 : Hid (Blk (W2.setCell ⟨w1.heap.size, i, none⟩ (.bool true)) w1.heap.size 125 (bC (row.set i true))) := (by show Blk _ _ _ _; rw [← HSS.out]; exact HB2.out.set _ _); refine wpList_load_row rfl 125 _ rfl w1.heap.size rfl 125 (bC (row.set i true)) (0, 0) _ HB3.out Tryz.underlying125 rfl (row_size _ (by rw [List.length_set]; exact HRL.out)) ?_))
  refine (HST.out _).mono ?_
  rintro e w3 ⟨rfl, hk3⟩
  have HK3 := Lib.hid ((HK2.out.setCell (.inr HK1.out.size) _).trans hk3)
  clear hk3
  go_wp2_with fail
  go_ret
  exact ⟨rfl, HK3.out⟩

end Go.Proofs.YtfoeijiejpenpaaGreatDoor
