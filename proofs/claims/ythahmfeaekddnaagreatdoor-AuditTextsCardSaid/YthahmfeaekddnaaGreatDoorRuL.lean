/- The runner: what makes a block. -/
import Derived.Test.YthahmfeaekddnaaGreatDoorRuK
namespace Go.Proofs.YthahmfeaekddnaaGreatDoor.Ru
open Go Go.RowKit

theorem repL_len (n : Nat) (l : List Value) : (repL n l).length = n * l.length := by
  induction n with
  | zero => simp [repL]
  | succ n ih => rw [repL]; simp [ih, Nat.add_mul, Nat.add_comm]
theorem repL_get (n : Nat) (l : List Value) (i : Nat) (h : i < n * l.length) : (repL n l)[i]? = l[i % l.length]? := by
  induction n generalizing i with
  | zero => simp at h
  | succ n ih =>
    rw [repL]
    by_cases hi : i < l.length
    · rw [List.getElem?_append_left hi, Nat.mod_eq_of_lt hi]
    · rw [List.getElem?_append_right (by omega), ih (i - l.length) (by rw [Nat.add_mul] at h; omega), ← Nat.mod_eq_sub_mod (by omega)]
theorem repL_row (n : Nat) (z : Array Value) : ((Array.range (n * z.size)).map (z[· % z.size]!)).toList = repL n z.toList := by
  refine List.ext_getElem? fun i => ?_
  by_cases hi : i < n * z.size
  · rw [repL_get _ _ _ (by simpa using hi)]
    have hz : i % z.size < z.size := Nat.mod_lt _ (by rcases Nat.eq_zero_or_pos z.size with e | e <;> simp_all)
    simp [hi, hz]
  · rw [List.getElem?_eq_none (by simp; omega), List.getElem?_eq_none (by rw [repL_len]; simp; omega)]
theorem wrap_small {n : Nat} (h : n < 9223372036854775808) : IntKind.i64.wrap (n : Int) = n := by
  rw [← wrapF_eq]
  show cond (Nat.blt n (topOf .i64)) (Int.ofNat n) _ = _
  rw [blt_true (show n < topOf .i64 from h)]
  rfl
section
variable {K : PK} {m : BM} {w : World} {E : Env} {ρ : Operand → Value} {o : Oper}
/-- The operation makes a block, for which this one stands, and nothing else. -/
def Makes (K : PK) (m : BM) (ρ : Operand → Value) (o : Oper) (b : AB) (mk : Nat → Value) (w : World) : Prop :=
  ∃ (obj : Obj) (κ : Nat) (v' : Value), (execOp ρ o).run K.P w = .ok (.value v') (w.alloc obj) ∧ ∀ a m2, MLe m m2 → m2 a = some (w.heap.size, κ) → BRel K m2 (w.alloc obj) a (w.heap.size, κ) b ∧ VRel m2 (mk a) v'
theorem newCells_rel {m2 : BM} (hm : MLe m m2) {cs : List Value} {C : Array Value} {e : TypeId} {a : Nat} (hl : LRel m cs C.toList) : BRel K m2 (w.alloc (.cells C e)) a (w.heap.size, 0) (.cells cs e) :=
  BRel.newCells (m := m2) (fun i u hu => by obtain ⟨u', h1, h2⟩ := hl.get hu; exact ⟨u', by rw [← Array.getElem?_toList]; exact h1, h2.mono hm⟩) (by have := hl.1; simp at this; omega) (fun h => absurd h (Nat.lt_irrefl 0))
theorem alloc_ok (k : KOk K) {t : TypeId} (ho : o.op = .alloc t) {b : AB} {mk : Nat → Value} (hq : q_alloc K t = .alloc b mk) : Makes K m ρ o b mk w := by
  unfold q_alloc at hq
  split at hq
  · rename_i z hz
    cases hq
    obtain ⟨⟨i, _, hi, hzz⟩, hl⟩ := zeroT_ok (m := m) k hz
    refine ⟨.cells z.cells t, 0, .pointer (some ⟨w.heap.size, 0, none⟩), ?_, fun a m2 hm ha => ⟨newCells_rel hm hl, .ptr (x := (w.heap.size, 0)) ha⟩⟩
    simp [execOp, ho, Instr.alloc, zeroValue, typeInfo, hi, hzz, newVar, newRow]
  · cases hq
theorem box_ok (hρ : ∀ x, VRel m (rd E x) (ρ x)) {t : TypeId} {x : Operand} (ho : o.op = .box t x) {b : AB} {mk : Nat → Value} (hq : q_box E t x = .alloc b mk) : Makes K m ρ o b mk w := by
  unfold q_box at hq
  obtain ⟨hj, hq⟩ := Q.cond_eq hq (by simp)
  cases hq
  have hl := (hρ x).cells (notJ_ne hj)
  refine ⟨.cells (ρ x).cells t, 0, .pointer (some ⟨w.heap.size, 0, none⟩), ?_, fun a m2 hm ha => ⟨newCells_rel hm hl, .ptr (x := (w.heap.size, 0)) ha⟩⟩
  simp [execOp, ho, Instr.box, newVar, newRow]
theorem makeMap_ok {t : TypeId} {r : Option Operand} (ho : o.op = .makeMap t r) {b : AB} {mk : Nat → Value} (hq : q_makeMap r = .alloc b mk) : Makes K m ρ o b mk w := by
  cases r with
  | some r => cases hq
  | none =>
    cases hq
    refine ⟨.map #[] 0, 0, .map (some w.heap.size), ?_, fun a m2 hm ha => ⟨⟨#[], heap_alloc_new w _, rfl, fun i e he => by simp at he⟩, .map (x := (w.heap.size, 0)) ha⟩⟩
    simp [execOp, ho, Instr.makeMap]
attribute [local irreducible] big
theorem buildSlice_ok (k : KOk K) (hρ : ∀ x, VRel m (rd E x) (ρ x)) {t : TypeId} {n : Nat} {ps : Array (Nat × Operand)} (ho : o.op = .buildSlice t n ps) {b : AB} {mk : Nat → Value} (hq : q_buildSlice K E t n ps = .alloc b mk) : Makes K m ρ o b mk w := by
  unfold q_buildSlice at hq
  split at hq
  · rename_i e hu
    split at hq
    · rename_i i hi
      split at hq
      · rename_i z hz
        obtain ⟨hc, hq⟩ := Q.cond_eq hq (by simp)
        simp only [Bool.and_eq_true] at hc
        have h1 := Nat.le_of_ble_eq_true hc.1.1
        have h2 := blt_of hc.1.2
        have h3 : z.cells.toList.length = i.size := Nat.eq_of_beq_eq_true hc.2
        split at hq
        · rename_i l hf
          cases hq
          obtain ⟨⟨i', e1, hi', hzz⟩, hl⟩ := zeroT_ok (m := m) k hz
          rw [hi] at e1; cases e1
          have h4 : z.cells.size = i.size := by simpa using h3
          have hrow : LRel m (repL n z.cells.toList) ((Array.range (n * i.size)).map ((if n * i.size = 0 then #[] else z.cells)[· % (if n * i.size = 0 then #[] else z.cells).size]!)).toList := by
            by_cases h0 : n * i.size = 0
            · rw [if_pos h0, h0]
              have : repL n z.cells.toList = [] := List.eq_nil_of_length_eq_zero (by rw [repL_len, h3, h0])
              rw [this]; simp; exact .nil
            · rw [if_neg h0, ← h4, repL_row]
              exact hl.repL n
          obtain ⟨l', f1, f2⟩ := fill_ok (place' := fun j => some (j * i.size, i.size)) (fun _ _ e => e) ps.toList _ _ l hρ hrow hf
          refine ⟨.cells l' e, 0, .slice (some ⟨w.heap.size, 0, none⟩) n n, ?_, fun a m2 hm ha => ⟨newCells_rel hm f2, .slice (x := (w.heap.size, 0)) ha (by rw [capLow_exact h2]; exact Nat.le_refl _) (by rw [capLow_exact h2]; exact h2) (by rw [capLow_exact h2]; exact Nat.le_refl _) (fun _ => rfl) (fun h => by omega)⟩⟩
          have h5 : ¬ 16777216 < n * i.size := by omega
          have h6 : (ps.map fun x => match x with | (i, x) => (i, ρ x)).toList = ps.toList.map fun p => (p.1, ρ p.2) := by simp
          simp only [execOp, ho, Instr.buildSlice, Sem.run_bind, run_underlying (k.und _ _ hu), Result.andThen_ok, sizeOf, typeInfo, run_program, hi', Sem.run_pure]
          rw [if_neg (by simpa using h5)]
          simp only [Sem.run_bind, Result.andThen_ok, h6]
          by_cases h0 : n * i.size = 0
          · rw [if_pos h0] at f1 ⊢
            simp only [Sem.run_bind, Sem.run_pure, Result.andThen_ok]
            rw [f1]; simp [newRow]
          · rw [if_neg h0] at f1 ⊢
            simp only [Sem.run_bind, Sem.run_pure, Result.andThen_ok, zeroValue, typeInfo, run_program, hi', hzz]
            rw [f1]; simp [newRow]
        · cases hq
      · cases hq
    · cases hq
  · cases hq
theorem smallT_ok (k : KOk K) {e : TypeId} (h : smallT K e = true) : ∃ i z, K.info e = some i ∧ K.P.info? e = some i ∧ zeroT K e = some z ∧ i.zero = some z ∧ i.bytes ≤ 65536 ∧ 1 ≤ i.size ∧ z.cells.size = i.size ∧ (∀ v ∈ z.cells.toList, oneC v = true) ∧ LRel m z.cells.toList z.cells.toList := by
  unfold smallT at h
  split at h
  · rename_i i hi
    split at h
    · rename_i z hz
      obtain ⟨⟨i', e1, hi', hzz⟩, hl⟩ := zeroT_ok (m := m) k hz
      rw [hi] at e1; cases e1
      simp only [Bool.and_eq_true] at h
      exact ⟨i, z, hi, hi', hz, hzz, Nat.le_of_ble_eq_true h.1.1.1, Nat.le_of_ble_eq_true h.1.1.2, by simpa using Nat.eq_of_beq_eq_true h.1.2, fun v hv => List.all_eq_true.1 h.2 v hv, hl⟩
    · cases h
  · cases h
theorem makeSlice_ok (k : KOk K) (hρ : ∀ x, VRel m (rd E x) (ρ x)) {t : TypeId} {l c : Operand} (ho : o.op = .makeSlice t l c) {b : AB} {mk : Nat → Value} (hq : q_makeSlice K E t l c = .alloc b mk) : Makes K m ρ o b mk w := by
  have hbp := big_pos
  have h65 : 65536 < big := by unfold big; omega
  unfold q_makeSlice at hq
  split at hq
  · rename_i e l0 k0 hu hl0 hk0
    obtain ⟨kl, el⟩ := natOf_ok hl0 (hρ l)
    obtain ⟨kc, ec⟩ := natOf_ok hk0 (hρ c)
    split at hq
    · rename_i i hi
      split at hq
      · rename_i z hz
        obtain ⟨hc, hq⟩ := Q.cond_eq hq (by simp)
        cases hq
        simp only [Bool.and_eq_true] at hc
        have h1 := Nat.le_of_ble_eq_true hc.1.1
        have h2 := Nat.le_of_ble_eq_true hc.1.2
        obtain ⟨i', z', g0, g1, g2, g3, g4, g5, g6, g7, g8⟩ := smallT_ok (m := m) k hc.2
        rw [hi] at g0; cases g0
        rw [hz] at g2; cases g2
        have hrow : LRel m (repL k0 z.cells.toList) ((Array.range (k0 * i.size)).map ((if k0 * i.size = 0 then #[] else z.cells)[· % (if k0 * i.size = 0 then #[] else z.cells).size]!)).toList := by
          by_cases h0 : k0 * i.size = 0
          · rw [if_pos h0, h0]
            have : repL k0 z.cells.toList = [] := List.eq_nil_of_length_eq_zero (by rw [repL_len]; simp [g6, h0])
            rw [this]; simp; exact .nil
          · rw [if_neg h0, ← g6, repL_row]
            exact g8.repL k0
        have hkb : k0 < big := by omega
        refine ⟨.cells ((Array.range (k0 * i.size)).map ((if k0 * i.size = 0 then #[] else z.cells)[· % (if k0 * i.size = 0 then #[] else z.cells).size]!)) e, 0, .slice (some ⟨w.heap.size, 0, none⟩) l0 k0, ?_, fun a m2 hm ha => ⟨newCells_rel hm hrow, .slice (x := (w.heap.size, 0)) ha (by rw [capLow_exact hkb]; exact h1) (by rw [capLow_exact hkb]; exact hkb) (by rw [capLow_exact hkb]; exact Nat.le_refl _) (fun _ => rfl) (fun h => by omega)⟩⟩
        have hwl : IntKind.i64.wrap (l0 : Int) = l0 := wrap_small (by omega)
        have hwc : IntKind.i64.wrap (k0 : Int) = k0 := wrap_small (by omega)
        have hbk : i.bytes * k0 ≤ 65536 * 65536 := Nat.mul_le_mul g4 h2
        have hkb2 : k0 * i.bytes ≤ 65536 * 65536 := Nat.mul_le_mul h2 g4
        have n1 : ¬ ((k0 : Int) < 0) := by omega
        have n2 : ¬ ((i.bytes : Int) * (k0 : Int) > 2 ^ 48) := by
          have : (i.bytes : Int) * (k0 : Int) ≤ 65536 * 65536 := by rw [← Int.natCast_mul]; exact Int.ofNat_le.2 hbk
          omega
        have n3 : ¬ ((l0 : Int) < 0) := by omega
        have n4 : ¬ ((l0 : Int) > (k0 : Int)) := by omega
        have n5 : ¬ (k0 * i.bytes > roomBytes) := by unfold roomBytes; omega
        simp only [execOp, ho, el, ec, Instr.makeSlice, Sem.run_bind, run_underlying (k.und _ _ hu), Result.andThen_ok, asInt, asIntOf, Sem.run_pure, sizeOf, typeInfo, run_program, g1, hwl, hwc]
        have hcond : ((decide ((k0 : Int) < 0) || decide ((i.bytes : Int) * (k0 : Int) > 2 ^ 48)) || decide ((l0 : Int) < 0) || decide ((l0 : Int) > (k0 : Int))) = false := by
          simp only [Bool.or_eq_false_iff, decide_eq_false_iff_not]
          exact ⟨⟨⟨n1, n2⟩, n3⟩, n4⟩
        rw [if_neg (by rw [hcond]; simp)]
        simp only [Sem.run_bind, Int.toNat_natCast, askRoom, if_neg n5, Sem.run_pure, Result.andThen_ok, sizeOf, typeInfo, run_program, g1]
        by_cases h0 : k0 * i.size = 0
        · rw [if_pos h0]; simp [newRow, h0]
        · rw [if_neg h0]; simp [newRow, h0, zeroValue, typeInfo, g1, g3]
      · cases hq
    · cases hq
  · cases hq
end
end Go.Proofs.YthahmfeaekddnaaGreatDoor.Ru
