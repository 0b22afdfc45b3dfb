/- The runner: what makes a block; The runner: what does something to memory; The runner: copies and maps; all that does something but call; The runner: the machine's steps. -/
import Derived.Test.YtdkebebingchpaaGreatDoorRunC
import Derived.Laws.AppendOwn
import Derived.Deep.AppendSrc
import Derived.Defers

/- The runner: what makes a block. -/
namespace Go.Proofs.YtdkebebingchpaaGreatDoor.Ru
open Go Go.RowKit

theorem repL_len (n : Nat) (l : List Value) : (repL n l).length = n * l.length := by
  induction n with
  | zero => simp [repL]
  | succ n ih => rw [repL]; simp [ih, Nat.add_mul, Nat.add_comm]
theorem repL_get (n : Nat) (l : List Value) (i : Nat) (h : i < n * l.length) : (repL n l)[i]? = l[i % l.length]? := by
  induction n generalizing i with
  | zero => simp at h
  | succ n ih =>
    rw [repL]
    by_cases hi : i < l.length
    · rw [List.getElem?_append_left hi, Nat.mod_eq_of_lt hi]
    · rw [List.getElem?_append_right (by omega), ih (i - l.length) (by rw [Nat.add_mul] at h; omega), ← Nat.mod_eq_sub_mod (by omega)]
theorem repL_row (n : Nat) (z : Array Value) : ((Array.range (n * z.size)).map (z[· % z.size]!)).toList = repL n z.toList := by
  refine List.ext_getElem? fun i => ?_
  by_cases hi : i < n * z.size
  · rw [repL_get _ _ _ (by simpa using hi)]
    have hz : i % z.size < z.size := Nat.mod_lt _ (by rcases Nat.eq_zero_or_pos z.size with e | e <;> simp_all)
    simp [hi, hz]
  · rw [List.getElem?_eq_none (by simp; omega), List.getElem?_eq_none (by rw [repL_len]; simp; omega)]
theorem wrap_small {n : Nat} (h : n < 9223372036854775808) : IntKind.i64.wrap (n : Int) = n := by
  rw [← wrapF_eq]
  show cond (Nat.blt n (topOf .i64)) (Int.ofNat n) _ = _
  rw [blt_true (show n < topOf .i64 from h)]
  rfl
section
variable {K : PK} {m : BM} {w : World} {E : Env} {ρ : Operand → Value} {o : Oper}
/-- The operation makes a block, for which this one stands, and nothing else. -/
def Makes (K : PK) (m : BM) (ρ : Operand → Value) (o : Oper) (b : AB) (mk : Nat → Value) (w : World) : Prop :=
  ∃ (obj : Obj) (κ : Nat) (v' : Value), (execOp ρ o).run K.P w = .ok (.value v') (w.alloc obj) ∧ ∀ a m2, MLe m m2 → m2 a = some (w.heap.size, κ) → BRel K m2 (w.alloc obj) a (w.heap.size, κ) b ∧ VRel m2 (mk a) v'
theorem newCells_rel {m2 : BM} (hm : MLe m m2) {cs : List Value} {C : Array Value} {e : TypeId} {a : Nat} (hl : LRel m cs C.toList) : BRel K m2 (w.alloc (.cells C e)) a (w.heap.size, 0) (.cells cs e) :=
  BRel.newCells (m := m2) (fun i u hu => by obtain ⟨u', h1, h2⟩ := hl.get hu; exact ⟨u', by rw [← Array.getElem?_toList]; exact h1, h2.mono hm⟩) (by have := hl.1; simp at this; omega) (fun h => absurd h (Nat.lt_irrefl 0))
theorem alloc_ok (k : KOk K) {t : TypeId} (ho : o.op = .alloc t) {b : AB} {mk : Nat → Value} (hq : q_alloc K t = .alloc b mk) : Makes K m ρ o b mk w := by
  unfold q_alloc at hq
  split at hq
  · rename_i z hz
    cases hq
    obtain ⟨⟨i, _, hi, hzz⟩, hl⟩ := zeroT_ok (m := m) k hz
    refine ⟨.cells z.cells t, 0, .pointer (some ⟨w.heap.size, 0, none⟩), ?_, fun a m2 hm ha => ⟨newCells_rel hm hl, .ptr (x := (w.heap.size, 0)) ha⟩⟩
    simp [execOp, ho, Instr.alloc, zeroValue, typeInfo, hi, hzz, newVar, newRow]
  · cases hq
theorem box_ok (hρ : ∀ x, VRel m (rd E x) (ρ x)) {t : TypeId} {x : Operand} (ho : o.op = .box t x) {b : AB} {mk : Nat → Value} (hq : q_box E t x = .alloc b mk) : Makes K m ρ o b mk w := by
  unfold q_box at hq
  obtain ⟨hj, hq⟩ := Q.cond_eq hq (by simp)
  cases hq
  have hl := (hρ x).cells (notJ_ne hj)
  refine ⟨.cells (ρ x).cells t, 0, .pointer (some ⟨w.heap.size, 0, none⟩), ?_, fun a m2 hm ha => ⟨newCells_rel hm hl, .ptr (x := (w.heap.size, 0)) ha⟩⟩
  simp [execOp, ho, Instr.box, newVar, newRow]
theorem makeMap_ok {t : TypeId} {r : Option Operand} (ho : o.op = .makeMap t r) {b : AB} {mk : Nat → Value} (hq : q_makeMap r = .alloc b mk) : Makes K m ρ o b mk w := by
  cases r with
  | some r => cases hq
  | none =>
    cases hq
    refine ⟨.map #[] 0, 0, .map (some w.heap.size), ?_, fun a m2 hm ha => ⟨⟨#[], heap_alloc_new w _, rfl, fun i e he => by simp at he⟩, .map (x := (w.heap.size, 0)) ha⟩⟩
    simp [execOp, ho, Instr.makeMap]
attribute [local irreducible] big
theorem buildSlice_ok (k : KOk K) (hρ : ∀ x, VRel m (rd E x) (ρ x)) {t : TypeId} {n : Nat} {ps : Array (Nat × Operand)} (ho : o.op = .buildSlice t n ps) {b : AB} {mk : Nat → Value} (hq : q_buildSlice K E t n ps = .alloc b mk) : Makes K m ρ o b mk w := by
  unfold q_buildSlice at hq
  split at hq
  · rename_i e hu
    split at hq
    · rename_i i hi
      split at hq
      · rename_i z hz
        obtain ⟨hc, hq⟩ := Q.cond_eq hq (by simp)
        simp only [Bool.and_eq_true] at hc
        have h1 := Nat.le_of_ble_eq_true hc.1.1
        have h2 := blt_of hc.1.2
        have h3 : z.cells.toList.length = i.size := Nat.eq_of_beq_eq_true hc.2
        split at hq
        · rename_i l hf
          cases hq
          obtain ⟨⟨i', e1, hi', hzz⟩, hl⟩ := zeroT_ok (m := m) k hz
          rw [hi] at e1; cases e1
          have h4 : z.cells.size = i.size := by simpa using h3
          have hrow : LRel m (repL n z.cells.toList) ((Array.range (n * i.size)).map ((if n * i.size = 0 then #[] else z.cells)[· % (if n * i.size = 0 then #[] else z.cells).size]!)).toList := by
            by_cases h0 : n * i.size = 0
            · rw [if_pos h0, h0]
              have : repL n z.cells.toList = [] := List.eq_nil_of_length_eq_zero (by rw [repL_len, h3, h0])
              rw [this]; simp; exact .nil
            · rw [if_neg h0, ← h4, repL_row]
              exact hl.repL n
          obtain ⟨l', f1, f2⟩ := fill_ok (place' := fun j => some (j * i.size, i.size)) (fun _ _ e => e) ps.toList _ _ l hρ hrow hf
          refine ⟨.cells l' e, 0, .slice (some ⟨w.heap.size, 0, none⟩) n n, ?_, fun a m2 hm ha => ⟨newCells_rel hm f2, .slice (x := (w.heap.size, 0)) ha (by rw [capLow_exact h2]; exact Nat.le_refl _) (by rw [capLow_exact h2]; exact h2) (by rw [capLow_exact h2]; exact Nat.le_refl _) (fun _ => rfl) (fun h => by omega)⟩⟩
          have h5 : ¬ 16777216 < n * i.size := by omega
          have h6 : (ps.map fun x => match x with | (i, x) => (i, ρ x)).toList = ps.toList.map fun p => (p.1, ρ p.2) := by simp
          simp only [execOp, ho, Instr.buildSlice, Sem.run_bind, run_underlying (k.und _ _ hu), Result.andThen_ok, sizeOf, typeInfo, run_program, hi', Sem.run_pure]
          rw [if_neg (by simpa using h5)]
          simp only [Sem.run_bind, Result.andThen_ok, h6]
          by_cases h0 : n * i.size = 0
          · rw [if_pos h0] at f1 ⊢
            simp only [Sem.run_bind, Sem.run_pure, Result.andThen_ok]
            rw [f1]; simp [newRow]
          · rw [if_neg h0] at f1 ⊢
            simp only [Sem.run_bind, Sem.run_pure, Result.andThen_ok, zeroValue, typeInfo, run_program, hi', hzz]
            rw [f1]; simp [newRow]
        · cases hq
      · cases hq
    · cases hq
  · cases hq
theorem smallT_ok (k : KOk K) {e : TypeId} (h : smallT K e = true) : ∃ i z, K.info e = some i ∧ K.P.info? e = some i ∧ zeroT K e = some z ∧ i.zero = some z ∧ i.bytes ≤ 65536 ∧ 1 ≤ i.size ∧ z.cells.size = i.size ∧ (∀ v ∈ z.cells.toList, oneC v = true) ∧ LRel m z.cells.toList z.cells.toList := by
  unfold smallT at h
  split at h
  · rename_i i hi
    split at h
    · rename_i z hz
      obtain ⟨⟨i', e1, hi', hzz⟩, hl⟩ := zeroT_ok (m := m) k hz
      rw [hi] at e1; cases e1
      simp only [Bool.and_eq_true] at h
      exact ⟨i, z, hi, hi', hz, hzz, Nat.le_of_ble_eq_true h.1.1.1, Nat.le_of_ble_eq_true h.1.1.2, by simpa using Nat.eq_of_beq_eq_true h.1.2, fun v hv => List.all_eq_true.1 h.2 v hv, hl⟩
    · cases h
  · cases h
theorem makeSlice_ok (k : KOk K) (hρ : ∀ x, VRel m (rd E x) (ρ x)) {t : TypeId} {l c : Operand} (ho : o.op = .makeSlice t l c) {b : AB} {mk : Nat → Value} (hq : q_makeSlice K E t l c = .alloc b mk) : Makes K m ρ o b mk w := by
  have hbp := big_pos
  have h65 : 65536 < big := by unfold big; omega
  unfold q_makeSlice at hq
  split at hq
  · rename_i e l0 k0 hu hl0 hk0
    obtain ⟨kl, el⟩ := natOf_ok hl0 (hρ l)
    obtain ⟨kc, ec⟩ := natOf_ok hk0 (hρ c)
    split at hq
    · rename_i i hi
      split at hq
      · rename_i z hz
        obtain ⟨hc, hq⟩ := Q.cond_eq hq (by simp)
        cases hq
        simp only [Bool.and_eq_true] at hc
        have h1 := Nat.le_of_ble_eq_true hc.1.1
        have h2 := Nat.le_of_ble_eq_true hc.1.2
        obtain ⟨i', z', g0, g1, g2, g3, g4, g5, g6, g7, g8⟩ := smallT_ok (m := m) k hc.2
        rw [hi] at g0; cases g0
        rw [hz] at g2; cases g2
        have hrow : LRel m (repL k0 z.cells.toList) ((Array.range (k0 * i.size)).map ((if k0 * i.size = 0 then #[] else z.cells)[· % (if k0 * i.size = 0 then #[] else z.cells).size]!)).toList := by
          by_cases h0 : k0 * i.size = 0
          · rw [if_pos h0, h0]
            have : repL k0 z.cells.toList = [] := List.eq_nil_of_length_eq_zero (by rw [repL_len]; simp [g6, h0])
            rw [this]; simp; exact .nil
          · rw [if_neg h0, ← g6, repL_row]
            exact g8.repL k0
        have hkb : k0 < big := by omega
        refine ⟨.cells ((Array.range (k0 * i.size)).map ((if k0 * i.size = 0 then #[] else z.cells)[· % (if k0 * i.size = 0 then #[] else z.cells).size]!)) e, 0, .slice (some ⟨w.heap.size, 0, none⟩) l0 k0, ?_, fun a m2 hm ha => ⟨newCells_rel hm hrow, .slice (x := (w.heap.size, 0)) ha (by rw [capLow_exact hkb]; exact h1) (by rw [capLow_exact hkb]; exact hkb) (by rw [capLow_exact hkb]; exact Nat.le_refl _) (fun _ => rfl) (fun h => by omega)⟩⟩
        have hwl : IntKind.i64.wrap (l0 : Int) = l0 := wrap_small (by omega)
        have hwc : IntKind.i64.wrap (k0 : Int) = k0 := wrap_small (by omega)
        have hbk : i.bytes * k0 ≤ 65536 * 65536 := Nat.mul_le_mul g4 h2
        have hkb2 : k0 * i.bytes ≤ 65536 * 65536 := Nat.mul_le_mul h2 g4
        have n1 : ¬ ((k0 : Int) < 0) := by omega
        have n2 : ¬ ((i.bytes : Int) * (k0 : Int) > 2 ^ 48) := by
          have : (i.bytes : Int) * (k0 : Int) ≤ 65536 * 65536 := by rw [← Int.natCast_mul]; exact Int.ofNat_le.2 hbk
          omega
        have n3 : ¬ ((l0 : Int) < 0) := by omega
        have n4 : ¬ ((l0 : Int) > (k0 : Int)) := by omega
        have n5 : ¬ (k0 * i.bytes > roomBytes) := by unfold roomBytes; omega
        simp only [execOp, ho, el, ec, Instr.makeSlice, Sem.run_bind, run_underlying (k.und _ _ hu), Result.andThen_ok, asInt, asIntOf, Sem.run_pure, sizeOf, typeInfo, run_program, g1, hwl, hwc]
        have hcond : ((decide ((k0 : Int) < 0) || decide ((i.bytes : Int) * (k0 : Int) > 2 ^ 48)) || decide ((l0 : Int) < 0) || decide ((l0 : Int) > (k0 : Int))) = false := by
          simp only [Bool.or_eq_false_iff, decide_eq_false_iff_not]
          exact ⟨⟨⟨n1, n2⟩, n3⟩, n4⟩
        rw [if_neg (by rw [hcond]; simp)]
        simp only [Sem.run_bind, Int.toNat_natCast, askRoom, if_neg n5, Sem.run_pure, Result.andThen_ok, sizeOf, typeInfo, run_program, g1]
        by_cases h0 : k0 * i.size = 0
        · rw [if_pos h0]; simp [newRow, h0]
        · rw [if_neg h0]; simp [newRow, h0, zeroValue, typeInfo, g1, g3]
      · cases hq
    · cases hq
  · cases hq
end
end Go.Proofs.YtdkebebingchpaaGreatDoor.Ru

/- The runner: what does something to memory. -/
namespace Go.Proofs.YtdkebebingchpaaGreatDoor.Ru
open Go Go.RowKit

section
variable {K : PK} {w0 : World} {m : BM} {h : AH} {w : World} {E : Env} {ρ : Operand → Value} {o : Oper}
/-- The operation does this. -/
def Does (K : PK) (w0 : World) (m : BM) (h : AH) (w : World) (ρ : Operand → Value) (o : Oper) (v : Value) (h' : AH) : Prop :=
  ∃ m' w' v', HRel K w0 m' h' w' ∧ Ext m h w m' h' w' ∧ VRel m' v v' ∧ ((execOp ρ o).run K.P w = .ok (.value v') w' ∨ ((execOp ρ o).run K.P w = .ok .skip w' ∧ v' = undef))
theorem store_ok (k : KOk K) (H : HRel K w0 m h w) (hρ : ∀ x, VRel m (rd E x) (ρ x)) {t : TypeId} {a x : Operand} (ho : o.op = .store t a x) {f : AH → R} (hq : q_store K E t a x = .eff f) {v : Value} {h' : AH} (hf : f h = .ok v h') : Does K w0 m h w ρ o v h' := by
  unfold q_store at hq
  have h0 := hρ a
  split at hq
  · rename_i b off hr
    rw [hr] at h0
    obtain ⟨y, hm, ex⟩ := h0.pointer
    obtain ⟨hc, hq⟩ := Q.cond_eq hq (by simp)
    cases hq
    simp only [Bool.and_eq_true, isLen_eq] at hc
    have hv := (hρ x).cells (notJ_ne hc.1.1)
    dsimp only at hf
    split at hf
    · rename_i h2 hw
      cases hf
      have h1 : ∀ u ∈ (ρ x).cells.toList, u.oneCell' = true := fun u hu => by
        obtain ⟨i, hi, rfl⟩ := List.mem_iff_getElem.1 hu
        have hall : ∀ z ∈ (rd E x).cells.toList, oneC z = true := by
          rw [wrCells_eq] at hw
          cases hN : Nat.blt b N0 with
          | true => rw [hN] at hw; cases hw
          | false =>
            rw [hN] at hw
            simp only [cond] at hw
            split at hw
            · split at hw
              · rename_i hcc
                simp only [Bool.and_eq_true] at hcc
                exact fun z hz => List.all_eq_true.1 hcc.2 z hz
              · cases hw
            · cases hw
        have hi2 : i < (rd E x).cells.toList.length := by rw [hv.1]; exact hi
        have := hv.2 i
        rw [List.getD_eq_getElem?_getD, List.getD_eq_getElem?_getD, List.getElem?_eq_getElem hi2, List.getElem?_eq_getElem hi] at this
        exact oneC_rel this (hall _ (List.getElem_mem hi2))
      obtain ⟨w', r1, r2, r3⟩ := H.write K.P hm hw hv h1
      have hs := Nat.eq_of_beq_eq_true hc.1.2
      cases hi : K.info t with
      | none => rw [hi] at hc; exact absurd hc.2 (by simp)
      | some i =>
        have e1 : (ρ x).cells.size = i.size := by
          have := hv.1
          unfold sizeT at hs
          rw [hi] at hs
          simp at this hs; omega
        refine ⟨m, w', undef, r2, r3, .undef m, .inr ⟨?_, rfl⟩⟩
        simp [execOp, ho, ex, Instr.storeAt, Instr.sureAddr, storeVar, sizeOf, typeInfo, k.info _ _ hi, e1, r1]
    · cases hf
  · cases hq
theorem srcL_ok (k : KOk K) (H : HRel K w0 m h w) {x x' : Value} (hx : VRel m x x') {e u : TypeId} {n : Nat} {l : List Value} {i : TypeInfo} (hi : K.info e = some i) (hu : srcT K u = true) (hs : srcL K h e x = some (n, l)) (h1 : ∀ v ∈ l, oneC v = true) :
    ∃ l', LRel m l l' ∧ Src K.P i.size u x' n l' w := by
  have hsz : sizeT K e = i.size := by unfold sizeT; rw [hi]
  have hku : (∃ e', K.P.underlying u = some (.slice e')) ∨ K.P.underlying u = some .string := by
    unfold srcT at hu
    split at hu
    · rename_i e' h2; exact .inl ⟨e', k.und _ _ h2⟩
    · rename_i h2; exact .inr (k.und _ _ h2)
    · cases hu
  have one : ∀ l', LRel m l l' → ∀ v ∈ l', v.oneCell' = true := fun l' hl v hv => by
    obtain ⟨j, hj, rfl⟩ := List.mem_iff_getElem.1 hv
    have hj2 : j < l.length := by rw [hl.1]; exact hj
    have := hl.2 j
    rw [List.getD_eq_getElem?_getD, List.getD_eq_getElem?_getD, List.getElem?_eq_getElem hj2, List.getElem?_eq_getElem hj] at this
    exact oneC_rel this (h1 _ (List.getElem_mem hj2))
  unfold srcL at hs
  split at hs
  · rename_i c
    cases hs
    obtain ⟨_, a, c', rfl⟩ := hx.sliceN
    refine ⟨[], .nil, ⟨hku, fun _ => rfl, ?_, ?_, by simp, fun _ h => by cases h⟩⟩
    · cases a <;> simp [Builtin.firstCells, loadCells, loadCellsFrom]
    · cases a <;> simp [Builtin.firstCells, loadCells, loadCellsFrom]
  · rename_i b off n' c
    split at hs
    · rename_i l2 hl
      cases hs
      obtain ⟨_, y, c', hm, rfl, _⟩ := hx.sliceS
      obtain ⟨e1, l', e2, e3⟩ := H.cells hm hl
      have hlen : l'.length = n * i.size := by rw [← e2.1, e1, hsz]
      have hcell : ∀ j u, l'[j]? = some u → w.cell? ((⟨y.1, off, none⟩ : Addr).add j) = some u := fun j u hu => by rw [add_off]; exact e3 j u hu
      refine ⟨l', e2, ⟨hku, fun _ => rfl, ?_, ?_, hlen, one l' e2⟩⟩
      · exact run_firstCells_some w i.size n _ n c' l' hlen hcell
      · exact run_firstCells_some w.drew i.size n _ n c' l' hlen (by simpa using hcell)
    · cases hs
  · rename_i s
    cases hb : Nat.beq (sizeT K e) 1 with
    | false => rw [hb] at hs; cases hs
    | true =>
      rw [hb] at hs
      cases hs
      have e1 : i.size = 1 := by rw [← hsz]; exact Nat.eq_of_beq_eq_true hb
      rw [hx.str, e1]
      have hl : LRel m (bytesL s) (bytesL s) := .of rfl fun j u hu => ⟨u, hu, by
        unfold bytesL at hu
        rw [List.getElem?_map] at hu
        cases hq : s.data.toList[j]? <;> rw [hq] at hu <;> cases hu
        exact .lit rfl⟩
      refine ⟨bytesL s, hl, ⟨hku, fun _ => rfl, firstCells_string s w, firstCells_string s w.drew, ?_, one _ hl⟩⟩
      show (byteCells s).length = s.size * 1
      rw [byteCells_length, Nat.mul_one]
  · cases hs
theorem growBy_le (n : Nat) : ∀ (r c : Nat), c ≤ 2 * n + 1000 → Builtin.growBy n r c ≤ 2 * n + 1000
  | 0, c, h => h
  | r + 1, c, h => by
    unfold Builtin.growBy
    split
    · exact h
    · exact growBy_le n r _ (by omega)
theorem nextcap_le (n c : Nat) (h : c < n) : Builtin.nextslicecap n c ≤ 2 * n + 1000 := by
  unfold Builtin.nextslicecap
  split
  · omega
  · split
    · omega
    · exact growBy_le n 4 c (by omega)
attribute [local irreducible] big
/-- A longer list is made. -/
theorem grow_ok (k : KOk K) (H : HRel K w0 m h w) {e t u ty : TypeId} (ht : K.und t = some (.slice e)) (hsm : smallT K e = true) {base : Option Addr} {sLen sCap n : Nat} {x' : Value} {olds olds' news news' : List Value} {i : TypeInfo} (hi : K.info e = some i)
    (hold : ∀ W : World, W.heap = w.heap → (Builtin.firstCells i.size sLen (.slice base sLen sCap)).run K.P W = .ok olds'.toArray W) (ho : LRel m olds olds') (hol : olds'.length = sLen * i.size) (hs : Src K.P i.size u x' n news' w) (hn : LRel m news news')
    (hg : sCap < sLen + n) {tt : Tr (Option AB)} {v : Value} {h' : AH} (hgr : grow h tt e (sLen + n) (olds ++ news) = .ok v h') (Ht : HRel K w0 m ⟨tt, h.n⟩ w ∧ Ext m h w m ⟨tt, h.n⟩ w) :
    ∃ m' w' v', HRel K w0 m' h' w' ∧ Ext m h w m' h' w' ∧ VRel m' v v' ∧ (Builtin.append_ #[t, u] ty #[.slice base sLen sCap, x']).run K.P w = .ok v' w' := by
  obtain ⟨i', z, g0, g1, g2, g3, g4, g5, g6, g7, g8⟩ := smallT_ok (m := m) k hsm
  rw [hi] at g0; cases g0
  rw [grow_eq] at hgr
  cases hc : (Nat.ble (sLen + n) 65536 && Nat.blt h.n 16000000 && (olds ++ news).all oneC) with
  | false => rw [hc] at hgr; cases hgr
  | true =>
    rw [hc] at hgr
    cases hgr
    simp only [Bool.and_eq_true] at hc
    have c1 := Nat.le_of_ble_eq_true hc.1.1
    have c2 := blt_of hc.1.2
    have hfit : Builtin.nextslicecap (sLen + n) sCap * i.bytes ≤ 281474976710656 := by
      have := nextcap_le (sLen + n) sCap hg
      calc _ ≤ 132072 * 65536 := Nat.mul_le_mul (by omega) g4
        _ ≤ _ := by omega
    have hrun := run_append_grow_src (P := K.P) w t u ty e i z (k.und _ _ ht) g1 g3 base sLen sCap olds' (hold w.drew rfl) x' n news' hs hg (by omega) hfit
    have hge := grownCap_ge w (sLen + n) sCap e
    have hnl := hs.newsLen
    have hsz : ((olds' ++ news').toArray ++ Builtin.zeroCells z.cells (grownCap w (sLen + n) sCap e - (sLen + n))).size = grownCap w (sLen + n) sCap e * i.size := by
      simp only [Array.size_append, List.size_toArray, List.length_append, hol, hnl, Builtin.zeroCells, Array.size_map, Array.size_range, g6]
      rw [← Nat.add_mul, ← Nat.add_mul]; congr 1; omega
    have hkk : sizeT K e = i.size := by unfold sizeT; rw [hi]
    have hm : m h.n = none := H.fresh h.n (Nat.le_refl _)
    have key := (Ht.1.drew).alloc (.cells (olds ++ news) e) (.cells ((olds' ++ news').toArray ++ Builtin.zeroCells z.cells (grownCap w (sLen + n) sCap e - (sLen + n))) e) (grownCap w (sLen + n) sCap e) c2
      (BRel.newCells (m := m.add h.n (w.drew.heap.size, grownCap w (sLen + n) sCap e)) (w := w.drew) (fun j u hu => by
        obtain ⟨u', q1, q2⟩ := (ho.append hn).get hu
        refine ⟨u', ?_, q2.mono (.add hm)⟩
        have hj := (List.getElem?_eq_some_iff.1 q1).1
        rw [Array.getElem?_append_left (by simpa using hj)]
        simpa using q1) (by
          have e1 := ho.1
          have e2 := hn.1
          rw [hsz]
          simp only [List.length_append, e1, e2, hol, hnl, ← Nat.add_mul]
          exact Nat.mul_le_mul_right _ hge) (fun _ => by rw [hsz, hkk]))
    refine ⟨_, _, _, key.1, (Ext.trans H.n0 Ht.2 (Ext.trans H.n0 (Ext.drew m _ w) key.2)), .slice (BM.add_self _ _ _) (by rw [capLow_open (by omega)]; omega) ?_ (by rw [capLow_open (by omega)]; omega) (fun h => by omega) (fun _ _ => rfl), hrun⟩
    rw [capLow_open (by omega)]
    have : 65536 < big := by unfold big; omega
    omega
theorem setRow_eq (P : Program) (w : World) {b off : Nat} {vs : List Value} {w' : World} (h : (storeCells ⟨b, off, none⟩ vs 0).run P w = .ok () w') (hc : ∀ j, j < vs.length → (w.cell? ⟨b, off + j, none⟩).isSome = true) (hf : ∀ j, j < vs.length → w.frozen? ⟨b, off + j, none⟩ = false) (h1 : ∀ v ∈ vs, v.oneCell' = true) : w.setCells b off vs = w' := by
  have := run_storeCells_cells (P := P) b off vs 0 w (by simpa using hc) (by simpa using hf) h1
  rw [h] at this
  simp only [Nat.add_zero] at this
  cases this; rfl
theorem Src.le_size {x' : Value} {n : Nat} {i : TypeInfo} {u : TypeId} {l : List Value} (hs : Src K.P i.size u x' n l w) : l.length = n * i.size := hs.newsLen
theorem wr_facts {b off : Nat} {vs : List Value} {h' : AH} (hw : wrCells h b off vs = some h') : N0 ≤ b ∧ ∃ cs e, getB h.t b = some (.cells cs e) ∧ off + vs.length ≤ cs.length ∧ ∀ v ∈ vs, oneC v = true := by
  rw [wrCells_eq] at hw
  cases hN : Nat.blt b N0 with
  | true => rw [hN] at hw; cases hw
  | false =>
    rw [hN] at hw
    simp only [cond] at hw
    have hb : N0 ≤ b := by
      rcases Nat.lt_or_ge b N0 with h1 | h1
      · rw [blt_true h1] at hN; cases hN
      · exact h1
    split at hw
    · rename_i cs e he
      split at hw
      · rename_i hcc
        simp only [Bool.and_eq_true] at hcc
        exact ⟨hb, cs, e, he, Nat.le_of_ble_eq_true hcc.1, fun z hz => List.all_eq_true.1 hcc.2 z hz⟩
      · cases hw
    · cases hw
theorem oneC_list {l l' : List Value} (hl : LRel m l l') (h1 : ∀ v ∈ l, oneC v = true) : ∀ v ∈ l', v.oneCell' = true := fun v hv => by
  obtain ⟨j, hj, rfl⟩ := List.mem_iff_getElem.1 hv
  have hj2 : j < l.length := by rw [hl.1]; exact hj
  have := hl.2 j
  rw [List.getD_eq_getElem?_getD, List.getD_eq_getElem?_getD, List.getElem?_eq_getElem hj2, List.getElem?_eq_getElem hj] at this
  exact oneC_rel this (h1 _ (List.getElem_mem hj2))
theorem append_core (k : KOk K) (H : HRel K w0 m h w) {t u ty : TypeId} {s x s' x' : Value} (hs : VRel m s s') (hx : VRel m x x') (hu : srcT K u = true) {v : Value} {h' : AH} (hf : aAppend K t s x h = .ok v h') :
    ∃ m' w' v', HRel K w0 m' h' w' ∧ Ext m h w m' h' w' ∧ VRel m' v v' ∧ (Builtin.append_ #[t, u] ty #[s', x']).run K.P w = .ok v' w' := by
  unfold aAppend at hf
  simp only [joinV_eq] at hf
  split at hf
  · rename_i e ht
    cases hsm : smallT K e with
    | false => rw [hsm] at hf; cases hf
    | true =>
      rw [hsm] at hf
      simp only [cond] at hf
      obtain ⟨i, z, g0, g1, g2, g3, g4, g5, g6, g7, g8⟩ := smallT_ok (m := m) k hsm
      have hsz : sizeT K e = i.size := by unfold sizeT; rw [g0]
      split at hf
      · cases hf
      · rename_i n news hsrc
        -- all the cells come one by one
        have hall : news.all oneC = true → ∀ z ∈ news, oneC z = true := fun ha z hz => List.all_eq_true.1 ha z hz
        have grown : ∀ {tt : Tr (Option AB)} {kk : Nat} {pre : List Value}, grow h tt e kk (pre ++ news) = .ok v h' → news.all oneC = true := fun {tt kk pre} hg => by
          rw [grow_eq] at hg
          cases hc : (Nat.ble kk 65536 && Nat.blt h.n 16000000 && (pre ++ news).all oneC) with
          | false => rw [hc] at hg; cases hg
          | true =>
            simp only [Bool.and_eq_true, List.all_append] at hc
            exact hc.2.2
        split at hf
        · have e1 := hs.slice0
          subst e1
          cases hk0 : Nat.beq n 0 with
          | true =>
            rw [hk0] at hf
            cases hf
            have hn0 : n = 0 := Nat.eq_of_beq_eq_true hk0
            subst hn0
            refine ⟨m, w, .slice none 0 0, H, .refl m h w, hs, ?_⟩
            have hnews : ∃ x2, (Builtin.lenOf x').run K.P w = .ok 0 w ∧ (Builtin.firstCells i.size 0 x').run K.P w = .ok x2 w := by
              unfold srcL at hsrc
              split at hsrc
              · obtain ⟨_, a, c', rfl⟩ := hx.sliceN
                exact ⟨#[], rfl, by cases a <;> simp [Builtin.firstCells, loadCells, loadCellsFrom]⟩
              · split at hsrc
                · cases hsrc
                  obtain ⟨_, y, c', hm, rfl, _⟩ := hx.sliceS
                  exact ⟨#[], rfl, by simp [Builtin.firstCells, loadCells, loadCellsFrom]⟩
                · cases hsrc
              · rename_i str
                rw [hx.str]
                have : str.size = 0 := by
                  cases hb : Nat.beq (sizeT K e) 1 with
                  | false => rw [hb] at hsrc; cases hsrc
                  | true =>
                    rw [hb] at hsrc
                    injection hsrc with e3
                    injection e3
                exact ⟨_, by simp [Builtin.lenOf, this], by simp [Builtin.firstCells]; rfl⟩
              · cases hsrc
            obtain ⟨x2, q1, q2⟩ := hnews
            have hku : ∀ W : World, (do pure ((← underlying u) matches .int _) : Sem Bool).run K.P W = .ok false W := fun W => by
              unfold srcT at hu
              split at hu
              · rename_i h2; simp [run_underlying (k.und _ _ h2)]
              · rename_i h2; simp [run_underlying (k.und _ _ h2)]
              · cases hu
            unfold srcT at hu
            split at hu
            · rename_i h2; simp [Builtin.append_, run_underlying (k.und _ _ ht), run_underlying (k.und _ _ h2), sizeOf, typeInfo, g1, q1, q2]
            · rename_i h2; simp [Builtin.append_, run_underlying (k.und _ _ ht), run_underlying (k.und _ _ h2), sizeOf, typeInfo, g1, q1, q2]
            · cases hu
          | false =>
            rw [hk0] at hf
            have hn0 : n ≠ 0 := fun e => by rw [e] at hk0; cases hk0
            have ha := grown (pre := []) hf
            obtain ⟨news', r1, r2⟩ := srcL_ok (i := i) k H hx g0 hu hsrc (hall ha)
            exact grow_ok (olds := []) (olds' := []) (sLen := 0) k H ht hsm g0 (fun W _ => by simp [Builtin.firstCells]) .nil (by simp) r2 r1 (by omega) (by simpa using hf) ⟨H, .refl m h w⟩
        · rename_i b off sl c
          obtain ⟨_, y, c', hm, rfl, hn, hbig, hcap, hex, hopen⟩ := hs.sliceS
          split at hf
          · rename_i hroom
            have hroom := Nat.le_of_ble_eq_true hroom
            split at hf
            · rename_i hh hw
              cases hf
              obtain ⟨hNb, cs, e2, hgb, hfit, hone⟩ := wr_facts hw
              obtain ⟨news', r1, r2⟩ := srcL_ok (i := i) k H hx g0 hu hsrc hone
              obtain ⟨w', q1, q2, q3⟩ := H.write K.P hm hw r1 (oneC_list r1 hone)
              obtain ⟨C, hC1, hC2, _⟩ := (H.live b y _ hm hgb).2 hNb
              have hcl : ∀ j, j < news'.length → (w.cell? ⟨y.1, off + sl * i.size + j, none⟩).isSome = true := fun j hj => by
                have := r1.1
                have : off + sl * i.size + j < C.size := by rw [hsz] at hfit; omega
                simp [World.cell?, hC1, this]
              have hfr : ∀ j, j < news'.length → w.frozen? ⟨y.1, off + sl * i.size + j, none⟩ = false := fun j hj => by simp [World.frozen?, hC1]
              have hrun := run_append_room_src (P := K.P) w t u ty e i (k.und _ _ ht) g1 y.1 off sl c' x' n news' r2 (by omega) hcl hfr
              rw [hsz] at q1
              rw [setRow_eq K.P w q1 hcl hfr (oneC_list r1 hone)] at hrun
              exact ⟨m, w', _, q2, q3, .slice hm hroom hbig hcap hex hopen, hrun⟩
            · cases hf
          · rename_i hroom
            have hroom : capLow c < sl + n := by
              rcases Nat.lt_or_ge (capLow c) (sl + n) with h1 | h1
              · exact h1
              · exact absurd (Nat.ble_eq_true_of_le h1) (by rw [hroom]; simp)
            split at hf
            · rename_i olds hol
              obtain ⟨ol1, olds', ol2, ol3⟩ := H.cells hm hol
              have hol' : olds'.length = sl * i.size := by rw [← ol2.1, ol1, hsz]
              have hold : ∀ W : World, W.heap = w.heap → (Builtin.firstCells i.size sl (.slice (some ⟨y.1, off, none⟩) sl c')).run K.P W = .ok olds'.toArray W := fun W hW => run_firstCells_some W i.size sl _ sl c' olds' hol' (fun j u hu => by
                rw [add_off]
                have := ol3 j u hu
                unfold World.cell? at this ⊢
                rw [hW]; exact this)
              split at hf
              · rename_i hcb
                have hcb := blt_of hcb
                have ha := grown hf
                obtain ⟨news', r1, r2⟩ := srcL_ok (i := i) k H hx g0 hu hsrc (hall ha)
                have := hex hcb
                have := capLow_exact hcb
                exact grow_ok k H ht hsm g0 hold ol2 hol' r2 r1 (by omega) hf ⟨H, .refl m h w⟩
              · rename_i hcb
                have hcb : big ≤ c := by
                  rcases Nat.lt_or_ge c big with h1 | h1
                  · rw [blt_true h1] at hcb; cases hcb
                  · exact h1
                split at hf
                · rename_i hcc
                  simp only [Bool.and_eq_true] at hcc
                  have hNb := Nat.le_of_ble_eq_true hcc.1.1
                  have ho0 : off = 0 := Nat.eq_of_beq_eq_true hcc.1.2
                  subst ho0
                  have ha := grown hf
                  have hone := hall ha
                  obtain ⟨news', r1, r2⟩ := srcL_ok (i := i) k H hx g0 hu hsrc hone
                  have hκ := hopen hcb rfl
                  by_cases hin : sl + n ≤ c'
                  · -- in place
                    unfold elemIs at hcc
                    split at hcc
                    · rename_i cs e2 hgb
                      have he2 : e2 = e := Nat.eq_of_beq_eq_true hcc.2
                      subst he2
                      obtain ⟨C, hC1, hC2, hC3⟩ := (H.live b y _ hm hgb).2 hNb
                      have hnl := r2.newsLen
                      have hC4 := hC3 (by omega)
                      rw [hsz] at hC4
                      have hfitC : 0 + (sl * i.size) + news'.length ≤ C.size := by
                        rw [hnl, hC4, Nat.zero_add, ← Nat.add_mul, ← hκ]
                        exact Nat.mul_le_mul_right _ hin
                      have hrow := run_storeCells_at K.P y.1 (sl * i.size) e2 news' 0 C w hC1 (by omega) (oneC_list r1 hone)
                      have hcl : ∀ j, j < news'.length → (w.cell? ⟨y.1, 0 + sl * i.size + j, none⟩).isSome = true := fun j hj => by
                        have : 0 + sl * i.size + j < C.size := by omega
                        simp only [World.cell?, hC1]; simp at this ⊢; exact this
                      have hfr : ∀ j, j < news'.length → w.frozen? ⟨y.1, 0 + sl * i.size + j, none⟩ = false := fun j hj => by simp [World.frozen?, hC1]
                      have hrun := run_append_room_src (P := K.P) w t u ty e2 i (k.und _ _ ht) g1 y.1 0 sl c' x' n news' r2 (by omega) hcl hfr
                      rw [setRow_eq K.P w (by rw [Nat.zero_add]; exact hrow) hcl hfr (oneC_list r1 hone)] at hrun
                      rw [grow_eq] at hf
                      cases hc : (Nat.ble (sl + n) 65536 && Nat.blt h.n 16000000 && (olds ++ news).all oneC) with
                      | false => rw [hc] at hf; cases hf
                      | true =>
                        rw [hc] at hf
                        cases hf
                        simp only [Bool.and_eq_true] at hc
                        have c1 := Nat.le_of_ble_eq_true hc.1.1
                        have c2 := blt_of hc.1.2
                        have hmn : m h.n = none := H.fresh h.n (Nat.le_refl _)
                        have hszD : (C.toList.take (sl * i.size + 0) ++ news' ++ C.toList.drop (sl * i.size + 0 + news'.length)).toArray.size = C.size := by simp; omega
                        have key := H.move (w' := w.setRow y.1 (C.toList.take (sl * i.size + 0) ++ news' ++ C.toList.drop (sl * i.size + 0 + news'.length)).toArray) hNb hm (by rw [hgb]; rfl) (.cells (olds ++ news) e2) c2 (setRow_size _ _ _) (fun q hq => setRow_other _ _ _ _ hq)
                          ⟨fun j u hu => by
                            obtain ⟨u', q1, q2⟩ := (ol2.append r1).get hu
                            refine ⟨u', ?_, q2.mono (.add hmn)⟩
                            have hD := setRow_heap w y.1 C (C.toList.take (sl * i.size + 0) ++ news' ++ C.toList.drop (sl * i.size + 0 + news'.length)).toArray e2 (0, 0) hC1
                            simp only [World.cell?, hD]
                            rw [List.getElem?_toArray]
                            have hj := (List.getElem?_eq_some_iff.1 q1).1
                            rw [List.length_append, hol', hnl] at hj
                            have htl : (C.toList.take (sl * i.size + 0)).length = sl * i.size := by simp; omega
                            by_cases hjl : j < sl * i.size
                            · rw [List.append_assoc, List.getElem?_append_left (by rw [htl]; exact hjl), List.getElem?_take, if_pos (show j < sl * i.size + 0 from hjl), Array.getElem?_toList]
                              rw [List.getElem?_append_left (by rw [hol']; exact hjl)] at q1
                              have := ol3 j u' q1
                              simpa [World.cell?, hC1] using this
                            · rw [List.append_assoc, List.getElem?_append_right (by omega), htl, List.getElem?_append_left (by omega)]
                              rw [List.getElem?_append_right (by omega), hol'] at q1
                              exact q1, fun _ => ⟨_, setRow_heap _ _ _ _ _ _ hC1, by
                              rw [hszD]
                              have e3 := ol2.1
                              have e4 := r1.1
                              rw [List.length_append]; omega, fun hk => by rw [hszD]; exact hC3 hk⟩⟩ ⟨rfl, rfl, rfl⟩
                        refine ⟨_, _, _, key.1, key.2, .slice (BM.add_self _ _ _) (by rw [capLow_open (by omega)]; omega) ?_ (by rw [capLow_open (by omega)]; omega) (fun h => by omega) (fun _ _ => hκ), hrun⟩
                        rw [capLow_open (by omega)]
                        have : 65536 < big := by unfold big; omega
                        omega
                    · exact absurd hcc.2 (by simp)
                  · have hkl := H.kill hNb hm
                    exact grow_ok k H ht hsm g0 hold ol2 hol' r2 r1 (by omega) hf hkl
                · cases hf
            · cases hf
        · cases hf
  · cases hf
end
end Go.Proofs.YtdkebebingchpaaGreatDoor.Ru

/- The runner: copies and maps; all that does something but call. -/
namespace Go.Proofs.YtdkebebingchpaaGreatDoor.Ru
open Go Go.RowKit

section
variable {K : PK} {w0 : World} {m : BM} {h : AH} {w : World} {E : Env} {ρ : Operand → Value} {o : Oper}
theorem toList_two {α : Type} {a : Array α} {x y : α} (h : a.toList = [x, y]) : a = #[x, y] := by
  apply Array.toList_inj.1; simpa using h
theorem append_ok (k : KOk K) (H : HRel K w0 m h w) (hρ : ∀ x, VRel m (rd E x) (ρ x)) {args : Array Operand} {ts : Array TypeId} (ho : o.op = .call ⟨.builtin .append, args, ts⟩) {f : AH → R} (hq : q_append K E args ts = .eff f) {v : Value} {h' : AH} (hf : f h = .ok v h') : Does K w0 m h w ρ o v h' := by
  unfold q_append at hq
  split at hq
  · rename_i t u s x ht hx
    obtain ⟨hc, hq⟩ := Q.cond_eq hq (by simp)
    cases hq
    obtain ⟨m', w', v', r1, r2, r3, r4⟩ := append_core (ty := o.type) (u := u) k H (hρ s) (hρ x) hc hf
    refine ⟨m', w', v', r1, r2, r3, .inl ?_⟩
    rw [toList_two ht, toList_two hx] at ho
    simp [execOp, ho, resolve, invoke, builtin, r4]
  · cases hq
theorem copy_ok (k : KOk K) (H : HRel K w0 m h w) (hρ : ∀ x, VRel m (rd E x) (ρ x)) {args : Array Operand} {ts : Array TypeId} (ho : o.op = .call ⟨.builtin .copy, args, ts⟩) {f : AH → R} (hq : q_copy K E args ts = .eff f) {v : Value} {h' : AH} (hf : f h = .ok v h') : Does K w0 m h w ρ o v h' := by
  unfold q_copy at hq
  split at hq
  · rename_i t tr s x ht hx
    cases hq
    have e1 := toList_nth ht
    have hs := hρ s
    have hX := hρ x
    unfold aCopy at hf
    split at hf
    · rename_i e hu
      split at hf
      · rename_i i b off n c off2 b2 n2 c2 hi h2 h3
        rw [h2] at hs
        rw [h3] at hX
        obtain ⟨_, y, c', hm, es, _⟩ := hs.sliceS
        obtain ⟨_, y2, c2', hm2, ex, _⟩ := hX.sliceS
        split at hf
        · rename_i news hn
          obtain ⟨n1, news', n2', n3⟩ := H.cells hm2 hn
          split at hf
          · rename_i hh hw
            cases hf
            obtain ⟨hNb, cs, e2, hgb, hfit, hone⟩ := wr_facts hw
            obtain ⟨w', q1, q2, q3⟩ := H.write K.P hm hw n2' (oneC_list n2' hone)
            refine ⟨m, w', _, q2, q3, .lit rfl, .inl ?_⟩
            have hlen : news'.length = Nat.min n2 n * i.size := by rw [← n2'.1]; exact n1
            have hfc := run_firstCells_some (P := K.P) w i.size (Nat.min n2 n) ⟨y2.1, b2, none⟩ n2 c2' news' hlen (fun j u hu => by rw [add_off]; exact n3 j u hu)
            have hxx := toList_two hx
            subst hxx
            simp [execOp, ho, resolve, invoke, builtin, Builtin.copy_, e1, es, ex, run_underlying (k.und _ _ hu), Builtin.lenOf, sizeOf, typeInfo, k.info _ _ hi, hfc, q1, goInt]
          · cases hf
        · cases hf
      · cases hf
    · cases hf
  · cases hq
theorem run_setMap {P : Program} {r c : Nat} {es : Array MapEntry} {o2 : Obj} (hx : w.heap[r]? = some (.map es c)) : (setObj r o2).run P w = .ok () (w.putObj r o2) := by
  simp [setObj, Sem.run, hx, World.putObj]
theorem putObj_size (w : World) (r : Nat) (o2 : Obj) : (w.putObj r o2).heap.size = w.heap.size := by simp [World.putObj]
theorem putObj_other (w : World) (r k : Nat) (o2 : Obj) (h : k ≠ r) : (w.putObj r o2).heap[k]? = w.heap[k]? := World.putObj_heap_other h
theorem putObj_self (w : World) (r : Nat) (o o2 : Obj) (h : w.heap[r]? = some o) : (w.putObj r o2).heap[r]? = some o2 := by
  have := (Array.getElem?_eq_some_iff.1 h).1
  simp [World.putObj, this]
theorem findM_at {k : Value} : ∀ (es : List (Value × Value × Nat)) (i0 i : Nat) (v : Value), findM k es i0 = some (some (i, v)) → i0 ≤ i ∧ ∃ b, es[i - i0]? = some (k, v, b)
  | [], _, _, _, h => by cases h
  | (key, u, b) :: es, i0, i, v, h => by
    unfold findM at h
    cases hq : keyQ key k with
    | none => rw [hq] at h; cases h
    | some q =>
      rw [hq] at h
      cases q with
      | true =>
        cases h
        have := keyQ_true hq
        subst this
        exact ⟨Nat.le_refl _, b, by simp⟩
      | false =>
        obtain ⟨h1, b', h2⟩ := findM_at es (i0 + 1) i v h
        refine ⟨by omega, b', ?_⟩
        rw [show i - i0 = (i - (i0 + 1)) + 1 by omega]
        simpa using h2
theorem KeyOk.stays {u : TypeDesc} {k : Value} (h : KeyOk u k) : Instr.sameBits (9999 + 1) k k = true := by
  cases h <;> simp [Instr.sameBits, bytes_self]
theorem map_turn (H : HRel K w0 m h w) {b : Nat} {x : Nat × Nat} {es : List (Value × Value × Nat)} {c : Nat} {es' : Array MapEntry} (hb : N0 ≤ b) (hm : m b = some x) (hg : getB h.t b = some (.map es c)) (hw : w.heap[x.1]? = some (.map es' c))
    {es2 : List (Value × Value × Nat)} {c2 : Nat} {es2' : Array MapEntry} (hr : MRel m es2 es2') : HRel K w0 m ⟨setB h.t b (some (.map es2 c2)), h.n⟩ (w.putObj x.1 (.map es2' c2)) ∧ Ext m h w m ⟨setB h.t b (some (.map es2 c2)), h.n⟩ (w.putObj x.1 (.map es2' c2)) :=
  H.turn hb hm (by rw [hg]; rfl) _ (putObj_size _ _ _) (fun k hk => putObj_other _ _ _ _ hk) ⟨es2', putObj_self _ _ _ _ hw, hr.1, hr.2⟩ ⟨rfl, rfl, rfl⟩
theorem mapUpdate_ok (k : KOk K) (H : HRel K w0 m h w) (hρ : ∀ x, VRel m (rd E x) (ρ x)) {t : TypeId} {mp ky x : Operand} (ho : o.op = .mapUpdate t mp ky x ∨ o.op = .insert t mp ky x) {v : Value} {h' : AH} (hf : aMapUpdate K t (rd E mp) (rd E ky) (rd E x) h = .ok v h') : Does K w0 m h w ρ o v h' := by
  have h0 := hρ mp
  have h1 := hρ ky
  have hv := hρ x
  unfold aMapUpdate at hf
  split at hf
  · rename_i key el r hu hmp
    rw [hmp] at h0
    generalize rd E ky = kx at *
    obtain ⟨y, hm, ex⟩ := h0.mapS
    cases hc : (keyTy K key kx && !Nat.blt r N0) with
    | false => rw [hc] at hf; cases hf
    | true =>
      rw [hc] at hf
      simp only [cond] at hf
      simp only [Bool.and_eq_true, Bool.not_eq_true'] at hc
      have hN : N0 ≤ r := by
        rcases Nat.lt_or_ge r N0 with h1 | h1
        · rw [blt_true h1] at hc; cases hc.2
        · exact h1
      obtain ⟨kd, hkd, hko⟩ := keyTy_ok k hc.1
      have h1 := hko.rel h1
      split at hf
      · rename_i es c hg
        obtain ⟨es', e1, e2, e3⟩ := H.live r y _ hm hg
        have hM : MRel m es es' := ⟨e2, e3⟩
        have hfind : ∀ q, findM kx es 0 = some q → _ := fun q hq => findM_ok (m := m) hko es es'.toList 0 q (by simpa using e2) (fun i e he => by obtain ⟨e', a, b⟩ := e3 i e he; exact ⟨e', by rw [Array.getElem?_toList]; exact a, b⟩) hq
        have hck := run_checkKey K.P hkd hko false w
        split at hf
        · rename_i i v2 hfm
          cases hf
          obtain ⟨v', f1, f2⟩ := hfind _ hfm
          obtain ⟨_, b, g2⟩ := findM_at es 0 i v2 hfm
          simp only [Nat.sub_zero] at g2
          obtain ⟨e', a1, a2, a3, a4⟩ := e3 i _ g2
          have hfk : (Instr.findKey key kx es'.toList).run K.P w = .ok (some (i, v')) w := by simp [Instr.findKey, run_underlying hkd, f2]
          have hks : (Instr.keyThatStays e'.key kx).run K.P w = .ok kx w := by
            have : Instr.sameBits 10000 e'.key kx = true := by
              show Instr.sameBits (9999 + 1) e'.key kx = true
              rw [a2]; exact hko.stays
            unfold Instr.keyThatStays
            rw [if_pos this]; rfl
          have key2 := map_turn (c2 := c) (es2 := es.modify i fun e => (kx, rd E x, e.2.2)) (es2' := es'.modify i fun e => { e with key := kx, val := ρ x }) H hN hm hg e1 (by
            refine ⟨by simp [e2], fun j e he => ?_⟩
            rw [List.getElem?_modify] at he
            by_cases hij : i = j
            · subst hij
              rw [g2] at he
              have he : (kx, rd E x, b) = e := by simpa using he
              subst he
              refine ⟨{ e' with key := kx, val := ρ x }, ?_, rfl, hv, a4⟩
              rw [Array.getElem?_modify, if_pos rfl, a1]; rfl
            · have he : es[j]? = some e := by simpa [hij] using he
              obtain ⟨e2', b1, b2⟩ := e3 j e he
              refine ⟨e2', ?_, b2⟩
              rw [Array.getElem?_modify, if_neg hij, b1])
          refine ⟨m, _, undef, key2.1, key2.2, .undef m, .inr ⟨?_, rfl⟩⟩
          have hset := run_setMap (P := K.P) (o2 := .map (es'.modify i fun e => { e with key := kx, val := ρ x }) c) e1
          rcases ho with ho | ho <;> simp [execOp, ho, ex, h1, Instr.mapUpdate, run_underlying (k.und _ _ hu), run_getMap e1, hck, hfk, a1, hks, hset]
        · rename_i hfm
          cases hf
          have f2 := hfind _ hfm
          have hfk : (Instr.findKey key kx es'.toList).run K.P w = .ok none w := by simp [Instr.findKey, run_underlying hkd, f2]
          have key2 := map_turn (c2 := c + 1) (es2 := es ++ [(kx, rd E x, c)]) (es2' := es'.push { key := kx, val := ρ x, born := c }) H hN hm hg e1 (by
            refine ⟨by simp [e2], fun j e he => ?_⟩
            rcases Nat.lt_or_ge j es.length with hj | hj
            · rw [List.getElem?_append_left hj] at he
              obtain ⟨e2', b1, b2⟩ := e3 j e he
              refine ⟨e2', ?_, b2⟩
              rw [Array.getElem?_push, if_neg (by omega)]; exact b1
            · rw [List.getElem?_append_right hj] at he
              have hj0 : j - es.length = 0 := by
                rcases Nat.eq_zero_or_pos (j - es.length) with h2 | h2
                · exact h2
                · rw [List.getElem?_eq_none (by simp; omega)] at he; cases he
              rw [hj0] at he
              cases he
              refine ⟨{ key := kx, val := ρ x, born := c }, ?_, rfl, hv, rfl⟩
              rw [Array.getElem?_push, if_pos (by omega)])
          refine ⟨m, _, undef, key2.1, key2.2, .undef m, .inr ⟨?_, rfl⟩⟩
          have hset := run_setMap (P := K.P) (o2 := .map (es'.push { key := kx, val := ρ x, born := c }) (c + 1)) e1
          rcases ho with ho | ho <;> simp [execOp, ho, ex, h1, Instr.mapUpdate, run_underlying (k.und _ _ hu), run_getMap e1, hck, hfk, hset]
        · cases hf
      · cases hf
  · cases hf
theorem delete_ok (k : KOk K) (H : HRel K w0 m h w) (hρ : ∀ x, VRel m (rd E x) (ρ x)) {args : Array Operand} {ts : Array TypeId} (ho : o.op = .call ⟨.builtin .delete, args, ts⟩) {f : AH → R} (hq : q_delete K E args ts = .eff f) {v : Value} {h' : AH} (hf : f h = .ok v h') : Does K w0 m h w ρ o v h' := by
  unfold q_delete at hq
  split at hq
  · rename_i t tr mp ky ht hx
    cases hq
    have e1' := toList_nth ht
    have h0 := hρ mp
    have h1 := hρ ky
    unfold aDelete at hf
    split at hf
    · rename_i key el r hu hmp
      rw [hmp] at h0
      generalize rd E ky = kx at *
      obtain ⟨y, hm, ex⟩ := h0.mapS
      cases hc : (keyTy K key kx && !Nat.blt r N0) with
      | false => rw [hc] at hf; cases hf
      | true =>
        rw [hc] at hf
        simp only [cond] at hf
        simp only [Bool.and_eq_true, Bool.not_eq_true'] at hc
        have hN : N0 ≤ r := by
          rcases Nat.lt_or_ge r N0 with h1 | h1
          · rw [blt_true h1] at hc; cases hc.2
          · exact h1
        obtain ⟨kd, hkd, hko⟩ := keyTy_ok k hc.1
        have h1 := hko.rel h1
        split at hf
        · rename_i es c hg
          obtain ⟨es', e1, e2, e3⟩ := H.live r y _ hm hg
          have hM : MRel m es es' := ⟨e2, e3⟩
          have hfind : ∀ q, findM kx es 0 = some q → _ := fun q hq => findM_ok (m := m) hko es es'.toList 0 q (by simpa using e2) (fun i e he => by obtain ⟨e', a, b⟩ := e3 i e he; exact ⟨e', by rw [Array.getElem?_toList]; exact a, b⟩) hq
          have hck := fun b => run_checkKey K.P hkd hko b w
          have hxx := toList_two hx
          subst hxx
          split at hf
          · rename_i i v2 hfm
            cases hf
            obtain ⟨v', f1, f2⟩ := hfind _ hfm
            obtain ⟨_, b, g2⟩ := findM_at es 0 i v2 hfm
            simp only [Nat.sub_zero] at g2
            have hil : i < es'.size := by rw [← e2]; exact (List.getElem?_eq_some_iff.1 g2).1
            have hfk : (Instr.findKey key kx es'.toList).run K.P w = .ok (some (i, v')) w := by simp [Instr.findKey, run_underlying hkd, f2]
            have key2 := map_turn (c2 := c) (es2 := es.eraseIdx i) (es2' := es'.eraseIdxIfInBounds i) H hN hm hg e1 (by
              have hT : (es'.eraseIdxIfInBounds i).toList = es'.toList.eraseIdx i := by simp [Array.eraseIdxIfInBounds, hil, Array.toList_eraseIdx]
              refine ⟨by rw [← Array.length_toList, hT, List.length_eraseIdx, List.length_eraseIdx]; simp [e2], fun j e he => ?_⟩
              rw [← Array.getElem?_toList, hT]
              rw [List.getElem?_eraseIdx] at he ⊢
              split at he
              · rename_i hji; rw [if_pos hji, Array.getElem?_toList]; exact e3 _ e he
              · rename_i hji; rw [if_neg hji, Array.getElem?_toList]; exact e3 _ e he)
            refine ⟨m, _, .tuple #[], key2.1, key2.2, .undef m, .inl ?_⟩
            have hset := run_setMap (P := K.P) (o2 := .map (es'.eraseIdxIfInBounds i) c) e1
            simp [execOp, ho, resolve, invoke, builtin, Builtin.delete_, e1', ex, h1, run_underlying (k.und _ _ hu), run_getMap e1, hck, hfk, hset]
          · rename_i hfm
            cases hf
            have f2 := hfind _ hfm
            have hfk : (Instr.findKey key kx es'.toList).run K.P w = .ok none w := by simp [Instr.findKey, run_underlying hkd, f2]
            have hset := run_setMap (P := K.P) (o2 := .map es' c) e1
            have hself : w.putObj y.1 (.map es' c) = w := by
              have hlt := (Array.getElem?_eq_some_iff.1 e1)
              obtain ⟨h2, h3⟩ := hlt
              unfold World.putObj
              have : w.heap.setIfInBounds y.1 (.map es' c) = w.heap := by
                apply Array.ext_getElem?
                intro j
                by_cases hj : j = y.1
                · subst hj; rw [Array.getElem?_setIfInBounds_self_of_lt h2, e1]
                · rw [Array.getElem?_setIfInBounds_ne (fun e => hj e.symm)]
              rw [this]
            rw [hself] at hset
            refine ⟨m, w, .tuple #[], H, .refl m _ w, .undef m, .inl ?_⟩
            simp [execOp, ho, resolve, invoke, builtin, Builtin.delete_, e1', ex, h1, run_underlying (k.und _ _ hu), run_getMap e1, hck, hfk, hset]
          · cases hf
        · cases hf
    · cases hf
  · cases hq
theorem get_bang (s : ByteArray) (pos : Nat) (h : pos < s.size) : s.get! pos = s[pos]'h := by
  show s.data[pos]! = s.data[pos]
  exact getElem!_pos s.data pos h
theorem decode_one (s : ByteArray) (pos : Nat) (h : (s.get! pos).toNat < 128) : Utf8.decode s pos = ((s.get! pos).toNat, 1) := by
  unfold Utf8.decode
  simp [h]
theorem iter_made (H : HRel K w0 m h w) {b : AB} {ob : Obj} {v : Value} {h' : AH} (hr : ∀ m2, MLe m m2 → BRel K m2 (w.alloc ob) h.n (w.heap.size, 0) b) (hrun : (execOp ρ o).run K.P w = .ok (.value (.pointer (some ⟨w.heap.size, 0, none⟩))) (w.alloc ob)) (hf : aIter b h = .ok v h') : Does K w0 m h w ρ o v h' := by
  unfold aIter at hf
  cases hb : Nat.blt h.n 16000000 with
  | false => rw [hb] at hf; cases hf
  | true =>
    rw [hb] at hf
    cases hf
    obtain ⟨H1, X1⟩ := H.alloc b ob 0 (blt_of hb) (hr _ (MLe.add (H.fresh h.n (Nat.le_refl _))))
    exact ⟨_, _, .pointer (some ⟨w.heap.size, 0, none⟩), H1, X1, .ptr (x := (w.heap.size, 0)) (by simp [BM.add]), .inl hrun⟩
theorem rangeIt_ok (k : KOk K) (H : HRel K w0 m h w) (hρ : ∀ x, VRel m (rd E x) (ρ x)) {t : TypeId} {x : Operand} (ho : o.op = .range t x) {f : AH → R} (hq : q_range K E t x = .eff f) {v : Value} {h' : AH} (hf : f h = .ok v h') : Does K w0 m h w ρ o v h' := by
  unfold q_range at hq
  have h0 := hρ x
  split at hq
  · rename_i s hu hx
    rw [hx] at h0
    have e := h0.str
    cases hq
    refine iter_made (b := .sit s 0) (ob := .stringIter s 0) H (fun m2 _ => heap_alloc_new w _) ?_ hf
    simp [execOp, ho, e, Instr.range, run_underlying (k.und _ _ hu)]
  · rename_i hu hx
    rw [hx] at h0
    have e := h0.map0
    cases hq
    refine iter_made (b := .mit none) (ob := .mapIter none 0 #[] 0) H (fun m2 _ => ⟨_, _, _, heap_alloc_new w _⟩) ?_ hf
    simp [execOp, ho, e, Instr.range, run_underlying (k.und _ _ hu)]
  · rename_i r hu hx
    rw [hx] at h0
    obtain ⟨y, hm, e⟩ := h0.mapS
    cases hq
    simp only at hf
    split at hf
    · rename_i es c hg
      obtain ⟨es', e1, _, _⟩ := H.live r y _ hm hg
      refine iter_made (b := .mit (some r)) (ob := .mapIter (some y.1) c #[] c) H (fun m2 hm2 => ⟨y, _, _, hm2 _ _ hm, heap_alloc_new w _⟩) ?_ hf
      simp [execOp, ho, e, Instr.range, run_underlying (k.und _ _ hu), run_getMap e1]
    · cases hf
  · cases hq
theorem next_ok (H : HRel K w0 m h w) (hρ : ∀ x, VRel m (rd E x) (ρ x)) {x : Operand} {isS : Bool} (ho : o.op = .next x isS) {f : AH → R} (hq : q_next E x isS = .eff f) {v : Value} {h' : AH} (hf : f h = .ok v h') : Does K w0 m h w ρ o v h' := by
  unfold q_next at hq
  have h0 := hρ x
  split at hq
  · rename_i b hx
    rw [hx] at h0
    obtain ⟨y, hm, e⟩ := h0.pointer
    cases hq
    unfold aNext at hf
    split at hf
    · rename_i s pos hg
      have hw : w.heap[y.1]? = some (.stringIter s pos) := H.live b y _ hm hg
      have hget : (getObj y.1).run K.P w = .ok (.stringIter s pos) w := by simp [getObj, Sem.run, hw]
      cases hc : (isS && !Nat.blt b N0) with
      | false => rw [hc] at hf; cases hf
      | true =>
        rw [hc] at hf
        simp only [cond] at hf
        simp only [Bool.and_eq_true, Bool.not_eq_true'] at hc
        obtain ⟨rfl, hbn⟩ := hc
        have hN : N0 ≤ b := by
          rcases Nat.lt_or_ge b N0 with h1 | h1
          · rw [blt_true h1] at hbn; cases hbn
          · exact h1
        cases hp : Nat.blt pos s.size with
        | false =>
          rw [hp] at hf
          cases hf
          have hlt : ¬ pos < s.size := fun h1 => by rw [blt_true h1] at hp; cases hp
          refine ⟨m, w, .tuple #[.bool false], H, .refl m _ w, .tupL (.cons (.lit rfl) .nil), .inl ?_⟩
          simp [execOp, ho, e, Instr.next, hget, hlt]
        | true =>
          rw [hp] at hf
          have hlt := blt_of hp
          cases ha : Nat.blt (s.get! pos).toNat 128 with
          | false => rw [ha] at hf; cases hf
          | true =>
            rw [ha] at hf
            cases hf
            have hdec := decode_one s pos (blt_of ha)
            have hset : (setObj y.1 (.stringIter s (pos + 1))).run K.P w = .ok () (w.putObj y.1 (.stringIter s (pos + 1))) := by simp [setObj, Sem.run, hw, World.putObj]
            obtain ⟨H1, X1⟩ := H.turn (w' := w.putObj y.1 (.stringIter s (pos + 1))) hN hm (by rw [hg]; rfl) (.sit s (pos + 1)) (putObj_size _ _ _) (fun k hk => putObj_other _ _ _ _ hk) (putObj_self _ _ _ _ hw) ⟨rfl, rfl, rfl⟩
            refine ⟨m, _, .tuple #[.bool true, .int .i64 (.ofNat pos), .int .i32 (.ofNat (s.get! pos).toNat)], H1, X1, .tupL (.cons (.lit rfl) (.cons (.lit rfl) (.cons (.lit rfl) .nil))), .inl ?_⟩
            simp [execOp, ho, e, Instr.next, hget, hlt, hdec, hset, goInt]
    · rename_i hg
      obtain ⟨a, b2, c, hw⟩ := H.live b y _ hm hg
      have hget : (getObj y.1).run K.P w = .ok (.mapIter none a b2 c) w := by simp [getObj, Sem.run, hw]
      cases isS with
      | true => cases hf
      | false =>
        cases hf
        refine ⟨m, w, .tuple #[.bool false], H, .refl m _ w, .tupL (.cons (.lit rfl) .nil), .inl ?_⟩
        simp [execOp, ho, e, Instr.next, hget]
    · rename_i r hg
      obtain ⟨y2, a, c, hm2, hw⟩ := H.live b y _ hm hg
      have hget : (getObj y.1).run K.P w = .ok (.mapIter (some y2.1) a #[] c) w := by simp [getObj, Sem.run, hw]
      cases isS with
      | true => cases hf
      | false =>
        simp only [cond] at hf
        split at hf
        · rename_i cl hg2
          cases hf
          obtain ⟨es', e1, e2, _⟩ := H.live r y2 _ hm2 hg2
          have he : es' = #[] := Array.eq_empty_of_size_eq_zero e2.symm
          subst he
          refine ⟨m, w, .tuple #[.bool false], H, .refl m _ w, .tupL (.cons (.lit rfl) .nil), .inl ?_⟩
          simp [execOp, ho, e, Instr.next, hget, run_getMap e1, choose, Sem.run, Question.forced]
        · cases hf
    · cases hf
  · cases hq
end
end Go.Proofs.YtdkebebingchpaaGreatDoor.Ru

/- The runner: the machine's steps. -/
namespace Go.Proofs.YtdkebebingchpaaGreatDoor.Ru
open Go Go.RowKit

/-- A frame at work. -/
def mkF (fn : FuncId) (kind : CallKind) (ro : Option Nat) (tmps : Array Value) (ds : List Deferred) (todo : List Item) : Frame :=
  { fn := fn, tmps := tmps, todo := todo, defers := ds, mode := .run, kind := kind, roundOf := ro }
def putT (d : Option Tmp) (tmps : Array Value) (v : Value) : Array Value := match d with
  | some d => tmps.setIfInBounds d v
  | none => tmps
def evT (tmps : Array Value) : Operand → Value
  | .tmp t => tmps.getD t undef
  | .const v => v
  | .global g => .pointer (some ⟨g, 0, none⟩)
  | .func f => .func (.func f) #[] #[]
section
variable {P : Program} {fn : FuncId} {kind : CallKind} {ro : Option Nat} {tmps : Array Value} {ds : List Deferred} {cs : List Frame} {w w' : World} {k : List Item}
theorem mkF_eval (todo : List Item) : (mkF fn kind ro tmps ds todo).eval = evT tmps := funext fun x => by cases x <;> rfl
theorem mkF_finish (ops : Array Oper) (i : Nat) (rest : List Nat) (v : Value) : (mkF fn kind ro tmps ds (.inRegion ops (i :: rest) :: k)).finish v = mkF fn kind ro (putT ((ops[i]?).bind (·.dst)) tmps v) ds (.inRegion ops rest :: k) := by
  cases h : (ops[i]?).bind (·.dst) <;> simp [Frame.finish, mkF, putT, h]
theorem st_skipC : step P (lone (mkF fn kind ro tmps ds (.code .skip :: k)) cs w) = .next (lone (mkF fn kind ro tmps ds k) cs w) :=
  step_lone_go (by simp [stepG, stepG.exec, mkF])
theorem st_label {l : Nat} : step P (lone (mkF fn kind ro tmps ds (.code (.label l) :: k)) cs w) = .next (lone (mkF fn kind ro tmps ds k) cs w) :=
  step_lone_go (by simp [stepG, stepG.exec, mkF])
theorem st_inBlock {id : Nat} : step P (lone (mkF fn kind ro tmps ds (.inBlock id :: k)) cs w) = .next (lone (mkF fn kind ro tmps ds k) cs w) :=
  step_lone_go (by simp [stepG, stepG.exec, mkF])
theorem st_inScope {b : Code} : step P (lone (mkF fn kind ro tmps ds (.inScope b :: k)) cs w) = .next (lone (mkF fn kind ro tmps ds k) cs w) :=
  step_lone_go (by simp [stepG, stepG.exec, mkF])
theorem st_seq {x y : Code} : step P (lone (mkF fn kind ro tmps ds (.code (.seq x y) :: k)) cs w) = .next (lone (mkF fn kind ro tmps ds (.code x :: .code y :: k)) cs w) :=
  step_lone_go (by simp [stepG, stepG.exec, mkF])
theorem st_cond {c : Operand} {x y : Code} {t : Bool} (h : evT tmps c = .bool t) : step P (lone (mkF fn kind ro tmps ds (.code (.cond c x y) :: k)) cs w) = .next (lone (mkF fn kind ro tmps ds (.code (cond t x y) :: k)) cs w) :=
  step_lone_go (by
    have := congrFun (mkF_eval (fn := fn) (kind := kind) (ro := ro) (tmps := tmps) (ds := ds) (.code (.cond c x y) :: k)) c
    simp only [mkF] at this
    rw [h] at this
    cases t <;> simp [stepG, stepG.exec, mkF, this])
theorem st_block {id : Nat} {c : Code} : step P (lone (mkF fn kind ro tmps ds (.code (.block id c) :: k)) cs w) = .next (lone (mkF fn kind ro tmps ds (.code c :: .inBlock id :: k)) cs w) :=
  step_lone_go (by simp [stepG, stepG.exec, mkF])
theorem st_loop {c : Code} : step P (lone (mkF fn kind ro tmps ds (.code (.loop c) :: k)) cs w) = .next (lone (mkF fn kind ro tmps ds (.code c :: .inLoop c :: k)) cs w) :=
  step_lone_go (by simp [stepG, stepG.exec, mkF])
theorem st_inLoop {c : Code} : step P (lone (mkF fn kind ro tmps ds (.inLoop c :: k)) cs w) = .next (lone (mkF fn kind ro tmps ds (.code c :: .inLoop c :: k)) cs w) :=
  step_lone_go (by simp [stepG, stepG.exec, mkF])
theorem st_scope {c : Code} : step P (lone (mkF fn kind ro tmps ds (.code (.scope c) :: k)) cs w) = .next (lone (mkF fn kind ro tmps ds (.code c :: .inScope c :: k)) cs w) :=
  step_lone_go (by simp [stepG, stepG.exec, mkF])
theorem st_exit {id : Nat} {k' : List Item} (h : exitTo id k = some k') : step P (lone (mkF fn kind ro tmps ds (.code (.exit id) :: k)) cs w) = .next (lone (mkF fn kind ro tmps ds k') cs w) :=
  step_lone_go (by simp [stepG, stepG.exec, mkF, h])
theorem st_goto {l : Nat} {k' : List Item} (h : gotoIn l k = some k') : step P (lone (mkF fn kind ro tmps ds (.code (.goto l) :: k)) cs w) = .next (lone (mkF fn kind ro tmps ds k') cs w) :=
  step_lone_go (by simp [stepG, stepG.exec, mkF, h])
theorem st_region {id : Nat} {ops : Array Oper} : step P (lone (mkF fn kind ro tmps ds (.code (.region id ops false) :: k)) cs w) = .next (lone (mkF fn kind ro tmps ds (.inRegion ops (List.range ops.size) :: k)) cs w) :=
  step_lone_go (by simp [stepG, stepG.exec, mkF])
theorem st_draw {id : Nat} {ops : Array Oper} : step P (lone (mkF fn kind ro tmps ds (.code (.region id ops true) :: k)) cs w) =
    .next (lone (mkF fn kind ro tmps ds (.inRegion ops (Region.schedule (P.follows .mixedOrders) ops (w.tape w.drawn (.order fn id))) :: k)) cs w.drew) :=
  step_lone_go (by simp [stepG, stepG.exec, mkF, choose, Sem.run, Question.forced, Question.cut])
theorem st_done {ops : Array Oper} : step P (lone (mkF fn kind ro tmps ds (.inRegion ops [] :: k)) cs w) = .next (lone (mkF fn kind ro tmps ds k) cs w) :=
  step_lone_go (by simp [stepG, stepG.exec, mkF])
theorem st_pass {ops : Array Oper} {i : Nat} {rest : List Nat} {o : Oper} (ho : ops[i]? = some o) (hw : Region.wanted o (yielded ops tmps) = false) :
    step P (lone (mkF fn kind ro tmps ds (.inRegion ops (i :: rest) :: k)) cs w) = .next (lone (mkF fn kind ro (putT o.dst tmps undef) ds (.inRegion ops rest :: k)) cs w) := by
  have e := mkF_finish (fn := fn) (kind := kind) (ro := ro) (tmps := tmps) (ds := ds) (k := k) ops i rest undef
  rw [ho] at e
  simp only [Option.bind_some] at e
  rw [← e]
  exact step_lone_go (by simp [stepG, stepG.exec, mkF, ho, hw])
theorem st_op {ops : Array Oper} {i : Nat} {rest : List Nat} {o : Oper} (ho : ops[i]? = some o) (hw : Region.wanted o (yielded ops tmps) = true) (hd : ro = none ∨ ∀ c, o.op ≠ .defer c) :
    stepG P true { frame := mkF fn kind ro tmps ds (.inRegion ops (i :: rest) :: k), callers := cs, status := .running, dying := none } w =
      stepG.apply P true (mkF fn kind ro tmps ds (.inRegion ops (i :: rest) :: k)) cs none (execOp (evT tmps) o) w := by
  have he := mkF_eval (fn := fn) (kind := kind) (ro := ro) (tmps := tmps) (ds := ds) (.inRegion ops (i :: rest) :: k)
  simp only [mkF] at he
  simp only [stepG, stepG.exec, stepG.oper, Frame.oper?, mkF, ho, hw, Option.map_some, Option.getD_some, if_true]
  rcases hd with rfl | hd
  · simp only [he]
  · cases ro with
    | none => simp only [he]
    | some l =>
      cases hop : o.op <;> first | (simp only [he]; done) | exact absurd hop (hd _)
theorem st_value {ops : Array Oper} {i : Nat} {rest : List Nat} {o : Oper} (ho : ops[i]? = some o) (hw : Region.wanted o (yielded ops tmps) = true) (hd : ro = none ∨ ∀ c, o.op ≠ .defer c) {v : Value} (hr : (execOp (evT tmps) o).run P w = .ok (.value v) w') :
    step P (lone (mkF fn kind ro tmps ds (.inRegion ops (i :: rest) :: k)) cs w) = .next (lone (mkF fn kind ro (putT o.dst tmps v) ds (.inRegion ops rest :: k)) cs w') := by
  have e := mkF_finish (fn := fn) (kind := kind) (ro := ro) (tmps := tmps) (ds := ds) (k := k) ops i rest v
  rw [ho] at e
  simp only [Option.bind_some] at e
  rw [← e]
  exact step_lone_go (by rw [st_op ho hw hd]; simp [stepG.apply, hr])
theorem st_unit {ops : Array Oper} {i : Nat} {rest : List Nat} {o : Oper} (ho : ops[i]? = some o) (hw : Region.wanted o (yielded ops tmps) = true) (hd : ro = none ∨ ∀ c, o.op ≠ .defer c) (hr : (execOp (evT tmps) o).run P w = .ok .skip w') :
    step P (lone (mkF fn kind ro tmps ds (.inRegion ops (i :: rest) :: k)) cs w) = .next (lone (mkF fn kind ro (putT o.dst tmps undef) ds (.inRegion ops rest :: k)) cs w') := by
  have e := mkF_finish (fn := fn) (kind := kind) (ro := ro) (tmps := tmps) (ds := ds) (k := k) ops i rest undef
  rw [ho] at e
  simp only [Option.bind_some] at e
  rw [← e]
  exact step_lone_go (by rw [st_op ho hw hd]; simp [stepG.apply, hr])
theorem st_defer {ops : Array Oper} {i : Nat} {rest : List Nat} {o : Oper} (ho : ops[i]? = some o) (hw : Region.wanted o (yielded ops tmps) = true) {d : Deferred} (hr : (execOp (evT tmps) o).run P w = .ok (.defer d) w') :
    step P (lone (mkF fn kind none tmps ds (.inRegion ops (i :: rest) :: k)) cs w) = .next (lone (mkF fn kind none (putT o.dst tmps undef) (d :: ds) (.inRegion ops rest :: k)) cs w') := by
  have e := mkF_finish (fn := fn) (kind := kind) (ro := none) (tmps := tmps) (ds := d :: ds) (k := k) ops i rest undef
  rw [ho] at e
  simp only [Option.bind_some] at e
  rw [← e]
  exact step_lone_go (by rw [st_op ho hw (.inl rfl)]; simp [stepG.apply, hr, mkF])
theorem st_enter {ops : Array Oper} {i : Nat} {rest : List Nat} {o : Oper} (ho : ops[i]? = some o) (hw : Region.wanted o (yielded ops tmps) = true) (hd : ro = none ∨ ∀ c, o.op ≠ .defer c) {f : FuncId} {args : Array Value} (hr : (execOp (evT tmps) o).run P w = .ok (.enter f args) w') :
    step P (lone (mkF fn kind ro tmps ds (.inRegion ops (i :: rest) :: k)) cs w) = .next (lone (Frame.enter P f args .normal) (mkF fn kind ro tmps ds (.inRegion ops (i :: rest) :: k) :: cs) w') :=
  step_lone_go (by rw [st_op ho hw hd]; simp [stepG.apply, hr, mkF])
theorem st_round {ops : Array Oper} {i : Nat} {rest : List Nat} {o : Oper} (ho : ops[i]? = some o) (hw : Region.wanted o (yielded ops tmps) = true) (hd : ro = none ∨ ∀ c, o.op ≠ .defer c) {l : Nat} {f : FuncId} {t2 : Array Value} {a b : Code} (hr : (execOp (evT tmps) o).run P w = .ok (.round l f t2 a b) w') :
    step P (lone (mkF fn kind ro tmps ds (.inRegion ops (i :: rest) :: k)) cs w) = .next (lone (Frame.round l f t2 a b .normal) (mkF fn kind ro tmps ds (.inRegion ops (i :: rest) :: k) :: cs) w') :=
  step_lone_go (by rw [st_op ho hw hd]; simp [stepG.apply, hr, mkF])
end
end Go.Proofs.YtdkebebingchpaaGreatDoor.Ru

