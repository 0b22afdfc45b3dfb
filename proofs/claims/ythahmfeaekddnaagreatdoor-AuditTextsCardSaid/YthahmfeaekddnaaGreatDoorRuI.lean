/- The runner: structs and lists built; lengths; all that looks at no memory. -/
import Derived.Test.YthahmfeaekddnaaGreatDoorRuH
namespace Go.Proofs.YthahmfeaekddnaaGreatDoor.Ru
open Go Go.RowKit

theorem setL_cons : ∀ (cs : List Value) (o : Nat) (v : Value) (vs : List Value), o < cs.length → setL cs o (v :: vs) = setL (cs.set o v) (o + 1) vs
  | [], _, _, _, h => by simp at h
  | c :: cs, 0, v, vs, _ => by
    rw [setL, List.set_cons_zero]
    cases vs with
    | nil => cases cs <;> simp [setL]
    | cons u us => rw [setL.eq_4 _ _ _ _ (by intro h; cases h)]
  | c :: cs, o + 1, v, vs, h => by
    rw [setL.eq_4 _ _ _ _ (by intro h; cases h), List.set_cons_succ, setL_cons cs o v vs (by simpa using h)]
    cases vs with
    | nil => cases cs <;> cases o <;> simp [setL]
    | cons u us => rw [setL.eq_4 _ _ _ _ (by intro h; cases h)]
theorem foldl_setL (off : Nat) : ∀ (vs : List Value) (k : Nat) (cs : Array Value), off + k + vs.length ≤ cs.size →
    ((vs.zipIdx k).foldl (fun cs (x : Value × Nat) => cs.setIfInBounds (off + x.2) x.1) cs).toList = setL cs.toList (off + k) vs
  | [], _, cs, _ => by cases h : cs.toList <;> simp [setL, h]
  | v :: vs, k, cs, h => by
    simp only [List.zipIdx_cons, List.foldl_cons]
    rw [foldl_setL off vs (k + 1) _ (by simp at h ⊢; omega), setL_cons _ _ _ _ (by simp at h ⊢; omega)]
    simp [Array.toList_setIfInBounds, Nat.add_assoc]
section
variable {K : PK} {m : BM} {E : Env} {ρ : Operand → Value} {o : Oper}
theorem fill_ok {place place' : Nat → Option (Nat × Nat)} (hp : ∀ i x, place i = some x → place' i = some x) : ∀ (parts : List (Nat × Operand)) (cells : List Value) (cells' : Array Value) (l : List Value), (∀ x, VRel m (rd E x) (ρ x)) → LRel m cells cells'.toList →
    aFill place cells (parts.map fun p => (p.1, rd E p.2)) = some l → ∃ l' : Array Value, Instr.fill place' cells' (parts.map fun p => (p.1, ρ p.2)) = some l' ∧ LRel m l l'.toList
  | [], cells, cells', l, _, hc, h => by
    simp only [List.map_nil, aFill] at h
    cases h
    exact ⟨cells', rfl, hc⟩
  | (i, x) :: parts, cells, cells', l, hρ, hc, h => by
    simp only [List.map_cons, aFill] at h
    split at h
    · cases h
    · rename_i off size hpl
      cases hk : (notJ (rd E x) && Nat.beq (rd E x).cells.toList.length size && Nat.ble (off + size) cells.length) with
      | false => rw [hk] at h; cases h
      | true =>
        rw [hk] at h
        simp only [cond] at h
        simp only [Bool.and_eq_true] at hk
        have e1 := Nat.eq_of_beq_eq_true hk.1.2
        have e2 := Nat.le_of_ble_eq_true hk.2
        have hv := (hρ x).cells (notJ_ne hk.1.1)
        have hl1 := hv.1
        have hl2 := hc.1
        simp only [Array.length_toList] at hl1 hl2 e1
        have hfit : ¬ ((ρ x).cells.size ≠ size ∨ off + (ρ x).cells.size > cells'.size) := by omega
        obtain ⟨l', h1, h2⟩ := fill_ok hp parts (setL cells off (rd E x).cells.toList) ((ρ x).cells.zipIdx.foldl (fun cs (c : Value × Nat) => cs.setIfInBounds (off + c.2) c.1) cells') l hρ (by
          rw [← Array.foldl_toList, Array.toList_zipIdx, foldl_setL off _ 0 _ (by simp; omega)]
          exact hc.setL hv) h
        refine ⟨l', ?_, h2⟩
        rw [List.map_cons, Instr.fill, hp _ _ hpl]
        simp only [Bool.or_eq_true, decide_eq_true_eq]
        rw [if_neg (by simpa using hfit)]
        exact h1
theorem fieldsL_ok (k : KOk K) : ∀ (fs : List Field) (l : List (Nat × Nat)), fieldsL K fs = some l → fs.mapM (fun f => (K.P.info? f.type).map fun i => (f.offset, i.size)) = some l
  | [], l, h => by cases h; rfl
  | f :: fs, l, h => by
    unfold fieldsL at h
    split at h
    · rename_i i r h1 h2
      cases h
      simp [List.mapM_cons, k.info _ _ h1, fieldsL_ok k fs r h2]
    · cases h
theorem zeroT_ok (k : KOk K) {t : TypeId} {z : Value} (h : zeroT K t = some z) : (∃ i, K.info t = some i ∧ K.P.info? t = some i ∧ i.zero = some z) ∧ LRel m z.cells.toList z.cells.toList := by
  unfold zeroT at h
  split at h
  · rename_i i hi
    split at h
    · rename_i u hu
      cases hq : plain 4 u with
      | false => rw [hq] at h; cases h
      | true =>
        rw [hq] at h
        cases h
        exact ⟨⟨i, hi, k.info _ _ hi, hu⟩, (plain_rel 4 _ hq).cells (fun e => by rw [e] at hq; simp [plain] at hq)⟩
    · cases h
  · cases h
theorem build_ok (k : KOk K) (hρ : ∀ x, VRel m (rd E x) (ρ x)) {t : TypeId} {parts : Array (Nat × Operand)} (ho : o.op = .build t parts) {v : Value} (h : q_build K E t parts = .pure v) : Gives K m ρ o v := by
  unfold q_build at h
  have fin : ∀ (l : List Value) (l' : Array Value), LRel m l l'.toList → K.P.built t (parts.map fun p => (p.1, ρ p.2)).toList = some l' → Gives K m ρ o (.agg l.toArray) := fun l l' hl hb => by
    refine ⟨.agg l', .agg hl.1 hl.2, fun w => ?_⟩
    have := run_build (P := K.P) w t (parts.map fun p => (p.1, ρ p.2)) l' hb
    simp only [execOp, ho, Sem.run_bind]
    rw [show (parts.map fun x => match x with | (i, x) => (i, ρ x)) = parts.map fun p => (p.1, ρ p.2) from rfl, this]
    rfl
  split at h
  · rename_i z fs hz hu
    obtain ⟨⟨i, _, hi, hzz⟩, hzl⟩ := zeroT_ok (m := m) k hz
    split at h
    · rename_i pl hpl
      split at h
      · rename_i l hf
        cases h
        obtain ⟨l', h1, h2⟩ := fill_ok (place' := fun i => pl.toArray[i]?) (by intro i x e; simpa using e) parts.toList z.cells.toList z.cells l hρ hzl hf
        refine fin l l' h2 ?_
        unfold Program.built
        simp only [hi, k.und _ _ hu, hzz, fieldsL_ok k _ _ hpl, Array.toList_map]
        exact h1
      · cases h
    · cases h
  · rename_i z n e hz hu
    obtain ⟨⟨i, _, hi, hzz⟩, hzl⟩ := zeroT_ok (m := m) k hz
    split at h
    · rename_i ie hie
      split at h
      · rename_i l hf
        cases h
        obtain ⟨l', h1, h2⟩ := fill_ok (place' := fun j => some (j * ie.size, ie.size)) (fun _ _ e => e) parts.toList z.cells.toList z.cells l hρ hzl hf
        refine fin l l' h2 ?_
        unfold Program.built
        simp only [hi, k.und _ _ hu, hzz, k.info _ _ hie, Array.toList_map]
        exact h1
      · cases h
    · cases h
  · cases h
end
end Go.Proofs.YthahmfeaekddnaaGreatDoor.Ru
