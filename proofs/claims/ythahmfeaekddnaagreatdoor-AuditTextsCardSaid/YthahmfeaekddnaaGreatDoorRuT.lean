/- The runner: a region whose order is drawn. -/
import Derived.Test.YthahmfeaekddnaaGreatDoorRuS
namespace Go.Proofs.YthahmfeaekddnaaGreatDoor.Ru
open Go Go.RowKit

section
variable {K : PK} {ops : Array Oper}
/-- An environment of which only some temporaries are known. -/
noncomputable def junks (n : Nat) : Env := @Nat.rec (fun _ => Env) .nil (fun k E => setFV 24 E k junk) n
theorem junks_get (n : Nat) (hn : n ≤ 65536) (t : Nat) : getV (junks n) t = if t < n then junk else undef := by
  induction n with
  | zero => simp [junks]; rfl
  | succ n ih =>
    change getV (setFV 24 (junks n) n junk) t = _
    rw [getV_set _ _ _ _ (by omega), ih (by omega)]
    by_cases h : t = n
    · subst h; simp
    · rw [if_neg h]
      by_cases h2 : t < n
      · rw [if_pos h2, if_pos (by omega)]
      · rw [if_neg h2, if_neg (by omega)]
noncomputable def onlyE (n : Nat) (E : Env) : List Tmp → Env
  | [] => junks n
  | t :: r => cond (Nat.blt t n) (setFV 24 (onlyE n E r) t (getV E t)) (onlyE n E r)
theorem onlyE_get (n : Nat) (hn : n ≤ 65536) (E : Env) (ho : ∀ t, n ≤ t → getV E t = undef) : ∀ (l : List Tmp) (t : Nat), getV (onlyE n E l) t = if t ∈ l then getV E t else if t < n then junk else undef
  | [], t => by rw [onlyE, junks_get n hn]; simp
  | u :: r, t => by
    rw [onlyE]
    cases hb : Nat.blt u n with
    | true =>
      rw [cond_true, getV_set _ _ _ _ (by have := blt_of hb; omega), onlyE_get n hn E ho r t]
      by_cases h : t = u
      · subst h; simp
      · rw [if_neg h]; simp [h]
    | false =>
      have hu : n ≤ u := by
        rcases Nat.lt_or_ge u n with h | h
        · rw [blt_true h] at hb; cases hb
        · exact h
      rw [cond_false, onlyE_get n hn E ho r t]
      by_cases h : t = u
      · subst h
        rw [if_pos (List.mem_cons_self ..), ho t hu]
        by_cases h2 : t ∈ r
        · rw [if_pos h2]
        · rw [if_neg h2, if_neg (by omega)]
      · simp [h]
theorem fallback_congr {E E2 : Env} {o : Oper} (hs : ∀ cs b, o.op ≠ .select cs b) (h : ∀ x ∈ o.op.operands, rd E x = rd E2 x) : fallback K E o = fallback K E2 o := by
  have h1 : o.op.operands.toList.all (fun x => plain 4 (rd E x)) = o.op.operands.toList.all (fun x => plain 4 (rd E2 x)) := by
    rw [Bool.eq_iff_iff, List.all_eq_true, List.all_eq_true]
    constructor
    · intro hh x hx; rw [← h x (by simpa using hx)]; exact hh x hx
    · intro hh x hx; rw [h x (by simpa using hx)]; exact hh x hx
  unfold fallback
  rw [h1, execOp_congr o hs h]
theorem args_congr {E E2 : Env} {l : List Operand} (h : ∀ x ∈ l, rd E x = rd E2 x) : l.map (rd E) = l.map (rd E2) := List.map_congr_left h
theorem parts_congr {E E2 : Env} {l : List (Nat × Operand)} (h : ∀ p ∈ l, rd E p.2 = rd E2 p.2) : (l.map fun p => (p.1, rd E p.2)) = l.map fun p => (p.1, rd E2 p.2) := List.map_congr_left fun p hp => by rw [h p hp]
theorem opt_congr {E E2 : Env} {x : Option Operand} (h : ∀ y ∈ x.toArray, rd E y = rd E2 y) : x.map (rd E) = x.map (rd E2) := by
  cases x with
  | none => rfl
  | some y => simp [h y (by simp)]
/-- An operation looks at its operands alone. -/
theorem opK_congr (c : Cx) {E E2 : Env} {o : Oper} (h : ∀ x ∈ o.op.operands, rd E x = rd E2 x) : opK o.op K c E o = opK o.op K c E2 o := by
  have fb := fun hs => fallback_congr (K := K) (o := o) hs h
  cases ho : o.op with
  | move x => rw [ho] at h; change q_move E x = q_move E2 x; unfold q_move; rw [h x (by simp [Op.operands])]
  | assign x => rw [ho] at h; change q_move E x = q_move E2 x; unfold q_move; rw [h x (by simp [Op.operands])]
  | pick x a b => rw [ho] at h; change q_pick E x a b = q_pick E2 x a b; unfold q_pick; rw [h x (by simp [Op.operands]), h a (by simp [Op.operands]), h b (by simp [Op.operands])]
  | alloc t => rfl
  | box t x => rw [ho] at h; change q_box E t x = q_box E2 t x; unfold q_box; rw [h x (by simp [Op.operands])]
  | build t ps =>
    rw [ho] at h
    change q_build K E t ps = q_build K E2 t ps
    unfold q_build
    rw [parts_congr (E := E) (E2 := E2) fun p hp => h p.2 (by simp [Op.operands]; exact ⟨p.1, by simpa using hp⟩)]
  | buildSlice t n ps =>
    rw [ho] at h
    change q_buildSlice K E t n ps = q_buildSlice K E2 t n ps
    unfold q_buildSlice
    rw [parts_congr (E := E) (E2 := E2) fun p hp => h p.2 (by simp [Op.operands]; exact ⟨p.1, by simpa using hp⟩)]
  | load t a => rw [ho] at h; change q_load K E t a = q_load K E2 t a; unfold q_load; rw [h a (by simp [Op.operands])]
  | store t a x => rw [ho] at h; change q_store K E t a x = q_store K E2 t a x; unfold q_store; rw [h a (by simp [Op.operands]), h x (by simp [Op.operands])]
  | nilCheck x => rw [ho] at h; change q_nilCheck E x = q_nilCheck E2 x; unfold q_nilCheck; rw [h x (by simp [Op.operands])]
  | binOp op t x y u =>
    have fb := fb (by rw [ho]; simp)
    rw [ho] at h
    change q_binOp K E o op t x y = q_binOp K E2 o op t x y
    unfold q_binOp
    rw [h x (by simp [Op.operands]), h y (by simp [Op.operands]), fb]
  | unOp op t x =>
    have fb := fb (by rw [ho]; simp)
    rw [ho] at h
    change q_unOp K E o op x = q_unOp K E2 o op x
    unfold q_unOp
    rw [h x (by simp [Op.operands]), fb]
  | convert s d x =>
    have fb := fb (by rw [ho]; simp)
    rw [ho] at h
    change q_convert K E o s d x = q_convert K E2 o s d x
    unfold q_convert
    rw [h x (by simp [Op.operands]), fb]
  | makeFunc fn a b =>
    rw [ho] at h
    change q_makeFunc E fn a b = q_makeFunc E2 fn a b
    unfold q_makeFunc
    rw [args_congr (E := E) (E2 := E2) fun x hx => h x (by simp [Op.operands]; left; simpa using hx), args_congr (E := E) (E2 := E2) (l := b.toList) fun x hx => h x (by simp [Op.operands]; right; simpa using hx)]
  | makeMap t r => rfl
  | makeSlice t l k => rw [ho] at h; change q_makeSlice K E t l k = q_makeSlice K E2 t l k; unfold q_makeSlice; rw [h l (by simp [Op.operands]), h k (by simp [Op.operands])]
  | slice t x a b d =>
    rw [ho] at h
    change q_slice K E t x a b d = q_slice K E2 t x a b d
    unfold q_slice
    rw [h x (by simp [Op.operands]), opt_congr (E := E) (E2 := E2) (x := a) fun y hy => h y (by simp [Op.operands] at hy ⊢; simp [hy]), opt_congr (E := E) (E2 := E2) (x := b) fun y hy => h y (by simp [Op.operands] at hy ⊢; simp [hy]), opt_congr (E := E) (E2 := E2) (x := d) fun y hy => h y (by simp [Op.operands] at hy ⊢; simp [hy])]
  | fieldAddr t x f => rw [ho] at h; change q_fieldAddr K E t x f = q_fieldAddr K E2 t x f; unfold q_fieldAddr; rw [h x (by simp [Op.operands])]
  | field t x f => rw [ho] at h; change q_field K E t x f = q_field K E2 t x f; unfold q_field; rw [h x (by simp [Op.operands])]
  | indexAddr t x i => rw [ho] at h; change q_indexAddr K E t x i = q_indexAddr K E2 t x i; unfold q_indexAddr; rw [h x (by simp [Op.operands]), h i (by simp [Op.operands])]
  | index t x i =>
    have fb := fb (by rw [ho]; simp)
    rw [ho] at h
    change q_index K E o t x i = q_index K E2 o t x i
    unfold q_index
    rw [h x (by simp [Op.operands]), h i (by simp [Op.operands]), fb]
  | extract t i => rw [ho] at h; change q_extract E t i = q_extract E2 t i; unfold q_extract; rw [h t (by simp [Op.operands])]
  | lookup t x i k => rw [ho] at h; change q_lookup K E t x i k = q_lookup K E2 t x i k; unfold q_lookup; rw [h x (by simp [Op.operands]), h i (by simp [Op.operands])]
  | mapUpdate t mp k x => rw [ho] at h; change q_mapUpdate K E t mp k x = q_mapUpdate K E2 t mp k x; unfold q_mapUpdate; rw [h mp (by simp [Op.operands]), h k (by simp [Op.operands]), h x (by simp [Op.operands])]
  | call cl =>
    have fb := fb (by rw [ho]; simp)
    rw [ho] at h
    have hargs := args_congr (E := E) (E2 := E2) (l := cl.args.toList) fun x hx => h x (by simp [Op.operands, Call.operands]; right; simpa using hx)
    have harg : ∀ x ∈ cl.args.toList, rd E x = rd E2 x := fun x hx => h x (by simp [Op.operands, Call.operands]; right; simpa using hx)
    change q_call K c E o cl = q_call K c E2 o cl
    unfold q_call
    split
    · rename_i f hf
      rw [h f (by simp [Op.operands, Call.operands, hf])]
      split
      · unfold q_ext; rw [hargs, fb]
      · rw [hargs]
    · rename_i b hb
      unfold q_builtin
      split
      · unfold q_len
        split
        · rename_i t _ x _ _ hx
          rw [harg x (by rw [hx]; simp), fb]
        · rfl
      · unfold q_append
        split
        · rename_i t u s x _ hx
          rw [harg s (by rw [hx]; simp), harg x (by rw [hx]; simp)]
        · rfl
      · unfold q_copy
        split
        · rename_i t _ s x _ hx
          rw [harg s (by rw [hx]; simp), harg x (by rw [hx]; simp)]
        · rfl
      · unfold q_delete
        split
        · rename_i t _ s x _ hx
          rw [harg s (by rw [hx]; simp), harg x (by rw [hx]; simp)]
        · rfl
      · exact fb
      · exact fb
      · rfl
    · rfl
  | defer cl =>
    rw [ho] at h
    have hargs := args_congr (E := E) (E2 := E2) (l := cl.args.toList) fun x hx => h x (by simp [Op.operands, Call.operands]; right; simpa using hx)
    change q_defer E cl = q_defer E2 cl
    unfold q_defer
    split
    · rename_i f hf
      rw [h f (by simp [Op.operands, Call.operands, hf]), hargs]
    · rfl
  | _ => rfl
end
end Go.Proofs.YthahmfeaekddnaaGreatDoor.Ru
