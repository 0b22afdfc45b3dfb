/- The runner: what looks at no memory, what reads, what makes a block. -/
import Derived.Test.YthahmfeaekddnaaGreatDoorRuI
namespace Go.Proofs.YthahmfeaekddnaaGreatDoor.Ru
open Go Go.RowKit

section
variable {K : PK} {m : BM} {E : Env} {ρ : Operand → Value} {o : Oper}
theorem Q.of_cases (x : Option Value) : (∃ v, Q.of x = .pure v) ∨ Q.of x = .bad := by cases x <;> simp [Q.of]
theorem fallback_cases (K : PK) (E : Env) (o : Oper) : (∃ v, fallback K E o = .pure v) ∨ fallback K E o = .bad := by
  unfold fallback
  cases o.op.operands.toList.all (fun x => plain 4 (rd E x)) with
  | false => exact .inr rfl
  | true =>
    simp only [cond]
    split
    · rename_i v _
      cases plain 4 v
      · exact .inr rfl
      · exact .inl ⟨v, rfl⟩
    · exact .inr rfl
theorem Q.cond_eq {b : Bool} {x y : Q} (h : cond b x .bad = y) (hy : y ≠ .bad) : b = true ∧ x = y := by
  cases b
  · exact absurd h.symm hy
  · exact ⟨rfl, h⟩
theorem toList_nth {α : Type} {a : Array α} {x : α} {l : List α} (h : a.toList = x :: l) : a[0]? = some x := by
  rw [← Array.getElem?_toList, h]; rfl
theorem len_pure (k : KOk K) (hρ : ∀ x, VRel m (rd E x) (ρ x)) {args : Array Operand} {ts : Array TypeId} (ho : o.op = .call ⟨.builtin .len, args, ts⟩) {v : Value} (h : q_len K E o args ts = .pure v) : Gives K m ρ o v := by
  unfold q_len at h
  split at h
  · rename_i t _ x _ ht hx
    have e1 := toList_nth ht
    have e2 := toList_nth hx
    have h0 := hρ x
    split at h
    · rename_i e a n c hu hr
      cases h
      rw [hr] at h0
      obtain ⟨a', c', ex⟩ := h0.sliceL
      exact ⟨_, .lit rfl, fun w => by simp [execOp, ho, resolve, invoke, builtin, Builtin.len_, e1, e2, ex, run_underlying (k.und _ _ hu), goInt]⟩
    · cases h
    · exact fallback_ok hρ (fun cs b => by rw [ho]; simp) h
  · cases h
theorem pure_ok (k : KOk K) (c : Cx) (hρ : ∀ x, VRel m (rd E x) (ρ x)) {v : Value} (h : opK o.op K c E o = .pure v) : Gives K m ρ o v := by
  have fb : (∀ cs b, o.op ≠ .select cs b) → fallback K E o = .pure v → Gives K m ρ o v := fun hs h => fallback_ok hρ hs h
  cases ho : o.op with
  | move x => rw [ho] at h; exact move_ok hρ (.inl ho) h
  | assign x => rw [ho] at h; exact move_ok hρ (.inr ho) h
  | pick x a b => rw [ho] at h; exact pick_ok hρ ho h
  | alloc t =>
    rw [ho] at h
    change q_alloc K t = _ at h
    unfold q_alloc at h
    split at h <;> cases h
  | box t x =>
    rw [ho] at h
    change q_box E t x = _ at h
    unfold q_box at h
    cases hj : notJ (rd E x) <;> rw [hj] at h <;> cases h
  | build t ps => rw [ho] at h; exact build_ok k hρ ho h
  | buildSlice t n ps =>
    rw [ho] at h
    change q_buildSlice K E t n ps = _ at h
    unfold q_buildSlice at h
    split at h
    · split at h
      · split at h
        · have h := (Q.cond_eq h (by simp)).2
          split at h <;> cases h
        · cases h
      · cases h
    · cases h
  | load t a =>
    rw [ho] at h
    change q_load K E t a = _ at h
    unfold q_load at h
    split at h
    · split at h <;> cases h
    · cases h
  | store t a x =>
    rw [ho] at h
    change q_store K E t a x = _ at h
    unfold q_store at h
    split at h
    · cases hj : (notJ (rd E x) && isLen (sizeT K t) (rd E x).cells.toList && (K.info t).isSome) <;> rw [hj] at h <;> cases h
    · cases h
  | nilCheck x => rw [ho] at h; exact nilCheck_ok hρ ho h
  | binOp op t x y u => rw [ho] at h; exact binOp_ok k hρ ho h
  | unOp op t x => rw [ho] at h; exact unOp_ok hρ ho h
  | convert s d x => rw [ho] at h; exact convert_ok k hρ ho h
  | makeFunc fn a b => rw [ho] at h; exact makeFunc_ok hρ ho h
  | makeMap t r =>
    rw [ho] at h
    change q_makeMap r = _ at h
    cases r <;> cases h
  | makeSlice t l c' =>
    rw [ho] at h
    change q_makeSlice K E t l c' = _ at h
    unfold q_makeSlice at h
    split at h
    · split at h
      · split at h
        · cases (Q.cond_eq h (by simp)).2
        · cases h
      · cases h
    · cases h
  | slice t x a b d => rw [ho] at h; exact slice_ok k hρ ho h
  | fieldAddr t x f => rw [ho] at h; exact fieldAddr_ok k hρ ho h
  | field t x f => rw [ho] at h; exact field_ok k hρ ho h
  | indexAddr t x i => rw [ho] at h; exact indexAddr_ok k hρ ho h
  | index t x i => rw [ho] at h; exact index_ok k hρ ho h
  | lookup t x i k' => rw [ho] at h; cases h
  | mapUpdate t mp k' x => rw [ho] at h; cases h
  | extract t i => rw [ho] at h; exact extract_ok hρ ho h
  | call cl =>
    rw [ho] at h
    change q_call K c E o cl = _ at h
    have hs : ∀ cs b, o.op ≠ .select cs b := fun cs b => by rw [ho]; simp
    unfold q_call at h
    split at h
    · split at h
      · rename_i f g a b hf
        unfold q_ext at h
        split at h
        · split at h
          · cases h
          · exact fb hs h
        · cases h
      · rename_i v' hv
        unfold q_callv at h
        split at h
        · exact (hv _ _ _ (by assumption)).elim
        · cases h
        · cases h
    · rename_i b hb
      unfold q_builtin at h
      split at h
      · refine len_pure k hρ (args := cl.args) (ts := cl.argTypes) ?_ h
        rw [ho]; cases cl; simp_all
      · unfold q_append at h
        split at h
        · cases (Q.cond_eq h (by simp)).2
        · cases h
      · unfold q_copy at h
        split at h <;> cases h
      · unfold q_delete at h
        split at h <;> cases h
      · exact fb hs h
      · exact fb hs h
      · cases h
    · cases h
  | defer cl =>
    rw [ho] at h
    change q_defer E cl = _ at h
    unfold q_defer at h
    split at h
    · split at h <;> cases h
    · cases h
  | _ => rw [ho] at h; cases h
end
end Go.Proofs.YthahmfeaekddnaaGreatDoor.Ru
