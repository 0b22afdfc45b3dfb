/- The runner: operations that look at no memory. -/
import Derived.Test.YthahmfeaekddnaaGreatDoorRuE
import Derived.Laws.Tables
import Derived.Laws.Append
import Derived.Orders
namespace Go.Proofs.YthahmfeaekddnaaGreatDoor.Ru
open Go Go.RowKit

/-- The tables are the program's. -/
structure KOk (K : PK) : Prop where
  info : ∀ t i, K.info t = some i → K.P.info? t = some i
  und : ∀ t d, K.und t = some d → K.P.underlying t = some d
  fn : ∀ f g, K.fn f = some g → K.P.funcs[f]? = some g ∧ (g.name == "runtime.NumGoroutine") = false
  mix : K.P.follows .mixedOrders = true
theorem pureOf_run {α : Type} (P : Program) : ∀ (s : Sem α) (a : α), pureOf P s = some a → ∀ w, s.run P w = .ok a w := by
  intro s
  induction s with
  | pure a => intro b h w; simp only [pureOf] at h; cases h; rfl
  | program k ih => intro a h w; exact ih P a h w
  | mark _ k ih => intro a h w; exact ih a h w
  | load => intro _ h; cases h
  | store => intro _ h; cases h
  | new => intro _ h; cases h
  | shape => intro _ h; cases h
  | freeze => intro _ h; cases h
  | frozen => intro _ h; cases h
  | getObj => intro _ h; cases h
  | setObj => intro _ h; cases h
  | choose => intro _ h; cases h
  | sys => intro _ h; cases h
  | halt => intro _ h; cases h

section
variable {K : PK} {m : BM} {E : Env} {ρ : Operand → Value} {o : Oper}
/-- The operation yields this value and does nothing else. -/
def Gives (K : PK) (m : BM) (ρ : Operand → Value) (o : Oper) (v : Value) : Prop := ∃ v', VRel m v v' ∧ ∀ w, (execOp ρ o).run K.P w = .ok (.value v') w
theorem Q.of_pure {x : Option Value} {v : Value} (h : Q.of x = .pure v) : x = some v := by
  cases x with
  | none => cases h
  | some u => cases h; rfl
theorem fallback_ok (hρ : ∀ x, VRel m (rd E x) (ρ x)) (hs : ∀ cs b, o.op ≠ .select cs b) {v : Value} (h : fallback K E o = .pure v) : Gives K m ρ o v := by
  unfold fallback at h
  cases hp : o.op.operands.toList.all (fun x => plain 4 (rd E x)) with
  | false => rw [hp] at h; cases h
  | true =>
    rw [hp] at h
    simp only [cond] at h
    have he : execOp (rd E) o = execOp ρ o := execOp_congr o hs fun x hx => plain_eq 4 _ _ (List.all_eq_true.1 hp x (by simpa using hx)) (hρ x)
    split at h
    · rename_i u hu
      cases hq : plain 4 u with
      | false => rw [hq] at h; cases h
      | true =>
        rw [hq] at h
        cases h
        rw [he] at hu
        exact ⟨_, plain_rel 4 _ hq, fun w => pureOf_run K.P _ _ hu w⟩
    · cases h
theorem move_ok (hρ : ∀ x, VRel m (rd E x) (ρ x)) {x : Operand} (ho : o.op = .move x ∨ o.op = .assign x) {v : Value} (h : q_move E x = .pure v) : Gives K m ρ o v := by
  cases h
  refine ⟨_, hρ x, fun w => ?_⟩
  rcases ho with ho | ho <;> simp [execOp, ho]
theorem pick_ok (hρ : ∀ x, VRel m (rd E x) (ρ x)) {x a b : Operand} (ho : o.op = .pick x a b) {v : Value} (h : q_pick E x a b = .pure v) : Gives K m ρ o v := by
  unfold q_pick at h
  have h0 := hρ x
  split at h
  · rename_i t ht
    rw [ht] at h0
    cases h
    have e := h0.bool
    cases t
    · exact ⟨_, hρ b, fun w => by simp [execOp, ho, e, asBool]⟩
    · exact ⟨_, hρ a, fun w => by simp [execOp, ho, e, asBool]⟩
  · cases h
theorem extract_ok (hρ : ∀ x, VRel m (rd E x) (ρ x)) {t : Operand} {i : Nat} (ho : o.op = .extract t i) {v : Value} (h : q_extract E t i = .pure v) : Gives K m ρ o v := by
  unfold q_extract at h
  have h0 := hρ t
  split at h
  · rename_i vs ht
    rw [ht] at h0
    obtain ⟨vs', e, hl⟩ := h0.tupF
    obtain ⟨u', h1, h2⟩ := hl.get (Q.of_pure h)
    refine ⟨u', h2, fun w => ?_⟩
    rw [Array.getElem?_toList] at h1
    simp [execOp, ho, e, Instr.extract, h1]
  · cases h
theorem nilCheck_ok (hρ : ∀ x, VRel m (rd E x) (ρ x)) {x : Operand} (ho : o.op = .nilCheck x) {v : Value} (h : q_nilCheck E x = .pure v) : Gives K m ρ o v := by
  unfold q_nilCheck at h
  have h0 := hρ x
  split at h
  · rename_i a ht
    rw [ht] at h0
    cases h
    obtain ⟨_, x', _, e⟩ := h0.pointer'
    exact ⟨_, h0, fun w => by simp [execOp, ho, e]⟩
  · rename_i f a b ht
    rw [ht] at h0
    cases h
    obtain ⟨a', c', e, _, _⟩ := h0.funcF
    exact ⟨_, h0, fun w => by simp [execOp, ho, e]⟩
  · cases h
theorem makeFunc_ok (hρ : ∀ x, VRel m (rd E x) (ρ x)) {fn : Fn} {a b : Array Operand} (ho : o.op = .makeFunc fn a b) {v : Value} (h : q_makeFunc E fn a b = .pure v) : Gives K m ρ o v := by
  unfold q_makeFunc at h
  split at h
  · cases h
    have h1 := LRel.map (m := m) (l := a.toList) fun x _ => hρ x
    have h2 := LRel.map (m := m) (l := b.toList) fun x _ => hρ x
    exact ⟨.func (.func _) (a.map ρ) (b.map ρ), .func (by simp) (by simpa using h1.2) (by simp) (by simpa using h2.2), fun w => by simp [execOp, ho, Instr.makeFunc]⟩
  · cases h
theorem tyD_ok (k : KOk K) {t : TypeId} {a : Bool} {n : Nat} (h : tyD K t = some (a, n)) : (∃ i, K.P.info? t = some i ∧ i.size = n) ∧ ∀ w, (isAgg t).run K.P w = .ok a w := by
  unfold tyD at h
  split at h
  · rename_i fs i h1 h2
    cases h
    exact ⟨⟨i, k.info _ _ h2, rfl⟩, fun w => by simp [isAgg, run_underlying (k.und _ _ h1)]⟩
  · rename_i n e i h1 h2
    cases h
    exact ⟨⟨i, k.info _ _ h2, rfl⟩, fun w => by simp [isAgg, run_underlying (k.und _ _ h1)]⟩
  · rename_i d i n1 n2 h1 h2
    cases h
    refine ⟨⟨i, k.info _ _ h2, rfl⟩, fun w => ?_⟩
    simp only [isAgg, Sem.run_bind, run_underlying (k.und _ _ h1), Result.andThen_ok]
    cases d <;> first | rfl | (exfalso; exact n1 _ h1 rfl) | (exfalso; exact n2 _ _ h1 rfl) | simp_all
  · cases h
theorem part_ok (k : KOk K) {t : TypeId} {cs cs' : Array Value} {off : Nat} {v : Value} (hl : LRel m cs.toList cs'.toList) (h : partV K t cs.toList off = some v) : ∃ v', VRel m v v' ∧ ∀ w, (part t cs' off).run K.P w = .ok v' w := by
  rw [partV_eq] at h
  split at h
  · rename_i n hd
    obtain ⟨⟨i, hi, hn⟩, ha⟩ := tyD_ok k hd
    cases h
    refine ⟨.agg (cs'.extract off (off + n)), ?_, fun w => by simp [part, ha, sizeOf, typeInfo, hi, hn]⟩
    have h1 := (hl.drop off).take n
    refine .agg ?_ ?_
    · have e1 := h1.1
      simpa [Array.toList_extract, List.extract_eq_take_drop] using e1
    · have := h1.2
      simpa [Array.toList_extract, List.extract_eq_take_drop] using this
  · rename_i n hd
    obtain ⟨⟨i, hi, hn⟩, ha⟩ := tyD_ok k hd
    obtain ⟨u', h1, h2⟩ := hl.get h
    rw [Array.getElem?_toList] at h1
    exact ⟨u', h2, fun w => by simp [part, ha, h1]⟩
  · cases h
theorem field_ok (k : KOk K) (hρ : ∀ x, VRel m (rd E x) (ρ x)) {s : TypeId} {x : Operand} {f : Nat} (ho : o.op = .field s x f) {v : Value} (h : q_field K E s x f = .pure v) : Gives K m ρ o v := by
  unfold q_field at h
  have h0 := hρ x
  split at h
  · rename_i cs fd ht hf
    rw [ht] at h0
    obtain ⟨cs', e, hl⟩ := h0.aggF
    obtain ⟨v', h1, h2⟩ := part_ok k hl (Q.of_pure h)
    unfold field? at hf
    split at hf
    · rename_i fs hu
      exact ⟨v', h1, fun w => by simp [execOp, ho, e, Instr.field, run_underlying (k.und _ _ hu), hf, asAgg, h2]⟩
    · cases hf
  · cases h
theorem natOf_ok {v v' : Value} {n : Nat} (h : natOf v = some n) (hv : VRel m v v') : ∃ k, v' = .int k n := by
  unfold natOf at h
  split at h
  · cases h; exact ⟨_, hv.int⟩
  · cases h
theorem index_ok (k : KOk K) (hρ : ∀ x, VRel m (rd E x) (ρ x)) {t : TypeId} {x i : Operand} (ho : o.op = .index t x i) {v : Value} (h : q_index K E o t x i = .pure v) : Gives K m ρ o v := by
  unfold q_index at h
  have h0 := hρ x
  have h1 := hρ i
  split at h
  · rename_i n e cs j hu ht hj
    rw [ht] at h0
    obtain ⟨cs', ex, hl⟩ := h0.aggF
    obtain ⟨kk, ei⟩ := natOf_ok hj h1
    split at h
    · rename_i d hd
      cases hb : Nat.blt j n with
      | false => rw [hb] at h; cases h
      | true =>
        rw [hb] at h
        simp only [cond] at h
        have hlt : j < n := by rw [← Nat.blt_eq]; exact hb
        obtain ⟨v', e1, e2⟩ := part_ok k hl (Q.of_pure h)
        refine ⟨v', e1, fun w => ?_⟩
        have hc : (0 : Int) ≤ (j : Int) ∧ (j : Int) < (n : Int) := by omega
        simp [execOp, ho, ex, ei, Instr.index, asIntOf, run_underlying (k.und _ _ hu), hc, Nat.not_le.mpr hlt, sizeOf, typeInfo, k.info _ _ hd, e2]
    · cases h
  · exact fallback_ok hρ (fun cs b => by rw [ho]; simp) h
theorem fieldAddr_ok (k : KOk K) (hρ : ∀ x, VRel m (rd E x) (ρ x)) {s : TypeId} {x : Operand} {f : Nat} (ho : o.op = .fieldAddr s x f) {v : Value} (h : q_fieldAddr K E s x f = .pure v) : Gives K m ρ o v := by
  unfold q_fieldAddr at h
  have h0 := hρ x
  split at h
  · rename_i b off fd ht hf
    rw [ht] at h0
    obtain ⟨x', hm, e⟩ := h0.pointer
    cases hz : Nat.beq (sizeT K fd.type) 0 with
    | true => rw [hz] at h; cases h
    | false =>
      rw [hz] at h
      cases h
      have hne : sizeT K fd.type ≠ 0 := fun e => by rw [e] at hz; cases hz
      unfold sizeT at hne
      split at hne
      · rename_i i hi
        unfold field? at hf
        split at hf
        · rename_i fs hu
          refine ⟨.pointer (some ⟨x'.1, off + fd.offset, none⟩), .ptr hm, fun w => ?_⟩
          have ha : (⟨x'.1, off, none⟩ : Addr).add fd.offset = ⟨x'.1, off + fd.offset, none⟩ := by unfold Addr.add; split <;> simp_all
          simp [execOp, ho, e, Instr.fieldAt, run_underlying (k.und _ _ hu), hf, Instr.sureAddr, fieldPlace, sizeOf, typeInfo, k.info _ _ hi, hne, ha]
        · cases hf
      · exact absurd rfl hne
  · cases h
theorem add_off (b o n : Nat) : (⟨b, o, none⟩ : Addr).add n = ⟨b, o + n, none⟩ := by unfold Addr.add; split <;> simp_all
theorem indexAddr_ok (k : KOk K) (hρ : ∀ x, VRel m (rd E x) (ρ x)) {t : TypeId} {x i : Operand} (ho : o.op = .indexAddr t x i) {v : Value} (h : q_indexAddr K E t x i = .pure v) : Gives K m ρ o v := by
  unfold q_indexAddr at h
  have h0 := hρ x
  have h1 := hρ i
  split at h
  · rename_i e b off n c j hu ht hj
    rw [ht] at h0
    obtain ⟨_, x', c', hm, ex, _⟩ := h0.sliceS
    obtain ⟨kk, ei⟩ := natOf_ok hj h1
    split at h
    · rename_i d hd
      cases hb : Nat.blt j n with
      | false => rw [hb] at h; cases h
      | true =>
        rw [hb] at h
        cases h
        have hlt : j < n := by rw [← Nat.blt_eq]; exact hb
        have hc : (0 : Int) ≤ (j : Int) ∧ (j : Int) < (n : Int) := by omega
        exact ⟨_, .ptr hm, fun w => by simp [execOp, ho, ex, ei, Instr.indexAt, asIntOf, run_underlying (k.und _ _ hu), hc, Nat.not_le.mpr hlt, sizeOf, typeInfo, k.info _ _ hd, add_off]⟩
    · cases h
  · rename_i n e b off j hu ht hj
    rw [ht] at h0
    obtain ⟨x', hm, ex⟩ := h0.pointer
    obtain ⟨kk, ei⟩ := natOf_ok hj h1
    split at h
    · rename_i d hd
      cases hb : Nat.blt j n with
      | false => rw [hb] at h; cases h
      | true =>
        rw [hb] at h
        cases h
        have hlt : j < n := by rw [← Nat.blt_eq]; exact hb
        have hc : (0 : Int) ≤ (j : Int) ∧ (j : Int) < (n : Int) := by omega
        exact ⟨_, .ptr hm, fun w => by simp [execOp, ho, ex, ei, Instr.indexAt, asIntOf, run_underlying (k.und _ _ hu), hc, Nat.not_le.mpr hlt, sizeOf, typeInfo, k.info _ _ hd, add_off, Instr.sureAddr]⟩
    · cases h
  · cases h
end
end Go.Proofs.YthahmfeaekddnaaGreatDoor.Ru
