/- The runner: arithmetic, comparisons, slices, structs. -/
import Derived.Test.YthahmfeaekddnaaGreatDoorRuF
namespace Go.Proofs.YthahmfeaekddnaaGreatDoor.Ru
open Go Go.RowKit

theorem wrapF_eq (k : IntKind) (n : Int) : wrapF k n = k.wrap n := by
  unfold wrapF
  cases n with
  | ofNat m =>
    simp only []
    cases h : Nat.blt m (topOf k) with
    | false => rfl
    | true =>
      have hm : m < topOf k := by rw [← Nat.blt_eq]; exact h
      simp only [cond]
      cases k <;> simp only [topOf] at hm <;> simp only [IntKind.wrap, IntKind.bits, IntKind.signed] <;> simp <;> omega
  | negSucc m =>
    simp only []
    cases h : k.signed && Nat.blt m (topOf k) with
    | false => rfl
    | true =>
      simp only [Bool.and_eq_true] at h
      have hm : m < topOf k := by rw [← Nat.blt_eq]; exact h.2
      have hs := h.1
      simp only [cond]
      cases k <;> simp only [topOf] at hm <;> simp [IntKind.signed] at hs <;> simp only [IntKind.wrap, IntKind.bits, IntKind.signed] <;> simp <;> omega
theorem ieq_eq (a b : Int) : ieq a b = (a == b) := by
  cases a <;> cases b <;> simp [ieq, Bool.beq_eq_decide_eq] <;> rw [Bool.eq_iff_iff] <;> simp [Nat.beq_eq] <;> omega
theorem ilt_eq (a b : Int) : ilt a b = decide (a < b) := by
  cases a <;> cases b <;> simp only [ilt] <;> rw [Bool.eq_iff_iff] <;> simp [Nat.blt_eq] <;> omega
theorem kindNo_inj {k j : IntKind} (h : kindNo k = kindNo j) : k = j := by cases k <;> cases j <;> first | rfl | cases h
theorem sameKind_some {k j : IntKind} {r : Option Value} {v : Value} (h : sameKind k j r = some v) : k = j ∧ r = some v := by
  unfold sameKind at h
  cases e : Nat.beq (kindNo k) (kindNo j) with
  | false => rw [e] at h; cases h
  | true => rw [e] at h; exact ⟨kindNo_inj (Nat.eq_of_beq_eq_true e), h⟩
theorem pl_some {r : Option Value} {v : Value} (h : pl r = some v) : plain 1 v = true ∧ r = some v := by
  unfold pl at h
  split at h
  · rename_i u
    cases e : plain 1 u with
    | false => rw [e] at h; cases h
    | true => rw [e] at h; cases h; exact ⟨e, rfl⟩
  · cases h
theorem plain1_rel {m : BM} {v : Value} (h : plain 1 v = true) : VRel m v v := plain_rel 1 v h
theorem le_not (a b : Int) : decide (a ≤ b) = !decide (b < a) := by rw [Bool.eq_iff_iff]; simp
section
variable {K : PK} {m : BM} {E : Env} {ρ : Operand → Value} {o : Oper}
theorem intBin_ok {op : BinOp} {k j : IntKind} {a b : Int} {v : Value} (h : intBin K op k a j b = some v) (xt : TypeId) (x y : Operand) :
    VRel m v v ∧ ∀ w, ((do eqGuard op xt x y (.int k a) (.int j b); binOp op xt (.int k a) (.int j b)) : Sem Value).run K.P w = .ok v w := by
  have guard : ∀ op, ∀ w, (eqGuard op xt x y (.int k a) (.int j b)).run K.P w = .ok () w := fun op w => by
    unfold eqGuard; simp
  unfold intBin intBinK at h
  cases op <;> simp only [] at h
  case add =>
    obtain ⟨e, h2⟩ := sameKind_some h; subst e; cases h2
    exact ⟨.lit rfl, fun w => by simp [guard, binOp, Op.intArith, wrapF_eq]⟩
  case sub =>
    obtain ⟨e, h2⟩ := sameKind_some h; subst e; cases h2
    exact ⟨.lit rfl, fun w => by simp [guard, binOp, Op.intArith, wrapF_eq]; rfl⟩
  case mul =>
    obtain ⟨e, h2⟩ := sameKind_some h; subst e; cases h2
    exact ⟨.lit rfl, fun w => by simp [guard, binOp, Op.intArith, wrapF_eq]⟩
  case eql =>
    obtain ⟨e, h2⟩ := sameKind_some h; subst e; cases h2
    exact ⟨.lit rfl, fun w => by simp [guard, binOp, Op.intCmp, ieq_eq]⟩
  case neq =>
    obtain ⟨e, h2⟩ := sameKind_some h; subst e; cases h2
    exact ⟨.lit rfl, fun w => by simp [guard, binOp, Op.intCmp, ieq_eq, bne]⟩
  case lss =>
    obtain ⟨e, h2⟩ := sameKind_some h; subst e; cases h2
    exact ⟨.lit rfl, fun w => by simp [guard, binOp, Op.intCmp, ilt_eq]⟩
  case leq =>
    obtain ⟨e, h2⟩ := sameKind_some h; subst e; cases h2
    exact ⟨.lit rfl, fun w => by simp [guard, binOp, Op.intCmp, ilt_eq]; exact le_not a b⟩
  case gtr =>
    obtain ⟨e, h2⟩ := sameKind_some h; subst e; cases h2
    exact ⟨.lit rfl, fun w => by simp [guard, binOp, Op.intCmp, ilt_eq]⟩
  case geq =>
    obtain ⟨e, h2⟩ := sameKind_some h; subst e; cases h2
    exact ⟨.lit rfl, fun w => by simp [guard, binOp, Op.intCmp, ilt_eq]; exact le_not b a⟩
  case shl =>
    obtain ⟨h1, h2⟩ := pl_some h
    exact ⟨plain1_rel h1, fun w => by simp [guard, binOp, pureOf_run K.P _ _ h2]⟩
  case shr =>
    obtain ⟨h1, h2⟩ := pl_some h
    exact ⟨plain1_rel h1, fun w => by simp [guard, binOp, pureOf_run K.P _ _ h2]⟩
  all_goals
    obtain ⟨e, h0⟩ := sameKind_some h
    subst e
    obtain ⟨h1, h2⟩ := pl_some h0
    exact ⟨plain1_rel h1, fun w => by simp [guard, binOp, pureOf_run K.P _ _ h2]⟩
theorem nilEq_run {d : TypeDesc} {t : TypeId} {x y x' y' : Value} {r : Bool} (hx : VRel m x x') (hy : VRel m y y') (hd : K.P.underlying t = some d) (h : nilEq d x y = some r) :
    (∀ (op : BinOp) (X Y : Operand) (w : World), (eqGuard op t X Y x' y').run K.P w = .ok () w) ∧ (∀ w, (binOp .eql t x' y').run K.P w = .ok (.bool r) w) ∧ ∀ w, (binOp .neq t x' y').run K.P w = .ok (.bool (!r)) w := by
  have eq : ∀ (n : Nat) (w : World), (Op.equalIn (n + 1) t x' y').run K.P w = .ok r w := fun n w => by
    unfold nilEq at h
    split at h <;> cases h
    · obtain ⟨_, x1, _, rfl⟩ := hx.pointer'; rw [hy.ptr0]; simp [Op.equalIn, run_underlying hd]
    · obtain ⟨_, x1, _, rfl⟩ := hy.pointer'; rw [hx.ptr0]; simp [Op.equalIn, run_underlying hd]
    · cases hx <;> cases hy <;> first | (simp [Op.equalIn, run_underlying hd]; done) | simp_all [litV]
    · cases hx <;> cases hy <;> first | (simp [Op.equalIn, run_underlying hd]; done) | simp_all [litV]
    · obtain ⟨_, x1, c', _, rfl, _⟩ := hx.sliceS; rw [hy.slice0]; simp [Op.equalIn, run_underlying hd]
    · obtain ⟨x1, _, rfl⟩ := hx.mapS; rw [hy.map0]; simp [Op.equalIn, run_underlying hd]
  have eq' := fun w => eq 9999 w
  unfold nilEq at h
  split at h <;> cases h
  · obtain ⟨_, x1, _, rfl⟩ := hx.pointer'
    rw [hy.ptr0] at eq' ⊢
    exact ⟨fun op X Y w => by unfold eqGuard; simp, fun w => by simp [binOp, Op.equal, Op.maxDepth, eq'], fun w => by simp [binOp, Op.equal, Op.maxDepth, eq']⟩
  · obtain ⟨_, x1, _, rfl⟩ := hy.pointer'
    rw [hx.ptr0] at eq' ⊢
    exact ⟨fun op X Y w => by unfold eqGuard; simp, fun w => by simp [binOp, Op.equal, Op.maxDepth, eq'], fun w => by simp [binOp, Op.equal, Op.maxDepth, eq']⟩
  · have e : y' = .nilFunc := by cases hy; rfl
    subst e
    cases hx <;> first | (exact ⟨fun op X Y w => by unfold eqGuard; simp, fun w => by simp [binOp, Op.equal, Op.maxDepth, eq'], fun w => by simp [binOp, Op.equal, Op.maxDepth, eq']⟩) | simp_all [litV]
  · have e : x' = .nilFunc := by cases hx; rfl
    subst e
    cases hy <;> first | (exact ⟨fun op X Y w => by unfold eqGuard; simp, fun w => by simp [binOp, Op.equal, Op.maxDepth, eq'], fun w => by simp [binOp, Op.equal, Op.maxDepth, eq']⟩) | simp_all [litV]
  · obtain ⟨_, x1, c', _, rfl, _⟩ := hx.sliceS
    rw [hy.slice0] at eq' ⊢
    exact ⟨fun op X Y w => by unfold eqGuard; simp, fun w => by simp [binOp, Op.equal, Op.maxDepth, eq'], fun w => by simp [binOp, Op.equal, Op.maxDepth, eq']⟩
  · obtain ⟨x1, _, rfl⟩ := hx.mapS
    rw [hy.map0] at eq' ⊢
    exact ⟨fun op X Y w => by unfold eqGuard; simp, fun w => by simp [binOp, Op.equal, Op.maxDepth, eq'], fun w => by simp [binOp, Op.equal, Op.maxDepth, eq']⟩
theorem binOp_ok (k : KOk K) (hρ : ∀ x, VRel m (rd E x) (ρ x)) {op : BinOp} {t u : TypeId} {x y : Operand} (ho : o.op = .binOp op t x y u) {v : Value} (h : q_binOp K E o op t x y = .pure v) : Gives K m ρ o v := by
  unfold q_binOp at h
  have h0 := hρ x
  have h1 := hρ y
  split at h
  · rename_i kk a j b hx hy
    rw [hx] at h0
    rw [hy] at h1
    obtain ⟨e1, e2⟩ := intBin_ok (m := m) (Q.of_pure h) t x y
    refine ⟨v, e1, fun w => ?_⟩
    have := e2 w
    simp only [Sem.run_bind] at this
    simp only [execOp, ho, h0.int, h1.int, Sem.run_bind, this, Result.andThen_ok, Sem.run_pure]
  · split at h
    · rename_i v' hn
      cases h
      unfold nilCmp at hn
      split at hn
      · rename_i d hd
        split at hn
        · rename_i r hr
          obtain ⟨g, e1, e2⟩ := nilEq_run h0 h1 (k.und _ _ hd) hr
          split at hn <;> cases hn
          · exact ⟨_, .lit rfl, fun w => by simp [execOp, ho, g, e1]⟩
          · exact ⟨_, .lit rfl, fun w => by simp [execOp, ho, g, e2]⟩
        · cases hn
      · cases hn
    · exact fallback_ok hρ (fun cs b => by rw [ho]; simp) h
theorem unOp_ok (hρ : ∀ x, VRel m (rd E x) (ρ x)) {op : UnOp} {t : TypeId} {x : Operand} (ho : o.op = .unOp op t x) {v : Value} (h : q_unOp K E o op x = .pure v) : Gives K m ρ o v := by
  unfold q_unOp at h
  have h0 := hρ x
  split at h
  · rename_i b ht
    rw [ht] at h0
    cases h
    exact ⟨_, .lit rfl, fun w => by simp [execOp, ho, h0.bool, Op.unary]⟩
  · exact fallback_ok hρ (fun cs b => by rw [ho]; simp) h
theorem convert_ok (k : KOk K) (hρ : ∀ x, VRel m (rd E x) (ρ x)) {s d : TypeId} {x : Operand} (ho : o.op = .convert s d x) {v : Value} (h : q_convert K E o s d x = .pure v) : Gives K m ρ o v := by
  unfold q_convert at h
  have h0 := hρ x
  split at h
  · rename_i sd kk kj n h1 h2 ht
    rw [ht] at h0
    cases h
    refine ⟨_, .lit rfl, fun w => ?_⟩
    simp [execOp, ho, h0.int, convert, run_underlying (k.und _ _ h1), run_underlying (k.und _ _ h2), Conv.intToInt, wrapF_eq]
  · exact fallback_ok hρ (fun cs b => by rw [ho]; simp) h
end
end Go.Proofs.YthahmfeaekddnaaGreatDoor.Ru
