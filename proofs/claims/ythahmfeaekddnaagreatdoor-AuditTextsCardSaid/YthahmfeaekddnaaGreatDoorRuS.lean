/- The runner: what waits for what in a region. -/
import Derived.Test.YthahmfeaekddnaaGreatDoorRuR
namespace Go.Proofs.YthahmfeaekddnaaGreatDoor.Ru
open Go Go.RowKit

theorem numbered_get : ∀ (l : List Oper) (i : Nat) (x : Nat × Oper), x ∈ numbered l i ↔ i ≤ x.1 ∧ l[x.1 - i]? = some x.2
  | [], i, x => by simp [numbered]
  | o :: r, i, x => by
    change x ∈ (i, o) :: numbered r (i + 1) ↔ _
    rw [List.mem_cons, numbered_get r (i + 1) x]
    constructor
    · rintro (rfl | ⟨h1, h2⟩)
      · simp
      · refine ⟨by omega, ?_⟩
        rw [show x.1 - i = (x.1 - (i + 1)) + 1 by omega]; simpa using h2
    · rintro ⟨h1, h2⟩
      by_cases e : x.1 = i
      · left
        rw [e] at h2
        simp at h2
        exact Prod.ext e h2.symm
      · right
        refine ⟨by omega, ?_⟩
        rw [show x.1 - i = (x.1 - (i + 1)) + 1 by omega] at h2; simpa using h2
theorem effs_mem (x : Nat × Oper) : ∀ l : List (Nat × Oper), x ∈ effs l ↔ x ∈ l ∧ isEff x.2.op = true
  | [] => by simp [effs]
  | y :: r => by
    have ih := effs_mem x r
    change x ∈ @Bool.rec (fun _ => List (Nat × Oper)) (effs r) (y :: effs r) (isEff y.2.op) ↔ _
    cases he : isEff y.2.op with
    | true =>
      simp only [List.mem_cons, ih]
      exact ⟨fun h => h.elim (fun e => ⟨.inl e, e ▸ he⟩) fun h => ⟨.inr h.1, h.2⟩, fun h => h.1.elim .inl fun e => .inr ⟨e, h.2⟩⟩
    | false =>
      simp only [List.mem_cons, ih]
      exact ⟨fun h => ⟨.inr h.1, h.2⟩, fun h => h.1.elim (fun e => by rw [e, he] at h; cases h.2) fun e => ⟨e, h.2⟩⟩
theorem rests_mem (x : Nat × Oper) : ∀ l : List (Nat × Oper), x ∈ rests l ↔ x ∈ l ∧ isEff x.2.op = false
  | [] => by simp [rests]
  | y :: r => by
    have ih := rests_mem x r
    change x ∈ @Bool.rec (fun _ => List (Nat × Oper)) (y :: rests r) (rests r) (isEff y.2.op) ↔ _
    cases he : isEff y.2.op with
    | false =>
      simp only [List.mem_cons, ih]
      exact ⟨fun h => h.elim (fun e => ⟨.inl e, e ▸ he⟩) fun h => ⟨.inr h.1, h.2⟩, fun h => h.1.elim .inl fun e => .inr ⟨e, h.2⟩⟩
    | true =>
      simp only [List.mem_cons, ih]
      exact ⟨fun h => ⟨.inr h.1, h.2⟩, fun h => h.1.elim (fun e => by rw [e, he] at h; cases h.2) fun e => ⟨e, h.2⟩⟩
theorem free_held (B U : Nat) (t : List (Nat × Oper)) (x : Nat × Oper) : ∀ l : List (Nat × Oper), (x ∈ freeTo l B U t ↔ x ∈ t ∨ (x ∈ l ∧ Nat.beq (Nat.land (rowOf B x.1) U) 0 = true)) ∧ (x ∈ heldK l B U ↔ x ∈ l ∧ Nat.beq (Nat.land (rowOf B x.1) U) 0 = false)
  | [] => by simp [freeTo, heldK]
  | y :: r => by
    obtain ⟨h1, h2⟩ := free_held B U t x r
    constructor
    · change x ∈ @Bool.rec (fun _ => List (Nat × Oper)) (freeTo r B U t) (y :: freeTo r B U t) (Nat.beq (Nat.land (rowOf B y.1) U) 0) ↔ _
      cases he : Nat.beq (Nat.land (rowOf B y.1) U) 0 with
      | true =>
        simp only [List.mem_cons, h1]
        exact ⟨fun h => h.elim (fun e => .inr ⟨.inl e, e ▸ he⟩) fun h => h.elim .inl fun h => .inr ⟨.inr h.1, h.2⟩, fun h => h.elim (fun h => .inr (.inl h)) fun h => h.1.elim .inl fun e => .inr (.inr ⟨e, h.2⟩)⟩
      | false =>
        simp only [List.mem_cons, h1]
        exact ⟨fun h => h.elim .inl fun h => .inr ⟨.inr h.1, h.2⟩, fun h => h.elim .inl fun h => h.1.elim (fun e => by rw [e, he] at h; cases h.2) fun e => .inr ⟨e, h.2⟩⟩
    · change x ∈ @Bool.rec (fun _ => List (Nat × Oper)) (y :: heldK r B U) (heldK r B U) (Nat.beq (Nat.land (rowOf B y.1) U) 0) ↔ _
      cases he : Nat.beq (Nat.land (rowOf B y.1) U) 0 with
      | false =>
        simp only [List.mem_cons, h2]
        exact ⟨fun h => h.elim (fun e => ⟨.inl e, e ▸ he⟩) fun h => ⟨.inr h.1, h.2⟩, fun h => h.1.elim .inl fun e => .inr ⟨e, h.2⟩⟩
      | true =>
        simp only [List.mem_cons, h2]
        exact ⟨fun h => ⟨.inr h.1, h.2⟩, fun h => h.1.elim (fun e => by rw [e, he] at h; cases h.2) fun e => ⟨e, h.2⟩⟩
theorem stages_mem (B : Nat) (x : Nat × Oper) : ∀ (es todo : List (Nat × Oper)), x ∈ stages es B todo ↔ x ∈ es ∨ x ∈ todo
  | [], todo => by simp [stages]
  | e :: r, todo => by
    change x ∈ forced (fun U => freeTo todo B U (e :: stages r B (heldK todo B U))) (effMask (e :: r)) ↔ _
    rw [forced_eq, (free_held B _ _ x todo).1, List.mem_cons, stages_mem B x r, (free_held B _ [] x todo).2, List.mem_cons]
    cases Nat.beq (Nat.land (rowOf B x.1) (effMask (e :: r))) 0 with
    | true => exact ⟨fun h => h.elim (fun h => h.elim (fun h => .inl (.inl h)) fun h => h.elim (fun h => .inl (.inr h)) fun h => Bool.noConfusion h.2) fun h => .inr h.1, fun h => h.elim (fun h => h.elim (fun h => .inl (.inl h)) fun h => .inl (.inr (.inl h))) fun h => .inr ⟨h, rfl⟩⟩
    | false => exact ⟨fun h => h.elim (fun h => h.elim (fun h => .inl (.inl h)) fun h => h.elim (fun h => .inl (.inr h)) fun h => .inr h.1) fun h => Bool.noConfusion h.2, fun h => h.elim (fun h => h.elim (fun h => .inl (.inl h)) fun h => .inl (.inr (.inl h))) fun h => .inl (.inr (.inr ⟨h, rfl⟩))⟩
theorem ordOf_mem (ops : Array Oper) (B : Nat) (x : Nat × Oper) : x ∈ ordOf ops B ↔ ops[x.1]? = some x.2 := by
  unfold ordOf
  rw [stages_mem, effs_mem, rests_mem, ← and_or_left, numbered_get]
  cases isEff x.2.op <;> simp
theorem row_bit (B i j : Nat) : Nat.testBit (rowOf B i) j = (decide (j < 256) && Nat.testBit B (256 * i + j)) := by
  unfold rowOf
  change Nat.testBit ((B >>> (256 * i)) % 2 ^ 256) j = _
  rw [Nat.testBit_mod_two_pow, Nat.testBit_shiftRight]
theorem bit_eq (m j : Nat) : Nat.beq (Nat.land (Nat.shiftRight m j) 1) 1 = Nat.testBit m j := by
  have h : Nat.land (Nat.shiftRight m j) 1 = (m.testBit j).toNat := by
    change (m >>> j) &&& 1 = _
    rw [Nat.and_one_is_mod, Nat.shiftRight_eq_div_pow, Nat.toNat_testBit]
  rw [h]
  cases m.testBit j <;> rfl
theorem bef_bit (B i j : Nat) : bef B i j = (decide (j < 256) && Nat.testBit B (256 * i + j)) := by
  unfold bef
  rw [bit_eq, row_bit]
theorem lor_bit (a b k : Nat) : Nat.testBit (Nat.lor a b) k = (Nat.testBit a k || Nat.testBit b k) := Nat.testBit_or a b k
theorem one_bit (n k : Nat) : Nat.testBit (Nat.shiftLeft 1 n) k = decide (k = n) := by
  change Nat.testBit (1 <<< n) k = _
  rw [Nat.testBit_shiftLeft]
  by_cases h : k = n
  · subst h; simp
  · rw [decide_eq_false h]
    rcases Nat.lt_or_ge k n with h1 | h1
    · simp [Nat.not_le.2 h1]
    · have : (Nat.testBit 1 (k - n)) = false := by
        cases hb : Nat.testBit 1 (k - n) with
        | false => rfl
        | true => have := Nat.testBit_one_eq_true_iff_self_eq_zero.1 hb; omega
      rw [this, Bool.and_false]
theorem sub_bit {a m : Nat} (h : subQ a m = true) (k : Nat) (hk : Nat.testBit a k = true) : Nat.testBit m k = true := by
  have e : a &&& m = a  := Nat.eq_of_beq_eq_true h
  rw [← e, Nat.testBit_and, Bool.and_eq_true] at hk
  exact hk.2
theorem mask_bit (B j : Nat) : ∀ (es : List Edge) (s : Nat), Nat.testBit (maskK es B s) j = true →
    Nat.testBit s j = true ∨ ∃ e ∈ es, Region.binds .any e = true ∧ (e.on = j ∨ bef B e.on j = true)
  | [], s, h => .inl h
  | e :: es, s, h => by
    change Nat.testBit (@Bool.rec (fun _ => Nat) (maskK es B s) (maskK es B (Nat.lor s (Nat.lor (Nat.shiftLeft 1 e.on) (rowOf B e.on)))) (Region.binds .any e)) j = true at h
    cases hb : Region.binds .any e with
    | false =>
      rw [hb] at h
      rcases mask_bit B j es _ h with h1 | ⟨e', h1, h2⟩
      · exact .inl h1
      · exact .inr ⟨e', by simp [h1], h2⟩
    | true =>
      rw [hb] at h
      rcases mask_bit B j es _ h with h1 | ⟨e', h1, h2⟩
      · rw [lor_bit, lor_bit, one_bit] at h1
        simp only [Bool.or_eq_true, decide_eq_true_eq] at h1
        rcases h1 with h1 | h1 | h1
        · exact .inl h1
        · exact .inr ⟨e, by simp, hb, .inl h1.symm⟩
        · exact .inr ⟨e, by simp, hb, .inr (by unfold bef; rw [bit_eq]; exact h1)⟩
      · exact .inr ⟨e', by simp [h1], h2⟩
theorem befs_cons (o : Oper) (r : List Oper) (i B : Nat) : befs (o :: r) i B = befs r (i + 1) (Nat.lor B (Nat.shiftLeft (Nat.mod (maskK o.after.toList B 0) W256) (Nat.mul 256 i))) := forced_eq _ _
theorem befs_mono : ∀ (l : List Oper) (i B k : Nat), Nat.testBit B k = true → Nat.testBit (befs l i B) k = true
  | [], _, _, _, h => h
  | o :: r, i, B, k, h => by
    rw [befs_cons]
    exact befs_mono r _ _ k (by rw [lor_bit, h]; rfl)
theorem befs_bit : ∀ (l : List Oper) (i B k : Nat), Nat.testBit (befs l i B) k = true → Nat.testBit B k = true ∨
    ∃ p o j, l[p]? = some o ∧ j < 256 ∧ k = 256 * (i + p) + j ∧ ∃ e ∈ o.after.toList, Region.binds .any e = true ∧ (e.on = j ∨ bef (befs l i B) e.on j = true)
  | [], _, _, _, h => .inl h
  | o :: r, i, B, k, h => by
    rw [befs_cons] at h ⊢
    rcases befs_bit r _ _ k h with h1 | ⟨p, o', j, h1, h2, h3, h4⟩
    · rw [lor_bit, Bool.or_eq_true] at h1
      rcases h1 with h1 | h1
      · exact .inl h1
      · change Nat.testBit ((maskK o.after.toList B 0 % 2 ^ 256) <<< (256 * i)) k = true at h1
        rw [Nat.testBit_shiftLeft, Nat.testBit_mod_two_pow] at h1
        simp only [Bool.and_eq_true, decide_eq_true_eq] at h1
        obtain ⟨g1, g2, g3⟩ := h1
        refine .inr ⟨0, o, k - 256 * i, rfl, g2, by omega, ?_⟩
        rcases mask_bit B _ _ _ g3 with g | ⟨e, e1, e2, e3⟩
        · simp at g
        · refine ⟨e, e1, e2, e3.imp id fun e3 => ?_⟩
          rw [bef_bit, Bool.and_eq_true, decide_eq_true_eq] at e3 ⊢
          exact ⟨e3.1, befs_mono r _ _ _ (by rw [lor_bit, e3.2]; rfl)⟩
    · exact .inr ⟨p + 1, o', j, by simpa using h1, h2, by rw [h3]; omega, h4⟩
/-- A set of operations that lacks none that one of them waits for. -/
def Down (ops : Array Oper) (D : Nat → Prop) : Prop := ∀ i (o : Oper), D i → ops[i]? = some o → ∀ e ∈ o.after.toList, Region.binds .any e = true → D e.on
theorem bef_in {ops : Array Oper} {D : Nat → Prop} (hD : Down ops D) (hlt : ∀ i (o : Oper), ops[i]? = some o → ∀ e ∈ o.after.toList, Region.binds .any e = true → e.on < i) :
    ∀ (i : Nat) (o : Oper), ops[i]? = some o → (∀ e ∈ o.after.toList, Region.binds .any e = true → D e.on) → ∀ j, bef (befs ops.toList 0 0) i j = true → D j := by
  intro i
  induction i using Nat.strongRecOn with
  | _ i ih =>
    intro o ho ha j hb
    have hb' := hb
    rw [bef_bit, Bool.and_eq_true, decide_eq_true_eq] at hb'
    rcases befs_bit ops.toList 0 0 _ hb'.2 with h1 | ⟨p, o', j', h1, h2, h3, e, h4, h5, h6⟩
    · simp at h1
    · have hp : p = i := by omega
      have hj : j' = j := by omega
      subst hp; subst hj
      rw [Array.getElem?_toList, ho] at h1
      cases h1
      have hl := hlt p o ho e h4 h5
      rcases h6 with rfl | h6
      · exact ha e h4 h5
      · have hlen : p < ops.size := (Array.getElem?_eq_some_iff.1 ho).1
        obtain ⟨oe, hoe⟩ : ∃ oe, ops[e.on]? = some oe := ⟨_, Array.getElem?_eq_getElem (by omega)⟩
        exact ih e.on hl oe hoe (fun e' he' hb' => hD e.on oe (ha e h4 h5) hoe e' he' hb') j' h6
theorem ordQ_ok (B : Nat) : ∀ (l : List (Nat × Oper)) (A S : Nat), ordQ l B A S = true → laterOk B l ∧ actsOk B l ∧ ∀ y ∈ l, Nat.testBit A y.1 = false ∧ ∀ k, Nat.testBit S k = true → bef B y.1 k = true
  | [], _, _, _ => ⟨trivial, trivial, fun _ h => absurd h (by simp)⟩
  | x :: r, A, S, h => by
    change @Bool.rec (fun _ => Bool) false (@Bool.rec (fun _ => Bool) false (forced (fun A' => forced (ordQ r B A') (@Bool.rec (fun _ => Nat) S (Nat.lor S (Nat.shiftLeft 1 x.1)) (isEff x.2.op))) (Nat.lor A (Nat.lor (Nat.shiftLeft 1 x.1) (rowOf B x.1)))) (subQ S (rowOf B x.1))) (Nat.beq (Nat.land (Nat.shiftRight A x.1) 1) 0) = true at h
    cases h1 : Nat.beq (Nat.land (Nat.shiftRight A x.1) 1) 0 with
    | false => rw [h1] at h; cases h
    | true =>
      rw [h1] at h
      cases h2 : subQ S (rowOf B x.1) with
      | false => rw [h2] at h; cases h
      | true =>
        rw [h2] at h
        rw [forced_eq, forced_eq] at h
        obtain ⟨g1, g2, g3⟩ := ordQ_ok B r _ _ h
        refine ⟨⟨fun y hy => ?_, g1⟩, ⟨fun he y hy => ?_, g2⟩, fun y hy => ?_⟩
        · have := (g3 y hy).1
          rw [lor_bit, lor_bit, one_bit] at this
          simp only [Bool.or_eq_false_iff, decide_eq_false_iff_not] at this
          refine ⟨fun e => this.2.1 e.symm, ?_⟩
          unfold bef
          rw [bit_eq]
          exact this.2.2
        · refine (g3 y hy).2 x.1 ?_
          rw [he]
          change Nat.testBit (Nat.lor S (Nat.shiftLeft 1 x.1)) x.1 = true
          rw [lor_bit, one_bit]
          simp
        · rcases List.mem_cons.1 hy with rfl | hy
          · constructor
            · have e : Nat.land (Nat.shiftRight A y.1) 1 = 0 := Nat.eq_of_beq_eq_true h1
              have := bit_eq A y.1
              rw [e] at this
              exact this.symm
            · intro k hk
              unfold bef
              rw [bit_eq]
              exact sub_bit h2 k hk
          · obtain ⟨a1, a2⟩ := g3 y hy
            rw [lor_bit] at a1
            refine ⟨(Bool.or_eq_false_iff.1 a1).1, fun k hk => a2 k ?_⟩
            cases isEff x.2.op with
            | false => exact hk
            | true =>
              change Nat.testBit (Nat.lor S (Nat.shiftLeft 1 x.1)) k = true
              rw [lor_bit, hk]; rfl
theorem opsL_eq : ∀ op : Op, opsL op = op.operands.toList := by
  have snd : ∀ l : List (Nat × Operand), sndL l = l.map (·.2) := fun l => by
    induction l with
    | nil => rfl
    | cons x r ih => change x.2 :: sndL r = _; rw [ih]; rfl
  have opt : ∀ (x : Option Operand) (l : List Operand), optL x l = x.toList ++ l := fun x l => by cases x <;> rfl
  have join : ∀ l r : List Operand, joinL l r = l ++ r := fun l r => by
    induction l with
    | nil => rfl
    | cons x l ih => change x :: joinL l r = _; rw [ih]; rfl
  have cal : ∀ k : Call, callL k.callee k.args.toList = k.operands.toList := fun k => by
    unfold Call.operands
    cases k.callee <;> simp [callL]
  intro op
  cases op
  case call k => exact cal k
  case go k => exact cal k
  case defer k => exact cal k
  case build t ps => exact (snd _).trans (by simp [Op.operands])
  case buildSlice t n ps => exact (snd _).trans (by simp [Op.operands])
  case makeFunc f a b => exact (join _ _).trans (by simp [Op.operands])
  case makeMap t r => exact (opt _ _).trans (by cases r <;> simp [Op.operands])
  case slice t x l h m =>
    change x :: optL l (optL h (optL m [])) = _
    rw [opt, opt, opt]
    cases l <;> cases h <;> cases m <;> simp [Op.operands]
  all_goals rfl
theorem rds_mem (ops : Array Oper) (o : Oper) (t : Tmp) (h : t ∈ readsOf ops o) : Operand.tmp t ∈ rdsK ops o := by
  have tmp : ∀ l : List Operand, t ∈ tmpsOf l → Operand.tmp t ∈ l := fun l h => by
    unfold tmpsOf at h
    obtain ⟨x, h1, h2⟩ := List.mem_filterMap.1 h
    cases x <;> simp at h2
    subst h2; exact h1
  unfold readsOf at h
  unfold rdsK
  rw [opsL_eq]
  rcases List.mem_append.1 h with h | h
  · have := tmp _ h
    cases hg : o.guard with
    | none => exact this
    | some g =>
      change Operand.tmp t ∈ @Option.rec Tmp (fun _ => List Operand) o.op.operands.toList (fun d => .tmp d :: o.op.operands.toList) ((ops[g.1]?).bind (·.dst))
      cases (ops[g.1]?).bind (·.dst) with
      | none => exact this
      | some d => exact List.mem_cons_of_mem _ this
  · cases hg : o.guard with
    | none => rw [hg] at h; simp at h
    | some g =>
      rw [hg] at h
      change Operand.tmp t ∈ @Option.rec Tmp (fun _ => List Operand) o.op.operands.toList (fun d => .tmp d :: o.op.operands.toList) ((ops[g.1]?).bind (·.dst))
      obtain ⟨g1, g2⟩ := g
      simp only at h ⊢
      cases hd : (ops[g1]?).bind (·.dst) with
      | none => rw [hd] at h; simp at h
      | some d =>
        rw [hd] at h
        simp only [List.mem_singleton] at h
        subst h
        exact List.mem_cons_self ..
theorem slot_bit (W s t j : Nat) : Nat.testBit (slot W s t) j = (decide (j < s) && Nat.testBit W (s * t + j)) := by
  unfold slot
  have e : Nat.shiftLeft 1 s = 2 ^ s := by
    change 1 <<< s = _
    rw [Nat.one_shiftLeft]
  rw [e]
  change Nat.testBit ((W >>> (s * t)) % 2 ^ s) j = _
  rw [Nat.testBit_mod_two_pow, Nat.testBit_shiftRight]
theorem rdQ_ok (t W s m : Nat) : ∀ l : List Operand, rdQ l W s m = true → Operand.tmp t ∈ l → subQ (slot W s t) m = true
  | [], _, h => by simp at h
  | x :: r, h, hm => by
    change @Bool.rec (fun _ => Bool) false (rdQ r W s m) (tmpQ x W s m) = true at h
    cases hx : tmpQ x W s m with
    | false => rw [hx] at h; cases h
    | true =>
      rw [hx] at h
      rcases List.mem_cons.1 hm with rfl | hm
      · exact hx
      · exact rdQ_ok t W s m r h hm
theorem rdA_mono (s i k : Nat) : ∀ (l : List Operand) (A : Nat), Nat.testBit A k = true → Nat.testBit (rdA l A s i) k = true
  | [], _, h => h
  | x :: r, A, h => rdA_mono s i k r (tmpA x A s i) (by
    cases x with
    | tmp t => change Nat.testBit (Nat.lor A _) k = true; rw [lor_bit, h]; rfl
    | _ => exact h)
theorem rdA_ok (s i t : Nat) : ∀ (l : List Operand) (A : Nat), Operand.tmp t ∈ l → Nat.testBit (rdA l A s i) (s * t + i) = true
  | [], _, h => by simp at h
  | x :: r, A, h => by
    rcases List.mem_cons.1 h with rfl | h
    · refine rdA_mono s i _ r (tmpA (.tmp t) A s i) ?_
      change Nat.testBit (Nat.lor A (Nat.shiftLeft 1 (s * t + i))) (s * t + i) = true
      rw [lor_bit, one_bit]; simp
    · exact rdA_ok s i t r (tmpA x A s i) h
theorem dstA_mono (s i k : Nat) (d : Option Tmp) (A : Nat) (h : Nat.testBit A k = true) : Nat.testBit (dstA d A s i) k = true := by
  cases d with
  | none => exact h
  | some t => change Nat.testBit (Nat.lor A _) k = true; rw [lor_bit, h]; rfl
theorem dstA_ok (s i t A : Nat) : Nat.testBit (dstA (some t) A s i) (s * t + i) = true := by
  change Nat.testBit (Nat.lor A (Nat.shiftLeft 1 (s * t + i))) (s * t + i) = true
  rw [lor_bit, one_bit]; simp
theorem edQ_ok (i : Nat) (e : Edge) : ∀ l : List Edge, edQ l i = true → e ∈ l → Region.binds .any e = true → e.on < i
  | [], _, h, _ => by simp at h
  | x :: r, h, hm, hb => by
    change @Bool.rec (fun _ => Bool) (edQ r i) (@Bool.rec (fun _ => Bool) false (edQ r i) (Nat.blt x.on i)) (Region.binds .any x) = true at h
    have hr : edQ r i = true ∧ (Region.binds .any x = true → x.on < i) := by
      cases hx : Region.binds .any x with
      | false => rw [hx] at h; exact ⟨h, fun h => by cases h⟩
      | true =>
        rw [hx] at h
        cases hy : Nat.blt x.on i with
        | false => rw [hy] at h; cases h
        | true => rw [hy] at h; exact ⟨h, fun _ => blt_of hy⟩
    rcases List.mem_cons.1 hm with rfl | hm
    · exact hr.2 hb
    · exact edQ_ok i e r hr.1 hm hb
/-- What the masks hold of the operations before i. -/
def Seen (ops : Array Oper) (s i W A : Nat) : Prop := ∀ j (o : Oper), j < i → ops[j]? = some o →
  (∀ t, o.dst = some t → Nat.testBit W (s * t + j) = true ∧ Nat.testBit A (s * t + j) = true) ∧ (∀ t, t ∈ readsOf ops o → Nat.testBit A (s * t + j) = true)
theorem clashQ_ok (ops : Array Oper) (s B : Nat) : ∀ (l : List Oper) (i W A : Nat), clashQ l ops s B i W A = true → ops.toList.drop i = l → i + l.length ≤ s → Seen ops s i W A →
    ∀ p (o' : Oper), i ≤ p → ops[p]? = some o' → (∀ e ∈ o'.after.toList, Region.binds .any e = true → e.on < p) ∧ ∀ j (o : Oper), j < p → ops[j]? = some o → clash ops o o' = true → bef B p j = true
  | [], i, W, A, _, hl, _, _, p, o', hp, ho => by
    have h1 := (Array.getElem?_eq_some_iff.1 ho).1
    have := List.drop_eq_nil_iff.1 hl
    simp at this
    omega
  | x :: r, i, W, A, h, hl, hs, hS, p, o', hp, ho => by
    change @Bool.rec (fun _ => Bool) false (@Bool.rec (fun _ => Bool) false (@Bool.rec (fun _ => Bool) false (forced (fun W' => forced (clashQ r ops s B (i + 1) W') (dstA x.dst (rdA (rdsK ops x) A s i) s i)) (dstA x.dst W s i)) (dstQ x.dst A s (rowOf B i))) (rdQ (rdsK ops x) W s (rowOf B i))) (edQ x.after.toList i) = true at h
    cases h1 : edQ x.after.toList i with
    | false => rw [h1] at h; cases h
    | true =>
    rw [h1] at h
    cases h2 : rdQ (rdsK ops x) W s (rowOf B i) with
    | false => rw [h2] at h; cases h
    | true =>
    rw [h2] at h
    cases h3 : dstQ x.dst A s (rowOf B i) with
    | false => rw [h3] at h; cases h
    | true =>
    rw [h3] at h
    change forced (fun W' => forced (clashQ r ops s B (i + 1) W') (dstA x.dst (rdA (rdsK ops x) A s i) s i)) (dstA x.dst W s i) = true at h
    rw [forced_eq, forced_eq] at h
    have hx : ops[i]? = some x := by
      have := congrArg (fun l => l[0]?) hl
      simpa using this
    by_cases hpi : p = i
    · subst hpi
      rw [hx] at ho
      cases ho
      refine ⟨fun e he hb => edQ_ok p e _ h1 he hb, fun j o hj hoj hc => ?_⟩
      obtain ⟨s1, s2⟩ := hS j o hj hoj
      have hjs : j < s := by simp at hs; omega
      have fin : ∀ (Z t : Nat), subQ (slot Z s t) (rowOf B p) = true → Nat.testBit Z (s * t + j) = true → bef B p j = true := fun Z t hq hb => by
        unfold bef
        rw [bit_eq]
        exact sub_bit hq j (by rw [slot_bit, hb]; simp [hjs])
      unfold Ru.clash at hc
      rw [Bool.or_eq_true] at hc
      rcases hc with hc | hc
      · cases hd : o.dst with
        | none => rw [hd] at hc; cases hc
        | some d =>
          rw [hd] at hc
          simp only [Bool.or_eq_true, List.contains_iff_mem, beq_iff_eq] at hc
          rcases hc with hc | hc
          · exact fin W d (rdQ_ok d W s _ _ h2 (rds_mem ops x d hc)) (s1 d hd).1
          · rw [hc] at h3
            exact fin A d h3 (s1 d hd).2
      · cases hd : x.dst with
        | none => rw [hd] at hc; cases hc
        | some d =>
          rw [hd] at hc h3
          simp only [List.contains_iff_mem] at hc
          exact fin A d h3 (s2 d hc)
    · refine clashQ_ok ops s B r (i + 1) _ _ h ?_ (by simp at hs; omega) (fun j o hj hoj => ?_) p o' (by omega) ho
      · have := congrArg List.tail hl
        simpa using this
      · by_cases hji : j = i
        · subst hji
          rw [hx] at hoj
          cases hoj
          refine ⟨fun t ht => ⟨?_, ?_⟩, fun t ht => dstA_mono _ _ _ _ _ (rdA_ok s j t _ A (rds_mem ops x t ht))⟩
          · rw [ht]; exact dstA_ok s j t W
          · rw [ht]; exact dstA_ok s j t _
        · obtain ⟨s1, s2⟩ := hS j o (by omega) hoj
          exact ⟨fun t ht => ⟨dstA_mono _ _ _ _ _ (s1 t ht).1, dstA_mono _ _ _ _ _ (rdA_mono _ _ _ _ _ (s1 t ht).2)⟩, fun t ht => dstA_mono _ _ _ _ _ (rdA_mono _ _ _ _ _ (s2 t ht))⟩
/-- What is checked of a region whose order is drawn. -/
theorem drw_ok {ops : Array Oper} {d : Drw} (h : drwOf ops = some d) : d.B = befs ops.toList 0 0 ∧ d.ord = ordOf ops (befs ops.toList 0 0) ∧
    (∀ i (o : Oper), ops[i]? = some o → ∀ e ∈ o.after.toList, Region.binds .any e = true → e.on < i) ∧
    (∀ i j (o o' : Oper), ops[i]? = some o → ops[j]? = some o' → i < j → clash ops o o' = true → bef (befs ops.toList 0 0) j i = true) ∧
    laterOk (befs ops.toList 0 0) (ordOf ops (befs ops.toList 0 0)) ∧ actsOk (befs ops.toList 0 0) (ordOf ops (befs ops.toList 0 0)) := by
  unfold drwOf at h
  rw [forced_eq] at h
  unfold drwB at h
  cases h1 : clashQ ops.toList ops ops.size (befs ops.toList 0 0) 0 0 0 with
  | false => rw [h1] at h; cases h
  | true =>
    rw [h1] at h
    cases h2 : ordQ (ordOf ops (befs ops.toList 0 0)) (befs ops.toList 0 0) 0 0 with
    | false => rw [h2] at h; cases h
    | true =>
      rw [h2] at h
      cases h
      obtain ⟨g1, g2, _⟩ := ordQ_ok _ _ _ _ h2
      have hc := clashQ_ok ops ops.size _ ops.toList 0 0 0 h1 rfl (by simp) (fun j _ hj => absurd hj (by omega))
      exact ⟨rfl, rfl, fun i o ho => (hc i o (by omega) ho).1, fun i j o o' hi hj hlt hcl => (hc j o' (by omega) hj).2 i o hlt hi hcl, g1, g2⟩

end Go.Proofs.YthahmfeaekddnaaGreatDoor.Ru
