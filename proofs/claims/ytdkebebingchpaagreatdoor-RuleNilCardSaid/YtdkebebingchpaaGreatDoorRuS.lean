/- The runner: what waits for what in a region. -/
import Derived.Test.YtdkebebingchpaaGreatDoorRuR
namespace Go.Proofs.YtdkebebingchpaaGreatDoor.Ru
open Go Go.RowKit

theorem numbered_get : ∀ (l : List Oper) (i : Nat) (x : Nat × Oper), x ∈ numbered l i ↔ i ≤ x.1 ∧ l[x.1 - i]? = some x.2
  | [], i, x => by simp [numbered]
  | o :: r, i, x => by
    rw [numbered, List.mem_cons, numbered_get r (i + 1) x]
    constructor
    · rintro (rfl | ⟨h1, h2⟩)
      · simp
      · refine ⟨by omega, ?_⟩
        rw [show x.1 - i = (x.1 - (i + 1)) + 1 by omega]; simpa using h2
    · rintro ⟨h1, h2⟩
      by_cases e : x.1 = i
      · left
        rw [e] at h2
        simp at h2
        exact Prod.ext e h2.symm
      · right
        refine ⟨by omega, ?_⟩
        rw [show x.1 - i = (x.1 - (i + 1)) + 1 by omega] at h2; simpa using h2
theorem stages_mem (B : List Nat) : ∀ (es todo : List (Nat × Oper)) (x : Nat × Oper), x ∈ stages B es todo → x ∈ es ∨ x ∈ todo
  | [], todo, x, h => .inr h
  | e :: r, todo, x, h => by
    rw [stages, List.mem_append, List.mem_cons] at h
    rcases h with h | rfl | h
    · exact .inr (List.mem_filter.1 h).1
    · exact .inl (by simp)
    · rcases stages_mem B r _ x h with h | h
      · exact .inl (by simp [h])
      · exact .inr (List.mem_filter.1 h).1
theorem befs_len : ∀ (l : List Oper) (acc : List Nat), (befs l acc).length = acc.length + l.length
  | [], acc => by simp [befs]
  | o :: r, acc => by rw [befs, befs_len r]; simp; omega
theorem befs_pre : ∀ (l : List Oper) (acc : List Nat), (befs l acc).take acc.length = acc
  | [], acc => by simp [befs]
  | o :: r, acc => by
    rw [befs]
    have := befs_pre r (acc ++ [maskOf acc o])
    have h2 := congrArg (List.take acc.length) this
    rw [List.take_take] at h2
    simpa using h2
theorem befs_get : ∀ (l : List Oper) (acc : List Nat) (i : Nat) (o : Oper), l[i]? = some o → (befs l acc).getD (acc.length + i) 0 = maskOf ((befs l acc).take (acc.length + i)) o
  | [], acc, i, o, h => by simp at h
  | x :: r, acc, 0, o, h => by
    simp at h; subst h
    rw [befs]
    have h1 := befs_pre r (acc ++ [maskOf acc x])
    have h2 : (befs r (acc ++ [maskOf acc x])).take acc.length = acc := by
      have := congrArg (List.take acc.length) h1
      rw [List.take_take] at this
      simpa using this
    rw [Nat.add_zero, h2]
    have h3 : ((befs r (acc ++ [maskOf acc x])).take (acc ++ [maskOf acc x]).length)[acc.length]? = some (maskOf acc x) := by rw [h1]; simp
    rw [List.getElem?_take] at h3
    split at h3
    · rw [List.getD_eq_getElem?_getD, h3]; rfl
    · cases h3
  | x :: r, acc, i + 1, o, h => by
    rw [befs]
    have := befs_get r (acc ++ [maskOf acc x]) i o (by simpa using h)
    simp only [List.length_append, List.length_singleton] at this
    rw [show acc.length + (i + 1) = acc.length + 1 + i by omega]
    exact this
theorem mask_bit (acc : List Nat) (j : Nat) : ∀ (es : List Edge) (s : Nat), Nat.testBit (es.foldl (fun s e => cond (Region.binds .any e) (Nat.lor s (Nat.lor (Nat.shiftLeft 1 e.on) (acc.getD e.on 0))) s) s) j = true →
    Nat.testBit s j = true ∨ ∃ e ∈ es, Region.binds .any e = true ∧ (e.on = j ∨ Nat.testBit (acc.getD e.on 0) j = true)
  | [], s, h => .inl h
  | e :: es, s, h => by
    rw [List.foldl_cons] at h
    rcases mask_bit acc j es _ h with h1 | ⟨e', h1, h2⟩
    · cases hb : Region.binds .any e with
      | false => rw [hb] at h1; exact .inl h1
      | true =>
        rw [hb] at h1
        simp only [cond] at h1
        have h1 : (s ||| ((1 <<< e.on) ||| acc.getD e.on 0)).testBit j = true := h1
        rw [Nat.testBit_or, Nat.testBit_or] at h1
        simp only [Bool.or_eq_true] at h1
        rcases h1 with h1 | h1 | h1
        · exact .inl h1
        · refine .inr ⟨e, by simp, hb, .inl ?_⟩
          rw [Nat.testBit_shiftLeft] at h1
          simp only [Bool.and_eq_true, decide_eq_true_eq] at h1
          have h3 := h1.2
          have := Nat.testBit_one_eq_true_iff_self_eq_zero.1 h3
          omega
        · exact .inr ⟨e, by simp, hb, .inr h1⟩
    · exact .inr ⟨e', by simp [h1], h2⟩
/-- A set of operations that lacks none that one of them waits for. -/
def Down (ops : Array Oper) (D : Nat → Prop) : Prop := ∀ i (o : Oper), D i → ops[i]? = some o → ∀ e ∈ o.after.toList, Region.binds .any e = true → D e.on
theorem bef_in {ops : Array Oper} {D : Nat → Prop} (hD : Down ops D) (hlt : ∀ i (o : Oper), ops[i]? = some o → ∀ e ∈ o.after.toList, Region.binds .any e = true → e.on < i) :
    ∀ (i : Nat) (o : Oper), ops[i]? = some o → (∀ e ∈ o.after.toList, Region.binds .any e = true → D e.on) → ∀ j, bef (befs ops.toList []) i j = true → D j := by
  intro i
  induction i using Nat.strongRecOn with
  | _ i ih =>
    intro o ho ha j hb
    unfold bef at hb
    have hg := befs_get ops.toList [] i o (by rw [Array.getElem?_toList]; exact ho)
    simp only [List.length_nil, Nat.zero_add] at hg
    rw [hg] at hb
    unfold maskOf at hb
    rcases mask_bit _ j o.after.toList 0 hb with h1 | ⟨e, h1, h2, h3⟩
    · simp at h1
    · have hl := hlt i o ho e h1 h2
      rcases h3 with rfl | h3
      · exact ha e h1 h2
      · have hlen : i < ops.size := (Array.getElem?_eq_some_iff.1 ho).1
        obtain ⟨oe, hoe⟩ : ∃ oe, ops[e.on]? = some oe := ⟨_, Array.getElem?_eq_getElem (by omega)⟩
        refine ih e.on hl oe hoe (fun e' he' hb' => hD e.on oe (ha e h1 h2) hoe e' he' hb') j ?_
        unfold bef
        rw [List.getD_eq_getElem?_getD, List.getElem?_take, if_pos hl, ← List.getD_eq_getElem?_getD] at h3
        exact h3

end Go.Proofs.YtdkebebingchpaaGreatDoor.Ru
