/- Package prog, in plain words: which programs may be, how many steps they have, whether they are simple, which locks they take. No program in sight. -/
import Derived.Test.YtmhlmoojmdfnfaaDoorDeedPlain
namespace Go.Proofs.YtmhlmoojmdfnfaaDoor

/-- May a program be? -/
def checkP (p : List Dd) : Int := if 256 < p.length then 4 else if p.all goodD then 0 else 1
theorem checkP_long {p : List Dd} (h : 256 < p.length) : checkP p = 4 := by rw [checkP, if_pos h]
theorem checkP_bad {p : List Dd} (h : p.length ≤ 256) {d : Dd} (hd : d ∈ p) (hg : goodD d = false) : checkP p = 1 := by
  rw [checkP, if_neg (by omega), if_neg]
  intro hall
  rw [List.all_eq_true] at hall
  rw [hall d hd] at hg
  cases hg
theorem checkP_good {p : List Dd} (h : p.length ≤ 256) (hg : ∀ d ∈ p, goodD d = true) : checkP p = 0 := by
  rw [checkP, if_neg (by omega), if_pos (List.all_eq_true.2 hg)]
theorem checkP_zero {p : List Dd} (h : checkP p = 0) : p.length ≤ 256 ∧ ∀ d ∈ p, goodD d = true := by
  unfold checkP at h
  split at h
  · cases h
  · split at h
    · rename_i h1 h2
      exact ⟨by omega, List.all_eq_true.1 h2⟩
    · cases h
theorem checkP_cases (p : List Dd) : checkP p = 0 ∨ checkP p = 1 ∨ checkP p = 4 := by
  unfold checkP; split
  · simp
  · split <;> simp

/-- A deed's steps. -/
def costD (d : Dd) : Nat := if d.op = 1 then d.n else 1
/-- The sum, held. -/
def addS (x y : Nat) : Nat := if 18446744073709551615 < x + y then 18446744073709551615 else x + y
theorem addS_lt (x y : Nat) : addS x y < 18446744073709551616 := by unfold addS; split <;> omega
def costs (p : List Dd) : Nat := p.foldl (fun n d => addS n (costD d)) 0
theorem costs_snoc (p : List Dd) (d : Dd) : costs (p ++ [d]) = addS (costs p) (costD d) := by simp [costs, List.foldl_append]
theorem costs_lt (p : List Dd) : costs p < 18446744073709551616 := by
  rcases List.eq_nil_or_concat p with rfl | ⟨q, d, rfl⟩
  · simp [costs]
  · rw [List.concat_eq_append, costs_snoc]; exact addS_lt _ _
/-- Is the last deed an Exit? -/
def endsExit (p : List Dd) : Bool := match p.getLast? with
  | none => false
  | some d => d.op == 3
def stepsP (p : List Dd) : Nat := if checkP p = 0 then (if endsExit p then costs p else addS (costs p) 1) else 0
theorem stepsP_lt (p : List Dd) : stepsP p < 18446744073709551616 := by
  unfold stepsP
  split
  · split
    · exact costs_lt p
    · exact addS_lt _ _
  · omega

/-- One deed more of a program that is walked: the lock that is held (-1: none), the steps, the most steps that a lock was held. -/
def simS (s : Int × Nat × Nat) (d : Dd) : Option (Int × Nat × Nat) :=
  if d.op = 1 then some (s.1, addS s.2.1 d.n, s.2.2)
  else if d.op = 11 ∧ d.a = s.1 then some (-1, s.2.1, max s.2.2 (addS s.2.1 1))
  else if s.1 ≠ -1 ∨ d.op = 11 then none
  else if d.op = 9 ∨ d.op = 10 then some (d.a, 0, s.2.2)
  else some s
def simL (p : List Dd) : Option (Int × Nat × Nat) := p.foldl (fun o d => o.bind fun s => simS s d) (some (-1, 0, 0))
theorem simL_snoc (p : List Dd) (d : Dd) : simL (p ++ [d]) = (simL p).bind fun s => simS s d := by simp [simL, List.foldl_append]
theorem foldl_none {σ : Type} (f : σ → Dd → Option σ) : ∀ (p : List Dd), p.foldl (fun o d => o.bind fun s => f s d) none = none
  | [] => rfl
  | d :: t => by rw [List.foldl_cons]; exact foldl_none f t
theorem fold_take {σ : Type} (f : σ → Dd → Option σ) (s0 : Option σ) (p : List Dd) (k : Nat) (h : (p.take k).foldl (fun o d => o.bind fun s => f s d) s0 = none) : p.foldl (fun o d => o.bind fun s => f s d) s0 = none := by
  conv => lhs; rw [← List.take_append_drop k p]
  rw [List.foldl_append, h, foldl_none]
theorem simL_take (p : List Dd) (k : Nat) (h : simL (p.take k) = none) : simL p = none := fold_take simS _ p k h
/-- Is it simple, and how long does it hold a lock? -/
def simpleP (p : List Dd) : Nat × Bool := if checkP p = 0 then (match simL p with
  | none => (0, false)
  | some s => if s.1 = -1 then (s.2.2, true) else (0, false)) else (0, false)

/-- The document's: which lock is held, and how many steps. -/
def heldS (s : Int × Nat) (d : Dd) : Option (Int × Nat) :=
  if d.op = 9 ∨ d.op = 10 then (if 0 ≤ s.1 then none else some (d.a, 0))
  else if d.op = 11 then (if s.1 = d.a then some (-1, s.2) else none)
  else if 0 ≤ s.1 ∧ d.op ≠ 1 then none else some (s.1, addS s.2 (costD d))
def heldL (p : List Dd) : Option (Int × Nat) := p.foldl (fun o d => o.bind fun s => heldS s d) (some (-1, 0))
theorem heldL_snoc (p : List Dd) (d : Dd) : heldL (p ++ [d]) = (heldL p).bind fun s => heldS s d := by simp [heldL, List.foldl_append]
theorem heldL_take (p : List Dd) (k : Nat) (h : heldL (p.take k) = none) : heldL p = none := fold_take heldS _ p k h
/-- What held returns. -/
def heldR (p : List Dd) : Int × Nat × Bool := match heldL p with
  | none => (-1, 0, false)
  | some s => (s.1, s.2, true)
/-- The most steps before the unlocks among the first k deeds. -/
def mostR (p : List Dd) : Nat → Nat
  | 0 => 0
  | k + 1 => match p[k]? with
    | none => mostR p k
    | some d => if d.op = 11 then (if mostR p k < (heldR (p.take k)).2.1 + 1 then (heldR (p.take k)).2.1 + 1 else mostR p k) else mostR p k
def refSimpleP (p : List Dd) : Nat × Bool := if checkP p = 0 then (match heldL p with
  | none => (0, false)
  | some s => if 0 ≤ s.1 then (0, false) else (mostR p p.length, true)) else (0, false)

def sumC (p : List Dd) : Nat := (p.map costD).sum
theorem sumC_snoc (p : List Dd) (d : Dd) : sumC (p ++ [d]) = sumC p + costD d := by simp [sumC]
theorem goodD_n {d : Dd} (h : goodD d = true) (h1 : d.op = 1) : 1 ≤ d.n ∧ d.n ≤ 65536 := by
  simp [goodD, h1] at h
  omega
theorem goodD_a {d : Dd} (h : goodD d = true) : 0 ≤ d.a ∧ d.a < 64 := by
  simp [goodD] at h
  omega
theorem costD_le {d : Dd} (h : goodD d = true) : costD d ≤ 65536 := by
  unfold costD
  split
  · rename_i h1; exact (goodD_n h h1).2
  · omega
theorem sumC_le : ∀ (p : List Dd), (∀ d ∈ p, goodD d = true) → sumC p ≤ 65536 * p.length
  | [], _ => by simp [sumC]
  | d :: t, h => by
    have h1 := sumC_le t fun x hx => h x (by simp [hx])
    have h2 := costD_le (h d (by simp))
    simp only [sumC, List.map_cons, List.sum_cons, List.length_cons] at *
    omega
theorem sumC_take (p : List Dd) (k : Nat) : sumC (p.take k) ≤ sumC p := by
  conv => rhs; rw [← List.take_append_drop k p]
  simp only [sumC, List.map_append, List.sum_append]
  omega
theorem addS_small {x y : Nat} (h : x + y ≤ 18446744073709551615) : addS x y = x + y := by rw [addS, if_neg (by omega)]
theorem costs_sum (p : List Dd) (h : ∀ d ∈ p, goodD d = true) (hl : p.length ≤ 256) : ∀ k, k ≤ p.length → costs (p.take k) = sumC (p.take k) ∧ sumC (p.take k) ≤ 65536 * k
  | 0, _ => by simp [costs, sumC]
  | k + 1, hk => by
    obtain ⟨h1, h2⟩ := costs_sum p h hl k (by omega)
    have hd := costD_le (h p[k] (List.getElem_mem _))
    rw [List.take_succ_eq_append_getElem (by omega), costs_snoc, sumC_snoc, addS_small (by omega), h1]
    exact ⟨rfl, by omega⟩

/-- How a walk of the program's and one of the document's stand to each other behind k deeds. -/
def Both (p : List Dd) (k : Nat) : Prop :=
  (simL (p.take k) = none ∧ heldL (p.take k) = none) ∨
  ∃ (lk : Int) (n n' m : Nat), simL (p.take k) = some (lk, n, m) ∧ heldL (p.take k) = some (lk, n') ∧ (lk = -1 ∨ 0 ≤ lk) ∧ (0 ≤ lk → n = n') ∧ n ≤ 65536 * k ∧ n' ≤ 65536 * k ∧ m = mostR p k ∧ (0 ≤ lk → n ≤ sumC (p.take k)) ∧ m ≤ sumC (p.take k)
theorem both (p : List Dd) (h : ∀ d ∈ p, goodD d = true) (hl : p.length ≤ 256) : ∀ k, k ≤ p.length → Both p k
  | 0, _ => .inr ⟨-1, 0, 0, 0, rfl, rfl, .inl rfl, by omega, by omega, by omega, rfl, by omega, by omega⟩
  | k + 1, hk => by
    have hkl : k < p.length := by omega
    have hg := h p[k] (List.getElem_mem _)
    have hn := fun h1 => goodD_n hg h1
    have ha := goodD_a hg
    have hm : mostR p (k + 1) = if p[k].op = 11 then (if mostR p k < (heldR (p.take k)).2.1 + 1 then (heldR (p.take k)).2.1 + 1 else mostR p k) else mostR p k := by
      simp [mostR, List.getElem?_eq_getElem hkl]
    unfold Both
    rw [List.take_succ_eq_append_getElem hkl, simL_snoc, heldL_snoc, sumC_snoc, hm]
    rcases both p h hl k (by omega) with ⟨h1, h2⟩ | ⟨lk, n, n', m, h1, h2, h3, h4, h5, h6, h7, h8, h9⟩
    · rw [h1, h2]; exact .inl ⟨rfl, rfl⟩
    · have hr : (heldR (p.take k)).2.1 = n' := by rw [heldR, h2]
      rw [h1, h2, hr, ← h7]
      generalize p[k] = d at *
      generalize sumC (p.take k) = sc at *
      simp only [Option.bind_some]
      clear hm hr h1 h2 h7 hg
      by_cases e1 : d.op = 1
      · obtain ⟨e2, e3⟩ := hn e1
        have hc : costD d = d.n := by rw [costD, if_pos e1]
        have hs : simS (lk, n, m) d = some (lk, n + d.n, m) := by rw [simS, if_pos e1, addS_small (by simp only; omega)]
        have hh : heldS (lk, n') d = some (lk, n' + d.n) := by rw [heldS, if_neg (by omega), if_neg (by omega), if_neg (by omega), hc, addS_small (by simp only; omega)]
        rw [hs, hh, hc, if_neg (by omega)]
        exact .inr ⟨lk, _, _, m, rfl, rfl, h3, fun h => by rw [h4 h], by omega, by omega, rfl, fun h => by have := h8 h; omega, by omega⟩
      · have hc : costD d = 1 := by rw [costD, if_neg e1]
        rw [hc]
        by_cases e2 : d.op = 11
        · by_cases e3 : d.a = lk
          · have hs : simS (lk, n, m) d = some (-1, n, max m (n + 1)) := by rw [simS, if_neg e1, if_pos ⟨e2, e3⟩, addS_small (by simp only; omega)]
            have hh : heldS (lk, n') d = some (-1, n') := by rw [heldS, if_neg (by omega), if_pos e2, if_pos e3.symm]
            have hnn := h4 (by omega)
            have h8' := h8 (by omega)
            rw [hs, hh, if_pos e2]
            refine .inr ⟨-1, _, _, _, rfl, rfl, .inl rfl, by omega, by omega, by omega, ?_, by omega, by omega⟩
            subst hnn
            rw [Nat.max_def]; split <;> split <;> omega
          · have hs : simS (lk, n, m) d = none := by rw [simS, if_neg e1, if_neg (fun h => e3 h.2), if_pos (.inr e2)]
            have hh : heldS (lk, n') d = none := by rw [heldS, if_neg (by omega), if_pos e2, if_neg (fun h => e3 h.symm)]
            rw [hs, hh]; exact .inl ⟨rfl, rfl⟩
        · rw [if_neg e2]
          by_cases e3 : lk = -1
          · subst e3
            by_cases e4 : d.op = 9 ∨ d.op = 10
            · have hs : simS (-1, n, m) d = some (d.a, 0, m) := by rw [simS, if_neg e1, if_neg (fun h => e2 h.1), if_neg (by simp [e2]), if_pos e4]
              have hh : heldS (-1, n') d = some (d.a, 0) := by rw [heldS, if_pos e4, if_neg (by simp)]
              rw [hs, hh]
              exact .inr ⟨d.a, 0, 0, m, rfl, rfl, .inr ha.1, fun _ => rfl, by omega, by omega, rfl, by omega, by omega⟩
            · have hs : simS (-1, n, m) d = some (-1, n, m) := by rw [simS, if_neg e1, if_neg (fun h => e2 h.1), if_neg (by simp [e2]), if_neg e4]
              have hh : heldS (-1, n') d = some (-1, n' + 1) := by rw [heldS, if_neg e4, if_neg e2, if_neg (by simp), hc, addS_small (by simp only; omega)]
              rw [hs, hh]
              exact .inr ⟨-1, n, n' + 1, m, rfl, rfl, .inl rfl, by omega, by omega, by omega, rfl, by omega, by omega⟩
          · have hlk : 0 ≤ lk := by omega
            have hs : simS (lk, n, m) d = none := by rw [simS, if_neg e1, if_neg (fun h => e2 h.1), if_pos (.inl e3)]
            have hh : heldS (lk, n') d = none := by
              by_cases e4 : d.op = 9 ∨ d.op = 10
              · rw [heldS, if_pos e4, if_pos hlk]
              · rw [heldS, if_neg e4, if_neg e2, if_pos ⟨hlk, e1⟩]
            rw [hs, hh]; exact .inl ⟨rfl, rfl⟩
theorem simple_same (p : List Dd) : refSimpleP p = simpleP p := by
  unfold refSimpleP simpleP
  by_cases hc : checkP p = 0
  · rw [if_pos hc, if_pos hc]
    obtain ⟨hl, hg⟩ := checkP_zero hc
    have := both p hg hl p.length (Nat.le_refl _)
    unfold Both at this
    rw [List.take_of_length_le (Nat.le_refl _)] at this
    rcases this with ⟨h1, h2⟩ | ⟨lk, n, n', m, h1, h2, h3, h4, h5, h6, h7, h8, h9⟩
    · rw [h1, h2]
    · rw [h1, h2]
      simp only
      rcases h3 with rfl | h3
      · rw [if_neg (by omega), if_pos rfl, h7]
      · rw [if_pos h3, if_neg (by omega)]
  · rw [if_neg hc, if_neg hc]
theorem simple_le (p : List Dd) : (simpleP p).1 ≤ stepsP p := by
  unfold simpleP stepsP
  by_cases hc : checkP p = 0
  · rw [if_pos hc, if_pos hc]
    obtain ⟨hl, hg⟩ := checkP_zero hc
    have hb := both p hg hl p.length (Nat.le_refl _)
    have hcs := costs_sum p hg hl p.length (Nat.le_refl _)
    unfold Both at hb
    rw [List.take_of_length_le (Nat.le_refl _)] at hb hcs
    have hge : costs p ≤ if endsExit p = true then costs p else addS (costs p) 1 := by
      split
      · omega
      · rw [addS_small (by omega)]; omega
    rcases hb with ⟨h1, h2⟩ | ⟨lk, n, n', m, h1, h2, h3, h4, h5, h6, h7, h8, h9⟩
    · rw [h1]; simp
    · rw [h1]
      simp only
      split
      · simp only; omega
      · simp
  · rw [if_neg hc]; simp
theorem simpleP_lt (p : List Dd) : (simpleP p).1 < 18446744073709551616 := Nat.lt_of_le_of_lt (simple_le p) (stepsP_lt p)
/-- While a program is walked its numbers are small. -/
theorem sim_small (p : List Dd) (hc : checkP p = 0) (k : Nat) (hk : k ≤ p.length) {s : Int × Nat × Nat} (h : simL (p.take k) = some s) : s.2.1 ≤ 65536 * 256 ∧ s.2.2 ≤ 65536 * 256 ∧ (s.1 = -1 ∨ 0 ≤ s.1) := by
  obtain ⟨hl, hg⟩ := checkP_zero hc
  have hcs := costs_sum p hg hl k hk
  rcases both p hg hl k hk with ⟨h1, h2⟩ | ⟨lk, n, n', m, h1, h2, h3, h4, h5, h6, h7, h8, h9⟩
  · rw [h1] at h; cases h
  · rw [h1] at h; cases h
    exact ⟨by simp only; omega, by simp only; omega, h3⟩
theorem held_small (p : List Dd) (hc : checkP p = 0) (k : Nat) (hk : k ≤ p.length) {s : Int × Nat} (h : heldL (p.take k) = some s) : s.2 ≤ 65536 * 256 ∧ (s.1 = -1 ∨ 0 ≤ s.1) := by
  obtain ⟨hl, hg⟩ := checkP_zero hc
  rcases both p hg hl k hk with ⟨h1, h2⟩ | ⟨lk, n, n', m, h1, h2, h3, h4, h5, h6, h7, h8, h9⟩
  · rw [h2] at h; cases h
  · rw [h2] at h; cases h
    exact ⟨by simp only; omega, h3⟩

/-- The set of the locks that are taken. -/
def locksF (s : Nat) (d : Dd) : Nat := if d.op = 9 ∨ d.op = 10 then s ||| 2 ^ d.a.toNat else s
def locksP (p : List Dd) : Nat := if checkP p = 0 then p.foldl locksF 0 else 0
theorem locksF_lt {s : Nat} {d : Dd} (hs : s < 18446744073709551616) (hg : goodD d = true) : locksF s d < 18446744073709551616 := by
  have ha := goodD_a hg
  unfold locksF
  split
  · exact Nat.or_lt_two_pow (n := 64) hs (Nat.pow_lt_pow_right (by omega) (by omega))
  · exact hs

end Go.Proofs.YtmhlmoojmdfnfaaDoor
