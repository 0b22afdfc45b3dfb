/- Waiters that came one after the other, each with its level of now. -/
import Derived.Test.YtljimcdppeejfaaWaitPlain
namespace Go.Proofs.Ytljimcdppeejfaa

/-- The first k places, in the order of their coming. -/
def Mf (f : List Int) (k : Nat) : List WO := (List.range k).map fun (i : Nat) => ⟨(i : Int), f.getD i 0, i + 1⟩
theorem mem_Mf {f : List Int} {k : Nat} {x : WO} (h : x ∈ Mf f k) : ∃ i : Nat, i < k ∧ x.p = i ∧ x.l = f.getD i 0 ∧ x.n = i + 1 := by
  obtain ⟨i, hi, rfl⟩ := List.mem_map.1 h
  exact ⟨i, List.mem_range.1 hi, rfl, rfl, rfl⟩
theorem Mf_none (f : List Int) (k : Nat) : (Mf f k).find? (isP k) = none := by
  rw [find_none_iff]
  intro y hy e
  obtain ⟨i, hi, h1, _⟩ := mem_Mf hy
  omega
theorem getD_set_other {f : List Int} {i p : Nat} {lv : Int} (h : i ≠ p) : (f.set p lv).getD i 0 = f.getD i 0 := by
  simp [h.symm]
theorem getD_set_same {f : List Int} {p : Nat} {lv : Int} (h : p < f.length) : (f.set p lv).getD p 0 = lv := by
  simp [List.getD_eq_getElem?_getD, h]
theorem Mf_put (f : List Int) (k : Nat) (lv : Int) (h : k < f.length) : Mf (f.set k lv) (k + 1) = Mf f k ++ [⟨k, lv, k + 1⟩] := by
  unfold Mf
  rw [List.range_succ, List.map_append, List.map_cons, List.map_nil, getD_set_same h]
  congr 1
  refine List.map_congr_left fun i hi => ?_
  have := List.mem_range.1 hi
  rw [getD_set_other (by omega)]
theorem Mf_move (f : List Int) (n p : Nat) (lv : Int) (h : p < f.length) : Mf (f.set p lv) n = (Mf f n).map (setL p lv) := by
  unfold Mf
  rw [List.map_map]
  refine List.map_congr_left fun i _ => ?_
  simp only [Function.comp, setL]
  by_cases he : i = p
  · subst he; rw [if_pos rfl, getD_set_same h]
  · rw [if_neg (by omega), getD_set_other he]
theorem Mf_some (f : List Int) (n p : Nat) (h : p < n) : ∃ x, (Mf f n).find? (isP p) = some x := by
  cases hf : (Mf f n).find? (isP p) with
  | some x => exact ⟨x, rfl⟩
  | none =>
    have := (find_none_iff _ _).1 hf ⟨p, f.getD p 0, p + 1⟩ (List.mem_map.2 ⟨p, List.mem_range.2 h, rfl⟩)
    exact absurd rfl this
theorem Mf_len (f : List Int) (n : Nat) : (Mf f n).length = n := by simp [Mf]
theorem Inv.mem {L M : List WO} {last : Nat} (h : Inv L M last) {x : WO} (hx : x ∈ L) : x ∈ M := h.perm.mem_iff.1 hx

/-- Numbers as cells. -/
def intsC (f : List Int) : Array Value := (f.map (Value.int .i64)).toArray
theorem intsC_get (f : List Int) (i : Nat) (h : i < f.length) : (intsC f)[i]? = some (.int .i64 (f.getD i 0)) := by
  simp [intsC, List.getD_eq_getElem?_getD, h]
theorem intsC_set (f : List Int) (i : Nat) (v : Int) : (intsC f).setIfInBounds i (.int .i64 v) = intsC (f.set i v) := by
  simp [intsC, List.map_set]
theorem intsC_zeros (n : Nat) : zeros (.int .i64 0) n = intsC (List.replicate n 0) := by
  simp [zeros, intsC]

end Go.Proofs.Ytljimcdppeejfaa
