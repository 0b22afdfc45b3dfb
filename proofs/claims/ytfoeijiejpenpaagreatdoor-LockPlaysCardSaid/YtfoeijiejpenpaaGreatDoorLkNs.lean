/- Law 26: new locks: what always holds of them. -/
import Derived.Test.YtfoeijiejpenpaaGreatDoorLkY0
namespace Go.Proofs.YtfoeijiejpenpaaGreatDoor
open Go.RowKit

theorem getW_rep (n : Nat) (t : Int) : getW (List.replicate n (-1, -1)) t = (-1, -1) := by
  by_cases h : 0 ≤ t ∧ t < n
  · obtain ⟨k, rfl⟩ : ∃ k : Nat, t = k := ⟨t.toNat, by omega⟩
    rw [getW_in (by simp; omega)]; simp
  · rw [getW_out (by simp; omega)]
/-- Locks that are new. -/
def newS (n m : Nat) : Lk := ⟨List.replicate m (-1), List.replicate n (-1, -1), List.replicate n 7, List.replicate n 7, List.replicate m ([], 0)⟩
theorem new_all (n m : Nat) (hn : n ≤ 64) (hm : m ≤ 64) : LkAll (newS n m) 0 := by
  have hw : ∀ t, getW (newS n m).waits t = (-1, -1) := fun t => getW_rep n t
  refine ⟨⟨by simp [newS]; omega, by simp [newS]; omega, by simp [newS], by simp [newS], by simp [newS], ?_, ?_, ?_, ?_, ?_, ?_, ?_⟩, fun t => .inl (by rw [hw]), fun t ht => by rw [hw] at ht; simp at ht, ⟨fun _ => 0, fun t h0 h1 => ?_⟩, fun t ht => ?_, fun t ht _ => ?_, fun q L last hq => ?_⟩
  · intro x hx; have := List.eq_of_mem_replicate hx; subst this; simp [newS]; omega
  · intro x hx; have := List.eq_of_mem_replicate hx; subst this; simp [newS]; omega
  · intro x hx; have := List.eq_of_mem_replicate hx; subst this; simp [newS]; omega
  · intro x hx; have := List.eq_of_mem_replicate hx; subst this; simp
  · intro x hx; have := List.eq_of_mem_replicate hx; subst this; simp
  · intro x hx; have := List.eq_of_mem_replicate hx; subst this; simp
  · intro x hx; have := List.eq_of_mem_replicate hx; subst this; simp
  · unfold nextW at h1; rw [hw] at h1; simp at h1
  · have : (newS n m).eff.getD t 0 = 7 := by
      have : t < n := by simpa [newS] using ht
      simp [newS, List.getD_eq_getElem?_getD, List.getElem?_replicate, this]
    rw [this]; omega
  · have htn : t < n := by simpa [newS] using ht
    have he : (newS n m).eff.getD t 0 = 7 := by simp [newS, List.getD_eq_getElem?_getD, List.getElem?_replicate, htn]
    have hl : (newS n m).level.getD t 0 = 7 := by simp [newS, List.getD_eq_getElem?_getD, List.getElem?_replicate, htn]
    refine ⟨by rw [he, hl]; omega, fun i _ hn => ?_, .inl (by rw [he, hl])⟩
    unfold nextG at hn; rw [hw] at hn; simp at hn
  · have hh : ([], 0) = (L, last) := by
      have := List.mem_of_getElem? hq
      exact (List.eq_of_mem_replicate this).symm
    cases hh
    refine ⟨⟨[], Inv.nil⟩, by simp, fun t _ ht => ?_⟩
    rw [hw] at ht
    have : (-1 : Int) = q := ht
    omega

end Go.Proofs.YtfoeijiejpenpaaGreatDoor
