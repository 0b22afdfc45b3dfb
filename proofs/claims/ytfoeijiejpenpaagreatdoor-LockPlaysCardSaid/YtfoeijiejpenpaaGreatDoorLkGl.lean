/- Law 26: lines as lists of threads (the plain law). -/
import Derived.Test.YtfoeijiejpenpaaGreatDoorLkNs
namespace Go.Proofs.YtfoeijiejpenpaaGreatDoor

theorem lineM_all {s : Lk} {K : Nat} (h : LkAll s K) {m : Nat} (hm : m < s.lines.length) : ∀ i : Nat, i < s.waits.length → (getW s.waits i).1 = m → (i : Int) ∈ lineM s m := fun i hi hw => by
  unfold lineM
  rw [if_pos ⟨by omega, by omega⟩, Int.toNat_natCast, List.getD_eq_getElem?_getD, List.getElem?_eq_getElem hm]
  obtain ⟨x, hx, hp⟩ := (h.lines m s.lines[m].1 s.lines[m].2 (List.getElem?_eq_getElem hm)).all i hi hw
  exact List.mem_map.2 ⟨x, hx, hp⟩
theorem lineM_mem {s : Lk} {K : Nat} (h : LkAll s K) {m : Nat} (hm : m < s.lines.length) {x : Int} (hx : x ∈ lineM s m) : ∃ i : Nat, x = i ∧ i < s.waits.length ∧ (getW s.waits i).1 = m := by
  unfold lineM at hx
  rw [if_pos ⟨by omega, by omega⟩, Int.toNat_natCast, List.getD_eq_getElem?_getD, List.getElem?_eq_getElem hm] at hx
  obtain ⟨y, hy, rfl⟩ := List.mem_map.1 hx
  have := (h.lines m s.lines[m].1 s.lines[m].2 (List.getElem?_eq_getElem hm)).mem y hy
  refine ⟨y.p.toNat, by omega, by omega, ?_⟩
  rw [show ((y.p.toNat : Nat) : Int) = y.p by omega]
  exact this.2.2.1
theorem lineM_len {s : Lk} {K : Nat} (h : LkAll s K) (m : Int) : (lineM s m).length ≤ 64 := by
  unfold lineM
  split
  · rename_i hm
    rw [List.length_map, List.getD_eq_getElem?_getD, List.getElem?_eq_getElem (by omega)]
    exact h.whole.lens _ (List.getElem_mem _)
  · simp


end Go.Proofs.YtfoeijiejpenpaaGreatDoor
