/- Package nums: words; the document's words, Join and Same. -/
import Derived.Test.YthahmfeaekddnaaGreatDoorNumsH
namespace Go.Proofs.YthahmfeaekddnaaGreatDoor
open Go.RowKit

theorem Tryz.info9 : (Tryz.prog.info? 9).map (fun i => (i.zero, i.size, i.bytes)) = some (some (.string ByteArray.empty), 1, 16) := by kernel_rfl

theorem S_one (l : List (List UInt8)) : ∀ u ∈ l.map strV, u.oneCell' = true := by
  intro u hu
  obtain ⟨b, _, rfl⟩ := List.mem_map.1 hu
  rfl

/-- A slice of texts that was made after w. -/
def FreshS (w w' : World) (l : List (List UInt8)) (A : Option Addr) (n c : Nat) : Prop :=
  w'.ownsRow 0 9 1 (.slice A n c) n (l.map strV) ∧ Kept [] w w' ∧ ∀ k, k ∈ fp (.slice A n c) → w.heap.size ≤ k

theorem map_string (L : List ByteArray) : L.map Value.string = (L.map (·.data.toList)).map strV := by
  rw [List.map_map]; apply List.map_congr_left; intro p _; rfl

end Go.Proofs.YthahmfeaekddnaaGreatDoor
