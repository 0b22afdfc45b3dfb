/- Slices of deeds that a call has made. -/
import Derived.Test.YtmhlmoojmdfnfaaDoorPgC
namespace Go.Proofs.YtmhlmoojmdfnfaaDoor
open Go.RowKit

/-- A slice of deeds that was made after w. -/
def RowD (w w' : World) (l : List Dd) (A : Option Addr) (n c : Nat) : Prop := w'.ownsRow 0 41 7 (.slice A n c) n (l.flatMap dL) ∧ ∀ k, k ∈ fp (.slice A n c) → w.heap.size ≤ k
theorem RowD.nil (w w' : World) : RowD w w' [] none 0 0 := ⟨World.ownsRow_nil _ _ _ _, by simp [fp, Value.ownBlock]⟩
theorem RowD.kept {w wr w2 : World} {G : List Nat} {l : List Dd} {A : Option Addr} {n c : Nat} (h : RowD w wr l A n c) (hk : Kept G wr w2) (hG : ∀ k, k ∈ G → k < w.heap.size) : RowD w w2 l A n c :=
  ⟨own_kept h.1 hk (fun k hk' hm => by have h1 := h.2 k hk'; have h2 := hG k hm; omega), h.2⟩
theorem RowD.reads {w w' : World} {l : List Dd} {A : Option Addr} {n c : Nat} (h : RowD w w' l A n c) : ReadsD w' A n l := Reads.of_own h.1
theorem RowD.append {w wr w2 : World} {l : List Dd} {d : Dd} {A A' : Option Addr} {n c c' : Nat} (h : RowD w wr l A n c) (hw : w.heap.size ≤ wr.heap.size) (ha : Appended wr w2 41 7 (.slice A n c) (.slice A' (n + 1) c') (n + 1) (l.flatMap dL ++ dL d)) : RowD w w2 (l ++ [d]) A' (n + 1) c' :=
  ⟨by have := ha.1; simpa using this, fun k hk' => by
    rcases ha.2.2 k hk' with h1 | h1
    · exact h.2 k h1
    · omega⟩
theorem reads_dd (w : World) (t : TypeId) (d : Dd) : Reads (w.alloc (.cells (dC d.op d.a d.b d.r d.n d.mask d.loose) t)) 7 (some ⟨w.heap.size, 0, none⟩) 1 (dL d) := by
  refine ⟨by simp [dL_len], fun _ => ⟨_, rfl, fun j u hu => ?_⟩⟩
  rw [add_mk, Nat.zero_add, (Blk.new w t _).cell]
  rw [dL, Array.getElem?_toList] at hu
  exact hu

end Go.Proofs.YtmhlmoojmdfnfaaDoor
