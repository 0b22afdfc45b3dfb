/- Many pieces of memory that lie apart: blocks known whole and owned rows; one of them turns, the others stay. -/
import Derived.Test.YtahpjoknmclbfaaDoorMem
namespace Go.Proofs.YtahpjoknmclbfaaDoor
open Go.RowKit

/-- A piece of memory: a block that is known whole, or an owned row. -/
inductive Piece where
  | blk (g : Nat) (t : TypeId) (cs : Array Value)
  | row (e : TypeId) (s : Nat) (v : Value) (n : Nat) (xs : List Value)
  | obj (g : Nat) (o : Obj)
namespace Piece
/-- The blocks of a piece. -/
def fp : Piece → List Nat
  | .blk g _ _ => [g]
  | .row _ _ v _ _ => Go.Proofs.YtahpjoknmclbfaaDoor.fp v
  | .obj g _ => [g]
/-- Does a piece hold in a world? -/
def holds (w : World) : Piece → Prop
  | .blk g t cs => Blk w g t cs
  | .row e s v n xs => w.ownsRow 0 e s v n xs
  | .obj g o => w.heap[g]? = some o
theorem lt {w : World} {p : Piece} (h : p.holds w) : ∀ k, k ∈ p.fp → k < w.heap.size := by
  intro k hk
  cases p with
  | blk g t cs => obtain rfl := List.mem_singleton.1 hk; exact Blk.lt h
  | row e s v n xs => exact own_lt h k hk
  | obj g o => obtain rfl := List.mem_singleton.1 hk; exact lt_of_block h
theorem kept {G : List Nat} {w w' : World} {p : Piece} (h : p.holds w) (hk : Kept G w w') (hd : ∀ k, k ∈ p.fp → k ∉ G) : p.holds w' := by
  cases p with
  | blk g t cs => exact Blk.kept h hk (hd g (by simp [fp]))
  | row e s v n xs => exact own_kept h hk hd
  | obj g o => exact (hk.block g (lt_of_block h) (hd g (by simp [fp]))).trans h
end Piece

/-- Pieces that lie apart. -/
def Holds (w : World) (ps : List Piece) : Prop := (∀ p ∈ ps, p.holds w) ∧ ∀ (i j : Nat) (p q : Piece), i < j → ps[i]? = some p → ps[j]? = some q → ∀ k, k ∈ p.fp → k ∉ q.fp
theorem Holds.nil (w : World) : Holds w [] := ⟨by simp, fun i j p q _ h => by simp at h⟩
theorem Holds.get {w : World} {ps : List Piece} (h : Holds w ps) {i : Nat} {p : Piece} (hp : ps[i]? = some p) : p.holds w := h.1 p (List.mem_of_getElem? hp)
theorem Holds.apart {w : World} {ps : List Piece} (h : Holds w ps) {i j : Nat} {p q : Piece} (hij : i ≠ j) (hp : ps[i]? = some p) (hq : ps[j]? = some q) : ∀ k, k ∈ p.fp → k ∉ q.fp := by
  rcases Nat.lt_or_gt_of_ne hij with hlt | hlt
  · exact h.2 i j p q hlt hp hq
  · exact fun k hk hk' => h.2 j i q p hlt hq hp k hk' hk
theorem Holds.old {w w' : World} {ps : List Piece} (h : Holds w ps) (hk : Kept [] w w') : Holds w' ps := ⟨fun p hp => Piece.kept (h.1 p hp) hk (by simp), h.2⟩
theorem Holds.drew {w : World} {ps : List Piece} (h : Holds w ps) : Holds w.drew ps := h.old ((Kept.refl [] w).drew)
/-- One piece turns. -/
theorem Holds.turn {w w' : World} {ps : List Piece} (h : Holds w ps) {i : Nat} {p p' : Piece} (hp : ps[i]? = some p) (hk : Kept p.fp w w') (hp' : p'.holds w') (hf : ∀ k, k ∈ p'.fp → k ∈ p.fp ∨ w.heap.size ≤ k) : Holds w' (ps.set i p') := by
  have hi := (List.getElem?_eq_some_iff.1 hp).1
  have hne : ∀ j q, j ≠ i → ps[j]? = some q → ∀ k, k ∈ p'.fp → k ∉ q.fp := fun j q hj hq k hk1 hk2 => by
    rcases hf k hk1 with h1 | h1
    · exact h.apart (Ne.symm hj) hp hq k h1 hk2
    · have := Piece.lt (h.get hq) k hk2; omega
  refine ⟨fun q hq => ?_, fun a b q r hab hq hr k hk1 hk2 => ?_⟩
  · obtain ⟨j, hj⟩ := List.mem_iff_getElem?.1 hq
    by_cases hji : j = i
    · subst hji
      rw [List.getElem?_set_self hi] at hj
      injection hj with hj
      subst hj
      exact hp'
    · rw [List.getElem?_set_ne (Ne.symm hji)] at hj
      exact Piece.kept (h.get hj) hk (h.apart hji hj hp)
  · by_cases ha : a = i
    · subst ha
      rw [List.getElem?_set_self hi] at hq
      injection hq with hq
      subst hq
      rw [List.getElem?_set_ne (by omega)] at hr
      exact hne b r (by omega) hr k hk1 hk2
    · rw [List.getElem?_set_ne (Ne.symm ha)] at hq
      by_cases hb : b = i
      · subst hb
        rw [List.getElem?_set_self hi] at hr
        injection hr with hr
        subst hr
        exact hne a q ha hq k hk2 hk1
      · rw [List.getElem?_set_ne (Ne.symm hb)] at hr
        exact h.2 a b q r hab hq hr k hk1 hk2
/-- A piece more, that is new. -/
theorem Holds.push {w w' : World} {ps : List Piece} (h : Holds w ps) (hk : Kept [] w w') {p : Piece} (hp : p.holds w') (hf : ∀ k, k ∈ p.fp → w.heap.size ≤ k) : Holds w' (ps ++ [p]) := by
  refine ⟨fun q hq => ?_, fun a b q r hab hq hr k hk1 hk2 => ?_⟩
  · rcases List.mem_append.1 hq with hq | hq
    · exact Piece.kept (h.1 q hq) hk (by simp)
    · obtain rfl := List.mem_singleton.1 hq; exact hp
  · have hb := (List.getElem?_eq_some_iff.1 hr).1
    simp at hb
    rw [List.getElem?_append_left (by omega)] at hq
    by_cases hbl : b < ps.length
    · rw [List.getElem?_append_left hbl] at hr
      exact h.2 a b q r hab hq hr k hk1 hk2
    · obtain rfl : b = ps.length := by omega
      rw [List.getElem?_append_right (Nat.le_refl _)] at hr
      simp at hr
      subst hr
      have := hf k hk2
      have := Piece.lt (h.get hq) k hk1
      omega
/-- All pieces are newer than a world. -/
def Newer (w0 : World) (ps : List Piece) : Prop := ∀ p ∈ ps, ∀ k, k ∈ p.fp → w0.heap.size ≤ k
theorem Newer.turn {w0 w : World} {ps : List Piece} (h : Newer w0 ps) {i : Nat} {p p' : Piece} (hp : ps[i]? = some p) (hw : w0.heap.size ≤ w.heap.size) (hf : ∀ k, k ∈ p'.fp → k ∈ p.fp ∨ w.heap.size ≤ k) : Newer w0 (ps.set i p') := by
  intro q hq k hk
  rcases List.mem_or_eq_of_mem_set hq with h1 | rfl
  · exact h q h1 k hk
  · rcases hf k hk with h2 | h2
    · exact h p (List.mem_of_getElem? hp) k h2
    · omega
/-- A world in which a new piece has turned, kept behind an elder one. -/
theorem Newer.kept {w0 w w' : World} {ps : List Piece} (h : Newer w0 ps) {i : Nat} {p : Piece} (hp : ps[i]? = some p) (h0 : Kept [] w0 w) (hk : Kept p.fp w w') : Kept [] w0 w' :=
  h0.trans' hk (fun k hk' => .inr (h p (List.mem_of_getElem? hp) k hk'))
/-- An elder world, and which of its blocks may have turned. -/
structure Base where
  w : World
  F : List Nat
instance : Coe World Base := ⟨fun w => ⟨w, []⟩⟩
/-- All pieces are newer than an elder world, but for those that may turn. -/
def NewerB (b : Base) (ps : List Piece) : Prop := ∀ p ∈ ps, ∀ k, k ∈ p.fp → k ∈ b.F ∨ b.w.heap.size ≤ k
theorem Newer.toB {w : World} {ps : List Piece} (h : Newer w ps) : NewerB w ps := fun p hp k hk => .inr (h p hp k hk)
theorem NewerB.turn {b : Base} {w : World} {ps : List Piece} (h : NewerB b ps) {i : Nat} {p p' : Piece} (hp : ps[i]? = some p) (hw : b.w.heap.size ≤ w.heap.size) (hf : ∀ k, k ∈ p'.fp → k ∈ p.fp ∨ w.heap.size ≤ k) : NewerB b (ps.set i p') := by
  intro q hq k hk
  rcases List.mem_or_eq_of_mem_set hq with h1 | rfl
  · exact h q h1 k hk
  · rcases hf k hk with h2 | h2
    · exact h p (List.mem_of_getElem? hp) k h2
    · exact .inr (by omega)
theorem NewerB.kept {b : Base} {w w' : World} {ps : List Piece} (h : NewerB b ps) {i : Nat} {p : Piece} (hp : ps[i]? = some p) (h0 : Kept b.F b.w w) (hk : Kept p.fp w w') : Kept b.F b.w w' :=
  h0.trans' hk (fun k hk' => h p (List.mem_of_getElem? hp) k hk')
/-- An element of an owned row is stored. -/
theorem Holds.store {w : World} {ps : List Piece} (h : Holds w ps) {i : Nat} {e : TypeId} {g n c : Nat} {xs : List Value} (hp : ps[i]? = some (.row e 1 (.slice (some ⟨g, 0, none⟩) n c) n xs)) (k : Nat) (hk : k < xs.length) (u : Value) : Holds (w.setCell ⟨g, k, none⟩ u) (ps.set i (.row e 1 (.slice (some ⟨g, 0, none⟩) n c) n (xs.set k u))) := by
  have hr : w.ownsRow 0 e 1 (.slice (some ⟨g, 0, none⟩) n c) n xs := h.get hp
  obtain ⟨hs, _⟩ := hr.stored k u
  exact h.turn hp ((Kept.refl _ _).setCell (.inl (by simp [Piece.fp, fp_some])) u) hs (fun q hq => .inl hq)
/-- A cell of a block is stored. -/
theorem Holds.put {w : World} {ps : List Piece} (h : Holds w ps) {i : Nat} {g : Nat} {t : TypeId} {cs : Array Value} (hp : ps[i]? = some (.blk g t cs)) (k : Nat) (u : Value) : Holds (w.setCell ⟨g, k, none⟩ u) (ps.set i (.blk g t (cs.setIfInBounds k u))) :=
  h.turn hp ((Kept.refl _ _).setCell (.inl (by simp [Piece.fp])) u) (Blk.set (h.get hp) k u) (fun q hq => .inl hq)

end Go.Proofs.YtahpjoknmclbfaaDoor
