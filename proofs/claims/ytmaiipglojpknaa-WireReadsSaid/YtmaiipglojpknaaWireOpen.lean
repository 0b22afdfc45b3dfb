/- The arguments of package bosunlaw04 opened: things. -/
import Derived.Test.YtmaiipglojpknaaChecked
import Derived.Test.YtmaiipglojpknaaOpen
import Derived.Test.YtmaiipglojpknaaWireTh
namespace Go.Proofs.Ytmaiipglojpknaa
open Go.ChangeShapes Go.WideShapes Go.ChangeAt Go.RowKit Go.Deep

theorem Try.own : ownKnob Try.prog.godebug = none := by kernel_rfl
theorem Try.laidOut : laidOutB Try.prog = true := by kernel_rfl
theorem Try.cells5 : Try.prog.cellsOf 5 = 1 := by kernel_rfl

section
variable {H : Type} {enc : TypeId × Value → H} {w : World} {base : Nat} {spare : Nat → Bool} {held : Bool}
theorem open_things {fuel : Nat} {v : Value} {x : DataW H × List MemPlace} (h : DataW.trod enc Try.prog w base spare held fuel 22 [v] = some x) : ∃ A n c ts, v = .slice A n c ∧ Things w A ts ∧ ts.length = n := by
  rcases open_slice_fields Try.underlying22 Try.underlying29 (by kernel_rfl) (by kernel_rfl) h with h0 | ⟨a, len, cap, hcs, hl, hm, hi⟩
  · simp at h0
    exact ⟨none, 0, 0, [], h0, ⟨by simp, by simp⟩, rfl⟩
  · simp at hcs
    have hi' : ∀ i, i < len → ∃ t : Th, w.cell? (a.add (i * 4)) = some (.int .u8 t.kind) ∧ w.cell? (a.add (i * 4 + 1)) = some (.int .u64 t.x) ∧ w.cell? (a.add (i * 4 + 2)) = some (.slice t.A t.m t.c) ∧ w.cell? (a.add (i * 4 + 3)) = some (.int .i64 t.most) ∧ ThOk w t := by
      intro i hil
      obtain ⟨n, hf⟩ := hi i hil
      obtain ⟨v0, y0, c0, r0⟩ := hf 0 _ rfl
      obtain ⟨v1, y1, c1, r1⟩ := hf 1 _ rfl
      obtain ⟨v2, y2, c2, r2⟩ := hf 2 _ rfl
      obtain ⟨v3, y3, c3, r3⟩ := hf 3 _ rfl
      obtain ⟨z0, rfl, w0⟩ := open_i64 Try.underlying5 r0
      obtain ⟨z1, rfl, w1⟩ := open_i64 Try.underlying27 r1
      obtain ⟨A, m, c, l, rfl, hr, hmc, hcm⟩ := open_bytes Try.underlying25 Try.underlying5 Try.cells5 r2
      obtain ⟨z3, rfl, w3⟩ := open_i64 Try.underlying3 r3
      have b0 := bounds_u8 w0
      have b1 := bounds_u64 w1
      have b3 := bounds_i64 w3
      refine ⟨⟨z0.toNat, z1.toNat, A, m, c, z3, l⟩, ?_, ?_, c2, c3, ⟨by simp only; omega, by simp only; omega, hr, hmc, hcm, by simp only; omega, by simp only; omega⟩⟩
      · simp only; rw [show ((z0.toNat : Nat) : Int) = z0 by omega]; exact c0
      · simp only; rw [show ((z1.toNat : Nat) : Int) = z1 by omega]; exact c1
    obtain ⟨f, hf⟩ : ∃ f : Nat → Th, ∀ i, i < len → w.cell? (a.add (i * 4)) = some (.int .u8 (f i).kind) ∧ w.cell? (a.add (i * 4 + 1)) = some (.int .u64 (f i).x) ∧ w.cell? (a.add (i * 4 + 2)) = some (.slice (f i).A (f i).m (f i).c) ∧ w.cell? (a.add (i * 4 + 3)) = some (.int .i64 (f i).most) ∧ ThOk w (f i) :=
      ⟨fun i => if hil : i < len then (hi' i hil).choose else ⟨0, 0, none, 0, 0, 0, []⟩, fun i hil => by simp only [dif_pos hil]; exact (hi' i hil).choose_spec⟩
    refine ⟨some a, len, cap, (List.range len).map f, hcs, ⟨by unfold maxLen at hm; simp; omega, fun i t ht => ?_⟩, by simp⟩
    obtain ⟨hj, hu⟩ := List.getElem?_eq_some_iff.1 ht
    simp at hj hu
    subst hu
    obtain ⟨h0, h1, h2, h3, h4⟩ := hf i hj
    have hlt := World.block_lt_of_cell? w _ h0
    rw [block_of_add] at hlt
    have hsp : a = ⟨a.block, a.off, none⟩ := by
      have hlt0 : 0 < len := by omega
      obtain ⟨h00, _⟩ := hf 0 hlt0
      have := spot_of_cell h00
      simpa [Addr.add] using this
    rw [hsp, add_mk] at h0 h1 h2 h3
    exact ⟨a.block, a.off, by rw [← hsp], hlt, h0, h1, h2, h3, h4⟩
end

end Go.Proofs.Ytmaiipglojpknaa
