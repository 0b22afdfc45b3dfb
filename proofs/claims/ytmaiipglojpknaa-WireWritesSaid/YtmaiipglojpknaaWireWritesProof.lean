/- WireWrites returns true for every input and leaves its arguments as they were. No condition. -/
import Derived.Test.YtmaiipglojpknaaRows
import Derived.Test.YtmaiipglojpknaaOpen
import Derived.Test.YtmaiipglojpknaaWireWrites
namespace Go.Proofs.Ytmaiipglojpknaa
open Go.ChangeShapes Go.WideShapes Go.ChangeAt Go.RowKit Go.Deep

theorem Try.own : ownKnob Try.prog.godebug = none := by kernel_rfl
theorem Try.laidOut : laidOutB Try.prog = true := by kernel_rfl
theorem Try.cells5 : Try.prog.cellsOf 5 = 1 := by kernel_rfl

section
variable {H : Type} {enc : TypeId × Value → H} {w : World} {base : Nat} {spare : Nat → Bool} {held : Bool}
theorem open_things {fuel : Nat} {v : Value} {x : DataW H × List MemPlace} (h : DataW.trod enc Try.prog w base spare held fuel 22 [v] = some x) : ∃ A n c ts, v = .slice A n c ∧ Things w A ts ∧ ts.length = n := by
  rcases open_slice_fields Try.underlying22 Try.underlying29 (by kernel_rfl) (by kernel_rfl) h with h0 | ⟨a, len, cap, hcs, hl, hm, hi⟩
  · simp at h0
    exact ⟨none, 0, 0, [], h0, ⟨by simp, by simp⟩, rfl⟩
  · simp at hcs
    have hi' : ∀ i, i < len → ∃ t : Th, w.cell? (a.add (i * 4)) = some (.int .u8 t.kind) ∧ w.cell? (a.add (i * 4 + 1)) = some (.int .u64 t.x) ∧ w.cell? (a.add (i * 4 + 2)) = some (.slice t.A t.m t.c) ∧ w.cell? (a.add (i * 4 + 3)) = some (.int .i64 t.most) ∧ ThOk w t := by
      intro i hil
      obtain ⟨n, hf⟩ := hi i hil
      obtain ⟨v0, y0, c0, r0⟩ := hf 0 _ rfl
      obtain ⟨v1, y1, c1, r1⟩ := hf 1 _ rfl
      obtain ⟨v2, y2, c2, r2⟩ := hf 2 _ rfl
      obtain ⟨v3, y3, c3, r3⟩ := hf 3 _ rfl
      obtain ⟨z0, rfl, w0⟩ := open_i64 Try.underlying5 r0
      obtain ⟨z1, rfl, w1⟩ := open_i64 Try.underlying27 r1
      obtain ⟨A, m, c, l, rfl, hr, hmc, hcm⟩ := open_bytes Try.underlying25 Try.underlying5 Try.cells5 r2
      obtain ⟨z3, rfl, w3⟩ := open_i64 Try.underlying3 r3
      have b0 := bounds_u8 w0
      have b1 := bounds_u64 w1
      have b3 := bounds_i64 w3
      refine ⟨⟨z0.toNat, z1.toNat, A, m, c, z3, l⟩, ?_, ?_, c2, c3, ⟨by simp only; omega, by simp only; omega, hr, hmc, hcm, by simp only; omega, by simp only; omega⟩⟩
      · simp only; rw [show ((z0.toNat : Nat) : Int) = z0 by omega]; exact c0
      · simp only; rw [show ((z1.toNat : Nat) : Int) = z1 by omega]; exact c1
    obtain ⟨f, hf⟩ : ∃ f : Nat → Th, ∀ i, i < len → w.cell? (a.add (i * 4)) = some (.int .u8 (f i).kind) ∧ w.cell? (a.add (i * 4 + 1)) = some (.int .u64 (f i).x) ∧ w.cell? (a.add (i * 4 + 2)) = some (.slice (f i).A (f i).m (f i).c) ∧ w.cell? (a.add (i * 4 + 3)) = some (.int .i64 (f i).most) ∧ ThOk w (f i) :=
      ⟨fun i => if hil : i < len then (hi' i hil).choose else ⟨0, 0, none, 0, 0, 0, []⟩, fun i hil => by simp only [dif_pos hil]; exact (hi' i hil).choose_spec⟩
    refine ⟨some a, len, cap, (List.range len).map f, hcs, ⟨by unfold maxLen at hm; simp; omega, fun i t ht => ?_⟩, by simp⟩
    obtain ⟨hj, hu⟩ := List.getElem?_eq_some_iff.1 ht
    simp at hj hu
    subst hu
    obtain ⟨h0, h1, h2, h3, h4⟩ := hf i hj
    have hlt := World.block_lt_of_cell? w _ h0
    rw [block_of_add] at hlt
    have hsp : a = ⟨a.block, a.off, none⟩ := by
      have hlt0 : 0 < len := by omega
      obtain ⟨h00, _⟩ := hf 0 hlt0
      have := spot_of_cell h00
      simpa [Addr.add] using this
    rw [hsp, add_mk] at h0 h1 h2 h3
    exact ⟨a.block, a.off, by rw [← hsp], hlt, h0, h1, h2, h3, h4⟩
end

set_option maxRecDepth 100000 in
theorem wireWrites_lifted (os : Os) (started : os.Started) (H : Type) (enc : TypeId × Value → H) :
    ReturnsInHanded {} Try.checked os 3 .any (Rows.wireWritesSpec.pre6 enc Try.prog Try.f3 Rows.wireWritesRow.domain false) (Rows.wireWritesSpec.post enc Try.prog Try.f3 false true false false) := by
  refine returnsInHanded_of_change (C := Try.checked) Try.own started (by kernel_rfl) Try.func3
    (ChangeSpec.witness6 (enc := enc) (C := Try.checked) false ⟨#[], #[.int .i64 0, .slice none 0 0], []⟩ 8 (by kernel_rfl) (by kernel_rfl) (by kernel_rfl) (by kernel_rfl)) ?_
  intro W base args ds gs before hval0 hW hcnd _
  have hval : ∀ (j : Nat) t v, Try.f3.params[j]? = some t → args[j]? = some v → Value.okWide Try.prog W .any base t v := hval0
  have hW' := hW
  obtain ⟨p, q, hA0, hV, rfl, hfz, hnd⟩ := hW
  have hA : DataW.TrodAll enc Try.prog W 0 (fun _ => true) true Try.f3.params.toList args.toList ds p := hA0
  rw [Try.params3] at hA hval
  obtain ⟨v0, vs0, d0, ds0, p0, q0, hargs, rfl, rfl, h0, r0⟩ := trodAll_cons hA
  obtain ⟨v1, vs1, d1, ds1, p1, q1, rfl, rfl, rfl, h1, r1⟩ := trodAll_cons r0
  obtain ⟨rfl, rfl, rfl⟩ := trodAll_nil r1
  obtain rfl : args = #[v0, v1] := by cases args; simp_all
  obtain ⟨rfl, rfl⟩ := trodVars_none hV
  have k0 := h0
  have k1 := h1
  have lt0 : ∀ x ∈ p0, x.block < W.heap.size := by obtain ⟨m, hm⟩ := k0; exact DataW.trod_lt m _ _ _ hm
  have lt1 : ∀ x ∈ p1, x.block < W.heap.size := by obtain ⟨m, hm⟩ := k1; exact DataW.trod_lt m _ _ _ hm
  obtain ⟨most, rfl, rfl, rfl, wa⟩ := open_int Try.underlying3 (hval 0 3 v0 rfl rfl) h0
  obtain ⟨a1, l1, c1, rfl⟩ := okWide_slice Try.underlying22 (hval 1 22 v1 rfl rfl)
  obtain ⟨A, n, c, ts, hv, hT, hn⟩ : ∃ A n c ts, (Value.slice a1 l1 c1) = .slice A n c ∧ Things W A ts ∧ ts.length = n := by
    obtain ⟨fuel, hf⟩ := h1
    exact open_things hf
  rw [hv] at k1 hW' ⊢
  clear hA0 hval0
  have hb := bounds_i64 wa
  refine (wireWrites_any most A n c ts W hT hn (by omega) (by omega)).mono fun e W' ⟨he, bel0⟩ => ?_
  have bel := bel0.toBelow
  subst he
  exact ⟨_, rfl, _, _, _, [], _, [], hW', trodAll_mk1 (shut_bool Try.underlying4 _), (trodAll_cons_mk (Below.trod Try.laidOut (by kernel_rfl) (of_decide_eq_true (by kernel_rfl)) k0 bel lt0) (trodAll_cons_mk (Below.trod Try.laidOut (by kernel_rfl) (of_decide_eq_true (by kernel_rfl)) k1 bel lt1) trodAll_mk0)), rfl, bel.frame _, fun h => by cases h⟩

theorem wireWrites_holds : Rows.WireWritesSaid :=
  OpenClaim.holds_of_wide 3 Try.f3 rfl rfl rfl rfl rfl rfl rfl ⟨rfl, rfl, rfl, rfl, rfl⟩ rfl rfl rfl rfl rfl (by kernel_rfl) Try.func3 (by kernel_rfl)
    (of_decide_eq_true (by kernel_rfl)) (by unfold Func.isWrapper; first | (rw [if_pos (by decide +kernel)]; kernel_rfl) | (rw [if_neg (by decide +kernel)]; exact ⟨rfl, rfl⟩))
    (fun os started H enc _ => wireWrites_lifted os started H enc)

#print axioms wireWrites_holds
end Go.Proofs.Ytmaiipglojpknaa
