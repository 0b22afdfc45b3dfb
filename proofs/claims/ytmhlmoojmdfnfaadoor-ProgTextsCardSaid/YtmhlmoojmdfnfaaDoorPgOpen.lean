/- A slice of deeds among the arguments, opened. -/
import Derived.Test.YtmhlmoojmdfnfaaDoorDeedOpen
import Derived.Test.YtmhlmoojmdfnfaaDoorPgC
namespace Go.Proofs.YtmhlmoojmdfnfaaDoor
open Go.ChangeShapes Go.WideShapes Go.ChangeAt Go.RowKit Go.Deep

section
variable {H : Type} {enc : TypeId × Value → H} {w : World} {base : Nat} {spare : Nat → Bool} {held : Bool}
set_option maxRecDepth 100000 in
theorem open_deeds {r : Reach} {b0 : Nat} {v : Value} {d : DataW H} {p : List MemPlace} (hv : Value.okWide Tryd.prog w r b0 22 v) (h : DataW.Trod enc Tryd.prog w base spare held 22 v d p) :
    ∃ (A : Option Addr) (n c : Nat) (l : List Dd), v = .slice A n c ∧ ReadsD w A n l ∧ n ≤ c ∧ c ≤ maxLen ∧ ∀ d ∈ l, d.n < 18446744073709551616 ∧ d.mask < 18446744073709551616 := by
  obtain ⟨a0, l0, c0, rfl⟩ := okWide_slice Tryd.underlying22 hv
  obtain ⟨fuel, hf⟩ := h
  rcases open_slice_fields Tryd.underlying22 Tryd.underlying41 (by kernel_rfl) (by kernel_rfl) hf with h0 | ⟨a, len, cap, hcs, hl, hm, hi⟩
  · simp [Value.cells] at h0
    obtain ⟨rfl, rfl, rfl⟩ := h0
    exact ⟨none, 0, 0, [], rfl, Reads.none_, Nat.le_refl _, Nat.zero_le _, by simp⟩
  · have hv : Value.slice a0 l0 c0 = .slice (some a) len cap := by
      simp [Value.cells] at hcs
      obtain ⟨rfl, rfl, rfl⟩ := hcs
      rfl
    have hi' : ∀ i, i < len → ∃ t : Dd, (∀ j u, (dL t)[j]? = some u → w.cell? (a.add (i * 7 + j)) = some u) ∧ t.n < 18446744073709551616 ∧ t.mask < 18446744073709551616 := by
      intro i hil
      obtain ⟨n, hf⟩ := hi i hil
      obtain ⟨v0, y0, c0, r0⟩ := hf 0 _ rfl
      obtain ⟨v1, y1, c1, r1⟩ := hf 1 _ rfl
      obtain ⟨v2, y2, c2, r2⟩ := hf 2 _ rfl
      obtain ⟨v3, y3, c3, r3⟩ := hf 3 _ rfl
      obtain ⟨v4, y4, c4, r4⟩ := hf 4 _ rfl
      obtain ⟨v5, y5, c5, r5⟩ := hf 5 _ rfl
      obtain ⟨v6, y6, c6, r6⟩ := hf 6 _ rfl
      obtain ⟨z0, rfl, w0⟩ := open_i64 Tryd.underlying3 r0
      obtain ⟨z1, rfl, w1⟩ := open_i64 Tryd.underlying3 r1
      obtain ⟨z2, rfl, w2⟩ := open_i64 Tryd.underlying3 r2
      obtain ⟨z3, rfl, w3⟩ := open_i64 Tryd.underlying3 r3
      obtain ⟨z4, rfl, w4⟩ := open_i64 Tryd.underlying24 r4
      obtain ⟨z5, rfl, w5⟩ := open_i64 Tryd.underlying24 r5
      obtain ⟨z6, e6, _⟩ := DataW.trod_bool Tryd.underlying4 r6
      simp at e6
      subst e6
      have b4 := bounds_u64 w4
      have b5 := bounds_u64 w5
      refine ⟨⟨z0, z1, z2, z3, z4.toNat, z5.toNat, z6⟩, fun j u hu => ?_, by simp only; omega, by simp only; omega⟩
      rcases j with _ | _ | _ | _ | _ | _ | _ | j
      · simp [dL] at hu; subst hu; exact c0
      · simp [dL] at hu; subst hu; exact c1
      · simp [dL] at hu; subst hu; exact c2
      · simp [dL] at hu; subst hu; exact c3
      · simp [dL] at hu; subst hu; rw [show max z4 0 = z4 by omega]; exact c4
      · simp [dL] at hu; subst hu; rw [show max z5 0 = z5 by omega]; exact c5
      · simp [dL] at hu; subst hu; exact c6
      · simp [dL] at hu
    obtain ⟨f, hf⟩ : ∃ f : Nat → Dd, ∀ i, i < len → (∀ j u, (dL (f i))[j]? = some u → w.cell? (a.add (i * 7 + j)) = some u) ∧ (f i).n < 18446744073709551616 ∧ (f i).mask < 18446744073709551616 :=
      ⟨fun i => if hil : i < len then (hi' i hil).choose else Dd.zero, fun i hil => by simp only [dif_pos hil]; exact (hi' i hil).choose_spec⟩
    have hll : ((List.range len).map f).length = len := by simp
    refine ⟨some a, len, cap, (List.range len).map f, hv, ⟨by rw [flatK_len dL 7 dL_len, hll], fun _ => ⟨a, rfl, fun j u hu => ?_⟩⟩, hl, hm, fun t ht => ?_⟩
    · have hj := (List.getElem?_eq_some_iff.1 hu).1
      rw [flatK_len dL 7 dL_len, hll] at hj
      have hq : j / 7 < len := by omega
      have he := flatK_get dL 7 dL_len ((List.range len).map f) (j / 7) (j % 7) (by rw [hll]; exact hq) (by omega)
      rw [show j / 7 * 7 + j % 7 = j by omega, hu] at he
      simp only [List.getElem_map, List.getElem_range] at he
      have := (hf (j / 7) hq).1 (j % 7) u he.symm
      rw [show j / 7 * 7 + j % 7 = j by omega] at this
      exact this
    · obtain ⟨i, hi2, rfl⟩ := List.mem_map.1 ht
      exact (hf i (List.mem_range.1 hi2)).2
end

end Go.Proofs.YtmhlmoojmdfnfaaDoor
