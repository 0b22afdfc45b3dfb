/- The arguments of package bosunlaw23 opened: acts. -/
import Derived.Test.YtljimcdppeejfaaChecked
import Derived.Test.YtljimcdppeejfaaOpen
import Derived.Test.YtljimcdppeejfaaWait6
namespace Go.Proofs.Ytljimcdppeejfaa
open Go.ChangeShapes Go.WideShapes Go.ChangeAt Go.RowKit Go.Deep

theorem Try.own : ownKnob Try.prog.godebug = none := by kernel_rfl
theorem Try.laidOut : laidOutB Try.prog = true := by kernel_rfl

/-- A call of a place and a level. -/
structure Ac where
  k : Nat
  p : Int
  l : Int
def aL (a : Ac) : List Value := [.int .u8 a.k, .int .i64 a.p, .int .i64 a.l]
theorem aL_len (a : Ac) : (aL a).length = 3 := rfl

section
variable {H : Type} {enc : TypeId × Value → H} {w : World} {base : Nat} {spare : Nat → Bool} {held : Bool}
theorem open_acts {fuel : Nat} {v : Value} {x : DataW H × List MemPlace} (h : DataW.trod enc Try.prog w base spare held fuel 23 [v] = some x) :
    ∃ (A : Option Addr) (n c : Nat) (acts : List Ac), v = .slice A n c ∧ Reads w 3 A n (acts.flatMap aL) ∧ n ≤ maxLen ∧ ∀ a ∈ acts, a.k < 256 := by
  rcases open_slice_fields Try.underlying23 Try.underlying30 (by kernel_rfl) (by kernel_rfl) h with h0 | ⟨a, len, cap, hcs, hl, hm, hi⟩
  · simp at h0
    exact ⟨none, 0, 0, [], h0, Reads.none_, by simp, by simp⟩
  · simp at hcs
    have hi' : ∀ i, i < len → ∃ t : Ac, (∀ j u, (aL t)[j]? = some u → w.cell? (a.add (i * 3 + j)) = some u) ∧ t.k < 256 := by
      intro i hil
      obtain ⟨n, hf⟩ := hi i hil
      obtain ⟨v0, y0, c0, r0⟩ := hf 0 _ rfl
      obtain ⟨v1, y1, c1, r1⟩ := hf 1 _ rfl
      obtain ⟨v2, y2, c2, r2⟩ := hf 2 _ rfl
      obtain ⟨z0, rfl, w0⟩ := open_i64 Try.underlying5 r0
      obtain ⟨z1, rfl, w1⟩ := open_i64 Try.underlying3 r1
      obtain ⟨z2, rfl, w2⟩ := open_i64 Try.underlying3 r2
      have b0 := bounds_u8 w0
      refine ⟨⟨z0.toNat, z1, z2⟩, fun j u hu => ?_, by simp only; omega⟩
      rcases j with _ | _ | _ | j
      · simp [aL] at hu; subst hu
        rw [show max z0 0 = z0 by omega]
        exact c0
      · simp [aL] at hu; subst hu; exact c1
      · simp [aL] at hu; subst hu; exact c2
      · simp [aL] at hu
    obtain ⟨f, hf⟩ : ∃ f : Nat → Ac, ∀ i, i < len → (∀ j u, (aL (f i))[j]? = some u → w.cell? (a.add (i * 3 + j)) = some u) ∧ (f i).k < 256 :=
      ⟨fun i => if hil : i < len then (hi' i hil).choose else ⟨0, 0, 0⟩, fun i hil => by simp only [dif_pos hil]; exact (hi' i hil).choose_spec⟩
    have hll : ((List.range len).map f).length = len := by simp
    refine ⟨some a, len, cap, (List.range len).map f, hcs, ⟨by rw [flatK_len aL 3 aL_len, hll], fun _ => ⟨a, rfl, fun j u hu => ?_⟩⟩, Nat.le_trans hl hm, fun t ht => ?_⟩
    · have hj := (List.getElem?_eq_some_iff.1 hu).1
      rw [flatK_len aL 3 aL_len, hll] at hj
      have hq : j / 3 < len := by omega
      have he := flatK_get aL 3 aL_len ((List.range len).map f) (j / 3) (j % 3) (by rw [hll]; exact hq) (by omega)
      rw [show j / 3 * 3 + j % 3 = j by omega, hu] at he
      simp only [List.getElem_map, List.getElem_range] at he
      have := (hf (j / 3) hq).1 (j % 3) u he.symm
      rw [show j / 3 * 3 + j % 3 = j by omega] at this
      exact this
    · obtain ⟨i, hi2, rfl⟩ := List.mem_map.1 ht
      exact (hf i (List.mem_range.1 hi2)).2
end

end Go.Proofs.Ytljimcdppeejfaa
