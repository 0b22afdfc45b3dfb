/- Events and ids among the arguments, opened. -/
import Derived.Test.YtohkgdgdblnbfaaDoorDeedOpen
import Derived.Test.YtohkgdgdblnbfaaDoorEventP
namespace Go.Proofs.YtohkgdgdblnbfaaDoor
open Go.Joins Go.ChangeShapes Go.WideShapes Go.ChangeAt Go.RowKit Go.Deep

section
variable {H : Type} {enc : TypeId × Value → H} {w : World} {base : Nat} {spare : Nat → Bool} {held : Bool}
theorem Tryd.cells3 : Tryd.prog.cellsOf 3 = 1 := by kernel_rfl
theorem Tryd.cells27 : Tryd.prog.cellsOf 27 = 1 := by kernel_rfl
theorem Tryd.cells28 : Tryd.prog.cellsOf 28 = 1 := by kernel_rfl
theorem Tryd.cells23 : Tryd.prog.cellsOf 23 = 1 := by kernel_rfl
theorem Tryd.cells25 : Tryd.prog.cellsOf 25 = 2 := by kernel_rfl
theorem Tryd.cells30 : Tryd.prog.cellsOf 30 = 8 := by kernel_rfl
theorem open_u32 {fuel : Nat} {v : Value} {x : DataW H × List MemPlace} (h : DataW.trod enc Tryd.prog w base spare held fuel 23 [v] = some x) : ∃ z : Nat, v = .int .u32 z ∧ z < 4294967296 := by
  obtain ⟨z, rfl, wz⟩ := open_i64 Tryd.underlying23 h
  simp only [Lit.wf, Bool.and_eq_true, decide_eq_true_eq] at wz
  have h1 : (0 : Int) ≤ z ∧ z ≤ 4294967295 := wz
  exact ⟨z.toNat, by rw [show ((z.toNat : Nat) : Int) = z by omega], by omega⟩
theorem open_id_cells {fuel : Nat} {a b : Value} {x : DataW H × List MemPlace} (h : DataW.trod enc Tryd.prog w base spare held fuel 25 [a, b] = some x) : ∃ (t : Int) (g : Nat), a = .int .i64 t ∧ b = .int .u32 g ∧ g < 4294967296 := by
  obtain ⟨y0, y1, n, _, _, h0, h1⟩ := trod_struct2 Tryd.underlying25 h
  simp only [Tryd.cells3, Tryd.cells23, List.drop_zero, List.drop_succ_cons, List.take_succ_cons, List.take_zero] at h0 h1
  obtain ⟨z0, rfl, _⟩ := open_i64 Tryd.underlying3 h0
  obtain ⟨z1, rfl, hz⟩ := open_u32 h1
  exact ⟨z0, z1, rfl, rfl, hz⟩
set_option maxRecDepth 100000 in
theorem open_ev_cells {fuel : Nat} {cs : List Value} {x : DataW H × List MemPlace} (h : DataW.trod enc Tryd.prog w base spare held fuel 30 cs = some x) : ∃ e : Ev, cs = eL e ∧ e.gen < 4294967296 ∧ e.n < 18446744073709551616 ∧ e.step ≤ 9223372036854775807 := by
  obtain ⟨xs, n, _, _, hl, hlen, hf⟩ := DataW.trod_struct Tryd.underlying30 h
  have hl8 : cs.length = 8 := hl.trans Tryd.cells30
  match cs, hl8 with
  | [a0, a1, a2, a3, a4, a5, a6, a7], _ =>
    match xs, hlen with
    | [x0, x1, x2, x3, x4, x5, x6], _ =>
      have h0 := hf 0 ⟨"Step", 3, 0, false, "", "", 0⟩ rfl
      have h1 := hf 1 ⟨"Cpu", 3, 1, false, "", "", 8⟩ rfl
      have h2 := hf 2 ⟨"Kind", 3, 2, false, "", "", 16⟩ rfl
      have h3 := hf 3 ⟨"Id", 25, 3, false, "", "", 24⟩ rfl
      have h4 := hf 4 ⟨"Op", 3, 5, false, "", "", 40⟩ rfl
      have h5 := hf 5 ⟨"Code", 27, 6, false, "", "", 48⟩ rfl
      have h6 := hf 6 ⟨"N", 28, 7, false, "", "", 56⟩ rfl
      simp only [Tryd.cells3, List.drop_zero, List.take_succ_cons, List.take_zero] at h0
      simp only [Tryd.cells3, List.drop_zero, List.drop_succ_cons, List.take_succ_cons, List.take_zero] at h1
      simp only [Tryd.cells3, List.drop_zero, List.drop_succ_cons, List.take_succ_cons, List.take_zero] at h2
      simp only [Tryd.cells25, List.drop_zero, List.drop_succ_cons, List.take_succ_cons, List.take_zero] at h3
      simp only [Tryd.cells3, List.drop_zero, List.drop_succ_cons, List.take_succ_cons, List.take_zero] at h4
      simp only [Tryd.cells27, List.drop_zero, List.drop_succ_cons, List.take_succ_cons, List.take_zero] at h5
      simp only [Tryd.cells28, List.drop_zero, List.drop_succ_cons, List.take_succ_cons, List.take_zero] at h6
      obtain ⟨z0, rfl, w0⟩ := open_i64 Tryd.underlying3 h0
      have b0 := bounds_i64 w0
      obtain ⟨z1, rfl, _⟩ := open_i64 Tryd.underlying3 h1
      obtain ⟨z2, rfl, _⟩ := open_i64 Tryd.underlying3 h2
      obtain ⟨z3, g, rfl, rfl, hg⟩ := open_id_cells h3
      obtain ⟨z4, rfl, _⟩ := open_i64 Tryd.underlying3 h4
      obtain ⟨z5, rfl, _⟩ := open_i64 Tryd.underlying27 h5
      obtain ⟨z6, rfl, w6⟩ := open_i64 Tryd.underlying28 h6
      have b6 := bounds_u64 w6
      refine ⟨⟨z0, z1, z2, z3, g, z4, z5, z6.toNat⟩, ?_, hg, by show z6.toNat < _; omega, by show z0 ≤ _; omega⟩
      simp only [eL]
      rw [show ((z6.toNat : Nat) : Int) = z6 by omega]
set_option maxRecDepth 100000 in
/-- A slice of events that is an argument. -/
theorem open_events {r : Reach} {b0 : Nat} {v : Value} {d : DataW H} {p : List MemPlace} (hv : Value.okWide Tryd.prog w r b0 22 v) (h : DataW.Trod enc Tryd.prog w base spare held 22 v d p) :
    ∃ (A : Option Addr) (n c : Nat) (l : List Ev), v = .slice A n c ∧ ReadsE w A n l ∧ n ≤ c ∧ c ≤ maxLen ∧ ∀ e ∈ l, e.gen < 4294967296 ∧ e.n < 18446744073709551616 ∧ e.step ≤ 9223372036854775807 := by
  obtain ⟨a0, l0, c0, rfl⟩ := okWide_slice Tryd.underlying22 hv
  obtain ⟨fuel, hf⟩ := h
  rcases open_slice Tryd.underlying22 hf with ⟨h0, _⟩ | ⟨a, len, cap, m, n, D, Pl, hcs, _, hl, hm, hmm, _, hi⟩
  · simp [Value.cells] at h0
    obtain ⟨rfl, rfl, rfl⟩ := h0
    exact ⟨none, 0, 0, [], rfl, Reads.none_, Nat.le_refl _, Nat.zero_le _, by simp⟩
  · have hv : Value.slice a0 l0 c0 = .slice (some a) len cap := by
      simp [Value.cells] at hcs
      obtain ⟨rfl, rfl, rfl⟩ := hcs
      rfl
    have hi' : ∀ i, i < len → ∃ e : Ev, (∀ j, j < 8 → w.cell? (a.add (i * 8 + j)) = (eL e)[j]?) ∧ e.gen < 4294967296 ∧ e.n < 18446744073709551616 ∧ e.step ≤ 9223372036854775807 := by
      intro i hil
      obtain ⟨cs', hc, ht⟩ := hi i (by rw [hmm]; split <;> omega)
      rw [Tryd.cells30] at hc
      obtain ⟨e, rfl, hg, hn⟩ := open_ev_cells ht
      obtain ⟨_, _, hat⟩ := World.cells?_some hc
      exact ⟨e, fun j hj => by rw [← Go.Deep.add_add]; exact hat j hj, hg, hn⟩
    obtain ⟨f, hfx⟩ : ∃ f : Nat → Ev, ∀ i, i < len → (∀ j, j < 8 → w.cell? (a.add (i * 8 + j)) = (eL (f i))[j]?) ∧ (f i).gen < 4294967296 ∧ (f i).n < 18446744073709551616 ∧ (f i).step ≤ 9223372036854775807 :=
      ⟨fun i => if hil : i < len then (hi' i hil).choose else ⟨0, 0, 0, 0, 0, 0, 0, 0⟩, fun i hil => by simp only [dif_pos hil]; exact (hi' i hil).choose_spec⟩
    refine ⟨some a, len, cap, (List.range len).map f, hv, ⟨by rw [flat_len]; simp, fun _ => ⟨a, rfl, fun j u hu => ?_⟩⟩, hl, hm, fun e he => ?_⟩
    · have hj : j < ((List.range len).map f).length * 8 := by
        rw [← flat_len]; exact (List.getElem?_eq_some_iff.1 hu).1
      simp only [List.length_map, List.length_range] at hj
      have e1 : j = j / 8 * 8 + j % 8 := by omega
      rw [e1, flat_get _ (j / 8) (j % 8) (by simp; omega) (by omega)] at hu
      simp only [List.getElem_map, List.getElem_range] at hu
      rw [e1, (hfx (j / 8) (by omega)).1 (j % 8) (by omega), hu]
    · obtain ⟨i, hi2, rfl⟩ := List.mem_map.1 he
      exact (hfx i (List.mem_range.1 hi2)).2
set_option maxRecDepth 100000 in
theorem open_id {r : Reach} {b0 : Nat} {v : Value} {d : DataW H} {p : List MemPlace} (hv : Value.okWide Tryd.prog w r b0 25 v) (h : DataW.Trod enc Tryd.prog w base spare held 25 v d p) :
    ∃ (t : Int) (g : Nat), v = .agg #[.int .i64 t, .int .u32 g] ∧ g < 4294967296 := by
  obtain ⟨⟨cs⟩, rfl, hsz⟩ := okWide_struct Tryd.underlying25 hv
  rw [Tryd.cells25] at hsz
  obtain ⟨fuel, hf⟩ := h
  match cs, hsz with
  | [a, b], _ =>
    obtain ⟨t, g, rfl, rfl, hg⟩ := open_id_cells (show DataW.trod enc Tryd.prog w base spare held fuel 25 [a, b] = some _ from hf)
    exact ⟨t, g, rfl, hg⟩
set_option maxRecDepth 100000 in
theorem open_ev {r : Reach} {b0 : Nat} {v : Value} {d : DataW H} {p : List MemPlace} (hv : Value.okWide Tryd.prog w r b0 30 v) (h : DataW.Trod enc Tryd.prog w base spare held 30 v d p) :
    ∃ (s c k t : Int) (g : Nat) (o d : Int) (n : Nat), v = .agg (eC s c k t g o d n) ∧ s ≤ 9223372036854775807 ∧ g < 4294967296 ∧ n < 18446744073709551616 := by
  obtain ⟨⟨cs⟩, rfl, hsz⟩ := okWide_struct Tryd.underlying30 hv
  obtain ⟨fuel, hf⟩ := h
  obtain ⟨e, he, hg, hn, hs⟩ := open_ev_cells (show DataW.trod enc Tryd.prog w base spare held fuel 30 cs = some _ from hf)
  subst he
  exact ⟨e.step, e.cpu, e.kind, e.slot, e.gen, e.op, e.code, e.n, rfl, hs, hg, hn⟩
end

end Go.Proofs.YtohkgdgdblnbfaaDoor
