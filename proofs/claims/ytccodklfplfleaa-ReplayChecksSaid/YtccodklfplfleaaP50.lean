/- A duty and events among the arguments, opened; Law 35: ReplayChecks returns true for every duty and every trace; walked; ReplayChecks returns true for every input and leaves its arguments as they were. No condition. -/
import Derived.Test.YtccodklfplfleaaP49
import Derived.Test.YtccodklfplfleaaP04
import Derived.Test.YtccodklfplfleaaP36
import Derived.Test.YtccodklfplfleaaP48
import Derived.Test.YtccodklfplfleaaRows
import Derived.Test.YtccodklfplfleaaChecked

/- A duty and events among the arguments, opened. -/
namespace Go.Proofs.Ytccodklfplfleaa
open Go.Joins Go.ChangeShapes Go.WideShapes Go.ChangeAt Go.RowKit Go.Deep

section
variable {H : Type} {enc : TypeId × Value → H} {w : World} {base : Nat} {spare : Nat → Bool} {held : Bool}
theorem Try.cells3 : Try.prog.cellsOf 3 = 1 := by kernel_rfl
theorem Try.cells32 : Try.prog.cellsOf 32 = 1 := by kernel_rfl
theorem Try.cells22 : Try.prog.cellsOf 22 = 1 := by kernel_rfl
theorem Try.cells51 : Try.prog.cellsOf 51 = 1 := by kernel_rfl
theorem Try.cells53 : Try.prog.cellsOf 53 = 2 := by kernel_rfl
theorem Try.cells55 : Try.prog.cellsOf 55 = 8 := by kernel_rfl
theorem open_u32 {fuel : Nat} {v : Value} {x : DataW H × List MemPlace} (h : DataW.trod enc Try.prog w base spare held fuel 51 [v] = some x) : ∃ z : Nat, v = .int .u32 z ∧ z < 4294967296 := by
  obtain ⟨z, rfl, wz⟩ := open_i64 Try.underlying51 h
  simp only [Lit.wf, Bool.and_eq_true, decide_eq_true_eq] at wz
  have h1 : (0 : Int) ≤ z ∧ z ≤ 4294967295 := wz
  exact ⟨z.toNat, by rw [show ((z.toNat : Nat) : Int) = z by omega], by omega⟩
theorem open_id_cells {fuel : Nat} {a b : Value} {x : DataW H × List MemPlace} (h : DataW.trod enc Try.prog w base spare held fuel 53 [a, b] = some x) : ∃ (t : Int) (g : Nat), a = .int .i64 t ∧ b = .int .u32 g ∧ g < 4294967296 := by
  obtain ⟨y0, y1, n, _, _, h0, h1⟩ := trod_struct2 Try.underlying53 h
  simp only [Try.cells3, Try.cells51, List.drop_zero, List.drop_succ_cons, List.take_succ_cons, List.take_zero] at h0 h1
  obtain ⟨z0, rfl, _⟩ := open_i64 Try.underlying3 h0
  obtain ⟨z1, rfl, hz⟩ := open_u32 h1
  exact ⟨z0, z1, rfl, rfl, hz⟩
set_option maxRecDepth 100000 in
theorem open_ev_cells {fuel : Nat} {cs : List Value} {x : DataW H × List MemPlace} (h : DataW.trod enc Try.prog w base spare held fuel 55 cs = some x) : ∃ e : Ev, cs = eL e ∧ e.gen < 4294967296 ∧ e.n < 18446744073709551616 ∧ e.step ≤ 9223372036854775807 := by
  obtain ⟨xs, n, _, _, hl, hlen, hf⟩ := DataW.trod_struct Try.underlying55 h
  have hl8 : cs.length = 8 := hl.trans Try.cells55
  match cs, hl8 with
  | [a0, a1, a2, a3, a4, a5, a6, a7], _ =>
    match xs, hlen with
    | [x0, x1, x2, x3, x4, x5, x6], _ =>
      have h0 := hf 0 ⟨"Step", 3, 0, false, "", "", 0⟩ rfl
      have h1 := hf 1 ⟨"Cpu", 3, 1, false, "", "", 8⟩ rfl
      have h2 := hf 2 ⟨"Kind", 3, 2, false, "", "", 16⟩ rfl
      have h3 := hf 3 ⟨"Id", 53, 3, false, "", "", 24⟩ rfl
      have h4 := hf 4 ⟨"Op", 3, 5, false, "", "", 40⟩ rfl
      have h5 := hf 5 ⟨"Code", 32, 6, false, "", "", 48⟩ rfl
      have h6 := hf 6 ⟨"N", 22, 7, false, "", "", 56⟩ rfl
      simp only [Try.cells3, List.drop_zero, List.take_succ_cons, List.take_zero] at h0
      simp only [Try.cells3, List.drop_zero, List.drop_succ_cons, List.take_succ_cons, List.take_zero] at h1
      simp only [Try.cells3, List.drop_zero, List.drop_succ_cons, List.take_succ_cons, List.take_zero] at h2
      simp only [Try.cells53, List.drop_zero, List.drop_succ_cons, List.take_succ_cons, List.take_zero] at h3
      simp only [Try.cells3, List.drop_zero, List.drop_succ_cons, List.take_succ_cons, List.take_zero] at h4
      simp only [Try.cells32, List.drop_zero, List.drop_succ_cons, List.take_succ_cons, List.take_zero] at h5
      simp only [Try.cells22, List.drop_zero, List.drop_succ_cons, List.take_succ_cons, List.take_zero] at h6
      obtain ⟨z0, rfl, w0⟩ := open_i64 Try.underlying3 h0
      have b0 := bounds_i64 w0
      obtain ⟨z1, rfl, _⟩ := open_i64 Try.underlying3 h1
      obtain ⟨z2, rfl, _⟩ := open_i64 Try.underlying3 h2
      obtain ⟨z3, g, rfl, rfl, hg⟩ := open_id_cells h3
      obtain ⟨z4, rfl, _⟩ := open_i64 Try.underlying3 h4
      obtain ⟨z5, rfl, _⟩ := open_i64 Try.underlying32 h5
      obtain ⟨z6, rfl, w6⟩ := open_i64 Try.underlying22 h6
      have b6 := bounds_u64 w6
      refine ⟨⟨z0, z1, z2, z3, g, z4, z5, z6.toNat⟩, ?_, hg, by show z6.toNat < _; omega, by show z0 ≤ _; omega⟩
      simp only [eL]
      rw [show ((z6.toNat : Nat) : Int) = z6 by omega]
set_option maxRecDepth 100000 in
/-- A slice of events that is an argument. -/
theorem open_events {r : Reach} {b0 : Nat} {v : Value} {d : DataW H} {p : List MemPlace} (hv : Value.okWide Try.prog w r b0 28 v) (h : DataW.Trod enc Try.prog w base spare held 28 v d p) :
    ∃ (A : Option Addr) (n c : Nat) (l : List Ev), v = .slice A n c ∧ ReadsE w A n l ∧ n ≤ c ∧ c ≤ maxLen ∧ ∀ e ∈ l, e.gen < 4294967296 ∧ e.n < 18446744073709551616 ∧ e.step ≤ 9223372036854775807 := by
  obtain ⟨a0, l0, c0, rfl⟩ := okWide_slice Try.underlying28 hv
  obtain ⟨fuel, hf⟩ := h
  rcases open_slice Try.underlying28 hf with ⟨h0, _⟩ | ⟨a, len, cap, m, n, D, Pl, hcs, _, hl, hm, hmm, _, hi⟩
  · simp [Value.cells] at h0
    obtain ⟨rfl, rfl, rfl⟩ := h0
    exact ⟨none, 0, 0, [], rfl, Reads.none_, Nat.le_refl _, Nat.zero_le _, by simp⟩
  · have hv : Value.slice a0 l0 c0 = .slice (some a) len cap := by
      simp [Value.cells] at hcs
      obtain ⟨rfl, rfl, rfl⟩ := hcs
      rfl
    have hi' : ∀ i, i < len → ∃ e : Ev, (∀ j, j < 8 → w.cell? (a.add (i * 8 + j)) = (eL e)[j]?) ∧ e.gen < 4294967296 ∧ e.n < 18446744073709551616 ∧ e.step ≤ 9223372036854775807 := by
      intro i hil
      obtain ⟨cs', hc, ht⟩ := hi i (by rw [hmm]; split <;> omega)
      rw [Try.cells55] at hc
      obtain ⟨e, rfl, hg, hn⟩ := open_ev_cells ht
      obtain ⟨_, _, hat⟩ := World.cells?_some hc
      exact ⟨e, fun j hj => by rw [← Go.Deep.add_add]; exact hat j hj, hg, hn⟩
    obtain ⟨f, hfx⟩ : ∃ f : Nat → Ev, ∀ i, i < len → (∀ j, j < 8 → w.cell? (a.add (i * 8 + j)) = (eL (f i))[j]?) ∧ (f i).gen < 4294967296 ∧ (f i).n < 18446744073709551616 ∧ (f i).step ≤ 9223372036854775807 :=
      ⟨fun i => if hil : i < len then (hi' i hil).choose else ⟨0, 0, 0, 0, 0, 0, 0, 0⟩, fun i hil => by simp only [dif_pos hil]; exact (hi' i hil).choose_spec⟩
    refine ⟨some a, len, cap, (List.range len).map f, hv, ⟨by rw [flat_len]; simp, fun _ => ⟨a, rfl, fun j u hu => ?_⟩⟩, hl, hm, fun e he => ?_⟩
    · have hj : j < ((List.range len).map f).length * 8 := by
        rw [← flat_len]; exact (List.getElem?_eq_some_iff.1 hu).1
      simp only [List.length_map, List.length_range] at hj
      have e1 : j = j / 8 * 8 + j % 8 := by omega
      rw [e1, flat_get _ (j / 8) (j % 8) (by simp; omega) (by omega)] at hu
      simp only [List.getElem_map, List.getElem_range] at hu
      rw [e1, (hfx (j / 8) (by omega)).1 (j % 8) (by omega), hu]
    · obtain ⟨i, hi2, rfl⟩ := List.mem_map.1 he
      exact (hfx i (List.mem_range.1 hi2)).2
end
section
variable {H : Type} {enc : TypeId × Value → H} {w : World} {base : Nat} {spare : Nat → Bool} {held : Bool}
set_option maxRecDepth 100000 in
theorem open_deeds1 {fuel : Nat} {v : Value} {x : DataW H × List MemPlace} (hf : DataW.trod enc Try.prog w base spare held fuel 48 [v] = some x) :
    ∃ (A : Option Addr) (n c : Nat) (l : List Dd), v = .slice A n c ∧ ReadsD w A n l ∧ n ≤ c ∧ c ≤ maxLen ∧ ∀ d ∈ l, d.n < 18446744073709551616 ∧ d.mask < 18446744073709551616 := by
  rcases open_slice_fields Try.underlying48 Try.underlying47 (by kernel_rfl) (by kernel_rfl) hf with h0 | ⟨a, len, cap, hcs, hl, hm, hi⟩
  · simp at h0
    exact ⟨none, 0, 0, [], h0, Reads.none_, Nat.le_refl _, Nat.zero_le _, by simp⟩
  · have hv : v = .slice (some a) len cap := by simpa using hcs
    have hi' : ∀ i, i < len → ∃ t : Dd, (∀ j u, (dL t)[j]? = some u → w.cell? (a.add (i * 7 + j)) = some u) ∧ t.n < 18446744073709551616 ∧ t.mask < 18446744073709551616 := by
      intro i hil
      obtain ⟨n, hf⟩ := hi i hil
      obtain ⟨v0, y0, c0, r0⟩ := hf 0 _ rfl
      obtain ⟨v1, y1, c1, r1⟩ := hf 1 _ rfl
      obtain ⟨v2, y2, c2, r2⟩ := hf 2 _ rfl
      obtain ⟨v3, y3, c3, r3⟩ := hf 3 _ rfl
      obtain ⟨v4, y4, c4, r4⟩ := hf 4 _ rfl
      obtain ⟨v5, y5, c5, r5⟩ := hf 5 _ rfl
      obtain ⟨v6, y6, c6, r6⟩ := hf 6 _ rfl
      obtain ⟨z0, rfl, w0⟩ := open_i64 Try.underlying3 r0
      obtain ⟨z1, rfl, w1⟩ := open_i64 Try.underlying3 r1
      obtain ⟨z2, rfl, w2⟩ := open_i64 Try.underlying3 r2
      obtain ⟨z3, rfl, w3⟩ := open_i64 Try.underlying3 r3
      obtain ⟨z4, rfl, w4⟩ := open_i64 Try.underlying22 r4
      obtain ⟨z5, rfl, w5⟩ := open_i64 Try.underlying22 r5
      obtain ⟨z6, e6, _⟩ := DataW.trod_bool Try.underlying4 r6
      simp at e6
      subst e6
      have b4 := bounds_u64 w4
      have b5 := bounds_u64 w5
      refine ⟨⟨z0, z1, z2, z3, z4.toNat, z5.toNat, z6⟩, fun j u hu => ?_, by simp only; omega, by simp only; omega⟩
      rcases j with _ | _ | _ | _ | _ | _ | _ | j
      · simp [dL] at hu; subst hu; exact c0
      · simp [dL] at hu; subst hu; exact c1
      · simp [dL] at hu; subst hu; exact c2
      · simp [dL] at hu; subst hu; exact c3
      · simp [dL] at hu; subst hu; rw [show max z4 0 = z4 by omega]; exact c4
      · simp [dL] at hu; subst hu; rw [show max z5 0 = z5 by omega]; exact c5
      · simp [dL] at hu; subst hu; exact c6
      · simp [dL] at hu
    obtain ⟨f, hf⟩ : ∃ f : Nat → Dd, ∀ i, i < len → (∀ j u, (dL (f i))[j]? = some u → w.cell? (a.add (i * 7 + j)) = some u) ∧ (f i).n < 18446744073709551616 ∧ (f i).mask < 18446744073709551616 :=
      ⟨fun i => if hil : i < len then (hi' i hil).choose else Dd.zero, fun i hil => by simp only [dif_pos hil]; exact (hi' i hil).choose_spec⟩
    have hll : ((List.range len).map f).length = len := by simp
    refine ⟨some a, len, cap, (List.range len).map f, hv, ⟨by rw [flatK_len dL 7 dL_len, hll], fun _ => ⟨a, rfl, fun j u hu => ?_⟩⟩, hl, hm, fun t ht => ?_⟩
    · have hj := (List.getElem?_eq_some_iff.1 hu).1
      rw [flatK_len dL 7 dL_len, hll] at hj
      have hq : j / 7 < len := by omega
      have he := flatK_get dL 7 dL_len ((List.range len).map f) (j / 7) (j % 7) (by rw [hll]; exact hq) (by omega)
      rw [show j / 7 * 7 + j % 7 = j by omega, hu] at he
      simp only [List.getElem_map, List.getElem_range] at he
      have := (hf (j / 7) hq).1 (j % 7) u he.symm
      rw [show j / 7 * 7 + j % 7 = j by omega] at this
      exact this
    · obtain ⟨i, hi2, rfl⟩ := List.mem_map.1 ht
      exact (hf i (List.mem_range.1 hi2)).2
set_option maxRecDepth 100000 in
theorem open_starts {fuel : Nat} {v : Value} {x : DataW H × List MemPlace} (hf : DataW.trod enc Try.prog w base spare held fuel 25 [v] = some x) :
    ∃ (A : Option Addr) (n c : Nat) (l : List St), v = .slice A n c ∧ ReadsS w A n l ∧ n ≤ c ∧ c ≤ maxLen ∧ ∀ s ∈ l, s.mask < 18446744073709551616 := by
  rcases open_slice_fields Try.underlying25 Try.underlying50 (by kernel_rfl) (by kernel_rfl) hf with h0 | ⟨a, len, cap, hcs, hl, hm, hi⟩
  · simp at h0
    exact ⟨none, 0, 0, [], h0, Reads.none_, Nat.le_refl _, Nat.zero_le _, by simp⟩
  · have hv : v = .slice (some a) len cap := by simpa using hcs
    have hi' : ∀ i, i < len → ∃ t : St, (∀ j u, (stL t)[j]? = some u → w.cell? (a.add (i * 3 + j)) = some u) ∧ t.mask < 18446744073709551616 := by
      intro i hil
      obtain ⟨n, hf⟩ := hi i hil
      obtain ⟨v0, y0, c0, r0⟩ := hf 0 _ rfl
      obtain ⟨v1, y1, c1, r1⟩ := hf 1 _ rfl
      obtain ⟨v2, y2, c2, r2⟩ := hf 2 _ rfl
      obtain ⟨z0, rfl, w0⟩ := open_i64 Try.underlying3 r0
      obtain ⟨z1, rfl, w1⟩ := open_i64 Try.underlying3 r1
      obtain ⟨z2, rfl, w2⟩ := open_i64 Try.underlying22 r2
      have b2 := bounds_u64 w2
      refine ⟨⟨z0, z1, z2.toNat⟩, fun j u hu => ?_, by simp only; omega⟩
      rcases j with _ | _ | _ | j
      · simp [stL] at hu; subst hu; exact c0
      · simp [stL] at hu; subst hu; exact c1
      · simp [stL] at hu; subst hu; rw [show max z2 0 = z2 by omega]; exact c2
      · simp [stL] at hu
    obtain ⟨f, hf⟩ : ∃ f : Nat → St, ∀ i, i < len → (∀ j u, (stL (f i))[j]? = some u → w.cell? (a.add (i * 3 + j)) = some u) ∧ (f i).mask < 18446744073709551616 :=
      ⟨fun i => if hil : i < len then (hi' i hil).choose else ⟨0, 0, 0⟩, fun i hil => by simp only [dif_pos hil]; exact (hi' i hil).choose_spec⟩
    have hll : ((List.range len).map f).length = len := by simp
    refine ⟨some a, len, cap, (List.range len).map f, hv, ⟨by rw [flatK_len stL 3 stL_len, hll], fun _ => ⟨a, rfl, fun j u hu => ?_⟩⟩, hl, hm, fun t ht => ?_⟩
    · have hj := (List.getElem?_eq_some_iff.1 hu).1
      rw [flatK_len stL 3 stL_len, hll] at hj
      have hq : j / 3 < len := by omega
      have he := flatK_get stL 3 stL_len ((List.range len).map f) (j / 3) (j % 3) (by rw [hll]; exact hq) (by omega)
      rw [show j / 3 * 3 + j % 3 = j by omega, hu] at he
      simp only [List.getElem_map, List.getElem_range] at he
      have := (hf (j / 3) hq).1 (j % 3) u he.symm
      rw [show j / 3 * 3 + j % 3 = j by omega] at this
      exact this
    · obtain ⟨i, hi2, rfl⟩ := List.mem_map.1 ht
      exact (hf i (List.mem_range.1 hi2)).2
set_option maxRecDepth 100000 in
theorem open_progs {fuel : Nat} {v : Value} {x : DataW H × List MemPlace} (h : DataW.trod enc Try.prog w base spare held fuel 24 [v] = some x) :
    ∃ (A : Option Addr) (n c : Nat) (l : List (List Dd)), v = .slice A n c ∧ ReadsPP w A n l ∧ n ≤ c ∧ c ≤ maxLen ∧ ∀ p ∈ l, p.length ≤ 9223372036854775807 ∧ ∀ d ∈ p, d.mask < 18446744073709551616 := by
  rcases open_slice1 Try.underlying24 (by kernel_rfl) h with ⟨h0, _⟩ | ⟨a, len, cap, m, n, V, D, Pl, hcs, hb, hl, hm, hmm, hx, hi⟩
  · simp at h0
    exact ⟨none, 0, 0, [], h0, ReadsPP.none_ w, Nat.le_refl _, Nat.zero_le _, by simp⟩
  · have hv : v = .slice (some a) len cap := by simpa using hcs
    have hi' : ∀ i, i < len → ∃ l : List Dd, (w.cell? (a.add i) = some (V i) ∧ (∃ A n c, V i = .slice A n c ∧ ReadsD w A n l)) ∧ l.length ≤ 9223372036854775807 ∧ ∀ d ∈ l, d.mask < 18446744073709551616 := by
      intro i hil
      obtain ⟨h1, h2⟩ := hi i (by rw [hmm]; split <;> omega)
      obtain ⟨A, n, c, l, e, hr, hn, hc, hd⟩ := open_deeds1 h2
      have hlen := ReadsD.len hr
      refine ⟨l, ⟨h1, A, n, c, e, hr⟩, ?_, fun d hd' => (hd d hd').2⟩
      have : maxLen = 9223372036854775807 := rfl
      omega
    obtain ⟨f, hf⟩ : ∃ f : Nat → List Dd, ∀ i, i < len → (w.cell? (a.add i) = some (V i) ∧ (∃ A n c, V i = .slice A n c ∧ ReadsD w A n (f i))) ∧ (f i).length ≤ 9223372036854775807 ∧ ∀ d ∈ f i, d.mask < 18446744073709551616 :=
      ⟨fun i => if hil : i < len then (hi' i hil).choose else [], fun i hil => by simp only [dif_pos hil]; exact (hi' i hil).choose_spec⟩
    refine ⟨some a, len, cap, (List.range len).map f, hv, ⟨(List.range len).map V, ⟨by simp, fun _ => ⟨a, rfl, fun j u hu => ?_⟩⟩, by simp, fun i p hp => ?_⟩, hl, hm, fun p hp => ?_⟩
    · obtain ⟨hj, hu⟩ := List.getElem?_eq_some_iff.1 hu
      simp at hj hu
      subst hu
      exact (hf j hj).1.1
    · obtain ⟨hj, hu⟩ := List.getElem?_eq_some_iff.1 hp
      simp at hj hu
      subst hu
      obtain ⟨⟨_, A, n, c, e, hr⟩, _⟩ := hf i hj
      exact ⟨A, n, c, by rw [List.getElem?_map, List.getElem?_range hj]; exact congrArg some e, hr⟩
    · obtain ⟨i, hi2, rfl⟩ := List.mem_map.1 hp
      exact (hf i (List.mem_range.1 hi2)).2
theorem open_float {t : TypeId} {k : FloatKind} {fuel : Nat} {v : Value} {x : DataW H × List MemPlace} (ht : Try.prog.underlying t = some (.float k)) (h : DataW.trod enc Try.prog w base spare held fuel t [v] = some x) : ∃ z, v = .float k z := by
  cases fuel with
  | zero => simp [DataW.trod] at h
  | succ n =>
    unfold DataW.trod at h
    rw [ht] at h
    split at h <;> simp_all
set_option maxRecDepth 100000 in
/-- A duty that is an argument. -/
theorem open_duty {r : Reach} {b0 : Nat} {v : Value} {d : DataW H} {p : List MemPlace} (hv : Value.okWide Try.prog w r b0 27 v) (h : DataW.Trod enc Try.prog w base spare held 27 v d p) :
    ∃ (u : Du) (A : Option Addr) (n c : Nat) (B : Option Addr) (m e : Nat), v = .agg (uC u A n c B m e) ∧ IsU w u A n B m ∧ (∀ p ∈ u.progs, p.length ≤ 9223372036854775807) ∧ (∀ s ∈ u.starts, s.mask < 18446744073709551616) ∧ MaskD u := by
  obtain ⟨⟨cs⟩, rfl, hsz, n, hf⟩ := open_fields Try.underlying27 (by kernel_rfl) (by kernel_rfl) hv h
  obtain ⟨v0, y0, c0, r0⟩ := hf 0 _ rfl
  obtain ⟨v1, y1, c1, r1⟩ := hf 1 _ rfl
  obtain ⟨v2, y2, c2, r2⟩ := hf 2 _ rfl
  obtain ⟨v3, y3, c3, r3⟩ := hf 3 _ rfl
  obtain ⟨v4, y4, c4, r4⟩ := hf 4 _ rfl
  obtain ⟨v5, y5, c5, r5⟩ := hf 5 _ rfl
  obtain ⟨v6, y6, c6, r6⟩ := hf 6 _ rfl
  obtain ⟨v7, y7, c7, r7⟩ := hf 7 _ rfl
  obtain ⟨v8, y8, c8, r8⟩ := hf 8 _ rfl
  obtain ⟨z0, rfl, w0⟩ := open_i64 Try.underlying3 r0
  obtain ⟨z1, rfl, w1⟩ := open_i64 Try.underlying3 r1
  obtain ⟨z2, rfl, w2⟩ := open_i64 Try.underlying3 r2
  obtain ⟨z3, rfl, w3⟩ := open_i64 Try.underlying3 r3
  obtain ⟨z4, rfl, w4⟩ := open_i64 Try.underlying22 r4
  obtain ⟨z5, rfl⟩ := open_float Try.underlying23 r5
  obtain ⟨z6, rfl⟩ := open_float Try.underlying23 r6
  obtain ⟨A, na, ca, lp, rfl, hp, _, _, hpp⟩ := open_progs r7
  obtain ⟨B, nb, cb, ls, rfl, hs, _, _, hss⟩ := open_starts r8
  have b4 := bounds_u64 w4
  refine ⟨⟨z0, z1, z2, z3, z4.toNat, z5, z6, lp, ls⟩, A, na, ca, B, nb, cb, ?_, ⟨hp, hs⟩, fun p hp' => (hpp p hp').1, hss, fun p hp' => (hpp p hp').2⟩
  match cs, hsz with
  | [a0, a1, a2, a3, a4, a5, a6, a7, a8], _ =>
    simp at c0 c1 c2 c3 c4 c5 c6 c7 c8
    rw [c0, c1, c2, c3, c4, c5, c6, c7, c8]
    simp only [uC]
    rw [show ((z4.toNat : Nat) : Int) = z4 by omega]
end

end Go.Proofs.Ytccodklfplfleaa

/- Law 35: ReplayChecks returns true for every duty and every trace; walked. -/
namespace Go.Proofs.Ytccodklfplfleaa
open Go.RowKit

theorem ReadsE.take {w : World} {A : Option Addr} {n : Nat} {l : List Ev} (h : ReadsE w A n l) {k : Nat} (hk : k ≤ n) : ReadsE w A k (l.take k) := by
  have hl := h.len
  have e : (l.take k).flatMap eL = (l.flatMap eL).take (k * 8) := by
    conv => rhs; rw [← List.take_append_drop k l, List.flatMap_append]
    rw [List.take_left' (by rw [flat_len]; simp; omega)]
  unfold ReadsE
  rw [e]
  refine ⟨by rw [List.length_take, flat_len]; omega, fun h0 => ?_⟩
  obtain ⟨a, e1, h1⟩ := h.2 (by omega)
  refine ⟨a, e1, fun j u hu => h1 j u ?_⟩
  rw [List.getElem?_take] at hu
  split at hu
  · exact hu
  · cases hu
set_option maxHeartbeats 1600000 in
set_option maxRecDepth 100000 in
theorem replayChecks_any {w : World} {d : Du} {A B E : Option Addr} {n c m e ln ce : Nat} {l : List Ev} (hu : IsU w d A n B m) (hb : ∀ p ∈ d.progs, p.length ≤ 9223372036854775807) (hs : ∀ s ∈ d.starts, s.mask < 18446744073709551616) (hm : MaskD d) (hl : ReadsE w E ln l) (hc : ln ≤ ce) (hce : ce ≤ 9223372036854775807) :
    Calls Try.prog 3 #[.agg (uC d A n c B m e), .slice E ln ce] w fun x w' => x = .returned (.bool true) ∧ Kept [] w w' := by
  obtain ⟨wb, hwb⟩ : ∃ wb, w.alloc (.cells (uC d A n c B m e) 27) = wb := ⟨_, rfl⟩
  obtain ⟨h0, hF⟩ := du_box hwb
  have HF := Lib.hid hF
  have HK0 := Lib.hid h0
  have HAW : Hid (∀ W, Calls Try.prog 5 #[] W fun e w' => e = .returned (.bool true) ∧ Kept [] W w') := awake35_any
  have hnn := (hl.len)
  by_cases hlt : ln ≤ 400
  · have HS : Hid (∀ W, Kept [] wb W → Calls Try.prog 4 #[.agg (uC d A n c B m e), .slice E ln ce] W fun x w' => x = .returned (.bool true) ∧ Kept [] W w') := fun W hk => same35_any ((⟨hu, hb, hs, hm, hl, hlt⟩ : Tr35 w d A n B m E ln l).old (h0.trans hk))
    have hUC : uC d A n c B m e = #[.int .i64 d.cpus, .int .i64 d.threads, .int .i64 d.locks, .int .i64 d.cap, .int .u64 d.boost, .float .f64 d.keep, .float .f64 d.ratio, .slice A n c, .slice B m e] := rfl
    rw [hUC] at HS hwb ⊢
    have hf := hF wb (Kept.refl _ _)
    clear hu hb hs hm hl hF h0 hUC hnn
    go_enter Try.func3, Try.ntmps3
    go_wp2_with fail
    (try rw [hwb])
    (try (go_wp2_with fail))
    refine (HS.out _ (Kept.refl _ _)).mono ?_
    rintro x w2 ⟨rfl, hk2⟩
    have HK2 := Lib.hid (HK0.out.trans hk2)
    clear hk2 hf
    go_wp2_with fail
    refine (HAW.out _).mono ?_
    rintro x w3 ⟨rfl, hk3⟩
    have HK3 := Lib.hid (HK2.out.trans hk3)
    clear hk3
    go_wp2_with fail
    go_ret
    exact ⟨rfl, HK3.out⟩
  · have HS : Hid (∀ W, Kept [] wb W → Calls Try.prog 4 #[.agg (uC d A n c B m e), .slice E 400 ce] W fun x w' => x = .returned (.bool true) ∧ Kept [] W w') := fun W hk => same35_any ((⟨hu, hb, hs, hm, hl.take (by omega), Nat.le_refl _⟩ : Tr35 w d A n B m E 400 (l.take 400)).old (h0.trans hk))
    have hUC : uC d A n c B m e = #[.int .i64 d.cpus, .int .i64 d.threads, .int .i64 d.locks, .int .i64 d.cap, .int .u64 d.boost, .float .f64 d.keep, .float .f64 d.ratio, .slice A n c, .slice B m e] := rfl
    rw [hUC] at HS hwb ⊢
    have hf := hF wb (Kept.refl _ _)
    have hE : ∃ a, E = some a := by
      obtain ⟨a, e1, _⟩ := hl.2 (by omega)
      exact ⟨a, e1⟩
    obtain ⟨a, rfl⟩ := hE
    clear hu hb hs hm hl hF h0 hUC hnn
    go_enter Try.func3, Try.ntmps3
    go_wp2_with fail
    (try rw [hwb])
    (try (go_wp2_with fail))
    refine (HS.out _ (Kept.refl _ _)).mono ?_
    rintro x w2 ⟨rfl, hk2⟩
    have HK2 := Lib.hid (HK0.out.trans hk2)
    clear hk2 hf
    go_wp2_with fail
    refine (HAW.out _).mono ?_
    rintro x w3 ⟨rfl, hk3⟩
    have HK3 := Lib.hid (HK2.out.trans hk3)
    clear hk3
    go_wp2_with fail
    go_ret
    exact ⟨rfl, HK3.out⟩

end Go.Proofs.Ytccodklfplfleaa

/- ReplayChecks returns true for every input and leaves its arguments as they were. No condition. -/
namespace Go.Proofs.Ytccodklfplfleaa
open Go.ChangeShapes Go.WideShapes Go.ChangeAt Go.RowKit Go.Deep

theorem Try.own : ownKnob Try.prog.godebug = none := by kernel_rfl
theorem Try.laidOut : laidOutB Try.prog = true := by kernel_rfl

set_option maxRecDepth 100000 in
theorem replayChecks_lifted (os : Os) (started : os.Started) (H : Type) (enc : TypeId × Value → H) :
    ReturnsInHanded {} Try.checked os 3 .any (Rows.replayChecksSpec.pre6 enc Try.prog Try.f3 Rows.replayChecksRow.domain false) (Rows.replayChecksSpec.post enc Try.prog Try.f3 false true false false) := by
  refine returnsInHanded_of_change (C := Try.checked) Try.own started (by kernel_rfl) Try.func3
    (ChangeSpec.witness6 (enc := enc) (C := Try.checked) false ⟨#[], #[.agg #[.int .i64 0, .int .i64 0, .int .i64 0, .int .i64 0, .int .u64 0, .float .f64 0, .float .f64 0, .slice none 0 0, .slice none 0 0], .slice none 0 0], []⟩ 8 (by kernel_rfl) (by kernel_rfl) (by kernel_rfl) (by kernel_rfl)) ?_
  intro W base args ds gs before hval0 hW hcnd _
  have hval : ∀ (j : Nat) t v, Try.f3.params[j]? = some t → args[j]? = some v → Value.okWide Try.prog W .any base t v := hval0
  have hW' := hW
  obtain ⟨p, q, hA0, hV, rfl, hfz, hnd⟩ := hW
  have hA : DataW.TrodAll enc Try.prog W 0 (fun _ => true) true Try.f3.params.toList args.toList ds p := hA0
  rw [Try.params3] at hA hval
  obtain ⟨v0, vs0, d0, ds0, p0, q0, hargs, rfl, rfl, h0, r0⟩ := trodAll_cons hA
  obtain ⟨v1, vs1, d1, ds1, p1, q1, rfl, rfl, rfl, h1, r1⟩ := trodAll_cons r0
  obtain ⟨rfl, rfl, rfl⟩ := trodAll_nil r1
  obtain rfl : args = #[v0, v1] := by cases args; simp_all
  obtain ⟨rfl, rfl⟩ := trodVars_none hV
  have k0 := h0
  have lt0 : ∀ x ∈ p0, x.block < W.heap.size := by obtain ⟨m, hm⟩ := k0; exact DataW.trod_lt m _ _ _ hm
  have k1 := h1
  have lt1 : ∀ x ∈ p1, x.block < W.heap.size := by obtain ⟨m, hm⟩ := k1; exact DataW.trod_lt m _ _ _ hm
  obtain ⟨u, A, n, c, B, m, e, rfl, hu, hb, hs, hm⟩ := open_duty (hval 0 27 v0 rfl rfl) h0
  obtain ⟨E, ln, ce, l, rfl, hl, hc, hce, _⟩ := open_events (hval 1 28 v1 rfl rfl) h1
  unfold maxLen at hce
  clear hA0 hval0
  refine (replayChecks_any hu hb hs hm hl hc hce).mono fun e W' ⟨he, bel0⟩ => ?_
  have bel := bel0.toBelow
  subst he
  exact ⟨_, rfl, _, _, _, [], _, [], hW', trodAll_mk1 (shut_bool Try.underlying4 _), (trodAll_cons_mk (Below.trod Try.laidOut (by kernel_rfl) (of_decide_eq_true (by kernel_rfl)) k0 bel lt0) (trodAll_cons_mk (Below.trod Try.laidOut (by kernel_rfl) (of_decide_eq_true (by kernel_rfl)) k1 bel lt1) trodAll_mk0)), rfl, bel.frame _, fun h => by cases h⟩

theorem replayChecks_holds : Rows.ReplayChecksSaid :=
  OpenClaim.holds_of_wide 3 Try.f3 rfl rfl rfl rfl rfl rfl rfl ⟨rfl, rfl, rfl, rfl, rfl⟩ rfl rfl rfl rfl rfl (by kernel_rfl) Try.func3 (by kernel_rfl)
    (of_decide_eq_true (by kernel_rfl)) (by unfold Func.isWrapper; first | (rw [if_pos (by decide +kernel)]; kernel_rfl) | (rw [if_neg (by decide +kernel)]; exact ⟨rfl, rfl⟩))
    (fun os started H enc _ => replayChecks_lifted os started H enc)

#print axioms replayChecks_holds
end Go.Proofs.Ytccodklfplfleaa

