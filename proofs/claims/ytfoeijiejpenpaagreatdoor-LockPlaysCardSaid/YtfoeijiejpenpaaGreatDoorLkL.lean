/- Locks in memory: one line turns. -/
import Derived.Test.YtfoeijiejpenpaaGreatDoorLkT
import Derived.Test.YtfoeijiejpenpaaGreatDoorWait6
namespace Go.Proofs.YtfoeijiejpenpaaGreatDoor
open Go.RowKit

/-- Rows of other elements lie elsewhere. -/
theorem own_own_ne {w : World} {b1 b2 : Nat} {e1 e2 : TypeId} {s1 s2 n1 n2 : Nat} {v1 v2 : Value} {x1 x2 : List Value} (h1 : w.ownsRow b1 e1 s1 v1 n1 x1) (h2 : w.ownsRow b2 e2 s2 v2 n2 x2) (hne : e1 ≠ e2) : ∀ k, k ∈ fp v1 → k ∉ fp v2 := by
  intro k hk1 hk2
  rcases h2.2 with ⟨rfl, _⟩ | ⟨g', cap, cur, rfl, _, hh, _⟩
  · simp [fp, Value.ownBlock] at hk2
  · simp [fp, Value.ownBlock] at hk2
    subst hk2
    exact own_blk_ne (g := k) h1 hh hne (mem_fp.1 hk1)
/-- Two pieces turn. -/
theorem Holds.turn2 {w w' : World} {ps : List Piece} (h : Holds w ps) {i j : Nat} {p p' q q' : Piece} (hij : i ≠ j) (hp : ps[i]? = some p) (hq : ps[j]? = some q) (hk : Kept (p.fp ++ q.fp) w w') (hp' : p'.holds w') (hq' : q'.holds w') (hfp : ∀ k, k ∈ p'.fp → k ∈ p.fp ∨ w.heap.size ≤ k) (hfq : ∀ k, k ∈ q'.fp → k ∈ q.fp ∨ w.heap.size ≤ k) (hpq : ∀ k, k ∈ p'.fp → k ∉ q'.fp) : Holds w' ((ps.set i p').set j q') := by
  have hi := (List.getElem?_eq_some_iff.1 hp).1
  have hj := (List.getElem?_eq_some_iff.1 hq).1
  have get : ∀ (m : Nat) (r : Piece), ((ps.set i p').set j q')[m]? = some r → (m = j ∧ r = q') ∨ (m = i ∧ m ≠ j ∧ r = p') ∨ (m ≠ i ∧ m ≠ j ∧ ps[m]? = some r) := by
    intro m r hr
    by_cases hmj : m = j
    · subst hmj
      rw [List.getElem?_set_self (by rw [List.length_set]; exact hj)] at hr
      injection hr with hr
      exact .inl ⟨rfl, hr.symm⟩
    · rw [List.getElem?_set_ne (Ne.symm hmj)] at hr
      by_cases hmi : m = i
      · subst hmi
        rw [List.getElem?_set_self hi] at hr
        injection hr with hr
        exact .inr (.inl ⟨rfl, hmj, hr.symm⟩)
      · rw [List.getElem?_set_ne (Ne.symm hmi)] at hr
        exact .inr (.inr ⟨hmi, hmj, hr⟩)
  have hold : ∀ (m : Nat) (r : Piece), m ≠ i → m ≠ j → ps[m]? = some r → ∀ k, k ∈ r.fp → k ∉ p.fp ∧ k ∉ q.fp ∧ k < w.heap.size := fun m r h1 h2 hr k hk' => ⟨h.apart h1 hr hp k hk', h.apart h2 hr hq k hk', Piece.lt (h.get hr) k hk'⟩
  have key : ∀ (m : Nat) (r : Piece) (m2 : Nat) (r2 : Piece), m ≠ m2 → ((ps.set i p').set j q')[m]? = some r → ((ps.set i p').set j q')[m2]? = some r2 → ∀ k, k ∈ r.fp → k ∉ r2.fp := by
    intro m r m2 r2 hm hr hr2 k hk1 hk2
    rcases get m r hr with ⟨rfl, rfl⟩ | ⟨rfl, h1, rfl⟩ | ⟨h1, h2, h3⟩
    · rcases get m2 r2 hr2 with ⟨rfl, rfl⟩ | ⟨rfl, h1', rfl⟩ | ⟨h1', h2', h3'⟩
      · exact hm rfl
      · exact hpq k hk2 hk1
      · have := hold m2 r2 h1' h2' h3' k hk2
        rcases hfq k hk1 with h4 | h4
        · exact this.2.1 h4
        · omega
    · rcases get m2 r2 hr2 with ⟨rfl, rfl⟩ | ⟨rfl, h1', rfl⟩ | ⟨h1', h2', h3'⟩
      · exact hpq k hk1 hk2
      · exact hm rfl
      · have := hold m2 r2 h1' h2' h3' k hk2
        rcases hfp k hk1 with h4 | h4
        · exact this.1 h4
        · omega
    · have h0 := hold m r h1 h2 h3 k hk1
      rcases get m2 r2 hr2 with ⟨rfl, rfl⟩ | ⟨rfl, h1', rfl⟩ | ⟨h1', h2', h3'⟩
      · rcases hfq k hk2 with h4 | h4
        · exact h0.2.1 h4
        · omega
      · rcases hfp k hk2 with h4 | h4
        · exact h0.1 h4
        · omega
      · exact h.apart hm h3 h3' k hk1 hk2
  refine ⟨fun r hr => ?_, fun m m2 r r2 hm hr hr2 => key m r m2 r2 (by omega) hr hr2⟩
  obtain ⟨m, hm⟩ := List.mem_iff_getElem?.1 hr
  rcases get m r hm with ⟨rfl, rfl⟩ | ⟨rfl, h1, rfl⟩ | ⟨h1, h2, h3⟩
  · exact hq'
  · exact hp'
  · exact Piece.kept (h.get h3) hk (fun k hk' => by have := hold m r h1 h2 h3 k hk'; simp; exact ⟨this.1, this.2.1⟩)

theorem lineP_get (l : List ((Nat × Value) × (List WO × Nat))) : ∀ (i j : Nat) (h : i < l.length), j < 2 → (l.flatMap lineP)[i * 2 + j]? = (lineP l[i])[j]? := by
  induction l with
  | nil => intro i j h; simp at h
  | cons a t ih =>
    intro i j h hj
    cases i with
    | zero => rw [List.flatMap_cons, List.getElem?_append_left (by simp [lineP]; omega)]; simp
    | succ i =>
      rw [List.flatMap_cons, List.getElem?_append_right (by simp [lineP]; omega)]
      have := ih i j (by simpa using h) hj
      rw [show (i + 1) * 2 + j - (lineP a).length = i * 2 + j by simp [lineP]; omega]
      simpa using this
theorem lineP_set (l : List ((Nat × Value) × (List WO × Nat))) (x : (Nat × Value) × (List WO × Nat)) (p q : Piece) (hx : lineP x = [p, q]) : ∀ (i : Nat), i < l.length → (((l.flatMap lineP).set (i * 2) p).set (i * 2 + 1) q) = (l.set i x).flatMap lineP := by
  induction l with
  | nil => intro i h; simp at h
  | cons a t ih =>
    intro i h
    cases i with
    | zero =>
      rw [List.set_cons_zero]
      simp only [List.flatMap_cons, hx]
      simp [lineP]
    | succ i =>
      have := ih i (by simpa using h)
      rw [show (i + 1) * 2 = i * 2 + 1 + 1 by omega, List.flatMap_cons, List.set_cons_succ, List.flatMap_cons, ← this]
      simp [lineP]

theorem flat_lineP_len : ∀ (l : List ((Nat × Value) × (List WO × Nat))), (l.flatMap lineP).length = l.length * 2
  | [] => rfl
  | a :: t => by rw [List.flatMap_cons, List.length_append, flat_lineP_len t, List.length_cons]; simp [lineP]; omega
theorem zip_set2 {α β : Type} (a : α) (b : β) : ∀ (l1 : List α) (l2 : List β) (q : Nat), (List.zip l1 l2).set q (a, b) = List.zip (l1.set q a) (l2.set q b)
  | [], _, _ => by simp
  | _ :: _, [], _ => by simp
  | x :: t, y :: u, 0 => by simp
  | x :: t, y :: u, q + 1 => by simp [zip_set2 a b t u q]
theorem set_same {α : Type} : ∀ (l : List α) (i : Nat) (x : α), l[i]? = some x → l.set i x = l
  | [], _, _, _ => by simp
  | y :: t, 0, x, h => by simp at h; simp [h]
  | y :: t, i + 1, x, h => by simp at h; simp [set_same t i x (by simpa using h)]
/-- A line of locks. -/
theorem LkIs.line {w0 : Base} {w : World} {a : LkA} {s : Lk} (h : LkIs w0 w a s) (q : Nat) (hq : q < s.lines.length) : ∃ gl v, a.gls[q]? = some (gl, v) ∧ IsLine w gl v s.lines[q].1 s.lines[q].2 ∧ (lkP a s)[9 + q * 2]? = some (.blk gl 91 #[.func (.func 41) #[] #[], v, .int .u64 s.lines[q].2]) ∧ (lkP a s)[9 + q * 2 + 1]? = some (.row 108 3 v s.lines[q].1.length (s.lines[q].1.flatMap oL)) := by
  have hg : q < a.gls.length := by rw [h.at_.1]; exact hq
  have hz : q < (List.zip a.gls s.lines).length := by simp; omega
  have hze : (List.zip a.gls s.lines)[q] = (a.gls[q], s.lines[q]) := by simp
  have hfl : ((List.zip a.gls s.lines).flatMap lineP).length = (List.zip a.gls s.lines).length * 2 := flat_lineP_len _
  have e : ∀ j, j < (List.zip a.gls s.lines).length * 2 → (lkP a s)[9 + j]? = ((List.zip a.gls s.lines).flatMap lineP)[j]? := fun j hj => by
    rw [Nat.add_comm]
    show ((List.zip a.gls s.lines).flatMap lineP ++ a.ex)[j]? = _
    rw [List.getElem?_append_left (by omega)]
  have h0 : (lkP a s)[9 + q * 2]? = some (.blk a.gls[q].1 91 #[.func (.func 41) #[] #[], a.gls[q].2, .int .u64 s.lines[q].2]) := by
    rw [e _ (by omega), show q * 2 = q * 2 + 0 by omega, lineP_get _ q 0 hz (by omega), hze]; rfl
  have h1 : (lkP a s)[9 + q * 2 + 1]? = some (.row 108 3 a.gls[q].2 s.lines[q].1.length (s.lines[q].1.flatMap oL)) := by
    rw [show 9 + q * 2 + 1 = 9 + (q * 2 + 1) by omega, e _ (by omega), lineP_get _ q 1 hz (by omega), hze]; rfl
  exact ⟨a.gls[q].1, a.gls[q].2, List.getElem?_eq_getElem hg, ⟨h.at_.2.get h0, h.at_.2.get h1⟩, h0, h1⟩
/-- A line has gone on. -/
theorem LkIs.goes {w0 : Base} {w w' : World} {a : LkA} {s : Lk} (h : LkIs w0 w a s) (q : Nat) (hq : q < s.lines.length) {gl : Nat} {v : Value} (hg : a.gls[q]? = some (gl, v)) {l' : List WO} {last' : Nat} (hL : LineGoes w gl v w' l' last') :
    ∃ v', LkIs w0 w' { a with gls := a.gls.set q (gl, v') } { s with lines := s.lines.set q (l', last') } := by
  obtain ⟨gl2, v2, hg2, hI, h0, h1⟩ := h.line q hq
  rw [hg] at hg2
  injection hg2 with hg2
  injection hg2 with e1 e2
  subst e1 e2
  obtain ⟨v', hI', hk, hf⟩ := hL
  have hz : q < (List.zip a.gls s.lines).length := by simp; have := h.at_.1; omega
  have hH := h.at_.2.turn2 (i := 9 + q * 2) (j := 9 + q * 2 + 1) (by omega) h0 h1 (by simpa [Piece.fp] using hk) (p' := .blk gl 91 #[.func (.func 41) #[] #[], v', .int .u64 last']) (q' := .row 108 3 v' l'.length (l'.flatMap oL)) hI'.blk hI'.row (fun k hk' => .inl hk') (fun k hk' => hf k hk') (fun k hk' => by simp only [Piece.fp, List.mem_singleton] at hk'; subst hk'; exact hI'.far)
  have hset : (((lkP a s).set (9 + q * 2) (.blk gl 91 #[.func (.func 41) #[] #[], v', .int .u64 last'])).set (9 + q * 2 + 1) (.row 108 3 v' l'.length (l'.flatMap oL))) = lkP { a with gls := a.gls.set q (gl, v') } { s with lines := s.lines.set q (l', last') } := by
    have hls := lineP_set (List.zip a.gls s.lines) ((gl, v'), (l', last')) _ _ rfl q hz
    rw [zip_set2] at hls
    have hmap : (a.gls.set q (gl, v')).map (fun x : Nat × Value => Value.pointer (some ⟨x.1, 0, none⟩)) = a.gls.map fun x : Nat × Value => Value.pointer (some ⟨x.1, 0, none⟩) := by
      rw [List.map_set]
      exact set_same _ _ _ (by rw [List.getElem?_map, hg]; rfl)
    have e9 : ∀ (x0 x1 x2 x3 x4 x5 x6 x7 x8 : Piece) (t : List Piece) (k : Nat) (y : Piece), (x0 :: x1 :: x2 :: x3 :: x4 :: x5 :: x6 :: x7 :: x8 :: t).set (9 + k) y = x0 :: x1 :: x2 :: x3 :: x4 :: x5 :: x6 :: x7 :: x8 :: t.set k y := fun _ _ _ _ _ _ _ _ _ _ k _ => by rw [Nat.add_comm]; rfl
    unfold lkP
    have hfl : ((List.zip a.gls s.lines).flatMap lineP).length = (List.zip a.gls s.lines).length * 2 := flat_lineP_len _
    rw [e9, show 9 + q * 2 + 1 = 9 + (q * 2 + 1) by omega, e9, List.set_append_left _ _ (by omega), List.set_append_left _ _ (by rw [List.length_set]; omega), hls]
    simp only [List.length_set, hmap]
  rw [hset] at hH
  refine ⟨v', ⟨by simp only [List.length_set]; exact h.at_.1, hH⟩, ?_, h.kept.trans' hk (fun k hk' => ?_)⟩
  · rw [← hset]
    intro r hr k hk'
    rcases List.mem_or_eq_of_mem_set hr with hr | rfl
    · rcases List.mem_or_eq_of_mem_set hr with hr | rfl
      · exact h.new r hr k hk'
      · exact h.new _ (List.mem_of_getElem? h0) k hk'
    · rcases hf k hk' with h2 | h2
      · exact h.new _ (List.mem_of_getElem? h1) k h2
      · exact .inr (by have := h.kept.size; omega)
  · rcases List.mem_cons.1 hk' with rfl | hk'
    · exact h.new _ (List.mem_of_getElem? h0) _ (by simp [Piece.fp])
    · exact h.new _ (List.mem_of_getElem? h1) _ hk'

end Go.Proofs.YtfoeijiejpenpaaGreatDoor
