/- Pieces of memory, in general: rows of records read and stored, one piece turns and the others stay. No program in sight; Texts of numbers: plain functions on lists of bytes, with no program in sight; Package deed, in plain words: what a deed is, which may be, what its line and its bytes are. No program in sight; Package prog, in plain words: which programs may be, how many steps they have, whether they are simple, which locks they take. No program in sight; Package duty, in plain words: which duties may be; a duty out of bytes. No program in sight; Events, in plain words. No program in sight; Package replay, in plain words: an account of a trace, and what each event does. No program in sight. -/
import Derived.Test.YtccodklfplfleaaP00

/- Pieces of memory, in general: rows of records read and stored, one piece turns and the others stay. No program in sight. -/
namespace Go.Proofs.Ytccodklfplfleaa
open Go.RowKit

/-- Records' cells, with other ones in place of one record's. -/
def flatG {α : Type} (enc : α → List Value) (T : List α) (t : Nat) (L : List Value) : List Value := (T.take t).flatMap enc ++ L ++ (T.drop (t + 1)).flatMap enc
theorem flatG_at {α : Type} {enc : α → List Value} {T : List α} {t : Nat} (ht : t < T.length) (x : α) : flatG enc T t (enc x) = (T.set t x).flatMap enc := by
  unfold flatG
  rw [List.set_eq_take_append_cons_drop, if_pos ht, List.flatMap_append, List.flatMap_cons, List.append_assoc]
theorem flatG_self {α : Type} {enc : α → List Value} {T : List α} {t : Nat} (ht : t < T.length) : flatG enc T t (enc T[t]) = T.flatMap enc := by
  rw [flatG_at ht, List.set_getElem_self]
theorem flatG_set {α : Type} {enc : α → List Value} {m : Nat} (hm : ∀ x, (enc x).length = m) {T : List α} {t : Nat} (ht : t < T.length) {L : List Value} (hL : L.length = m) {j : Nat} (hj : j < m) (u : Value) : (flatG enc T t L).set (t * m + j) u = flatG enc T t (L.set j u) := by
  have hl : ((T.take t).flatMap enc).length = t * m := by rw [flatK_len enc m hm, List.length_take, Nat.min_eq_left (by omega)]
  unfold flatG
  rw [List.append_assoc, List.set_append_right _ _ (by omega), hl, show t * m + j - t * m = j by omega, List.set_append_left _ _ (by omega), List.append_assoc]
theorem flatG_sets {α : Type} {enc : α → List Value} {m : Nat} (hm : ∀ x, (enc x).length = m) {T : List α} {t : Nat} (ht : t < T.length) : ∀ (l : List (Nat × Value)) (L : List Value), L.length = m → (∀ p ∈ l, p.1 < m) → l.foldl (fun X p => X.set (t * m + p.1) p.2) (flatG enc T t L) = flatG enc T t (l.foldl (fun X p => X.set p.1 p.2) L)
  | [], _, _, _ => rfl
  | p :: l, L, hL, h => by
    rw [List.foldl_cons, List.foldl_cons, flatG_set hm ht hL (h p (by simp))]
    exact flatG_sets hm ht l _ (by simp [hL]) (fun q hq => h q (by simp [hq]))
theorem ownG_sets {e : TypeId} {m g n c : Nat} {o : Nat} : ∀ (l : List (Nat × Value)) (w : World) (xs : List Value), w.ownsRow 0 e m (.slice (some ⟨g, 0, none⟩) n c) n xs →
    (l.foldl (fun (W : World) p => W.setCell ⟨g, o + p.1, none⟩ p.2) w).ownsRow 0 e m (.slice (some ⟨g, 0, none⟩) n c) n (l.foldl (fun X p => X.set (o + p.1) p.2) xs)
  | [], _, _, h => h
  | p :: l, w, xs, h => ownG_sets l _ _ (h.stored (o + p.1) p.2).1
theorem keptG_sets {g o : Nat} : ∀ (l : List (Nat × Value)) (w : World), Kept [g] w (l.foldl (fun (W : World) p => W.setCell ⟨g, o + p.1, none⟩ p.2) w)
  | [], w => Kept.refl _ _
  | p :: l, w => ((Kept.refl [g] w).setCell (.inl (by simp)) _).trans (keptG_sets l _)
/-- A row of records, read. -/
theorem Holds.recs {w : World} {ps : List Piece} (h : Holds w ps) {i : Nat} {α : Type} {enc : α → List Value} {e : TypeId} {m n c : Nat} {A : Option Addr} {T : List α} (hp : ps[i]? = some (.row e m (.slice A n c) n (T.flatMap enc))) (hm : ∀ x, (enc x).length = m) (hT : n = T.length)
    {k : Nat} (hk : k < n) : ∃ g x, A = some ⟨g, 0, none⟩ ∧ T[k]? = some x ∧ (∀ j u, (enc x)[j]? = some u → w.cell? ⟨g, k * m + j, none⟩ = some u) ∧ g < w.heap.size ∧ ∀ j, w.frozen? ⟨g, j, none⟩ = false := by
  have hr : w.ownsRow 0 e m (.slice A n c) n (T.flatMap enc) := Holds.get h hp
  subst hT
  rcases hr.2 with ⟨_, h0⟩ | ⟨g, cap, cur, e1, _⟩
  · omega
  · injection e1 with e1 e2 e3
    subst e1
    refine ⟨g, T[k], rfl, List.getElem?_eq_getElem hk, fun j u hu => ?_, own_lt hr g (by simp [fp_some]), fun j => hr.frozenAt j⟩
    have hj : j < m := by have := (List.getElem?_eq_some_iff.1 hu).1; rw [hm] at this; exact this
    have hl := flatK_len enc m hm T
    have h1 : k * m + j < T.length * m := by
      have : (k + 1) * m ≤ T.length * m := Nat.mul_le_mul_right m hk
      rw [Nat.add_mul] at this; omega
    rw [hr.cellAt (k * m + j) (by omega), flatK_get enc m hm T k j hk hj]
    exact hu
/-- Cells of a record are stored. -/
theorem Holds.sts {w : World} {ps : List Piece} (h : Holds w ps) {i : Nat} {α : Type} {enc : α → List Value} {e : TypeId} {m g n c : Nat} {T : List α} (hp : ps[i]? = some (.row e m (.slice (some ⟨g, 0, none⟩) n c) n (T.flatMap enc))) (hm : ∀ x, (enc x).length = m)
    {t : Nat} (ht : t < T.length) (l : List (Nat × Value)) (hl : ∀ p ∈ l, p.1 < m) (x' : α) (hx : l.foldl (fun X p => X.set p.1 p.2) (enc T[t]) = enc x') :
    Holds (l.foldl (fun (W : World) p => W.setCell ⟨g, t * m + p.1, none⟩ p.2) w) (ps.set i (.row e m (.slice (some ⟨g, 0, none⟩) n c) n ((T.set t x').flatMap enc))) := by
  have hr : w.ownsRow 0 e m (.slice (some ⟨g, 0, none⟩) n c) n (T.flatMap enc) := Holds.get h hp
  have hs := ownG_sets (o := t * m) l w _ hr
  rw [← flatG_self ht, flatG_sets hm ht l _ (hm _) hl, hx, flatG_at ht] at hs
  have hk' : Kept (Piece.fp (.row e m (.slice (some ⟨g, 0, none⟩) n c) n (T.flatMap enc))) w (l.foldl (fun (W : World) p => W.setCell ⟨g, t * m + p.1, none⟩ p.2) w) := by
    have := keptG_sets (g := g) (o := t * m) l w
    simpa [Piece.fp, fp_some] using this
  exact Holds.turn h hp hk' hs (fun q hq => .inl hq)
/-- A thing of memory, in pieces: newer than a base, and all else is kept. -/
structure IsP (w0 : Base) (w : World) (ps : List Piece) : Prop where
  at_ : Holds w ps
  new : NewerB w0 ps
  kept : Kept w0.F w0.w w
theorem IsP.old {w0 : Base} {w w' : World} {ps : List Piece} (h : IsP w0 w ps) (hk : Kept [] w w') : IsP w0 w' ps := ⟨h.at_.old hk, h.new, h.kept.trans (hk.mono (by simp))⟩
theorem IsP.turn {w0 : Base} {w w' : World} {ps : List Piece} (h : IsP w0 w ps) {i : Nat} {p p' : Piece} (hp : ps[i]? = some p) (hk : Kept p.fp w w') (hp' : p'.holds w') (hf : ∀ k, k ∈ p'.fp → k ∈ p.fp ∨ w.heap.size ≤ k) : IsP w0 w' (ps.set i p') :=
  ⟨h.at_.turn hp hk hp' hf, h.new.turn hp h.kept.size hf, h.new.kept hp h.kept hk⟩
theorem IsP.sts {w0 : Base} {w : World} {ps : List Piece} (h : IsP w0 w ps) (i : Nat) {α : Type} {enc : α → List Value} {e : TypeId} {m g n c : Nat} {T : List α} (hp : ps[i]? = some (.row e m (.slice (some ⟨g, 0, none⟩) n c) n (T.flatMap enc))) (hm : ∀ x, (enc x).length = m)
    {t : Nat} (ht : t < T.length) (l : List (Nat × Value)) (hl : ∀ p ∈ l, p.1 < m) (x' : α) (hx : l.foldl (fun X p => X.set p.1 p.2) (enc T[t]) = enc x') :
    IsP w0 (l.foldl (fun (W : World) p => W.setCell ⟨g, t * m + p.1, none⟩ p.2) w) (ps.set i (.row e m (.slice (some ⟨g, 0, none⟩) n c) n ((T.set t x').flatMap enc))) := by
  have hk' : Kept (Piece.fp (.row e m (.slice (some ⟨g, 0, none⟩) n c) n (T.flatMap enc))) w (l.foldl (fun (W : World) p => W.setCell ⟨g, t * m + p.1, none⟩ p.2) w) := by
    have := keptG_sets (g := g) (o := t * m) l w
    simpa [Piece.fp, fp_some] using this
  exact ⟨h.at_.sts hp hm ht l hl x' hx, h.new.turn hp h.kept.size (fun q hq => .inl hq), h.new.kept hp h.kept hk'⟩
theorem IsP.base {w0 w : World} {W : World} {ps : List Piece} (h : IsP w W ps) (h0 : Kept [] w0 w) : IsP w0 W ps := by
  refine ⟨h.at_, fun p hp k hk => ?_, ?_⟩
  · have hs := h0.size
    rcases h.new p hp k hk with h1 | h1
    · cases h1
    · right
      have h2 : w.heap.size ≤ k := h1
      show w0.heap.size ≤ k
      omega
  · have h1 : Kept [] w W := h.kept
    exact h0.trans h1
/-- Elements of one cell. -/
theorem Holds.ones {w : World} {ps : List Piece} (h : Holds w ps) {i : Nat} {α : Type} {f : α → Value} {e : TypeId} {n c : Nat} {A : Option Addr} {T : List α} (hp : ps[i]? = some (.row e 1 (.slice A n c) n (T.map f))) (hT : n = T.length)
    {k : Nat} (hk : k < n) : ∃ g x, A = some ⟨g, 0, none⟩ ∧ T[k]? = some x ∧ w.cell? ⟨g, k, none⟩ = some (f x) ∧ g < w.heap.size ∧ ∀ j, w.frozen? ⟨g, j, none⟩ = false := by
  have hr : w.ownsRow 0 e 1 (.slice A n c) n (T.map f) := Holds.get h hp
  subst hT
  rcases hr.2 with ⟨_, h0⟩ | ⟨g, cap, cur, e1, _⟩
  · omega
  · injection e1 with e1 e2 e3
    subst e1
    refine ⟨g, T[k], rfl, List.getElem?_eq_getElem hk, ?_, own_lt hr g (by simp [fp_some]), fun j => hr.frozenAt j⟩
    rw [hr.cellAt k (by omega), List.getElem?_map, List.getElem?_eq_getElem hk]; rfl
theorem IsP.put1 {w0 : Base} {w : World} {ps : List Piece} (h : IsP w0 w ps) (i : Nat) {α : Type} {f : α → Value} {e : TypeId} {g n c : Nat} {T : List α} (hp : ps[i]? = some (.row e 1 (.slice (some ⟨g, 0, none⟩) n c) n (T.map f))) (k : Nat) (x : α) :
    IsP w0 (w.setCell ⟨g, k, none⟩ (f x)) (ps.set i (.row e 1 (.slice (some ⟨g, 0, none⟩) n c) n ((T.set k x).map f))) := by
  have hr : w.ownsRow 0 e 1 (.slice (some ⟨g, 0, none⟩) n c) n (T.map f) := Holds.get h.at_ hp
  have hs := (hr.stored k (f x)).1
  rw [← List.map_set] at hs
  exact h.turn hp (by simpa [Piece.fp, fp_some] using (Kept.refl [g] w).setCell (p := ⟨g, k, none⟩) (.inl (by simp)) (f x)) hs (fun q hq => .inl hq)

end Go.Proofs.Ytccodklfplfleaa

/- Texts of numbers: plain functions on lists of bytes, with no program in sight. -/
namespace Go.Proofs.Ytccodklfplfleaa
open Go.RowKit

end Go.Proofs.Ytccodklfplfleaa

/- Package deed, in plain words: what a deed is, which may be, what its line and its bytes are. No program in sight. -/
namespace Go.Proofs.Ytccodklfplfleaa

/-- A deed. -/
structure Dd where
  op : Int
  a : Int
  b : Int
  r : Int
  n : Nat
  mask : Nat
  loose : Bool

def Dd.zero : Dd := ⟨0, 0, 0, 0, 0, 0, false⟩

theorem Dd.ext' {x y : Dd} (h1 : x.op = y.op) (h2 : x.a = y.a) (h3 : x.b = y.b) (h4 : x.r = y.r) (h5 : x.n = y.n) (h6 : x.mask = y.mask) (h7 : x.loose = y.loose) : x = y := by
  cases x; cases y; simp_all

/-- Are two deeds the same? -/
def Dd.same (x y : Dd) : Bool := x.op == y.op && (x.a == y.a && (x.b == y.b && (x.r == y.r && (x.n == y.n && (x.mask == y.mask && x.loose == y.loose)))))
theorem Dd.same_iff (x y : Dd) : x.same y = true ↔ x = y := by
  constructor
  · intro h
    simp only [Dd.same, Bool.and_eq_true, beq_iff_eq] at h
    obtain ⟨h1, h2, h3, h4, h5, h6, h7⟩ := h
    exact Dd.ext' h1 h2 h3 h4 h5 h6 h7
  · rintro rfl; simp [Dd.same]

/-- The parts of a deed, a letter each. -/
def partsL (op : Int) : List UInt8 :=
  if op = 1 then [78] else if op = 2 then [65, 66, 82, 77, 76] else if op = 3 then [78] else if op = 4 then [82] else if op = 5 then [] else if op = 6 then [78] else if op = 7 then [82, 77]
  else if op = 8 then [82, 66] else if op = 9 then [65] else if op = 10 then [65, 78] else if op = 11 then [65] else []

/-- A deed with one more part of another one. -/
def takeP (d e : Dd) (c : UInt8) : Dd :=
  if c = 65 then { e with a := d.a } else if c = 66 then { e with b := d.b } else if c = 82 then { e with r := d.r } else if c = 78 then { e with n := d.n } else if c = 77 then { e with mask := d.mask } else { e with loose := d.loose }
/-- A deed with its parts alone. -/
def onlyD (d : Dd) : Dd := (partsL d.op).foldl (takeP d) ⟨d.op, 0, 0, 0, 0, 0, false⟩

/-- May a deed be? -/
def goodD (d : Dd) : Bool :=
  decide (1 ≤ d.op ∧ d.op ≤ 11) && d.same (onlyD d) && !(decide (d.op = 1) && (decide (d.n < 1) || decide (65536 < d.n))) && decide (0 ≤ d.a ∧ d.a < 64 ∧ 0 ≤ d.b ∧ d.b < 8 ∧ 0 ≤ d.r ∧ d.r < 8)

end Go.Proofs.Ytccodklfplfleaa

/- Package prog, in plain words: which programs may be, how many steps they have, whether they are simple, which locks they take. No program in sight. -/
namespace Go.Proofs.Ytccodklfplfleaa

/-- May a program be? -/
def checkP (p : List Dd) : Int := if 256 < p.length then 4 else if p.all goodD then 0 else 1
theorem checkP_long {p : List Dd} (h : 256 < p.length) : checkP p = 4 := by rw [checkP, if_pos h]
theorem checkP_bad {p : List Dd} (h : p.length ≤ 256) {d : Dd} (hd : d ∈ p) (hg : goodD d = false) : checkP p = 1 := by
  rw [checkP, if_neg (by omega), if_neg]
  intro hall
  rw [List.all_eq_true] at hall
  rw [hall d hd] at hg
  cases hg
theorem checkP_good {p : List Dd} (h : p.length ≤ 256) (hg : ∀ d ∈ p, goodD d = true) : checkP p = 0 := by
  rw [checkP, if_neg (by omega), if_pos (List.all_eq_true.2 hg)]
theorem checkP_zero {p : List Dd} (h : checkP p = 0) : p.length ≤ 256 ∧ ∀ d ∈ p, goodD d = true := by
  unfold checkP at h
  split at h
  · cases h
  · split at h
    · rename_i h1 h2
      exact ⟨by omega, List.all_eq_true.1 h2⟩
    · cases h
theorem goodD_a {d : Dd} (h : goodD d = true) : 0 ≤ d.a ∧ d.a < 64 := by
  simp [goodD] at h
  omega
end Go.Proofs.Ytccodklfplfleaa

/- Package duty, in plain words: which duties may be; a duty out of bytes. No program in sight. -/
namespace Go.Proofs.Ytccodklfplfleaa

/-- A start. -/
structure St where
  prog : Int
  grade : Int
  mask : Nat
/-- A duty. -/
structure Du where
  cpus : Int
  threads : Int
  locks : Int
  cap : Int
  boost : Nat
  keep : Nat
  ratio : Nat
  progs : List (List Dd)
  starts : List St
def Du.zero : Du := ⟨0, 0, 0, 0, 0, 0, 0, [], []⟩

/-- Is it a power of two from 2 to 256? -/
def pow2 (c : Int) : Bool := decide (c = 2 ∨ c = 4 ∨ c = 8 ∨ c = 16 ∨ c = 32 ∨ c = 64 ∨ c = 128 ∨ c = 256)
/-- May its numbers be? -/
def sizedU (d : Du) : Bool :=
  decide (1 ≤ d.cpus ∧ d.cpus ≤ 64) && decide (1 ≤ d.threads ∧ d.threads ≤ 64) && decide (0 ≤ d.locks ∧ d.locks ≤ 64) && pow2 d.cap && decide (d.threads ≤ d.cap) && decide (1 ≤ d.boost ∧ d.boost ≤ 65536)
/-- What is wrong with the first program that may not be. -/
def badP : List (List Dd) → Int
  | [] => 0
  | p :: t => if checkP p ≠ 0 then checkP p else badP t
/-- What is wrong with a start. -/
def startC (np : Nat) (cpus : Int) (s : St) : Int :=
  if s.prog < 0 ∨ (np : Int) ≤ s.prog ∨ s.grade < 0 ∨ 7 < s.grade then 1 else if s.mask &&& (2 ^ cpus.toNat - 1) = 0 then 10 else 0
def badS (np : Nat) (cpus : Int) : List St → Int
  | [] => 0
  | s :: t => if startC np cpus s ≠ 0 then startC np cpus s else badS np cpus t
/-- What is wrong with a duty. -/
def checkU (d : Du) : Int :=
  if sizedU d = false then 5 else if 64 < d.progs.length ∨ 64 < d.starts.length then 4 else if badP d.progs ≠ 0 then badP d.progs else badS d.progs.length d.cpus d.starts

theorem badP_snoc (l : List (List Dd)) (p : List Dd) : badP (l ++ [p]) = if badP l ≠ 0 then badP l else checkP p := by
  induction l with
  | nil => simp only [List.nil_append, badP]; split <;> simp_all
  | cons a t ih =>
    simp only [List.cons_append, badP, ih]
    split
    · simp
    · rfl
theorem badP_take_zero {l : List (List Dd)} (h : badP l = 0) : ∀ p ∈ l, checkP p = 0 := by
  induction l with
  | nil => simp
  | cons a t ih =>
    rw [badP] at h
    split at h
    · rename_i h1; exact absurd h h1
    · rename_i h1
      intro p hp
      rcases List.mem_cons.1 hp with rfl | hp
      · simpa using h1
      · exact ih h p hp
theorem badP_at {l : List (List Dd)} {k : Nat} {p : List Dd} (hk : l[k]? = some p) (h0 : badP (l.take k) = 0) (hp : checkP p ≠ 0) : badP l = checkP p := by
  have hs : l = l.take k ++ p :: l.drop (k + 1) := by
    obtain ⟨hlt, he⟩ := List.getElem?_eq_some_iff.1 hk
    rw [← he, List.getElem_cons_drop, List.take_append_drop]
  have h1 : ∀ (a b : List (List Dd)), badP a = 0 → badP (a ++ p :: b) = checkP p := by
    intro a b ha
    induction a with
    | nil => rw [List.nil_append, badP, if_pos hp]
    | cons x t ih =>
      rw [badP] at ha
      split at ha
      · rename_i hx; exact absurd ha hx
      · rename_i hx; rw [List.cons_append, badP, if_neg hx, ih ha]
  conv => lhs; rw [hs]
  exact h1 _ _ h0
theorem badS_at {np : Nat} {cpus : Int} {l : List St} {k : Nat} {s : St} (hk : l[k]? = some s) (h0 : badS np cpus (l.take k) = 0) (hp : startC np cpus s ≠ 0) : badS np cpus l = startC np cpus s := by
  have hs : l = l.take k ++ s :: l.drop (k + 1) := by
    obtain ⟨hlt, he⟩ := List.getElem?_eq_some_iff.1 hk
    rw [← he, List.getElem_cons_drop, List.take_append_drop]
  have h1 : ∀ (a b : List St), badS np cpus a = 0 → badS np cpus (a ++ s :: b) = startC np cpus s := by
    intro a b ha
    induction a with
    | nil => rw [List.nil_append, badS, if_pos hp]
    | cons x t ih =>
      rw [badS] at ha
      split at ha
      · rename_i hx; exact absurd ha hx
      · rename_i hx; rw [List.cons_append, badS, if_neg hx, ih ha]
  conv => lhs; rw [hs]
  exact h1 _ _ h0
theorem badS_snoc (np : Nat) (cpus : Int) (l : List St) (s : St) : badS np cpus (l ++ [s]) = if badS np cpus l ≠ 0 then badS np cpus l else startC np cpus s := by
  induction l with
  | nil => simp only [List.nil_append, badS]; split <;> simp_all
  | cons a t ih =>
    simp only [List.cons_append, badS, ih]
    split
    · simp
    · rfl

end Go.Proofs.Ytccodklfplfleaa

/- Events, in plain words. No program in sight. -/
namespace Go.Proofs.Ytccodklfplfleaa

/-- An event. -/
structure Ev where
  step : Int
  cpu : Int
  kind : Int
  slot : Int
  gen : Nat
  op : Int
  code : Int
  n : Nat

/-- An event's cells. -/
abbrev eC (s c k t : Int) (g : Nat) (o d : Int) (n : Nat) : Array Value := #[.int .i64 s, .int .i64 c, .int .i64 k, .int .i64 t, .int .u32 g, .int .i64 o, .int .i64 d, .int .u64 n]

/-- May an event be? -/
def goodE (e : Ev) : Bool := decide (0 ≤ e.step ∧ 0 ≤ e.cpu ∧ e.cpu ≤ 63 ∧ 1 ≤ e.kind ∧ e.kind ≤ 10 ∧ 0 ≤ e.slot ∧ e.slot ≤ 63 ∧ 0 ≤ e.op ∧ e.op ≤ 11 ∧ 0 ≤ e.code ∧ e.code ≤ 15)

end Go.Proofs.Ytccodklfplfleaa

/- Package replay, in plain words: an account of a trace, and what each event does. No program in sight. -/
namespace Go.Proofs.Ytccodklfplfleaa

/-- A thread. -/
structure Th where
  prog : Int
  pc : Nat
  state : Int
  cpu : Int
  mask : Nat
  loose : Bool
  regs : List (Int × Nat)
  call : Int
  deed : Dd
  code : Int
def Th.zero : Th := ⟨0, 0, 0, 0, 0, false, List.replicate 8 (0, 0), 0, Dd.zero, 0⟩
/-- A place. -/
structure Pl where
  taken : Bool
  gen : Nat
def Pl.zero : Pl := ⟨false, 0⟩
/-- An account. -/
structure Acc where
  P : List Pl
  T : List Th
  held : List Int
def Pl.free (p : Pl) : Bool := !p.taken && decide (p.gen < 4294967295)
def Acc.pl (a : Acc) (t : Nat) : Pl := a.P.getD t Pl.zero
def Acc.th (a : Acc) (t : Nat) : Th := a.T.getD t Th.zero
def Acc.hl (a : Acc) (l : Nat) : Int := a.held.getD l 0
def Acc.setT (a : Acc) (t : Nat) (x : Th) : Acc := { a with T := a.T.set t x }
/-- Is an id there? -/
def hasP (P : List Pl) (s : Int) (g : Nat) : Bool := decide (0 ≤ s ∧ s < P.length) && ((P.getD s.toNat Pl.zero).taken && (P.getD s.toNat Pl.zero).gen == g)
def hasA (a : Acc) (s : Int) (g : Nat) : Bool := hasP a.P s g
/-- Is a place taken? -/
def takenP (P : List Pl) (s : Int) : Bool := decide (0 ≤ s ∧ s < P.length) && (P.getD s.toNat Pl.zero).taken
/-- Does a thread run on a processor? -/
def thB (cpu : Int) (x : Th) : Bool := x.state == 3 && x.cpu == cpu
def onB (a : Acc) (cpu : Int) (t : Nat) : Bool := (a.pl t).taken && thB cpu (a.th t)
/-- The first of the first k that runs on a processor; -1: none. -/
def onK (a : Acc) (cpu : Int) : Nat → Int
  | 0 => -1
  | k + 1 => if onK a cpu k ≠ -1 then onK a cpu k else if onB a cpu k then k else -1
def onA (a : Acc) (cpu : Int) : Int := onK a cpu a.P.length
def runsA (a : Acc) (e : Ev) : Bool := hasA a e.slot e.gen && onA a e.cpu == e.slot
/-- The next call of what is left of a program, and the number of the deed behind it. -/
def nextL : List Dd → Nat → Dd × Nat
  | [], i => (⟨3, 0, 0, 0, 0, 0, false⟩, i)
  | d :: r, i => if d.op ≠ 1 then (d, i + 1) else nextL r (i + 1)
def nextD (p : List Dd) (i : Nat) : Dd × Nat := nextL (p.drop i) i
def nextA (d : Du) (a : Acc) (t : Nat) : Dd × Nat := nextD (d.progs.getD (a.th t).prog.toNat []) (a.th t).pc
/-- The id in the register of a thread's deed. -/
def regA (a : Acc) (t : Nat) : Int × Nat := (a.th t).regs.getD (a.th t).deed.r.toNat (0, 0)
def isA (a : Acc) (t : Nat) : Bool := hasA a (regA a t).1 (regA a t).2
def overA (a : Acc) (t : Nat) : Bool := isA a t && decide ((a.th (regA a t).1.toNat).state = 5)
def legalU (d : Du) (m : Nat) : Bool := m &&& (2 ^ d.cpus.toNat - 1) != 0
def roomK (P : List Pl) : Nat → Nat
  | 0 => 0
  | k + 1 => roomK P k + (if (P.getD k Pl.zero).free then 1 else 0)
def roomA (a : Acc) : Nat := roomK a.P a.P.length
/-- May a code be, of a thread's deed? -/
def mayA (d : Du) (a : Acc) (t : Nat) (code : Int) : Bool :=
  if (a.th t).deed.op = 2 then
    if (d.progs.length : Int) ≤ (a.th t).deed.a then code == 1 else if legalU d (a.th t).deed.mask = false then code == 10 else if roomA a = 0 then code == 6 else code == 0
  else if (a.th t).deed.op = 4 then
    if isA a t = false then code == 9 else code == 0 || (code == 12 && !overA a t)
  else if (a.th t).deed.op = 7 ∨ (a.th t).deed.op = 8 then
    if isA a t = false ∨ overA a t = true then code == 9 else if (a.th t).deed.op = 7 ∧ legalU d (a.th t).deed.mask = false then code == 10 else code == 0
  else if (a.th t).deed.op = 9 ∨ (a.th t).deed.op = 10 ∨ (a.th t).deed.op = 11 then
    if d.locks ≤ (a.th t).deed.a then code == 1
    else if (a.th t).deed.op = 11 then (if a.hl (a.th t).deed.a.toNat ≠ t then code == 11 else code == 0)
    else code == 0 || (code == 12 || (decide ((a.th t).deed.op = 10 ∧ (a.th t).deed.n = 0) && code == 13))
  else code == 0
/-- The ids of the taken ones of the first k places. -/
def allK (P : List Pl) : Nat → List (Int × Nat)
  | 0 => []
  | k + 1 => if (P.getD k Pl.zero).taken then allK P k ++ [((k : Int), (P.getD k Pl.zero).gen)] else allK P k
theorem allK_len (P : List Pl) : ∀ k, (allK P k).length ≤ k
  | 0 => Nat.le_refl _
  | k + 1 => by
    have := allK_len P k
    unfold allK
    split
    · simp; omega
    · omega
/-- The first place that can be taken. -/
def firstK (P : List Pl) : Nat → Int
  | 0 => -1
  | k + 1 => if firstK P k ≠ -1 then firstK P k else if (P.getD k Pl.zero).free then k else -1
def firstP (P : List Pl) : Int := firstK P P.length
theorem firstK_stay (P : List Pl) {k : Nat} (h : firstK P k ≠ -1) : ∀ m, k ≤ m → firstK P m = firstK P k
  | 0, hm => by obtain rfl : k = 0 := by omega
                rfl
  | m + 1, hm => by
    by_cases e : k = m + 1
    · subst e; rfl
    · have ih := firstK_stay P h m (by omega)
      rw [firstK, ih, if_pos h]
theorem firstK_rng (P : List Pl) : ∀ k, firstK P k = -1 ∨ ∃ i : Nat, firstK P k = i ∧ i < k ∧ (P.getD i Pl.zero).free = true
  | 0 => .inl rfl
  | k + 1 => by
    rw [firstK]
    rcases firstK_rng P k with h | ⟨i, h, hi, hf⟩
    · rw [h, if_neg (by simp)]
      by_cases hf : (P.getD k Pl.zero).free = true
      · rw [if_pos hf]; exact .inr ⟨k, rfl, by omega, hf⟩
      · rw [if_neg hf]; exact .inl rfl
    · rw [h, if_pos (by omega)]; exact .inr ⟨i, rfl, by omega, hf⟩
theorem firstP_at {P : List Pl} {k : Nat} (h : firstK P k = -1) (hk : k < P.length) (hf : (P.getD k Pl.zero).free = true) : firstP P = k := by
  have h1 : firstK P (k + 1) = k := by rw [firstK, h, if_neg (by simp), if_pos hf]
  unfold firstP
  rw [firstK_stay P (k := k + 1) (by rw [h1]; omega) _ (by omega), h1]
theorem firstP_no {P : List Pl} {k : Nat} (h : firstK P k = -1) (hf : (P.getD k Pl.zero).free = false) : firstK P (k + 1) = -1 := by
  rw [firstK, h, if_neg (by simp), hf]; rfl
theorem firstP_rng (P : List Pl) : firstP P = -1 ∨ ∃ i : Nat, firstP P = i ∧ i < P.length ∧ (P.getD i Pl.zero).free = true := firstK_rng P _
def freeA (a : Acc) : Option Nat := if firstP a.P = -1 then none else some (firstP a.P).toNat
/-- A new thread. -/
def newT (prog : Int) (mask : Nat) (loose : Bool) (i g : Nat) : Th := { Th.zero with prog := prog, state := 1, mask := mask, loose := loose, regs := (List.replicate 8 (0, 0)).set 0 ((i : Int), g) }
def bornA (a : Acc) (prog : Int) (mask : Nat) (loose : Bool) : Acc := match freeA a with
  | none => a
  | some i => { a with P := a.P.set i ⟨true, (a.pl i).gen + 1⟩, T := a.T.set i (newT prog mask loose i ((a.pl i).gen + 1)) }
/-- A place is free again. -/
def freeP (a : Acc) (t : Nat) : Acc := { a with P := a.P.set t ⟨false, (a.pl t).gen⟩ }
/-- What OK does. -/
def doesA (a : Acc) (t : Nat) : Acc :=
  if (a.th t).deed.op = 2 then match freeA a with
    | none => a
    | some i =>
      let g := (a.pl i).gen + 1
      let n := newT (a.th t).deed.a (a.th t).deed.mask (a.th t).deed.loose i g
      { a with P := a.P.set i ⟨true, g⟩, T := (a.T.set i { n with regs := n.regs.set 1 ((t : Int), (a.pl t).gen) }).set t { a.th t with regs := (a.th t).regs.set (a.th t).deed.r.toNat ((i : Int), g) } }
  else if (a.th t).deed.op = 4 then (if overA a t then freeP a (regA a t).1.toNat else a)
  else if (a.th t).deed.op = 7 then a.setT (regA a t).1.toNat { a.th (regA a t).1.toNat with mask := (a.th t).deed.mask }
  else if (a.th t).deed.op = 11 then { a with held := a.held.set (a.th t).deed.a.toNat (-1) }
  else a
/-- What a call that is done may wait for; 0: nothing. -/
def wantA (a : Acc) (t : Nat) : Nat :=
  if (a.th t).deed.op = 6 then (if 0 < (a.th t).deed.n then 3 else 0)
  else if (a.th t).deed.op = 9 then 4
  else if (a.th t).deed.op = 10 then (if 0 < (a.th t).deed.n then 4 else 0)
  else if (a.th t).deed.op = 4 then (if isA a t && !overA a t then 5 else 0)
  else 0
/-- Does somebody wait for a thread's end? -/
def joinB (a : Acc) (s : Int) (g : Nat) (u : Nat) : Bool := (a.pl u).taken && (decide ((a.th u).call = 3) && (decide ((a.th u).deed.op = 4) && regA a u == (s, g)))
def joinK (a : Acc) (s : Int) (g : Nat) : Nat → Bool
  | 0 => false
  | k + 1 => joinK a s g k || joinB a s g k
/-- A thread is over. -/
def exitsA (a : Acc) (t : Nat) : Acc :=
  let a1 : Acc := { a with held := a.held.map fun x => if x = (t : Int) then -1 else x, T := a.T.set t { a.th t with state := 5 } }
  if (a.th t).loose || joinK a t (a.pl t).gen a.P.length then freeP a1 t else a1
/-- May a call return with a code? -/
def returnsA (a : Acc) (t : Nat) (code : Int) : Bool :=
  (if (a.th t).call = 3 then code == 0 || (decide ((a.th t).deed.op = 10) && code == 13) else decide ((a.th t).call = 2) && (a.th t).code == code) &&
  (!(decide ((a.th t).deed.op = 9 ∨ (a.th t).deed.op = 10) && code == 0) || decide (a.hl (a.th t).deed.a.toNat < 0))
/-- What an event does; none: it is wrong. -/
def stepB (d : Du) (a : Acc) (e : Ev) (t : Nat) (x : Th) : Option Acc :=
  if e.kind = 4 then (if hasA a e.slot e.gen && (decide (x.state = 2) && decide (onA a e.cpu < 0)) then some (a.setT t { x with state := 3, cpu := e.cpu }) else none)
  else if e.kind = 8 then (if onA a e.cpu < 0 then some a else none)
  else if e.kind = 7 then (if runsA a e || (decide (onA a e.cpu < 0) && decide (e.slot = 0 ∧ e.gen = 0)) then some a else none)
  else if e.kind = 6 then (if hasA a e.slot e.gen && decide (x.state = 1 ∨ x.state = 4) then some (a.setT t { x with state := 2 }) else none)
  else if runsA a e = false then none
  else if e.kind = 1 then (if x.call = 0 ∧ (nextA d a t).1.op = e.op then some (a.setT t { x with call := 1, deed := (nextA d a t).1, pc := (nextA d a t).2 }) else none)
  else if e.kind = 2 then (if x.call = 1 ∧ x.deed.op = e.op ∧ mayA d a t e.code = true then some (if e.code = 0 then doesA (a.setT t { x with call := 2, code := e.code }) t else a.setT t { x with call := 2, code := e.code }) else none)
  else if e.kind = 9 then (if x.call = 2 ∧ x.code = 0 ∧ wantA a t ≠ 0 ∧ wantA a t = e.n then some (a.setT t { x with state := 4, call := 3 }) else none)
  else if e.kind = 5 then some (a.setT t { x with state := 2 })
  else if e.kind = 10 then (if x.call = 2 ∧ x.code = 0 ∧ x.deed.op = 3 ∧ x.deed.n = e.n then some (exitsA a t) else none)
  else (if returnsA a t e.code then some { a with T := a.T.set t { x with call := 0 }, held := if (x.deed.op = 9 ∨ x.deed.op = 10) ∧ e.code = 0 then a.held.set x.deed.a.toNat t else a.held } else none)
def stepA (d : Du) (a : Acc) (e : Ev) : Option Acc := stepB d a e e.slot.toNat (a.th e.slot.toNat)
/-- A trace gone through: the account, how far, and what is wrong. -/
def goA (d : Du) : Acc → List Ev → Nat → Acc × Nat × Int
  | a, [], i => (a, i, 0)
  | a, e :: r, i => if goodE e = false ∨ d.cpus ≤ e.cpu then (a, i, 3) else match stepA d a e with
    | none => (a, i, 14)
    | some a' => goA d a' r (i + 1)
/-- An account of a duty: the starts, one by one. -/
def startA (a : Acc) (s : St) : Acc := match freeA a with
  | none => a
  | some i => { a with P := a.P.set i ⟨true, (a.pl i).gen + 1⟩, T := a.T.set i { newT s.prog s.mask false i ((a.pl i).gen + 1) with state := 2 } }
def emptyA (d : Du) : Acc := ⟨List.replicate d.threads.toNat Pl.zero, List.replicate d.threads.toNat Th.zero, List.replicate d.locks.toNat (-1)⟩
def openA (d : Du) : Acc := d.starts.foldl startA (emptyA d)
def statesA (a : Acc) : List Int := (List.range a.P.length).map fun t => if (a.pl t).taken then (a.th t).state else 0

end Go.Proofs.Ytccodklfplfleaa

