/- Package duty, in plain words: which duties may be; a duty out of bytes. No program in sight; Duties in memory: the cells of a duty, slices of starts, slices of programs; Package duty: of, numbers; the document's numbers and small; Package duty: small functions: sets.All, numbers in a range, powers of two; the document's; Package duty: may a duty's numbers be?; Package duty: Check. -/
import Derived.Test.YtmhlmoojmdfnfaaDoorPgPlain
import Derived.Test.YtmhlmoojmdfnfaaDoorPgRow
import Derived.Laws.Externs
import Derived.Deep.RegionHeld3
import Derived.Test.YtmhlmoojmdfnfaaDoorSets1
import Derived.Deep.QuietTactic
import Derived.BigQuiet

/- Package duty, in plain words: which duties may be; a duty out of bytes. No program in sight. -/
namespace Go.Proofs.YtmhlmoojmdfnfaaDoor

/-- A start. -/
structure St where
  prog : Int
  grade : Int
  mask : Nat
/-- A duty. -/
structure Du where
  cpus : Int
  threads : Int
  locks : Int
  cap : Int
  boost : Nat
  keep : Nat
  ratio : Nat
  progs : List (List Dd)
  starts : List St
def Du.zero : Du := ⟨0, 0, 0, 0, 0, 0, 0, [], []⟩

/-- Is it a power of two from 2 to 256? -/
def pow2 (c : Int) : Bool := decide (c = 2 ∨ c = 4 ∨ c = 8 ∨ c = 16 ∨ c = 32 ∨ c = 64 ∨ c = 128 ∨ c = 256)
/-- May its numbers be? -/
def sizedU (d : Du) : Bool :=
  decide (1 ≤ d.cpus ∧ d.cpus ≤ 64) && decide (1 ≤ d.threads ∧ d.threads ≤ 64) && decide (0 ≤ d.locks ∧ d.locks ≤ 64) && pow2 d.cap && decide (d.threads ≤ d.cap) && decide (1 ≤ d.boost ∧ d.boost ≤ 65536)
/-- What is wrong with the first program that may not be. -/
def badP : List (List Dd) → Int
  | [] => 0
  | p :: t => if checkP p ≠ 0 then checkP p else badP t
/-- What is wrong with a start. -/
def startC (np : Nat) (cpus : Int) (s : St) : Int :=
  if s.prog < 0 ∨ (np : Int) ≤ s.prog ∨ s.grade < 0 ∨ 7 < s.grade then 1 else if s.mask &&& (2 ^ cpus.toNat - 1) = 0 then 10 else 0
def badS (np : Nat) (cpus : Int) : List St → Int
  | [] => 0
  | s :: t => if startC np cpus s ≠ 0 then startC np cpus s else badS np cpus t
/-- What is wrong with a duty. -/
def checkU (d : Du) : Int :=
  if sizedU d = false then 5 else if 64 < d.progs.length ∨ 64 < d.starts.length then 4 else if badP d.progs ≠ 0 then badP d.progs else badS d.progs.length d.cpus d.starts

theorem badP_snoc (l : List (List Dd)) (p : List Dd) : badP (l ++ [p]) = if badP l ≠ 0 then badP l else checkP p := by
  induction l with
  | nil => simp only [List.nil_append, badP]; split <;> simp_all
  | cons a t ih =>
    simp only [List.cons_append, badP, ih]
    split
    · simp
    · rfl
theorem badP_take_zero {l : List (List Dd)} (h : badP l = 0) : ∀ p ∈ l, checkP p = 0 := by
  induction l with
  | nil => simp
  | cons a t ih =>
    rw [badP] at h
    split at h
    · rename_i h1; exact absurd h h1
    · rename_i h1
      intro p hp
      rcases List.mem_cons.1 hp with rfl | hp
      · simpa using h1
      · exact ih h p hp
theorem badP_at {l : List (List Dd)} {k : Nat} {p : List Dd} (hk : l[k]? = some p) (h0 : badP (l.take k) = 0) (hp : checkP p ≠ 0) : badP l = checkP p := by
  have hs : l = l.take k ++ p :: l.drop (k + 1) := by
    obtain ⟨hlt, he⟩ := List.getElem?_eq_some_iff.1 hk
    rw [← he, List.getElem_cons_drop, List.take_append_drop]
  have h1 : ∀ (a b : List (List Dd)), badP a = 0 → badP (a ++ p :: b) = checkP p := by
    intro a b ha
    induction a with
    | nil => rw [List.nil_append, badP, if_pos hp]
    | cons x t ih =>
      rw [badP] at ha
      split at ha
      · rename_i hx; exact absurd ha hx
      · rename_i hx; rw [List.cons_append, badP, if_neg hx, ih ha]
  conv => lhs; rw [hs]
  exact h1 _ _ h0
theorem badS_at {np : Nat} {cpus : Int} {l : List St} {k : Nat} {s : St} (hk : l[k]? = some s) (h0 : badS np cpus (l.take k) = 0) (hp : startC np cpus s ≠ 0) : badS np cpus l = startC np cpus s := by
  have hs : l = l.take k ++ s :: l.drop (k + 1) := by
    obtain ⟨hlt, he⟩ := List.getElem?_eq_some_iff.1 hk
    rw [← he, List.getElem_cons_drop, List.take_append_drop]
  have h1 : ∀ (a b : List St), badS np cpus a = 0 → badS np cpus (a ++ s :: b) = startC np cpus s := by
    intro a b ha
    induction a with
    | nil => rw [List.nil_append, badS, if_pos hp]
    | cons x t ih =>
      rw [badS] at ha
      split at ha
      · rename_i hx; exact absurd ha hx
      · rename_i hx; rw [List.cons_append, badS, if_neg hx, ih ha]
  conv => lhs; rw [hs]
  exact h1 _ _ h0
theorem badS_snoc (np : Nat) (cpus : Int) (l : List St) (s : St) : badS np cpus (l ++ [s]) = if badS np cpus l ≠ 0 then badS np cpus l else startC np cpus s := by
  induction l with
  | nil => simp only [List.nil_append, badS]; split <;> simp_all
  | cons a t ih =>
    simp only [List.cons_append, badS, ih]
    split
    · simp
    · rfl

end Go.Proofs.YtmhlmoojmdfnfaaDoor

/- Duties in memory: the cells of a duty, slices of starts, slices of programs. -/
namespace Go.Proofs.YtmhlmoojmdfnfaaDoor
open Go.RowKit

theorem Tryd.info118 : (Tryd.prog.info? 118).map (fun i => (i.zero, i.size, i.bytes)) = some (some (.agg #[.int .i64 0, .int .i64 0, .int .u64 0]), 3, 24) := by kernel_rfl
theorem Tryd.info22 : (Tryd.prog.info? 22).map (fun i => (i.zero, i.size, i.bytes)) = some (some (.slice none 0 0), 1, 24) := by kernel_rfl
/-- A start's cells. -/
def stL (s : St) : List Value := [.int .i64 s.prog, .int .i64 s.grade, .int .u64 s.mask]
theorem stL_len (s : St) : (stL s).length = 3 := rfl
theorem stL_one (s : St) : ∀ u ∈ stL s, u.oneCell' = true := by
  intro u hu
  simp [stL] at hu
  rcases hu with rfl | rfl | rfl <;> rfl
/-- A duty's cells. -/
def uC (d : Du) (A : Option Addr) (n c : Nat) (B : Option Addr) (m e : Nat) : Array Value :=
  #[.int .i64 d.cpus, .int .i64 d.threads, .int .i64 d.locks, .int .i64 d.cap, .int .u64 d.boost, .float .f64 d.keep, .float .f64 d.ratio, .slice A n c, .slice B m e]
/-- A slice of starts. -/
def ReadsS (w : World) (A : Option Addr) (n : Nat) (l : List St) : Prop := Reads w 3 A n (l.flatMap stL)
theorem ReadsS.len {w : World} {A : Option Addr} {n : Nat} {l : List St} (h : ReadsS w A n l) : n = l.length := Reads.lenK stL 3 stL_len h (by omega)
theorem ReadsS.old {w w' : World} {A : Option Addr} {n : Nat} {l : List St} (h : ReadsS w A n l) (hk : Kept [] w w') : ReadsS w' A n l := Reads.old h hk
theorem ReadsS.at_ {w : World} {A : Option Addr} {n : Nat} {l : List St} (h : ReadsS w A n l) {k : Nat} (hk : k < l.length) : ∃ (s : St) (b o : Nat), A = some ⟨b, o, none⟩ ∧ l[k]? = some s ∧ b < w.heap.size ∧
    w.cell? ⟨b, o + k * 3, none⟩ = some (.int .i64 s.prog) ∧ w.cell? ⟨b, o + k * 3 + 1, none⟩ = some (.int .i64 s.grade) ∧ w.cell? ⟨b, o + k * 3 + 2, none⟩ = some (.int .u64 s.mask) := by
  have hn := h.len
  obtain ⟨b, o, rfl, hb, hc⟩ := Reads.cellsK stL 3 stL_len h (by omega) (by omega)
  have hx : l[k]? = some l[k] := List.getElem?_eq_getElem hk
  exact ⟨l[k], b, o, rfl, hx, hb, hc k _ hx 0 (by omega), hc k _ hx 1 (by omega), hc k _ hx 2 (by omega)⟩
/-- A slice of programs. -/
def ReadsPP (w : World) (A : Option Addr) (n : Nat) (l : List (List Dd)) : Prop :=
  ∃ xs : List Value, Reads w 1 A n xs ∧ xs.length = l.length ∧ ∀ (i : Nat) p, l[i]? = some p → ∃ A n c, xs[i]? = some (.slice A n c) ∧ ReadsD w A n p
theorem ReadsPP.len {w : World} {A : Option Addr} {n : Nat} {l : List (List Dd)} (h : ReadsPP w A n l) : n = l.length := by
  obtain ⟨xs, h1, h2, _⟩ := h
  have := h1.1; omega
theorem ReadsPP.old {w w' : World} {A : Option Addr} {n : Nat} {l : List (List Dd)} (h : ReadsPP w A n l) (hk : Kept [] w w') : ReadsPP w' A n l := by
  obtain ⟨xs, h1, h2, h3⟩ := h
  refine ⟨xs, h1.old hk, h2, fun i p hp => ?_⟩
  obtain ⟨A, n, c, e, hr⟩ := h3 i p hp
  exact ⟨A, n, c, e, hr.old hk⟩
theorem ReadsPP.none_ (w : World) : ReadsPP w none 0 [] := ⟨[], Reads.none_, rfl, by simp⟩
theorem ReadsS.none_ (w : World) : ReadsS w none 0 [] := Reads.none_
theorem ReadsPP.at_ {w : World} {A : Option Addr} {n : Nat} {l : List (List Dd)} (h : ReadsPP w A n l) {k : Nat} (hk : k < l.length) : ∃ (p : List Dd) (b o : Nat) (Ai : Option Addr) (ni ci : Nat), A = some ⟨b, o, none⟩ ∧ l[k]? = some p ∧ b < w.heap.size ∧
    w.cell? ⟨b, o + k, none⟩ = some (.slice Ai ni ci) ∧ ReadsD w Ai ni p := by
  have hn := h.len
  obtain ⟨xs, h1, h2, h3⟩ := h
  obtain ⟨b, o, rfl, hb, hc⟩ := h1.addr (by omega) (by omega)
  have hx : l[k]? = some l[k] := List.getElem?_eq_getElem hk
  obtain ⟨Ai, ni, ci, e, hr⟩ := h3 k _ hx
  exact ⟨l[k], b, o, Ai, ni, ci, rfl, hx, hb, hc k _ e, hr⟩
/-- A duty's slices. -/
def IsU (w : World) (d : Du) (A : Option Addr) (n : Nat) (B : Option Addr) (m : Nat) : Prop := ReadsPP w A n d.progs ∧ ReadsS w B m d.starts
theorem IsU.old {w w' : World} {d : Du} {A B : Option Addr} {n m : Nat} (h : IsU w d A n B m) (hk : Kept [] w w') : IsU w' d A n B m := ⟨h.1.old hk, h.2.old hk⟩

/-- A slice of programs that was made after w: the row, and each program's own row. -/
def RowPP (w w' : World) (l : List (List Dd)) (A : Option Addr) (n c : Nat) : Prop :=
  ∃ xs : List Value, w'.ownsRow 0 22 1 (.slice A n c) n xs ∧ (∀ k, k ∈ fp (.slice A n c) → w.heap.size ≤ k) ∧ xs.length = l.length ∧ ∀ (i : Nat) p, l[i]? = some p → ∃ A n c, xs[i]? = some (.slice A n c) ∧ RowD w w' p A n c
theorem RowPP.nil (w w' : World) : RowPP w w' [] none 0 0 := ⟨[], World.ownsRow_nil _ _ _ _, by simp [fp, Value.ownBlock], rfl, by simp⟩
theorem RowPP.reads {w w' : World} {l : List (List Dd)} {A : Option Addr} {n c : Nat} (h : RowPP w w' l A n c) : ReadsPP w' A n l := by
  obtain ⟨xs, h1, h2, h3, h4⟩ := h
  refine ⟨xs, Reads.of_own h1, h3, fun i p hp => ?_⟩
  obtain ⟨A, n, c, e, hr⟩ := h4 i p hp
  exact ⟨A, n, c, e, hr.reads⟩
theorem RowPP.len {w w' : World} {l : List (List Dd)} {A : Option Addr} {n c : Nat} (h : RowPP w w' l A n c) : n = l.length := h.reads.len
theorem RowPP.kept {w wr w2 : World} {G : List Nat} {l : List (List Dd)} {A : Option Addr} {n c : Nat} (h : RowPP w wr l A n c) (hk : Kept G wr w2) (hG : ∀ k, k ∈ G → k < w.heap.size) : RowPP w w2 l A n c := by
  obtain ⟨xs, h1, h2, h3, h4⟩ := h
  refine ⟨xs, own_kept h1 hk (fun k hk' hm => by have h5 := h2 k hk'; have h6 := hG k hm; omega), h2, h3, fun i p hp => ?_⟩
  obtain ⟨A, n, c, e, hr⟩ := h4 i p hp
  exact ⟨A, n, c, e, hr.kept hk hG⟩
/-- Rows of other elements lie elsewhere. -/
theorem own_own_ne {w : World} {b1 b2 : Nat} {e1 e2 : TypeId} {s1 s2 n1 n2 : Nat} {v1 v2 : Value} {x1 x2 : List Value} (h1 : w.ownsRow b1 e1 s1 v1 n1 x1) (h2 : w.ownsRow b2 e2 s2 v2 n2 x2) (hne : e1 ≠ e2) : ∀ k, k ∈ fp v1 → k ∉ fp v2 := by
  intro k hk1 hk2
  rcases h2.2 with ⟨rfl, _⟩ | ⟨g', cap, cur, rfl, _, hh, _⟩
  · simp [fp, Value.ownBlock] at hk2
  · simp [fp, Value.ownBlock] at hk2
    subst hk2
    exact own_blk_ne (g := k) h1 hh hne (mem_fp.1 hk1)
theorem RowPP.append {w wr w2 : World} {l : List (List Dd)} {p : List Dd} {A A' Ap : Option Addr} {n c c' np cp : Nat} (h : RowPP w wr l A n c) (hp : RowD w wr p Ap np cp) (hw : w.heap.size ≤ wr.heap.size)
    (ha : ∀ xs, wr.ownsRow 0 22 1 (.slice A n c) n xs → Appended wr w2 22 1 (.slice A n c) (.slice A' (n + 1) c') (n + 1) (xs ++ [.slice Ap np cp])) : RowPP w w2 (l ++ [p]) A' (n + 1) c' := by
  obtain ⟨xs, h1, h2, h3, h4⟩ := h
  have ha := ha xs h1
  have hkd : ∀ {q : List Dd} {A n c}, RowD w wr q A n c → RowD w w2 q A n c := fun {q A' n' c'} hr => ⟨own_kept hr.1 ha.2.1 (own_own_ne hr.1 h1 (by decide)), hr.2⟩
  refine ⟨_, ha.1, fun k hk' => ?_, by simp [h3], fun i q hq => ?_⟩
  · rcases ha.2.2 k hk' with h5 | h5
    · exact h2 k h5
    · omega
  · rw [List.getElem?_append] at hq
    split at hq
    · rename_i hi
      obtain ⟨A, n, c, e, hr⟩ := h4 i q hq
      exact ⟨A, n, c, by rw [List.getElem?_append_left (by omega)]; exact e, hkd hr⟩
    · rename_i hi
      obtain ⟨hj, he⟩ := List.getElem?_eq_some_iff.1 hq
      simp at hj
      obtain rfl : i = l.length := by omega
      simp at he
      subst he
      exact ⟨Ap, np, cp, by rw [List.getElem?_append_right (by omega)]; simp [h3], hkd hp⟩
/-- A slice of starts that was made after w. -/
def RowS (w w' : World) (l : List St) (A : Option Addr) (n c : Nat) : Prop := w'.ownsRow 0 118 3 (.slice A n c) n (l.flatMap stL) ∧ ∀ k, k ∈ fp (.slice A n c) → w.heap.size ≤ k
theorem RowS.nil (w w' : World) : RowS w w' [] none 0 0 := ⟨World.ownsRow_nil _ _ _ _, by simp [fp, Value.ownBlock]⟩
theorem RowS.kept {w wr w2 : World} {G : List Nat} {l : List St} {A : Option Addr} {n c : Nat} (h : RowS w wr l A n c) (hk : Kept G wr w2) (hG : ∀ k, k ∈ G → k < w.heap.size) : RowS w w2 l A n c :=
  ⟨own_kept h.1 hk (fun k hk' hm => by have h1 := h.2 k hk'; have h2 := hG k hm; omega), h.2⟩
theorem RowS.reads {w w' : World} {l : List St} {A : Option Addr} {n c : Nat} (h : RowS w w' l A n c) : ReadsS w' A n l := Reads.of_own h.1
theorem RowS.len {w w' : World} {l : List St} {A : Option Addr} {n c : Nat} (h : RowS w w' l A n c) : n = l.length := h.reads.len
theorem RowS.append {w wr w2 : World} {l : List St} {d : St} {A A' : Option Addr} {n c c' : Nat} (h : RowS w wr l A n c) (hw : w.heap.size ≤ wr.heap.size) (ha : Appended wr w2 118 3 (.slice A n c) (.slice A' (n + 1) c') (n + 1) (l.flatMap stL ++ stL d)) : RowS w w2 (l ++ [d]) A' (n + 1) c' :=
  ⟨by have := ha.1; simpa using this, fun k hk' => by
    rcases ha.2.2 k hk' with h1 | h1
    · exact h.2 k h1
    · omega⟩
theorem reads_st (w : World) (t : TypeId) (s : St) : Reads (w.alloc (.cells (stL s).toArray t)) 3 (some ⟨w.heap.size, 0, none⟩) 1 (stL s) := by
  refine ⟨by simp [stL_len], fun _ => ⟨_, rfl, fun j u hu => ?_⟩⟩
  rw [add_mk, Nat.zero_add, (Blk.new w t _).cell]
  simpa using hu

end Go.Proofs.YtmhlmoojmdfnfaaDoor

/- Package duty: of, numbers; the document's numbers and small. -/
namespace Go.Proofs.YtmhlmoojmdfnfaaDoor
open Go.RowKit

theorem from_run (n : Nat) (w : World) : (callFunc 97 #[.int .u64 (n : Int)]).run Tryd.prog w = .ok (.value (.float .f64 n)) w := by
  rw [run_callFunc_extern Tryd.func97 (by kernel_rfl) (by kernel_rfl) (by kernel_rfl) (e := Extern.MathFloatBits.float64frombits) (by kernel_rfl)]
  rfl
theorem bits_run (b : Nat) (w : World) : (callFunc 141 #[.float .f64 b]).run Tryd.prog w = .ok (.value (.int .u64 (b : Int))) w := by
  rw [run_callFunc_extern Tryd.func141 (by kernel_rfl) (by kernel_rfl) (by kernel_rfl) (e := Extern.MathFloatBits.float64bits) (by kernel_rfl)]
  rfl

theorem run_store_float {P : Program} {w : World} {a : Addr} {m : Mode} (k : FloatKind) (b : Nat) : (store a (.float k b) m).run P w = stored P w a (.float k b) m := run_store P w a _ m rfl

/-- A number, held. -/
def smallN (x : Nat) : Int := (min x 2147483647 : Nat)
theorem of1_any (x : Nat) (w : World) (hx : x < 18446744073709551616) : Calls Tryd.prog 131 #[.int .u64 x] w fun e w' => e = .returned (.int .i64 (smallN x)) ∧ w = w' := by
  unfold smallN
  go_enter Tryd.func131, Tryd.ntmps131
  go_wp2_with fail
  go_ret
  refine ⟨ret_int ?_, rfl⟩
  omega
theorem refSmall9 (x : Nat) (w : World) (hx : x < 18446744073709551616) : Calls Tryd.prog 96 #[.int .u64 x] w fun e w' => e = .returned (.int .i64 (smallN x)) ∧ w = w' := by
  unfold smallN
  by_cases h : 2147483647 < x
  · have b1 : decide ((2147483647 : Int) < (x : Int)) = true := by simp; omega
    go_enter Tryd.func96, Tryd.ntmps96
    go_wp2_with fail
    go_ret
    exact ⟨ret_int (by omega), rfl⟩
  · have b1 : decide ((2147483647 : Int) < (x : Int)) = false := by simp; omega
    have hw : IntKind.i64.wrap (x : Int) = (x : Int) := IntWalk.i64_in _ (by omega)
    go_enter Tryd.func96, Tryd.ntmps96
    go_wp2_with fail
    go_ret
    exact ⟨ret_int (by omega), rfl⟩

attribute [local go_sem] from_run bits_run run_store_float
set_option maxHeartbeats 3200000 in
set_option maxRecDepth 100000 in
theorem of_any (x0 x1 x2 x3 x4 x5 x6 : Nat) (w : World) (h0 : x0 < 18446744073709551616) (h1 : x1 < 18446744073709551616) (h2 : x2 < 18446744073709551616) (h3 : x3 < 18446744073709551616) :
    Calls Tryd.prog 91 #[.agg #[.int .u64 x0, .int .u64 x1, .int .u64 x2, .int .u64 x3, .int .u64 x4, .int .u64 x5, .int .u64 x6]] w fun e w' => e = .returned (.agg (uC ⟨smallN x0, smallN x1, smallN x2, smallN x3, x4, x5, x6, [], []⟩ none 0 0 none 0 0)) ∧ Kept [] w w' := by
  have H0 := Lib.hid (fun w => of1_any x0 w h0)
  have H1 := Lib.hid (fun w => of1_any x1 w h1)
  have H2 := Lib.hid (fun w => of1_any x2 w h2)
  have H3 := Lib.hid (fun w => of1_any x3 w h3)
  simp only [uC]
  generalize smallN x0 = y0 at *
  generalize smallN x1 = y1 at *
  generalize smallN x2 = y2 at *
  generalize smallN x3 = y3 at *
  go_enter Tryd.func91, Tryd.ntmps91
  go_wp2_with fail
  have HA : Hid (Blk ((w.alloc (.cells #[.int .u64 (x0 : Int), .int .u64 x1, .int .u64 x2, .int .u64 x3, .int .u64 x4, .int .u64 x5, .int .u64 x6] 104)).alloc (.cells #[.int .i64 0, .int .i64 0, .int .i64 0, .int .i64 0, .int .u64 0, .float .f64 0, .float .f64 0, .slice none 0 0, .slice none 0 0] 54)) w.heap.size 104 #[.int .u64 (x0 : Int), .int .u64 x1, .int .u64 x2, .int .u64 x3, .int .u64 x4, .int .u64 x5, .int .u64 x6]) := (Blk.new w _ _).alloc _
  have HR : Hid (Blk ((w.alloc (.cells #[.int .u64 (x0 : Int), .int .u64 x1, .int .u64 x2, .int .u64 x3, .int .u64 x4, .int .u64 x5, .int .u64 x6] 104)).alloc (.cells #[.int .i64 0, .int .i64 0, .int .i64 0, .int .i64 0, .int .u64 0, .float .f64 0, .float .f64 0, .slice none 0 0, .slice none 0 0] 54)) (w.heap.size + 1) 54 #[.int .i64 0, .int .i64 0, .int .i64 0, .int .i64 0, .int .u64 0, .float .f64 0, .float .f64 0, .slice none 0 0, .slice none 0 0]) := Blk.newAt (by simp) _ _
  have HK : Hid (Kept [] w ((w.alloc (.cells #[.int .u64 (x0 : Int), .int .u64 x1, .int .u64 x2, .int .u64 x3, .int .u64 x4, .int .u64 x5, .int .u64 x6] 104)).alloc (.cells #[.int .i64 0, .int .i64 0, .int .i64 0, .int .i64 0, .int .u64 0, .float .f64 0, .float .f64 0, .slice none 0 0, .slice none 0 0] 54))) := ((Kept.refl _ _).alloc _).alloc _
  generalize (w.alloc (.cells #[.int .u64 (x0 : Int), .int .u64 x1, .int .u64 x2, .int .u64 x3, .int .u64 x4, .int .u64 x5, .int .u64 x6] 104)).alloc (.cells #[.int .i64 0, .int .i64 0, .int .i64 0, .int .i64 0, .int .u64 0, .float .f64 0, .float .f64 0, .slice none 0 0, .slice none 0 0] 54) = w2 at *
  have hcA := HA.out.cell
  have hcR := HR.out.cell
  have hfR := HR.out.frozen
  have hlR := HR.out.lt
  go_region_held3 (fun w' => w'.cell? ⟨w.heap.size, 0, none⟩ = some (.int .u64 x0) ∧ w'.cell? ⟨w.heap.size, 1, none⟩ = some (.int .u64 x1) ∧ w'.cell? ⟨w.heap.size, 2, none⟩ = some (.int .u64 x2) ∧ w'.cell? ⟨w.heap.size, 3, none⟩ = some (.int .u64 x3) ∧ w'.cell? ⟨w.heap.size, 4, none⟩ = some (.int .u64 x4) ∧ w'.cell? ⟨w.heap.size, 5, none⟩ = some (.int .u64 x5) ∧ w'.cell? ⟨w.heap.size, 6, none⟩ = some (.int .u64 x6)) (go_keep) (first | (go_at_call 131; first | (refine (H0.out _).mono ?_; rintro e w4 ⟨rfl, rfl⟩) | (refine (H1.out _).mono ?_; rintro e w4 ⟨rfl, rfl⟩) | (refine (H2.out _).mono ?_; rintro e w4 ⟨rfl, rfl⟩) | (refine (H3.out _).mono ?_; rintro e w4 ⟨rfl, rfl⟩)))
  all_goals
    have hF := ((((((((((HR.out.set 0 (.int .i64 y0)).set 1 (.int .i64 y1)).set 2 (.int .i64 y2)).set 3 (.int .i64 y3)).set 4 (.int .u64 (x4 : Int))).set 5 (.float .f64 x5)).set 6 (.float .f64 x6)).set 7 (.slice none 0 0)).set 8 (.slice none 0 0))).drew.cell
    have hFK := ((((((((((HK.out.setCell (p := ⟨w.heap.size + 1, 0, none⟩) (.inr (by simp)) (.int .i64 y0)).setCell (p := ⟨w.heap.size + 1, 1, none⟩) (.inr (by simp)) (.int .i64 y1)).setCell (p := ⟨w.heap.size + 1, 2, none⟩) (.inr (by simp)) (.int .i64 y2)).setCell (p := ⟨w.heap.size + 1, 3, none⟩) (.inr (by simp)) (.int .i64 y3)).setCell (p := ⟨w.heap.size + 1, 4, none⟩) (.inr (by simp)) (.int .u64 (x4 : Int))).setCell (p := ⟨w.heap.size + 1, 5, none⟩) (.inr (by simp)) (.float .f64 x5)).setCell (p := ⟨w.heap.size + 1, 6, none⟩) (.inr (by simp)) (.float .f64 x6)).setCell (p := ⟨w.heap.size + 1, 7, none⟩) (.inr (by simp)) (.slice none 0 0)).setCell (p := ⟨w.heap.size + 1, 8, none⟩) (.inr (by simp)) (.slice none 0 0))).drew
    go_wp2_with fail
    refine bodyPost_ret (v := .agg #[.int .i64 y0, .int .i64 y1, .int .i64 y2, .int .i64 y3, .int .u64 (x4 : Int), .float .f64 x5, .float .f64 x6, .slice none 0 0, .slice none 0 0]) (by simp [results, Tryd.results91, go_sem, hF]) rfl ?_
    exact ⟨rfl, hFK⟩

/-- A duty's numbers. -/
def numsC (d : Du) : Array Value := #[.int .u64 (IntKind.u64.wrap d.cpus), .int .u64 (IntKind.u64.wrap d.threads), .int .u64 (IntKind.u64.wrap d.locks), .int .u64 (IntKind.u64.wrap d.cap), .int .u64 (d.boost : Int), .int .u64 (d.keep : Int), .int .u64 (d.ratio : Int)]

set_option maxHeartbeats 3200000 in
set_option maxRecDepth 100000 in
theorem unumbers_any (d : Du) (A : Option Addr) (n c : Nat) (B : Option Addr) (m e : Nat) (w : World) : Calls Tryd.prog 142 #[.agg (uC d A n c B m e)] w fun e w' => e = .returned (.agg (numsC d)) ∧ Kept [] w w' := by
  obtain ⟨cpus, threads, locks, cap, boost, keep, ratio, progs, starts⟩ := d
  simp only [uC, numsC]
  go_enter Tryd.func142, Tryd.ntmps142
  go_wp2_with fail
  have HA : Hid (Blk ((w.alloc (.cells #[.int .i64 cpus, .int .i64 threads, .int .i64 locks, .int .i64 cap, .int .u64 boost, .float .f64 keep, .float .f64 ratio, .slice A n c, .slice B m e] 54)).alloc (.cells #[.int .u64 0, .int .u64 0, .int .u64 0, .int .u64 0, .int .u64 0, .int .u64 0, .int .u64 0] 104)) w.heap.size 54 #[.int .i64 cpus, .int .i64 threads, .int .i64 locks, .int .i64 cap, .int .u64 boost, .float .f64 keep, .float .f64 ratio, .slice A n c, .slice B m e]) := (Blk.new w _ _).alloc _
  have HR : Hid (Blk ((w.alloc (.cells #[.int .i64 cpus, .int .i64 threads, .int .i64 locks, .int .i64 cap, .int .u64 boost, .float .f64 keep, .float .f64 ratio, .slice A n c, .slice B m e] 54)).alloc (.cells #[.int .u64 0, .int .u64 0, .int .u64 0, .int .u64 0, .int .u64 0, .int .u64 0, .int .u64 0] 104)) (w.heap.size + 1) 104 #[.int .u64 0, .int .u64 0, .int .u64 0, .int .u64 0, .int .u64 0, .int .u64 0, .int .u64 0]) := Blk.newAt (by simp) _ _
  have HK : Hid (Kept [] w ((w.alloc (.cells #[.int .i64 cpus, .int .i64 threads, .int .i64 locks, .int .i64 cap, .int .u64 boost, .float .f64 keep, .float .f64 ratio, .slice A n c, .slice B m e] 54)).alloc (.cells #[.int .u64 0, .int .u64 0, .int .u64 0, .int .u64 0, .int .u64 0, .int .u64 0, .int .u64 0] 104))) := ((Kept.refl _ _).alloc _).alloc _
  generalize (w.alloc (.cells #[.int .i64 cpus, .int .i64 threads, .int .i64 locks, .int .i64 cap, .int .u64 boost, .float .f64 keep, .float .f64 ratio, .slice A n c, .slice B m e] 54)).alloc (.cells #[.int .u64 0, .int .u64 0, .int .u64 0, .int .u64 0, .int .u64 0, .int .u64 0, .int .u64 0] 104) = w2 at *
  have hcA := HA.out.cell
  have hcR := HR.out.cell
  have hfR := HR.out.frozen
  have hlR := HR.out.lt
  go_region_held3 (fun w' => w'.cell? ⟨w.heap.size, 0, none⟩ = some (.int .i64 cpus) ∧ w'.cell? ⟨w.heap.size, 1, none⟩ = some (.int .i64 threads) ∧ w'.cell? ⟨w.heap.size, 2, none⟩ = some (.int .i64 locks) ∧ w'.cell? ⟨w.heap.size, 3, none⟩ = some (.int .i64 cap) ∧ w'.cell? ⟨w.heap.size, 4, none⟩ = some (.int .u64 (boost : Int)) ∧ w'.cell? ⟨w.heap.size, 5, none⟩ = some (.float .f64 keep) ∧ w'.cell? ⟨w.heap.size, 6, none⟩ = some (.float .f64 ratio)) (go_keep) (fail)
  all_goals
    have hF := ((((((((HR.out.set 0 (.int .u64 (IntKind.u64.wrap cpus))).set 1 (.int .u64 (IntKind.u64.wrap threads))).set 2 (.int .u64 (IntKind.u64.wrap locks))).set 3 (.int .u64 (IntKind.u64.wrap cap))).set 4 (.int .u64 (boost : Int))).set 5 (.int .u64 (keep : Int))).set 6 (.int .u64 (ratio : Int)))).drew.cell
    have hFK := ((((((((HK.out.setCell (p := ⟨w.heap.size + 1, 0, none⟩) (.inr (by simp)) (.int .u64 (IntKind.u64.wrap cpus))).setCell (p := ⟨w.heap.size + 1, 1, none⟩) (.inr (by simp)) (.int .u64 (IntKind.u64.wrap threads))).setCell (p := ⟨w.heap.size + 1, 2, none⟩) (.inr (by simp)) (.int .u64 (IntKind.u64.wrap locks))).setCell (p := ⟨w.heap.size + 1, 3, none⟩) (.inr (by simp)) (.int .u64 (IntKind.u64.wrap cap))).setCell (p := ⟨w.heap.size + 1, 4, none⟩) (.inr (by simp)) (.int .u64 (boost : Int))).setCell (p := ⟨w.heap.size + 1, 5, none⟩) (.inr (by simp)) (.int .u64 (keep : Int))).setCell (p := ⟨w.heap.size + 1, 6, none⟩) (.inr (by simp)) (.int .u64 (ratio : Int)))).drew
    go_wp2_with fail
    refine bodyPost_ret (v := .agg #[.int .u64 (IntKind.u64.wrap cpus), .int .u64 (IntKind.u64.wrap threads), .int .u64 (IntKind.u64.wrap locks), .int .u64 (IntKind.u64.wrap cap), .int .u64 (boost : Int), .int .u64 (keep : Int), .int .u64 (ratio : Int)]) (by simp [results, Tryd.results142, go_sem, hF]) rfl ?_
    exact ⟨rfl, hFK⟩
set_option maxHeartbeats 3200000 in
set_option maxRecDepth 100000 in
theorem R9numbers_any (d : Du) (A : Option Addr) (n c : Nat) (B : Option Addr) (m e : Nat) (w : World) : Calls Tryd.prog 100 #[.agg (uC d A n c B m e)] w fun e w' => e = .returned (.agg (numsC d)) ∧ Kept [] w w' := by
  obtain ⟨cpus, threads, locks, cap, boost, keep, ratio, progs, starts⟩ := d
  simp only [uC, numsC]
  go_enter Tryd.func100, Tryd.ntmps100
  go_wp2_with fail
  have HA : Hid (Blk ((w.alloc (.cells #[.int .i64 cpus, .int .i64 threads, .int .i64 locks, .int .i64 cap, .int .u64 boost, .float .f64 keep, .float .f64 ratio, .slice A n c, .slice B m e] 54)).alloc (.cells #[.int .u64 0, .int .u64 0, .int .u64 0, .int .u64 0, .int .u64 0, .int .u64 0, .int .u64 0] 104)) w.heap.size 54 #[.int .i64 cpus, .int .i64 threads, .int .i64 locks, .int .i64 cap, .int .u64 boost, .float .f64 keep, .float .f64 ratio, .slice A n c, .slice B m e]) := (Blk.new w _ _).alloc _
  have HR : Hid (Blk ((w.alloc (.cells #[.int .i64 cpus, .int .i64 threads, .int .i64 locks, .int .i64 cap, .int .u64 boost, .float .f64 keep, .float .f64 ratio, .slice A n c, .slice B m e] 54)).alloc (.cells #[.int .u64 0, .int .u64 0, .int .u64 0, .int .u64 0, .int .u64 0, .int .u64 0, .int .u64 0] 104)) (w.heap.size + 1) 104 #[.int .u64 0, .int .u64 0, .int .u64 0, .int .u64 0, .int .u64 0, .int .u64 0, .int .u64 0]) := Blk.newAt (by simp) _ _
  have HK : Hid (Kept [] w ((w.alloc (.cells #[.int .i64 cpus, .int .i64 threads, .int .i64 locks, .int .i64 cap, .int .u64 boost, .float .f64 keep, .float .f64 ratio, .slice A n c, .slice B m e] 54)).alloc (.cells #[.int .u64 0, .int .u64 0, .int .u64 0, .int .u64 0, .int .u64 0, .int .u64 0, .int .u64 0] 104))) := ((Kept.refl _ _).alloc _).alloc _
  generalize (w.alloc (.cells #[.int .i64 cpus, .int .i64 threads, .int .i64 locks, .int .i64 cap, .int .u64 boost, .float .f64 keep, .float .f64 ratio, .slice A n c, .slice B m e] 54)).alloc (.cells #[.int .u64 0, .int .u64 0, .int .u64 0, .int .u64 0, .int .u64 0, .int .u64 0, .int .u64 0] 104) = w2 at *
  have hcA := HA.out.cell
  have hcR := HR.out.cell
  have hfR := HR.out.frozen
  have hlR := HR.out.lt
  go_region_held3 (fun w' => w'.cell? ⟨w.heap.size, 0, none⟩ = some (.int .i64 cpus) ∧ w'.cell? ⟨w.heap.size, 1, none⟩ = some (.int .i64 threads) ∧ w'.cell? ⟨w.heap.size, 2, none⟩ = some (.int .i64 locks) ∧ w'.cell? ⟨w.heap.size, 3, none⟩ = some (.int .i64 cap) ∧ w'.cell? ⟨w.heap.size, 4, none⟩ = some (.int .u64 (boost : Int)) ∧ w'.cell? ⟨w.heap.size, 5, none⟩ = some (.float .f64 keep) ∧ w'.cell? ⟨w.heap.size, 6, none⟩ = some (.float .f64 ratio)) (go_keep) (fail)
  all_goals
    have hF := ((((((((HR.out.set 0 (.int .u64 (IntKind.u64.wrap cpus))).set 1 (.int .u64 (IntKind.u64.wrap threads))).set 2 (.int .u64 (IntKind.u64.wrap locks))).set 3 (.int .u64 (IntKind.u64.wrap cap))).set 4 (.int .u64 (boost : Int))).set 5 (.int .u64 (keep : Int))).set 6 (.int .u64 (ratio : Int)))).drew.cell
    have hFK := ((((((((HK.out.setCell (p := ⟨w.heap.size + 1, 0, none⟩) (.inr (by simp)) (.int .u64 (IntKind.u64.wrap cpus))).setCell (p := ⟨w.heap.size + 1, 1, none⟩) (.inr (by simp)) (.int .u64 (IntKind.u64.wrap threads))).setCell (p := ⟨w.heap.size + 1, 2, none⟩) (.inr (by simp)) (.int .u64 (IntKind.u64.wrap locks))).setCell (p := ⟨w.heap.size + 1, 3, none⟩) (.inr (by simp)) (.int .u64 (IntKind.u64.wrap cap))).setCell (p := ⟨w.heap.size + 1, 4, none⟩) (.inr (by simp)) (.int .u64 (boost : Int))).setCell (p := ⟨w.heap.size + 1, 5, none⟩) (.inr (by simp)) (.int .u64 (keep : Int))).setCell (p := ⟨w.heap.size + 1, 6, none⟩) (.inr (by simp)) (.int .u64 (ratio : Int)))).drew
    go_wp2_with fail
    refine bodyPost_ret (v := .agg #[.int .u64 (IntKind.u64.wrap cpus), .int .u64 (IntKind.u64.wrap threads), .int .u64 (IntKind.u64.wrap locks), .int .u64 (IntKind.u64.wrap cap), .int .u64 (boost : Int), .int .u64 (keep : Int), .int .u64 (ratio : Int)]) (by simp [results, Tryd.results100, go_sem, hF]) rfl ?_
    exact ⟨rfl, hFK⟩

end Go.Proofs.YtmhlmoojmdfnfaaDoor

/- Package duty: small functions: sets.All, numbers in a range, powers of two; the document's. -/
namespace Go.Proofs.YtmhlmoojmdfnfaaDoor
open Go.RowKit

theorem two_pow_lt {n : Nat} (h : n < 64) : 2 ^ n < 18446744073709551616 := Nat.pow_lt_pow_right (a := 2) (m := n) (n := 64) (by omega) h
theorem all_step (k : Nat) : (2 ^ k - 1) ||| 2 ^ k = 2 ^ (k + 1) - 1 := by
  have h := Nat.two_pow_add_eq_or_of_lt (i := k) (b := 2 ^ k - 1) (by have := Nat.two_pow_pos k; omega) 1
  rw [Nat.mul_one] at h
  rw [Nat.or_comm, ← h, Nat.pow_succ]
  have := Nat.two_pow_pos k
  omega

set_option maxHeartbeats 800000 in
theorem sall_any (n : Nat) (w : World) (h1 : 1 ≤ n) (h2 : n ≤ 64) : Calls Tryd.prog 136 #[.int .i64 n] w fun e w' => e = .returned (.int .u64 (2 ^ n - 1 : Nat)) ∧ w = w' := by
  by_cases h : n = 64
  · subst h
    go_enter Tryd.func136, Tryd.ntmps136
    go_wp2_with fail
    go_ret
    exact ⟨rfl, rfl⟩
  · have hlt : n < 64 := by omega
    have hp := two_pow_lt hlt
    have hp0 := Nat.two_pow_pos n
    have hw2 : ((2 : Int) ^ n) = ((2 ^ n : Nat) : Int) := by simp
    have hc : ((2 ^ n - 1 : Nat) : Int) = ((2 ^ n : Nat) : Int) - 1 := by omega
    rw [hc]
    generalize 2 ^ n = p at *
    have hq0 : (0 : Int) ≤ (n : Int) := by omega
    have hq1 : (n : Int) ≤ 64 := by omega
    have b1 : decide ((n : Int) ≤ 0) = false := by simp; omega
    have b2 : decide ((64 : Int) ≤ (n : Int)) = false := by simp; omega
    have hwr : IntKind.u64.wrap (n : Int) = (n : Int) := IntWalk.u64_in _ (by omega)
    have hwp : IntKind.u64.wrap ((p : Int) - 1) = (p : Int) - 1 := IntWalk.u64_in _ (by omega)
    clear h
    have HB : Hid (∀ w, Calls Tryd.prog 154 #[.int .i64 n] w fun e w' => e = .returned (.int .u64 (p : Nat)) ∧ w = w') := by
      intro w
      go_enter Tryd.func154, Tryd.ntmps154
      go_wp2_with fail
      go_ret
      exact ⟨ret_int (by first | rfl | omega), rfl⟩
    go_enter Tryd.func136, Tryd.ntmps136
    go_wp2_with fail
    refine (HB.out _).mono ?_
    rintro e w1 ⟨rfl, rfl⟩
    go_wp2_with fail
    go_ret
    exact ⟨ret_int (by first | rfl | omega), rfl⟩

set_option maxHeartbeats 800000 in
theorem refAll1 (n : Nat) (w : World) (h1 : 1 ≤ n) (h2 : n ≤ 64) : Calls Tryd.prog 140 #[.int .i64 n] w fun e w' => e = .returned (.int .u64 (2 ^ n - 1 : Nat)) ∧ Kept [] w w' := by
  go_enter Tryd.func140, Tryd.ntmps140
  go_wp2_with fail
  go_loopw [3, 4] (fun sv iv wr => ∃ k : Nat, k ≤ n ∧ iv = .int .i64 k ∧ sv = .int .u64 (2 ^ k - 1 : Nat) ∧ Hid (Kept [] w wr)) (fun _ i _ => n - (intOf i).toNat)
  case atStart => exact ⟨0, by omega, rfl, rfl, Kept.refl _ _⟩
  case round =>
    obtain ⟨k, hk, rfl, rfl, HK⟩ := hrel
    by_cases hlt : k < n
    · have hp := two_pow_lt (n := k) (by omega)
      have HP := Lib.hid (fun w => refPut1 (2 ^ k - 1) k w (by omega) (by omega))
      rw [all_step] at HP
      obtain ⟨s2, hs2⟩ : ∃ s2, 2 ^ (k + 1) - 1 = s2 := ⟨_, rfl⟩
      rw [hs2] at HP
      have HS2 := Lib.hid hs2
      clear hs2
      generalize 2 ^ k - 1 = s1 at *
      have b1 : decide ((k : Int) < 64) = true := by simp; omega
      have b2 : decide ((k : Int) < (n : Int)) = true := by simp; omega
      go_wp2_with fail
      refine (HP.out _).mono ?_
      rintro e w1 ⟨rfl, hk1⟩
      have HK1 := Lib.hid (HK.out.trans hk1)
      clear hk1
      go_wp2_with fail
      go_roundw
      case rel => exact ⟨k + 1, by omega, by go_num, by rw [HS2.out], HK1⟩
      case measure => simp [intOf]; omega
    · obtain rfl : k = n := by omega
      obtain ⟨s1, hs1⟩ : ∃ s1, 2 ^ k - 1 = s1 := ⟨_, rfl⟩
      have HS1 := Lib.hid hs1
      rw [hs1]
      clear hs1
      by_cases h64 : k < 64
      · have b1 : decide ((k : Int) < 64) = true := by simp; omega
        have b2 : decide ((k : Int) < (k : Int)) = false := by simp
        go_wp2_with fail
        go_ret
        exact ⟨by rw [HS1.out]; rfl, HK.out⟩
      · have b1 : decide ((k : Int) < 64) = false := by simp; omega
        go_wp2_with fail
        go_ret
        exact ⟨by rw [HS1.out]; rfl, HK.out⟩

end Go.Proofs.YtmhlmoojmdfnfaaDoor

/- Package duty: may a duty's numbers be? -/
namespace Go.Proofs.YtmhlmoojmdfnfaaDoor
open Go.RowKit

/-- How many bits a number has, as the library counts them. -/
def pcA (x : Int) : Int := IntKind.u64.wrap (bits .and .u64 (x / 2) 6148914691236517205 + bits .and .u64 x 6148914691236517205)
def pcB (y : Int) : Int := IntKind.u64.wrap (bits .and .u64 (y / 4) 3689348814741910323 + bits .and .u64 y 3689348814741910323)
def pcC (z : Int) : Int := bits .and .u64 (IntKind.u64.wrap (z / 16 + z)) 1085102592571150095
def pcD (k : Int) (y : Int) : Int := IntKind.u64.wrap (y + y / k)
def pcX (x : Int) : Int := bits .and .i64 (wrap64 (pcD 4294967296 (pcD 65536 (pcD 256 (pcC (pcB (pcA x))))))) 127
theorem pcX_pow : ∀ x : Fin 257, 2 ≤ x.1 → (pcX (x.1 : Int) != 1) = !(pow2 (x.1 : Int)) := by decide +kernel

set_option maxHeartbeats 800000 in
theorem ones64 (x : Nat) (w : World) (h2 : x ≤ 256) : Calls Tryd.prog 167 #[.int .u64 x] w fun e w' => e = .returned (.int .i64 (pcX x)) ∧ w = w' := by
  have hx : x ≤ 256 := h2
  go_enter Tryd.func167, Tryd.ntmps167
  go_wp2_with fail
  go_ret
  exact ⟨ret_int rfl, rfl⟩
theorem ones_any (x : Nat) (w : World) (h2 : x ≤ 256) : Calls Tryd.prog 153 #[.int .u64 x] w fun e w' => e = .returned (.int .i64 (pcX x)) ∧ w = w' := by
  have HO := Lib.hid (fun w => ones64 x w h2)
  generalize pcX x = p at *
  go_enter Tryd.func153, Tryd.ntmps153
  go_wp2_with fail
  refine (HO.out _).mono ?_
  rintro e w1 ⟨rfl, rfl⟩
  go_wp2_with fail
  go_ret
  exact ⟨rfl, rfl⟩
theorem in_any (x lo hi : Int) (w : World) : Calls Tryd.prog 152 #[.int .i64 x, .int .i64 lo, .int .i64 hi] w fun e w' => e = .returned (.bool (decide (lo ≤ x ∧ x ≤ hi))) ∧ w = w' := by
  by_cases h1 : lo ≤ x
  · have b1 : decide (lo ≤ x) = true := by simpa using h1
    go_enter Tryd.func152, Tryd.ntmps152
    go_wp2_with fail
    go_ret
    exact ⟨ret_bool (by simp [h1]), rfl⟩
  · have b1 : decide (lo ≤ x) = false := by simpa using h1
    go_enter Tryd.func152, Tryd.ntmps152
    go_wp2_with fail
    go_ret
    exact ⟨ret_bool (by simp [h1]), rfl⟩
theorem refIn (x lo hi : Int) (w : World) : Calls Tryd.prog 138 #[.int .i64 x, .int .i64 lo, .int .i64 hi] w fun e w' => e = .returned (.bool (decide (lo ≤ x ∧ x ≤ hi))) ∧ w = w' := by
  by_cases h1 : lo ≤ x
  · have b1 : decide (lo ≤ x) = true := by simpa using h1
    go_enter Tryd.func138, Tryd.ntmps138
    go_wp2_with fail
    go_ret
    exact ⟨ret_bool (by simp [h1]), rfl⟩
  · have b1 : decide (lo ≤ x) = false := by simpa using h1
    go_enter Tryd.func138, Tryd.ntmps138
    go_wp2_with fail
    go_ret
    exact ⟨ret_bool (by simp [h1]), rfl⟩

/-- The sizes of a duty, one after the other. -/
theorem sizedU_eq (d : Du) : sizedU d = (decide (1 ≤ d.cpus ∧ d.cpus ≤ 64) && (decide (1 ≤ d.threads ∧ d.threads ≤ 64) && (decide (0 ≤ d.locks ∧ d.locks ≤ 64) && (decide (max 2 d.threads ≤ d.cap ∧ d.cap ≤ 256) && (!(pcX d.cap != 1) && (decide (1 ≤ d.boost) && decide (d.boost ≤ 65536))))))) := by
  have hp : ∀ c : Int, 2 ≤ c → c ≤ 256 → (pcX c != 1) = !(pow2 c) := fun c h1 h2 => by
    have h := pcX_pow ⟨c.toNat, by omega⟩ (by simp only; omega)
    simp only at h
    rwa [show ((c.toNat : Nat) : Int) = c by omega] at h
  unfold sizedU
  by_cases h1 : 1 ≤ d.cpus ∧ d.cpus ≤ 64
  · by_cases h2 : 1 ≤ d.threads ∧ d.threads ≤ 64
    · by_cases h3 : 0 ≤ d.locks ∧ d.locks ≤ 64
      · by_cases h4 : max 2 d.threads ≤ d.cap ∧ d.cap ≤ 256
        · rw [hp d.cap (by omega) (by omega)]
          have h5 : d.threads ≤ d.cap := by omega
          simp only [h1, h2, h3, h4, h5, and_self, decide_true, Bool.true_and, Bool.not_not, Bool.decide_and, Bool.and_true]
        · have h5 : (pow2 d.cap && decide (d.threads ≤ d.cap)) = false := by
            unfold pow2
            rw [Bool.and_eq_false_iff]
            by_cases h6 : d.threads ≤ d.cap
            · left; rw [decide_eq_false_iff_not]; omega
            · right; simpa using h6
          rw [decide_eq_false h4, Bool.false_and]
          simp only [Bool.and_false]
          rw [show ∀ a b c d e f : Bool, (a && b && c && d && e && f) = (a && b && c && (d && e) && f) from by decide, h5]
          simp
      · simp only [h3, decide_false, Bool.and_false, Bool.false_and]
    · simp only [h2, decide_false, Bool.and_false, Bool.false_and]
  · simp only [h1, decide_false, Bool.false_and]

set_option maxHeartbeats 1600000 in
set_option maxRecDepth 100000 in
theorem sized_any (d : Du) (A : Option Addr) (n c : Nat) (B : Option Addr) (m e : Nat) (w : World) : Calls Tryd.prog 133 #[.agg (uC d A n c B m e)] w fun e w' => e = .returned (.bool (sizedU d)) ∧ Kept [] w w' := by
  have HI := Lib.hid in_any
  rw [sizedU_eq d]
  obtain ⟨cpus, threads, locks, cap, boost, keep, ratio, progs, starts⟩ := d
  simp only [uC]
  have HB : Hid (Blk (w.alloc (.cells #[.int .i64 cpus, .int .i64 threads, .int .i64 locks, .int .i64 cap, .int .u64 boost, .float .f64 keep, .float .f64 ratio, .slice A n c, .slice B m e] 54)) w.heap.size 54 #[.int .i64 cpus, .int .i64 threads, .int .i64 locks, .int .i64 cap, .int .u64 boost, .float .f64 keep, .float .f64 ratio, .slice A n c, .slice B m e]) := Blk.new _ _ _
  have hc := HB.out.cell
  by_cases h1 : 1 ≤ cpus ∧ cpus ≤ 64
  · rw [decide_eq_true h1, Bool.true_and]
    have H1 : Hid (∀ w, Calls Tryd.prog 152 #[.int .i64 cpus, .int .i64 1, .int .i64 64] w fun e w' => e = .returned (.bool true) ∧ w = w') := fun w => by have := HI.out cpus 1 64 w; rwa [decide_eq_true h1] at this
    by_cases h2 : 1 ≤ threads ∧ threads ≤ 64
    · rw [decide_eq_true h2, Bool.true_and]
      have H2 : Hid (∀ w, Calls Tryd.prog 152 #[.int .i64 threads, .int .i64 1, .int .i64 64] w fun e w' => e = .returned (.bool true) ∧ w = w') := fun w => by have := HI.out threads 1 64 w; rwa [decide_eq_true h2] at this
      by_cases h3 : 0 ≤ locks ∧ locks ≤ 64
      · rw [decide_eq_true h3, Bool.true_and]
        have H3 : Hid (∀ w, Calls Tryd.prog 152 #[.int .i64 locks, .int .i64 0, .int .i64 64] w fun e w' => e = .returned (.bool true) ∧ w = w') := fun w => by have := HI.out locks 0 64 w; rwa [decide_eq_true h3] at this
        by_cases h4 : max 2 threads ≤ cap ∧ cap ≤ 256
        · rw [decide_eq_true h4, Bool.true_and]
          have H4 : Hid (∀ w, Calls Tryd.prog 152 #[.int .i64 cap, .int .i64 (max 2 threads), .int .i64 256] w fun e w' => e = .returned (.bool true) ∧ w = w') := fun w => by have := HI.out (cap) ((max 2 threads)) (256) w; rwa [decide_eq_true h4] at this
          obtain ⟨cap, rfl⟩ := Int.eq_ofNat_of_zero_le (show 0 ≤ cap by omega)
          have hwc : IntKind.u64.wrap (cap : Int) = (cap : Int) := IntWalk.u64_in _ (by omega)
          have H5 := Lib.hid (fun w => ones_any cap w (by omega))
          generalize pcX (cap : Int) = pc at *
          clear h1 h2 h3 h4
          by_cases h5 : pc = 1
          · subst h5
            by_cases h6 : 1 ≤ boost
            · have b6 : decide ((1 : Int) ≤ (boost : Int)) = true := by simp; omega
              rw [decide_eq_true h6, Bool.true_and]
              clear h6
              go_enter Tryd.func133, Tryd.ntmps133
              go_wp2_with fail
              refine (H1.out _).mono ?_
              rintro e w1 ⟨rfl, rfl⟩
              go_wp2_with fail
              refine (H2.out _).mono ?_
              rintro e w1 ⟨rfl, rfl⟩
              go_wp2_with fail
              refine (H3.out _).mono ?_
              rintro e w1 ⟨rfl, rfl⟩
              go_wp2_with fail
              refine (H4.out _).mono ?_
              rintro e w1 ⟨rfl, rfl⟩
              go_wp2_with fail
              refine (H5.out _).mono ?_
              rintro e w1 ⟨rfl, rfl⟩
              go_wp2_with fail
              go_ret
              exact ⟨ret_bool (by simp; omega), (Kept.refl _ _).alloc _⟩
            · have b6 : decide ((1 : Int) ≤ (boost : Int)) = false := by simp; omega
              rw [decide_eq_false h6, Bool.false_and]
              clear h6
              go_enter Tryd.func133, Tryd.ntmps133
              go_wp2_with fail
              refine (H1.out _).mono ?_
              rintro e w1 ⟨rfl, rfl⟩
              go_wp2_with fail
              refine (H2.out _).mono ?_
              rintro e w1 ⟨rfl, rfl⟩
              go_wp2_with fail
              refine (H3.out _).mono ?_
              rintro e w1 ⟨rfl, rfl⟩
              go_wp2_with fail
              refine (H4.out _).mono ?_
              rintro e w1 ⟨rfl, rfl⟩
              go_wp2_with fail
              refine (H5.out _).mono ?_
              rintro e w1 ⟨rfl, rfl⟩
              go_wp2_with fail
              go_ret
              exact ⟨rfl, (Kept.refl _ _).alloc _⟩
          · have b5 : (pc != 1) = true := by simpa using h5
            rw [b5]
            go_enter Tryd.func133, Tryd.ntmps133
            go_wp2_with fail
            refine (H1.out _).mono ?_
            rintro e w1 ⟨rfl, rfl⟩
            go_wp2_with fail
            refine (H2.out _).mono ?_
            rintro e w1 ⟨rfl, rfl⟩
            go_wp2_with fail
            refine (H3.out _).mono ?_
            rintro e w1 ⟨rfl, rfl⟩
            go_wp2_with fail
            refine (H4.out _).mono ?_
            rintro e w1 ⟨rfl, rfl⟩
            go_wp2_with fail
            refine (H5.out _).mono ?_
            rintro e w1 ⟨rfl, rfl⟩
            go_wp2_with fail
            go_ret
            exact ⟨rfl, (Kept.refl _ _).alloc _⟩
        · rw [decide_eq_false h4, Bool.false_and]
          have H4 : Hid (∀ w, Calls Tryd.prog 152 #[.int .i64 cap, .int .i64 (max 2 threads), .int .i64 256] w fun e w' => e = .returned (.bool false) ∧ w = w') := fun w => by have := HI.out (cap) ((max 2 threads)) (256) w; rwa [decide_eq_false h4] at this
          clear h1 h2 h3 h4
          go_enter Tryd.func133, Tryd.ntmps133
          go_wp2_with fail
          refine (H1.out _).mono ?_
          rintro e w1 ⟨rfl, rfl⟩
          go_wp2_with fail
          refine (H2.out _).mono ?_
          rintro e w1 ⟨rfl, rfl⟩
          go_wp2_with fail
          refine (H3.out _).mono ?_
          rintro e w1 ⟨rfl, rfl⟩
          go_wp2_with fail
          refine (H4.out _).mono ?_
          rintro e w1 ⟨rfl, rfl⟩
          go_wp2_with fail
          go_ret
          exact ⟨rfl, (Kept.refl _ _).alloc _⟩
      · rw [decide_eq_false h3, Bool.false_and]
        have H3 : Hid (∀ w, Calls Tryd.prog 152 #[.int .i64 locks, .int .i64 0, .int .i64 64] w fun e w' => e = .returned (.bool false) ∧ w = w') := fun w => by have := HI.out (locks) (0) (64) w; rwa [decide_eq_false h3] at this
        clear h1 h2 h3
        go_enter Tryd.func133, Tryd.ntmps133
        go_wp2_with fail
        refine (H1.out _).mono ?_
        rintro e w1 ⟨rfl, rfl⟩
        go_wp2_with fail
        refine (H2.out _).mono ?_
        rintro e w1 ⟨rfl, rfl⟩
        go_wp2_with fail
        refine (H3.out _).mono ?_
        rintro e w1 ⟨rfl, rfl⟩
        go_wp2_with fail
        go_ret
        exact ⟨rfl, (Kept.refl _ _).alloc _⟩
    · rw [decide_eq_false h2, Bool.false_and]
      have H2 : Hid (∀ w, Calls Tryd.prog 152 #[.int .i64 threads, .int .i64 1, .int .i64 64] w fun e w' => e = .returned (.bool false) ∧ w = w') := fun w => by have := HI.out (threads) (1) (64) w; rwa [decide_eq_false h2] at this
      clear h1 h2
      go_enter Tryd.func133, Tryd.ntmps133
      go_wp2_with fail
      refine (H1.out _).mono ?_
      rintro e w1 ⟨rfl, rfl⟩
      go_wp2_with fail
      refine (H2.out _).mono ?_
      rintro e w1 ⟨rfl, rfl⟩
      go_wp2_with fail
      go_ret
      exact ⟨rfl, (Kept.refl _ _).alloc _⟩
  · rw [decide_eq_false h1, Bool.false_and]
    have H1 : Hid (∀ w, Calls Tryd.prog 152 #[.int .i64 cpus, .int .i64 1, .int .i64 64] w fun e w' => e = .returned (.bool false) ∧ w = w') := fun w => by have := HI.out (cpus) (1) (64) w; rwa [decide_eq_false h1] at this
    clear h1
    go_enter Tryd.func133, Tryd.ntmps133
    go_wp2_with fail
    refine (H1.out _).mono ?_
    rintro e w1 ⟨rfl, rfl⟩
    go_wp2_with fail
    go_ret
    exact ⟨rfl, (Kept.refl _ _).alloc _⟩

end Go.Proofs.YtmhlmoojmdfnfaaDoor

/- Package duty: Check. -/
namespace Go.Proofs.YtmhlmoojmdfnfaaDoor
open Go.RowKit

theorem gis_any (l : Int) (w : World) : Calls Tryd.prog 88 #[.int .i64 l] w fun e w' => e = .returned (.bool (decide (0 ≤ l ∧ l ≤ 7))) ∧ w = w' := by
  by_cases h1 : 0 ≤ l
  · have b1 : decide (0 ≤ l) = true := by simpa using h1
    go_enter Tryd.func88, Tryd.ntmps88
    go_wp2_with fail
    go_ret
    exact ⟨ret_bool (by simp [h1]; omega), rfl⟩
  · have b1 : decide (0 ≤ l) = false := by simpa using h1
    go_enter Tryd.func88, Tryd.ntmps88
    go_wp2_with fail
    go_ret
    exact ⟨ret_bool (by simp [h1]), rfl⟩

theorem check1_any (A : Option Addr) (n c : Nat) (l : List Dd) (w : World) (hr : ReadsD w A n l) (hn : n ≤ 9223372036854775807) : Calls Tryd.prog 134 #[.slice A n c] w fun e w' => e = .returned (.bool (checkP l != 0)) ∧ Kept [] w w' := by
  have HC := Lib.hid (pcheck_any A n c l w hr hn)
  clear hr
  generalize checkP l = k at *
  go_enter Tryd.func134, Tryd.ntmps134
  go_wp2_with fail
  refine (HC.out).mono ?_
  rintro e w1 ⟨rfl, hk1⟩
  go_wp2_with fail
  go_ret
  exact ⟨rfl, hk1⟩

theorem take_snocA {α : Type} {l : List α} {k : Nat} {d : α} (h : l[k]? = some d) : l.take (k + 1) = l.take k ++ [d] := by rw [List.take_add_one, h]; rfl

set_option maxHeartbeats 1600000 in
theorem indexPP_any (A : Option Addr) (n c : Nat) (l : List (List Dd)) (w : World) (hr : ReadsPP w A n l) (hl : l.length ≤ 100000) (hb : ∀ p ∈ l, p.length ≤ 9223372036854775807) :
    Calls Tryd.prog 135 #[.slice A n c, .func (.func 134) #[] #[]] w fun e w' => ∃ i : Int, e = .returned (.int .i64 i) ∧ Kept [] w w' ∧ ((i = -1 ∧ badP l = 0) ∨ ∃ (k : Nat) (p : List Dd), i = k ∧ l[k]? = some p ∧ checkP p ≠ 0 ∧ badP l = checkP p) := by
  obtain rfl := hr.len
  have HR := Lib.hid hr
  have HB := Lib.hid hb
  clear hr hb
  go_enter Tryd.func135, Tryd.ntmps135
  go_wp2_with fail
  go_loopw [8] (fun iv wr => ∃ k : Nat, k ≤ l.length ∧ iv = .int .i64 k ∧ Hid (badP (l.take k) = 0) ∧ Hid (Kept [] w wr)) (fun i _ => l.length - (intOf i).toNat)
  case atStart => exact ⟨0, by omega, rfl, rfl, Kept.refl _ _⟩
  case round =>
    obtain ⟨k, hk, rfl, HBK, HK⟩ := hrel
    by_cases hlt : k < l.length
    · obtain ⟨p, b, o, Ai, ni, ci, rfl, hx, hb, hc0, hrp⟩ := (HR.out.old HK.out).at_ hlt
      have hi0 : (0 : Int) ≤ (k : Int) := by omega
      have hi1 : (k : Int) < (l.length : Int) := by omega
      have hpl := HB.out p (List.mem_of_getElem? hx)
      have hnl := hrp.len
      have HC := Lib.hid (check1_any Ai ni ci p wr hrp (by omega))
      have HX := Lib.hid hx
      clear hx hrp hnl
      by_cases h0 : checkP p = 0
      · have hc : (checkP p != 0) = false := by simp [h0]
        rw [hc] at HC
        have HS : Hid (badP (l.take (k + 1)) = 0) := by show _ = _; rw [take_snocA HX.out, badP_snoc, HBK.out, h0]; rfl
        clear h0 hc
        go_wp2_with fail
        refine (HC.out).mono ?_
        rintro e w1 ⟨rfl, hk1⟩
        have HK1 := Lib.hid (HK.out.trans hk1)
        clear hk1
        go_wp2_with fail
        go_roundw
        case rel => exact ⟨k + 1, by omega, by go_num, HS, HK1⟩
        case measure => simp [intOf]; omega
      · have hc : (checkP p != 0) = true := by simp [h0]
        rw [hc] at HC
        have HS : Hid (badP l = checkP p) := badP_at HX.out HBK.out h0
        have H0 := Lib.hid h0
        clear h0 hc
        go_wp2_with fail
        refine (HC.out).mono ?_
        rintro e w1 ⟨rfl, hk1⟩
        have HK1 := Lib.hid (HK.out.trans hk1)
        clear hk1
        go_wp2_with fail
        go_ret
        exact ⟨k, rfl, HK1.out, .inr ⟨k, p, rfl, HX.out, H0.out, HS.out⟩⟩
    · obtain rfl : k = l.length := by omega
      rw [List.take_of_length_le (Nat.le_refl _)] at HBK
      go_wp2_with fail
      go_ret
      exact ⟨-1, rfl, HK.out, .inl ⟨rfl, HBK.out⟩⟩

/-- The cells that Check looks at. -/
theorem startC_bad {np : Nat} {cpus : Int} {s : St} (h : s.prog < 0 ∨ (np : Int) ≤ s.prog ∨ s.grade < 0 ∨ 7 < s.grade) : startC np cpus s = 1 := by rw [startC, if_pos h]
theorem startC_mask {np : Nat} {cpus : Int} {s : St} (h : ¬ (s.prog < 0 ∨ (np : Int) ≤ s.prog ∨ s.grade < 0 ∨ 7 < s.grade)) : startC np cpus s = if s.mask &&& (2 ^ cpus.toNat - 1) = 0 then 10 else 0 := by rw [startC, if_neg h]
theorem checkU_size {d : Du} (h : sizedU d = false) : checkU d = 5 := by rw [checkU, if_pos h]
theorem checkU_long {d : Du} (h : sizedU d = true) (h2 : 64 < d.progs.length ∨ 64 < d.starts.length) : checkU d = 4 := by rw [checkU, if_neg (by simp [h]), if_pos h2]
theorem checkU_prog {d : Du} (h : sizedU d = true) (h2 : ¬ (64 < d.progs.length ∨ 64 < d.starts.length)) (h3 : badP d.progs ≠ 0) : checkU d = badP d.progs := by rw [checkU, if_neg (by simp [h]), if_neg h2, if_pos h3]
theorem checkU_start {d : Du} (h : sizedU d = true) (h2 : ¬ (64 < d.progs.length ∨ 64 < d.starts.length)) (h3 : badP d.progs = 0) : checkU d = badS d.progs.length d.cpus d.starts := by rw [checkU, if_neg (by simp [h]), if_neg h2, if_neg (by simp [h3])]
theorem sizedU_cpus {d : Du} (h : sizedU d = true) : 1 ≤ d.cpus ∧ d.cpus ≤ 64 := by
  rw [sizedU_eq] at h
  simp only [Bool.and_eq_true, decide_eq_true_eq] at h
  exact h.1

set_option maxHeartbeats 3200000 in
set_option maxRecDepth 100000 in
theorem ucheck_any (d : Du) (A : Option Addr) (n c : Nat) (B : Option Addr) (m e : Nat) (w : World) (hu : IsU w d A n B m) (hp : d.progs.length ≤ 100000) (hs : d.starts.length ≤ 100000) (hb : ∀ p ∈ d.progs, p.length ≤ 9223372036854775807) (hm : ∀ s ∈ d.starts, s.mask < 18446744073709551616) :
    Calls Tryd.prog 94 #[.agg (uC d A n c B m e)] w fun e w' => e = .returned (.int .i64 (checkU d)) ∧ Kept [] w w' := by
  have HS := Lib.hid (fun w => sized_any d A n c B m e w)
  obtain ⟨hu1, hu2⟩ := hu
  have hn := hu1.len
  have hmm := hu2.len
  have HU1 := Lib.hid hu1
  have HU2 := Lib.hid hu2
  have HIX := Lib.hid (fun w h => indexPP_any A n c d.progs w h hp hb)
  have HBL := Lib.hid hb
  have HMM := Lib.hid hm
  have HSZ := Lib.hid (@sizedU_cpus d)
  have HC1 := Lib.hid (@checkU_size d)
  have HC2 := Lib.hid (@checkU_long d)
  have HC3 := Lib.hid (@checkU_prog d)
  have HC4 := Lib.hid (@checkU_start d)
  generalize checkU d = ck at *
  generalize sizedU d = sz at *
  obtain ⟨cpus, threads, locks, cap, boost, keep, ratio, progs, starts⟩ := d
  simp only [uC] at HS ⊢
  simp only at HU1 HU2 HIX HBL HMM HSZ HC1 HC2 HC3 HC4 hp hs hn hmm
  subst hn hmm
  clear hu1 hu2 hb hm
  have HB : Hid (Blk (w.alloc (.cells #[.int .i64 cpus, .int .i64 threads, .int .i64 locks, .int .i64 cap, .int .u64 boost, .float .f64 keep, .float .f64 ratio, .slice A progs.length c, .slice B starts.length e] 54)) w.heap.size 54 #[.int .i64 cpus, .int .i64 threads, .int .i64 locks, .int .i64 cap, .int .u64 boost, .float .f64 keep, .float .f64 ratio, .slice A progs.length c, .slice B starts.length e]) := Blk.new _ _ _
  have HK := Lib.hid ((Kept.refl [] w).alloc (.cells #[.int .i64 cpus, .int .i64 threads, .int .i64 locks, .int .i64 cap, .int .u64 boost, .float .f64 keep, .float .f64 ratio, .slice A progs.length c, .slice B starts.length e] 54))
  have hc := HB.out.cell
  have hlt := HB.out.lt
  cases sz with
  | false =>
    have HV := Lib.hid (HC1.out rfl)
    clear HC1 HC2 HC3 HC4
    go_enter Tryd.func94, Tryd.ntmps94
    go_wp2_with fail
    refine (HS.out _).mono ?_
    rintro e w1 ⟨rfl, hk1⟩
    have HK1 := Lib.hid (HK.out.trans hk1)
    clear hk1
    go_wp2_with fail
    go_ret
    exact ⟨ret_int HV.out.symm, HK1.out⟩
  | true =>
    have hcp := HSZ.out rfl
    by_cases h1 : 64 < progs.length ∨ 64 < starts.length
    · have HV := Lib.hid (HC2.out rfl h1)
      clear HC1 HC2 HC3 HC4
      by_cases h2 : 64 < progs.length
      · have b2 : decide ((64 : Int) < (progs.length : Int)) = true := by simp; omega
        clear h1 h2
        go_enter Tryd.func94, Tryd.ntmps94
        go_wp2_with fail
        refine (HS.out _).mono ?_
        rintro e w1 ⟨rfl, hk1⟩
        have HB1 := Lib.hid (HB.out.kept hk1 (by simp))
        have hc1 := HB1.out.cell
        have hlt1 := HB1.out.lt
        have HK1 := Lib.hid (HK.out.trans hk1)
        clear hk1 hc hlt
        go_wp2_with fail
        go_ret
        exact ⟨ret_int HV.out.symm, HK1.out⟩
      · have b2 : decide ((64 : Int) < (progs.length : Int)) = false := by simp; omega
        have b3 : decide ((64 : Int) < (starts.length : Int)) = true := by simp; omega
        clear h1 h2
        go_enter Tryd.func94, Tryd.ntmps94
        go_wp2_with fail
        refine (HS.out _).mono ?_
        rintro e w1 ⟨rfl, hk1⟩
        have HB1 := Lib.hid (HB.out.kept hk1 (by simp))
        have hc1 := HB1.out.cell
        have hlt1 := HB1.out.lt
        have HK1 := Lib.hid (HK.out.trans hk1)
        clear hk1 hc hlt
        go_wp2_with fail
        go_ret
        exact ⟨ret_int HV.out.symm, HK1.out⟩
    · have HC3' := Lib.hid (HC3.out rfl h1)
      have HC4' := Lib.hid (HC4.out rfl h1)
      have hl1 : progs.length ≤ 64 := by omega
      have hl2 : starts.length ≤ 64 := by omega
      have b2 : decide ((64 : Int) < (progs.length : Int)) = false := by simp; omega
      have b3 : decide ((64 : Int) < (starts.length : Int)) = false := by simp; omega
      clear h1 HC1 HC2 HC3 HC4
      obtain ⟨cp, rfl⟩ := Int.eq_ofNat_of_zero_le (show 0 ≤ cpus by omega)
      go_enter Tryd.func94, Tryd.ntmps94
      go_wp2_with fail
      refine (HS.out _).mono ?_
      rintro e w1 ⟨rfl, hk1⟩
      have HB1 := Lib.hid (HB.out.kept hk1 (by simp))
      have hc1 := HB1.out.cell
      have hlt1 := HB1.out.lt
      have HK1 := Lib.hid (HK.out.trans hk1)
      clear hk1 hc hlt
      go_wp2_with fail
      refine (HIX.out _ (HU1.out.old HK1.out)).mono ?_
      rintro e w2 ⟨i, rfl, hk2, hi⟩
      have HB2 := Lib.hid (HB1.out.kept hk2 (by simp))
      have hc2 := HB2.out.cell
      have hlt2 := HB2.out.lt
      have HK2 := Lib.hid (HK1.out.trans hk2)
      clear hk2 hc1 hlt1
      rcases hi with ⟨rfl, h0⟩ | ⟨k, p, rfl, hx, h0, h2⟩
      · have HV := Lib.hid (HC4'.out h0)
        clear HC3' HC4' h0
        go_wp2_with fail
        go_loopw [37] (fun iv wr => ∃ k : Nat, k ≤ starts.length ∧ iv = .int .i64 k ∧ Hid (badS progs.length (cp : Int) (starts.take k) = 0) ∧ Hid (Kept [] w2 wr)) (fun i _ => starts.length - (intOf i).toNat)
        case atStart => exact ⟨0, by omega, rfl, rfl, Kept.refl _ _⟩
        case round =>
          obtain ⟨k, hk, rfl, HBS, HKR⟩ := hrel
          have HBR := Lib.hid (HB2.out.kept HKR.out (by simp))
          have hcr := HBR.out.cell
          have hltr := HBR.out.lt
          have HKW := Lib.hid (HK2.out.trans HKR.out)
          clear hc2 hlt2
          by_cases hlt : k < starts.length
          · obtain ⟨s, b, o, rfl, hx, hb, hs0, hs1, hs2⟩ := (HU2.out.old HKW.out).at_ hlt
            have hi0 : (0 : Int) ≤ (k : Int) := by omega
            have hi1 : (k : Int) < (starts.length : Int) := by omega
            have hml := HMM.out s (List.mem_of_getElem? hx)
            have HX := Lib.hid hx
            have HSC := Lib.hid (@startC_bad progs.length (cp : Int) s)
            have HSM := Lib.hid (@startC_mask progs.length (cp : Int) s)
            have HAT : Hid (startC progs.length (cp : Int) s ≠ 0 → badS progs.length (cp : Int) starts = startC progs.length (cp : Int) s) := fun h => badS_at HX.out HBS.out h
            have HSN : Hid (startC progs.length (cp : Int) s = 0 → badS progs.length (cp : Int) (starts.take (k + 1)) = 0) := fun h => by rw [take_snocA HX.out, badS_snoc, HBS.out, h]; rfl
            obtain ⟨pg, gr, mk⟩ := s
            simp only at hs0 hs1 hs2 hml HSC HSM
            have HG := Lib.hid (fun w => gis_any gr w)
            generalize startC progs.length (cp : Int) ⟨pg, gr, mk⟩ = sc at *
            clear hx HX
            have hqi : ((wr.alloc (.cells #[.int .i64 pg, .int .i64 gr, .int .u64 mk] 118))).heap.size = wr.heap.size + 1 := by simp
            by_cases h4 : pg < 0 ∨ (progs.length : Int) ≤ pg ∨ gr < 0 ∨ 7 < gr
            · have h1 := HSC.out h4
              have HV2 : Hid (ck = 1) := by show _ = _; rw [HV.out, HAT.out (by omega), h1]
              clear HSC HSM HAT HSN h1
              by_cases h5 : pg < 0
              · have b5 : decide (pg < 0) = true := by simpa using h5
                clear h4 h5
                go_wp2_with fail
                go_ret
                exact ⟨ret_int HV2.out.symm, HKW.out.alloc _⟩
              · have b5 : decide (pg < 0) = false := by simpa using h5
                by_cases h6 : (progs.length : Int) ≤ pg
                · have b6 : decide ((progs.length : Int) ≤ pg) = true := by simpa using h6
                  clear h4 h5 h6
                  go_wp2_with fail
                  go_ret
                  exact ⟨ret_int HV2.out.symm, HKW.out.alloc _⟩
                · have b6 : decide ((progs.length : Int) ≤ pg) = false := by simpa using h6
                  rw [decide_eq_false (by omega)] at HG
                  clear h4 h5 h6
                  go_wp2_with fail
                  refine (HG.out _).mono ?_
                  rintro e w3 ⟨rfl, rfl⟩
                  go_wp2_with fail
                  go_ret
                  exact ⟨ret_int HV2.out.symm, HKW.out.alloc _⟩
            · have hsm := HSM.out h4
              have b5 : decide (pg < 0) = false := by simp; omega
              have b6 : decide ((progs.length : Int) ≤ pg) = false := by simp; omega
              rw [decide_eq_true (by omega)] at HG
              have hp2 : 2 ^ cp - 1 < 18446744073709551616 := by
                have : 2 ^ cp ≤ 2 ^ 64 := Nat.pow_le_pow_right (by omega) (by omega)
                omega
              have HSA : Hid (∀ w, Calls Tryd.prog 136 #[.int .i64 cp] w fun e w' => e = .returned (.int .u64 (2 ^ cp - 1 : Nat)) ∧ w' = w) := fun w => (sall_any cp w (by omega) (by omega)).mono (fun e w' h => ⟨h.1, h.2.symm⟩)
              simp only [Int.toNat_natCast] at hsm
              have hsm0 : mk &&& (2 ^ cp - 1) = 0 → sc = 10 := fun h => by rw [hsm, if_pos h]
              have hsm1 : mk &&& (2 ^ cp - 1) ≠ 0 → sc = 0 := fun h => by rw [hsm, if_neg h]
              clear hsm
              generalize 2 ^ cp - 1 = all at *
              have hand := u64_and_nat mk all hml hp2
              generalize mk &&& all = an at *
              clear h4 HSC HSM
              by_cases h0 : an = 0
              · subst h0
                have hsm := hsm0 rfl
                have HV2 : Hid (ck = 10) := by show _ = _; rw [HV.out, HAT.out (by omega), hsm]
                clear hsm hsm0 hsm1 HAT HSN
                go_wp2_with fail
                refine (HG.out _).mono ?_
                rintro e w3 ⟨rfl, rfl⟩
                go_wp2_with fail
                go_quiet ((go_at_call 136; refine Calls.quiet_of_same (HSA.out _)))
                go_wp2_with fail
                go_ret
                exact ⟨ret_int HV2.out.symm, HKW.out.trans (by (repeat (first | (with_reducible exact Kept.refl _ _) | (with_reducible assumption) | (with_reducible refine Kept.alloc ?_ _) | (with_reducible refine Kept.drew ?_) | (with_reducible refine Kept.drewN ?_ _) | (with_reducible refine Kept.setCell ?_ ?_ _) | (exact .inr (Nat.le_refl _)) | (exact .inr (by simp only; omega)) | (exact .inr (by omega)))))⟩
              · have ba : ((an : Int) == 0) = false := by simp; omega
                have hsm := hsm1 h0
                have HV2 := Lib.hid (HSN.out hsm)
                clear hsm hsm0 hsm1 HAT HSN h0
                go_wp2_with fail
                refine (HG.out _).mono ?_
                rintro e w3 ⟨rfl, rfl⟩
                go_wp2_with fail
                go_quiet ((go_at_call 136; refine Calls.quiet_of_same (HSA.out _)))
                go_wp2_with fail
                go_roundw
                case rel => exact ⟨k + 1, by omega, by go_num, HV2, HKR.out.trans (by (repeat (first | (with_reducible exact Kept.refl _ _) | (with_reducible assumption) | (with_reducible refine Kept.alloc ?_ _) | (with_reducible refine Kept.drew ?_) | (with_reducible refine Kept.drewN ?_ _) | (with_reducible refine Kept.setCell ?_ ?_ _) | (exact .inr (Nat.le_refl _)) | (exact .inr (by simp only; omega)) | (exact .inr (by omega)))))⟩
                case measure => simp [intOf]; omega
          · obtain rfl : k = starts.length := by omega
            rw [List.take_of_length_le (Nat.le_refl _)] at HBS
            have HV2 : Hid (ck = 0) := by show _ = _; rw [HV.out, HBS.out]
            go_wp2_with fail
            go_ret
            exact ⟨ret_int HV2.out.symm, HKW.out⟩
      · have HV := Lib.hid (HC3'.out (by rw [h2]; exact h0))
        rw [h2] at HV
        obtain ⟨p', b, o, Ai, ni, ci, rfl, hx', hb, hc0, hrp⟩ := (HU1.out.old HK2.out).at_ (List.getElem?_eq_some_iff.1 hx).1
        rw [hx] at hx'
        injection hx' with hx'
        subst hx'
        have hpl := HBL.out p (List.mem_of_getElem? hx)
        have hnl := hrp.len
        have HC := Lib.hid (pcheck_any Ai ni ci p w2 hrp (by omega))
        have hi0 : (0 : Int) ≤ (k : Int) := by omega
        have hi1 : (k : Int) < (progs.length : Int) := by have := (List.getElem?_eq_some_iff.1 hx).1; omega
        clear hx hrp hnl HC3' HC4' h2 h0
        go_wp2_with fail
        refine (HC.out).mono ?_
        rintro e w3 ⟨rfl, hk3⟩
        have HK3 := Lib.hid (HK2.out.trans hk3)
        clear hk3
        go_wp2_with fail
        go_ret
        exact ⟨ret_int HV.out.symm, HK3.out⟩

end Go.Proofs.YtmhlmoojmdfnfaaDoor

