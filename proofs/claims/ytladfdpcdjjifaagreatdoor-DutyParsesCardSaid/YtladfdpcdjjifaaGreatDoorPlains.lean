/- Words as numbers, in plain words; a slice of numbers. No program is walked here; Package deed, in plain words: what a deed is, which may be, what its line and its bytes are. No program in sight; Package prog, in plain words: which programs may be, how many steps they have, whether they are simple, which locks they take. No program in sight; Package duty, in plain words: which duties may be; a duty out of bytes. No program in sight. -/
import Derived.Test.YtladfdpcdjjifaaGreatDoorNumsB
import Derived.Test.YtladfdpcdjjifaaGreatDoorNumsH
import Derived.Test.YtladfdpcdjjifaaGreatDoorNumsA

/- Words as numbers, in plain words; a slice of numbers. No program is walked here. -/
namespace Go.Proofs.YtladfdpcdjjifaaGreatDoor
open Go.RowKit

/-- The number of word i, where the words from k on are hex. -/
def rdN (k i : Nat) (w : List UInt8) : Nat × Int := if k ≤ i then readH w else readD w
/-- Words as numbers. -/
def numsF (k : Nat) : List Nat → List (List UInt8) → Option (List Nat)
  | a, [] => some a
  | a, w :: t => if (rdN k a.length w).2 = 0 then numsF k (a ++ [(rdN k a.length w).1]) t else none
theorem readH_small (l : List UInt8) : (readH l).1 < 18446744073709551616 := by
  unfold readH
  split
  · rename_i h
    have := valH_lt l h.2
    rw [h.1] at this
    simpa using this
  · simp
theorem rdN_lt (k i : Nat) (w : List UInt8) : (rdN k i w).1 < 18446744073709551616 := by
  unfold rdN
  split
  · exact readH_small w
  · have := readD_lt w; omega
theorem numsF_len (k : Nat) : ∀ (ws : List (List UInt8)) (a r : List Nat), numsF k a ws = some r → r.length = a.length + ws.length
  | [], a, r, h => by simp [numsF] at h; simp [h]
  | w :: t, a, r, h => by
    unfold numsF at h
    split at h
    · have := numsF_len k t _ r h; simp at this ⊢; omega
    · simp at h
theorem numsF_lt (k : Nat) : ∀ (ws : List (List UInt8)) (a r : List Nat), (∀ x ∈ a, x < 18446744073709551616) → numsF k a ws = some r → ∀ x ∈ r, x < 18446744073709551616
  | [], a, r, ha, h => by simp [numsF] at h; rw [← h]; exact ha
  | w :: t, a, r, ha, h => by
    unfold numsF at h
    split at h
    · refine numsF_lt k t _ r (fun x hx => ?_) h
      rcases List.mem_append.1 hx with hx | hx
      · exact ha x hx
      · obtain rfl := List.mem_singleton.1 hx; exact rdN_lt _ _ _
    · simp at h
/-- So many words as numbers; the document's way of it is the same. -/
def numbU (ws : List (List UInt8)) (many k : Nat) : Option (List Nat) := if ws.length = many then numsF k [] ws else none
theorem numbU_len {ws : List (List UInt8)} {many k : Nat} {r : List Nat} (h : numbU ws many k = some r) : r.length = many := by
  unfold numbU at h
  split at h
  · have := numsF_len k ws [] r h; simp at this; omega
  · simp at h
theorem numbU_lt {ws : List (List UInt8)} {many k : Nat} {r : List Nat} (h : numbU ws many k = some r) (i : Nat) : r.getD i 0 < 18446744073709551616 := by
  unfold numbU at h
  split at h
  · have := numsF_lt k ws [] r (by simp) h
    by_cases hi : i < r.length
    · rw [List.getD_eq_getElem?_getD, List.getElem?_eq_getElem hi]; exact this _ (List.getElem_mem hi)
    · rw [List.getD_eq_getElem?_getD, List.getElem?_eq_none (by omega)]; simp
  · simp at h

theorem Tryz.info22 : (Tryz.prog.info? 22).map (fun i => (i.zero, i.size, i.bytes)) = some (some (.int .u64 0), 1, 8) := by kernel_rfl
def u64V (x : Nat) : Value := .int .u64 (x : Int)
/-- A slice of numbers that was made after w. -/
def RowN (w w' : World) (l : List Nat) (A : Option Addr) (n c : Nat) : Prop := w'.ownsRow 0 22 1 (.slice A n c) n (l.map u64V) ∧ ∀ k, k ∈ fp (.slice A n c) → w.heap.size ≤ k
theorem RowN.nil (w w' : World) : RowN w w' [] none 0 0 := ⟨World.ownsRow_nil _ _ _ _, by simp [fp, Value.ownBlock]⟩
theorem RowN.kept {w wr w2 : World} {G : List Nat} {l : List Nat} {A : Option Addr} {n c : Nat} (h : RowN w wr l A n c) (hk : Kept G wr w2) (hG : ∀ k, k ∈ G → k < w.heap.size) : RowN w w2 l A n c :=
  ⟨own_kept h.1 hk (fun k hk' hm => by have h1 := h.2 k hk'; have h2 := hG k hm; omega), h.2⟩
theorem RowN.reads {w w' : World} {l : List Nat} {A : Option Addr} {n c : Nat} (h : RowN w w' l A n c) : Reads w' 1 A n (l.map u64V) := Reads.of_own h.1
theorem RowN.len {w w' : World} {l : List Nat} {A : Option Addr} {n c : Nat} (h : RowN w w' l A n c) : n = l.length := by have := h.reads.1; simp at this; omega
theorem RowN.append {w wr w2 : World} {l : List Nat} {x : Nat} {A A' : Option Addr} {n c c' : Nat} (h : RowN w wr l A n c) (hw : w.heap.size ≤ wr.heap.size) (ha : Appended wr w2 22 1 (.slice A n c) (.slice A' (n + 1) c') (n + 1) (l.map u64V ++ [u64V x])) : RowN w w2 (l ++ [x]) A' (n + 1) c' :=
  ⟨by have := ha.1; simpa using this, fun k hk' => by
    rcases ha.2.2 k hk' with h1 | h1
    · exact h.2 k h1
    · omega⟩

end Go.Proofs.YtladfdpcdjjifaaGreatDoor

/- Package deed, in plain words: what a deed is, which may be, what its line and its bytes are. No program in sight. -/
namespace Go.Proofs.YtladfdpcdjjifaaGreatDoor

/-- A deed. -/
structure Dd where
  op : Int
  a : Int
  b : Int
  r : Int
  n : Nat
  mask : Nat
  loose : Bool

def Dd.zero : Dd := ⟨0, 0, 0, 0, 0, 0, false⟩

theorem Dd.ext' {x y : Dd} (h1 : x.op = y.op) (h2 : x.a = y.a) (h3 : x.b = y.b) (h4 : x.r = y.r) (h5 : x.n = y.n) (h6 : x.mask = y.mask) (h7 : x.loose = y.loose) : x = y := by
  cases x; cases y; simp_all

/-- Are two deeds the same? -/
def Dd.same (x y : Dd) : Bool := x.op == y.op && (x.a == y.a && (x.b == y.b && (x.r == y.r && (x.n == y.n && (x.mask == y.mask && x.loose == y.loose)))))
theorem Dd.same_iff (x y : Dd) : x.same y = true ↔ x = y := by
  constructor
  · intro h
    simp only [Dd.same, Bool.and_eq_true, beq_iff_eq] at h
    obtain ⟨h1, h2, h3, h4, h5, h6, h7⟩ := h
    exact Dd.ext' h1 h2 h3 h4 h5 h6 h7
  · rintro rfl; simp [Dd.same]

/-- The parts of a deed, a letter each. -/
def partsL (op : Int) : List UInt8 :=
  if op = 1 then [78] else if op = 2 then [65, 66, 82, 77, 76] else if op = 3 then [78] else if op = 4 then [82] else if op = 5 then [] else if op = 6 then [78] else if op = 7 then [82, 77]
  else if op = 8 then [82, 66] else if op = 9 then [65] else if op = 10 then [65, 78] else if op = 11 then [65] else []

/-- A deed's name. -/
def nameD (op : Int) : List UInt8 :=
  if op = 1 then [119, 111, 114, 107] else if op = 2 then [115, 112, 97, 119, 110] else if op = 3 then [101, 120, 105, 116] else if op = 4 then [106, 111, 105, 110] else if op = 5 then [121, 105, 101, 108, 100]
  else if op = 6 then [115, 108, 101, 101, 112] else if op = 7 then [109, 97, 115, 107] else if op = 8 then [103, 114, 97, 100, 101] else if op = 9 then [108, 111, 99, 107] else if op = 10 then [116, 105, 109, 101, 100]
  else if op = 11 then [117, 110, 108, 111, 99, 107] else [63]

/-- A deed with one more part of another one. -/
def takeP (d e : Dd) (c : UInt8) : Dd :=
  if c = 65 then { e with a := d.a } else if c = 66 then { e with b := d.b } else if c = 82 then { e with r := d.r } else if c = 78 then { e with n := d.n } else if c = 77 then { e with mask := d.mask } else { e with loose := d.loose }
/-- A deed with its parts alone. -/
def onlyD (d : Dd) : Dd := (partsL d.op).foldl (takeP d) ⟨d.op, 0, 0, 0, 0, 0, false⟩

/-- May a deed be? -/
def goodD (d : Dd) : Bool :=
  decide (1 ≤ d.op ∧ d.op ≤ 11) && d.same (onlyD d) && !(decide (d.op = 1) && (decide (d.n < 1) || decide (65536 < d.n))) && decide (0 ≤ d.a ∧ d.a < 64 ∧ 0 ≤ d.b ∧ d.b < 8 ∧ 0 ≤ d.r ∧ d.r < 8)

/-- What a part adds to a deed's line. -/
def pieceL (d : Dd) (c : UInt8) : List UInt8 :=
  if c = 65 then 32 :: dec d.a.toNat else if c = 66 then 32 :: dec d.b.toNat else if c = 82 then 32 :: dec d.r.toNat else if c = 78 then 32 :: dec d.n else if c = 77 then 32 :: hex d.mask
  else if d.loose then [32, 108, 111, 111, 115, 101] else []
/-- A deed's line. -/
def lineD (d : Dd) : List UInt8 := if goodD d then nameD d.op ++ (partsL d.op).flatMap (pieceL d) else [63]

/-- A name's deed; 0: it is none. -/
def opOf (w : List UInt8) : Int :=
  if w = nameD 1 then 1 else if w = nameD 2 then 2 else if w = nameD 3 then 3 else if w = nameD 4 then 4 else if w = nameD 5 then 5 else if w = nameD 6 then 6 else if w = nameD 7 then 7 else if w = nameD 8 then 8
  else if w = nameD 9 then 9 else if w = nameD 10 then 10 else if w = nameD 11 then 11 else 0

/-- Is a word a text of this part? -/
def wordOk (c : UInt8) (w : List UInt8) : Bool := if c = 77 then (readH w).2 == 0 else if c = 76 then w == [108, 111, 111, 115, 101] else (readD w).2 == 0
/-- A deed with a part out of a word; small parts are held below K. -/
def fillP (K : Nat) (d : Dd) (cw : UInt8 × List UInt8) : Dd :=
  if cw.1 = 65 then { d with a := (min (readD cw.2).1 K : Nat) } else if cw.1 = 66 then { d with b := (min (readD cw.2).1 K : Nat) } else if cw.1 = 82 then { d with r := (min (readD cw.2).1 K : Nat) }
  else if cw.1 = 78 then { d with n := (readD cw.2).1 } else if cw.1 = 77 then { d with mask := (readH cw.2).1 } else { d with loose := true }
/-- A line's deed, and what is wrong. -/
def parseD (K : Nat) (l : List UInt8) : Dd × Int :=
  match words l with
  | [] => (Dd.zero, 15)
  | w0 :: ws =>
    if opOf w0 = 0 then (Dd.zero, 15)
    else
      let ps := if opOf w0 = 2 ∧ ws.length = 4 then [65, 66, 82, 77] else partsL (opOf w0)
      if ws.length ≠ ps.length then (Dd.zero, 3)
      else if (ps.zip ws).all (fun cw => wordOk cw.1 cw.2) = false then (Dd.zero, 3)
      else
        let d := (ps.zip ws).foldl (fillP K) ⟨opOf w0, 0, 0, 0, 0, 0, false⟩
        if goodD d then (d, 0) else (Dd.zero, 5)

end Go.Proofs.YtladfdpcdjjifaaGreatDoor

/- Package prog, in plain words: which programs may be, how many steps they have, whether they are simple, which locks they take. No program in sight. -/
namespace Go.Proofs.YtladfdpcdjjifaaGreatDoor

/-- May a program be? -/
def checkP (p : List Dd) : Int := if 256 < p.length then 4 else if p.all goodD then 0 else 1
theorem checkP_long {p : List Dd} (h : 256 < p.length) : checkP p = 4 := by rw [checkP, if_pos h]
theorem checkP_bad {p : List Dd} (h : p.length ≤ 256) {d : Dd} (hd : d ∈ p) (hg : goodD d = false) : checkP p = 1 := by
  rw [checkP, if_neg (by omega), if_neg]
  intro hall
  rw [List.all_eq_true] at hall
  rw [hall d hd] at hg
  cases hg
theorem checkP_good {p : List Dd} (h : p.length ≤ 256) (hg : ∀ d ∈ p, goodD d = true) : checkP p = 0 := by
  rw [checkP, if_neg (by omega), if_pos (List.all_eq_true.2 hg)]
theorem checkP_zero {p : List Dd} (h : checkP p = 0) : p.length ≤ 256 ∧ ∀ d ∈ p, goodD d = true := by
  unfold checkP at h
  split at h
  · cases h
  · split at h
    · rename_i h1 h2
      exact ⟨by omega, List.all_eq_true.1 h2⟩
    · cases h
theorem checkP_cases (p : List Dd) : checkP p = 0 ∨ checkP p = 1 ∨ checkP p = 4 := by
  unfold checkP; split
  · simp
  · split <;> simp

/-- A deed's steps. -/
def costD (d : Dd) : Nat := if d.op = 1 then d.n else 1
/-- The sum, held. -/
def addS (x y : Nat) : Nat := if 18446744073709551615 < x + y then 18446744073709551615 else x + y
theorem addS_lt (x y : Nat) : addS x y < 18446744073709551616 := by unfold addS; split <;> omega
def costs (p : List Dd) : Nat := p.foldl (fun n d => addS n (costD d)) 0
theorem costs_snoc (p : List Dd) (d : Dd) : costs (p ++ [d]) = addS (costs p) (costD d) := by simp [costs, List.foldl_append]
theorem costs_lt (p : List Dd) : costs p < 18446744073709551616 := by
  rcases List.eq_nil_or_concat p with rfl | ⟨q, d, rfl⟩
  · simp [costs]
  · rw [List.concat_eq_append, costs_snoc]; exact addS_lt _ _
/-- Is the last deed an Exit? -/
def endsExit (p : List Dd) : Bool := match p.getLast? with
  | none => false
  | some d => d.op == 3
def stepsP (p : List Dd) : Nat := if checkP p = 0 then (if endsExit p then costs p else addS (costs p) 1) else 0
theorem stepsP_lt (p : List Dd) : stepsP p < 18446744073709551616 := by
  unfold stepsP
  split
  · split
    · exact costs_lt p
    · exact addS_lt _ _
  · omega

/-- One deed more of a program that is walked: the lock that is held (-1: none), the steps, the most steps that a lock was held. -/
def simS (s : Int × Nat × Nat) (d : Dd) : Option (Int × Nat × Nat) :=
  if d.op = 1 then some (s.1, addS s.2.1 d.n, s.2.2)
  else if d.op = 11 ∧ d.a = s.1 then some (-1, s.2.1, max s.2.2 (addS s.2.1 1))
  else if s.1 ≠ -1 ∨ d.op = 11 then none
  else if d.op = 9 ∨ d.op = 10 then some (d.a, 0, s.2.2)
  else some s
def simL (p : List Dd) : Option (Int × Nat × Nat) := p.foldl (fun o d => o.bind fun s => simS s d) (some (-1, 0, 0))
theorem simL_snoc (p : List Dd) (d : Dd) : simL (p ++ [d]) = (simL p).bind fun s => simS s d := by simp [simL, List.foldl_append]
theorem foldl_none {σ : Type} (f : σ → Dd → Option σ) : ∀ (p : List Dd), p.foldl (fun o d => o.bind fun s => f s d) none = none
  | [] => rfl
  | d :: t => by rw [List.foldl_cons]; exact foldl_none f t
theorem fold_take {σ : Type} (f : σ → Dd → Option σ) (s0 : Option σ) (p : List Dd) (k : Nat) (h : (p.take k).foldl (fun o d => o.bind fun s => f s d) s0 = none) : p.foldl (fun o d => o.bind fun s => f s d) s0 = none := by
  conv => lhs; rw [← List.take_append_drop k p]
  rw [List.foldl_append, h, foldl_none]
theorem simL_take (p : List Dd) (k : Nat) (h : simL (p.take k) = none) : simL p = none := fold_take simS _ p k h
/-- Is it simple, and how long does it hold a lock? -/
def simpleP (p : List Dd) : Nat × Bool := if checkP p = 0 then (match simL p with
  | none => (0, false)
  | some s => if s.1 = -1 then (s.2.2, true) else (0, false)) else (0, false)

/-- The document's: which lock is held, and how many steps. -/
def heldS (s : Int × Nat) (d : Dd) : Option (Int × Nat) :=
  if d.op = 9 ∨ d.op = 10 then (if 0 ≤ s.1 then none else some (d.a, 0))
  else if d.op = 11 then (if s.1 = d.a then some (-1, s.2) else none)
  else if 0 ≤ s.1 ∧ d.op ≠ 1 then none else some (s.1, addS s.2 (costD d))
def heldL (p : List Dd) : Option (Int × Nat) := p.foldl (fun o d => o.bind fun s => heldS s d) (some (-1, 0))
theorem heldL_snoc (p : List Dd) (d : Dd) : heldL (p ++ [d]) = (heldL p).bind fun s => heldS s d := by simp [heldL, List.foldl_append]
theorem heldL_take (p : List Dd) (k : Nat) (h : heldL (p.take k) = none) : heldL p = none := fold_take heldS _ p k h
/-- What held returns. -/
def heldR (p : List Dd) : Int × Nat × Bool := match heldL p with
  | none => (-1, 0, false)
  | some s => (s.1, s.2, true)
/-- The most steps before the unlocks among the first k deeds. -/
def mostR (p : List Dd) : Nat → Nat
  | 0 => 0
  | k + 1 => match p[k]? with
    | none => mostR p k
    | some d => if d.op = 11 then (if mostR p k < (heldR (p.take k)).2.1 + 1 then (heldR (p.take k)).2.1 + 1 else mostR p k) else mostR p k
def refSimpleP (p : List Dd) : Nat × Bool := if checkP p = 0 then (match heldL p with
  | none => (0, false)
  | some s => if 0 ≤ s.1 then (0, false) else (mostR p p.length, true)) else (0, false)

def sumC (p : List Dd) : Nat := (p.map costD).sum
theorem sumC_snoc (p : List Dd) (d : Dd) : sumC (p ++ [d]) = sumC p + costD d := by simp [sumC]
theorem goodD_n {d : Dd} (h : goodD d = true) (h1 : d.op = 1) : 1 ≤ d.n ∧ d.n ≤ 65536 := by
  simp [goodD, h1] at h
  omega
theorem goodD_a {d : Dd} (h : goodD d = true) : 0 ≤ d.a ∧ d.a < 64 := by
  simp [goodD] at h
  omega
theorem costD_le {d : Dd} (h : goodD d = true) : costD d ≤ 65536 := by
  unfold costD
  split
  · rename_i h1; exact (goodD_n h h1).2
  · omega
theorem sumC_le : ∀ (p : List Dd), (∀ d ∈ p, goodD d = true) → sumC p ≤ 65536 * p.length
  | [], _ => by simp [sumC]
  | d :: t, h => by
    have h1 := sumC_le t fun x hx => h x (by simp [hx])
    have h2 := costD_le (h d (by simp))
    simp only [sumC, List.map_cons, List.sum_cons, List.length_cons] at *
    omega
theorem sumC_take (p : List Dd) (k : Nat) : sumC (p.take k) ≤ sumC p := by
  conv => rhs; rw [← List.take_append_drop k p]
  simp only [sumC, List.map_append, List.sum_append]
  omega
theorem addS_small {x y : Nat} (h : x + y ≤ 18446744073709551615) : addS x y = x + y := by rw [addS, if_neg (by omega)]
theorem costs_sum (p : List Dd) (h : ∀ d ∈ p, goodD d = true) (hl : p.length ≤ 256) : ∀ k, k ≤ p.length → costs (p.take k) = sumC (p.take k) ∧ sumC (p.take k) ≤ 65536 * k
  | 0, _ => by simp [costs, sumC]
  | k + 1, hk => by
    obtain ⟨h1, h2⟩ := costs_sum p h hl k (by omega)
    have hd := costD_le (h p[k] (List.getElem_mem _))
    rw [List.take_succ_eq_append_getElem (by omega), costs_snoc, sumC_snoc, addS_small (by omega), h1]
    exact ⟨rfl, by omega⟩

/-- How a walk of the program's and one of the document's stand to each other behind k deeds. -/
def Both (p : List Dd) (k : Nat) : Prop :=
  (simL (p.take k) = none ∧ heldL (p.take k) = none) ∨
  ∃ (lk : Int) (n n' m : Nat), simL (p.take k) = some (lk, n, m) ∧ heldL (p.take k) = some (lk, n') ∧ (lk = -1 ∨ 0 ≤ lk) ∧ (0 ≤ lk → n = n') ∧ n ≤ 65536 * k ∧ n' ≤ 65536 * k ∧ m = mostR p k ∧ (0 ≤ lk → n ≤ sumC (p.take k)) ∧ m ≤ sumC (p.take k)
theorem both (p : List Dd) (h : ∀ d ∈ p, goodD d = true) (hl : p.length ≤ 256) : ∀ k, k ≤ p.length → Both p k
  | 0, _ => .inr ⟨-1, 0, 0, 0, rfl, rfl, .inl rfl, by omega, by omega, by omega, rfl, by omega, by omega⟩
  | k + 1, hk => by
    have hkl : k < p.length := by omega
    have hg := h p[k] (List.getElem_mem _)
    have hn := fun h1 => goodD_n hg h1
    have ha := goodD_a hg
    have hm : mostR p (k + 1) = if p[k].op = 11 then (if mostR p k < (heldR (p.take k)).2.1 + 1 then (heldR (p.take k)).2.1 + 1 else mostR p k) else mostR p k := by
      simp [mostR, List.getElem?_eq_getElem hkl]
    unfold Both
    rw [List.take_succ_eq_append_getElem hkl, simL_snoc, heldL_snoc, sumC_snoc, hm]
    rcases both p h hl k (by omega) with ⟨h1, h2⟩ | ⟨lk, n, n', m, h1, h2, h3, h4, h5, h6, h7, h8, h9⟩
    · rw [h1, h2]; exact .inl ⟨rfl, rfl⟩
    · have hr : (heldR (p.take k)).2.1 = n' := by rw [heldR, h2]
      rw [h1, h2, hr, ← h7]
      generalize p[k] = d at *
      generalize sumC (p.take k) = sc at *
      simp only [Option.bind_some]
      clear hm hr h1 h2 h7 hg
      by_cases e1 : d.op = 1
      · obtain ⟨e2, e3⟩ := hn e1
        have hc : costD d = d.n := by rw [costD, if_pos e1]
        have hs : simS (lk, n, m) d = some (lk, n + d.n, m) := by rw [simS, if_pos e1, addS_small (by simp only; omega)]
        have hh : heldS (lk, n') d = some (lk, n' + d.n) := by rw [heldS, if_neg (by omega), if_neg (by omega), if_neg (by omega), hc, addS_small (by simp only; omega)]
        rw [hs, hh, hc, if_neg (by omega)]
        exact .inr ⟨lk, _, _, m, rfl, rfl, h3, fun h => by rw [h4 h], by omega, by omega, rfl, fun h => by have := h8 h; omega, by omega⟩
      · have hc : costD d = 1 := by rw [costD, if_neg e1]
        rw [hc]
        by_cases e2 : d.op = 11
        · by_cases e3 : d.a = lk
          · have hs : simS (lk, n, m) d = some (-1, n, max m (n + 1)) := by rw [simS, if_neg e1, if_pos ⟨e2, e3⟩, addS_small (by simp only; omega)]
            have hh : heldS (lk, n') d = some (-1, n') := by rw [heldS, if_neg (by omega), if_pos e2, if_pos e3.symm]
            have hnn := h4 (by omega)
            have h8' := h8 (by omega)
            rw [hs, hh, if_pos e2]
            refine .inr ⟨-1, _, _, _, rfl, rfl, .inl rfl, by omega, by omega, by omega, ?_, by omega, by omega⟩
            subst hnn
            rw [Nat.max_def]; split <;> split <;> omega
          · have hs : simS (lk, n, m) d = none := by rw [simS, if_neg e1, if_neg (fun h => e3 h.2), if_pos (.inr e2)]
            have hh : heldS (lk, n') d = none := by rw [heldS, if_neg (by omega), if_pos e2, if_neg (fun h => e3 h.symm)]
            rw [hs, hh]; exact .inl ⟨rfl, rfl⟩
        · rw [if_neg e2]
          by_cases e3 : lk = -1
          · subst e3
            by_cases e4 : d.op = 9 ∨ d.op = 10
            · have hs : simS (-1, n, m) d = some (d.a, 0, m) := by rw [simS, if_neg e1, if_neg (fun h => e2 h.1), if_neg (by simp [e2]), if_pos e4]
              have hh : heldS (-1, n') d = some (d.a, 0) := by rw [heldS, if_pos e4, if_neg (by simp)]
              rw [hs, hh]
              exact .inr ⟨d.a, 0, 0, m, rfl, rfl, .inr ha.1, fun _ => rfl, by omega, by omega, rfl, by omega, by omega⟩
            · have hs : simS (-1, n, m) d = some (-1, n, m) := by rw [simS, if_neg e1, if_neg (fun h => e2 h.1), if_neg (by simp [e2]), if_neg e4]
              have hh : heldS (-1, n') d = some (-1, n' + 1) := by rw [heldS, if_neg e4, if_neg e2, if_neg (by simp), hc, addS_small (by simp only; omega)]
              rw [hs, hh]
              exact .inr ⟨-1, n, n' + 1, m, rfl, rfl, .inl rfl, by omega, by omega, by omega, rfl, by omega, by omega⟩
          · have hlk : 0 ≤ lk := by omega
            have hs : simS (lk, n, m) d = none := by rw [simS, if_neg e1, if_neg (fun h => e2 h.1), if_pos (.inl e3)]
            have hh : heldS (lk, n') d = none := by
              by_cases e4 : d.op = 9 ∨ d.op = 10
              · rw [heldS, if_pos e4, if_pos hlk]
              · rw [heldS, if_neg e4, if_neg e2, if_pos ⟨hlk, e1⟩]
            rw [hs, hh]; exact .inl ⟨rfl, rfl⟩
theorem simple_same (p : List Dd) : refSimpleP p = simpleP p := by
  unfold refSimpleP simpleP
  by_cases hc : checkP p = 0
  · rw [if_pos hc, if_pos hc]
    obtain ⟨hl, hg⟩ := checkP_zero hc
    have := both p hg hl p.length (Nat.le_refl _)
    unfold Both at this
    rw [List.take_of_length_le (Nat.le_refl _)] at this
    rcases this with ⟨h1, h2⟩ | ⟨lk, n, n', m, h1, h2, h3, h4, h5, h6, h7, h8, h9⟩
    · rw [h1, h2]
    · rw [h1, h2]
      simp only
      rcases h3 with rfl | h3
      · rw [if_neg (by omega), if_pos rfl, h7]
      · rw [if_pos h3, if_neg (by omega)]
  · rw [if_neg hc, if_neg hc]
theorem simple_le (p : List Dd) : (simpleP p).1 ≤ stepsP p := by
  unfold simpleP stepsP
  by_cases hc : checkP p = 0
  · rw [if_pos hc, if_pos hc]
    obtain ⟨hl, hg⟩ := checkP_zero hc
    have hb := both p hg hl p.length (Nat.le_refl _)
    have hcs := costs_sum p hg hl p.length (Nat.le_refl _)
    unfold Both at hb
    rw [List.take_of_length_le (Nat.le_refl _)] at hb hcs
    have hge : costs p ≤ if endsExit p = true then costs p else addS (costs p) 1 := by
      split
      · omega
      · rw [addS_small (by omega)]; omega
    rcases hb with ⟨h1, h2⟩ | ⟨lk, n, n', m, h1, h2, h3, h4, h5, h6, h7, h8, h9⟩
    · rw [h1]; simp
    · rw [h1]
      simp only
      split
      · simp only; omega
      · simp
  · rw [if_neg hc]; simp
theorem simpleP_lt (p : List Dd) : (simpleP p).1 < 18446744073709551616 := Nat.lt_of_le_of_lt (simple_le p) (stepsP_lt p)
/-- While a program is walked its numbers are small. -/
theorem sim_small (p : List Dd) (hc : checkP p = 0) (k : Nat) (hk : k ≤ p.length) {s : Int × Nat × Nat} (h : simL (p.take k) = some s) : s.2.1 ≤ 65536 * 256 ∧ s.2.2 ≤ 65536 * 256 ∧ (s.1 = -1 ∨ 0 ≤ s.1) := by
  obtain ⟨hl, hg⟩ := checkP_zero hc
  have hcs := costs_sum p hg hl k hk
  rcases both p hg hl k hk with ⟨h1, h2⟩ | ⟨lk, n, n', m, h1, h2, h3, h4, h5, h6, h7, h8, h9⟩
  · rw [h1] at h; cases h
  · rw [h1] at h; cases h
    exact ⟨by simp only; omega, by simp only; omega, h3⟩
theorem held_small (p : List Dd) (hc : checkP p = 0) (k : Nat) (hk : k ≤ p.length) {s : Int × Nat} (h : heldL (p.take k) = some s) : s.2 ≤ 65536 * 256 ∧ (s.1 = -1 ∨ 0 ≤ s.1) := by
  obtain ⟨hl, hg⟩ := checkP_zero hc
  rcases both p hg hl k hk with ⟨h1, h2⟩ | ⟨lk, n, n', m, h1, h2, h3, h4, h5, h6, h7, h8, h9⟩
  · rw [h2] at h; cases h
  · rw [h2] at h; cases h
    exact ⟨by simp only; omega, h3⟩

/-- The set of the locks that are taken. -/
def locksF (s : Nat) (d : Dd) : Nat := if d.op = 9 ∨ d.op = 10 then s ||| 2 ^ d.a.toNat else s
def locksP (p : List Dd) : Nat := if checkP p = 0 then p.foldl locksF 0 else 0
theorem locksF_lt {s : Nat} {d : Dd} (hs : s < 18446744073709551616) (hg : goodD d = true) : locksF s d < 18446744073709551616 := by
  have ha := goodD_a hg
  unfold locksF
  split
  · exact Nat.or_lt_two_pow (n := 64) hs (Nat.pow_lt_pow_right (by omega) (by omega))
  · exact hs

end Go.Proofs.YtladfdpcdjjifaaGreatDoor

/- Package duty, in plain words: which duties may be; a duty out of bytes. No program in sight. -/
namespace Go.Proofs.YtladfdpcdjjifaaGreatDoor

/-- A start. -/
structure St where
  prog : Int
  grade : Int
  mask : Nat
/-- A duty. -/
structure Du where
  cpus : Int
  threads : Int
  locks : Int
  cap : Int
  boost : Nat
  keep : Nat
  ratio : Nat
  progs : List (List Dd)
  starts : List St
def Du.zero : Du := ⟨0, 0, 0, 0, 0, 0, 0, [], []⟩

/-- Is it a power of two from 2 to 256? -/
def pow2 (c : Int) : Bool := decide (c = 2 ∨ c = 4 ∨ c = 8 ∨ c = 16 ∨ c = 32 ∨ c = 64 ∨ c = 128 ∨ c = 256)
/-- May its numbers be? -/
def sizedU (d : Du) : Bool :=
  decide (1 ≤ d.cpus ∧ d.cpus ≤ 64) && decide (1 ≤ d.threads ∧ d.threads ≤ 64) && decide (0 ≤ d.locks ∧ d.locks ≤ 64) && pow2 d.cap && decide (d.threads ≤ d.cap) && decide (1 ≤ d.boost ∧ d.boost ≤ 65536)
/-- What is wrong with the first program that may not be. -/
def badP : List (List Dd) → Int
  | [] => 0
  | p :: t => if checkP p ≠ 0 then checkP p else badP t
/-- What is wrong with a start. -/
def startC (np : Nat) (cpus : Int) (s : St) : Int :=
  if s.prog < 0 ∨ (np : Int) ≤ s.prog ∨ s.grade < 0 ∨ 7 < s.grade then 1 else if s.mask &&& (2 ^ cpus.toNat - 1) = 0 then 10 else 0
def badS (np : Nat) (cpus : Int) : List St → Int
  | [] => 0
  | s :: t => if startC np cpus s ≠ 0 then startC np cpus s else badS np cpus t
/-- What is wrong with a duty. -/
def checkU (d : Du) : Int :=
  if sizedU d = false then 5 else if 64 < d.progs.length ∨ 64 < d.starts.length then 4 else if badP d.progs ≠ 0 then badP d.progs else badS d.progs.length d.cpus d.starts

theorem badP_snoc (l : List (List Dd)) (p : List Dd) : badP (l ++ [p]) = if badP l ≠ 0 then badP l else checkP p := by
  induction l with
  | nil => simp only [List.nil_append, badP]; split <;> simp_all
  | cons a t ih =>
    simp only [List.cons_append, badP, ih]
    split
    · simp
    · rfl
theorem badP_take_zero {l : List (List Dd)} (h : badP l = 0) : ∀ p ∈ l, checkP p = 0 := by
  induction l with
  | nil => simp
  | cons a t ih =>
    rw [badP] at h
    split at h
    · rename_i h1; exact absurd h h1
    · rename_i h1
      intro p hp
      rcases List.mem_cons.1 hp with rfl | hp
      · simpa using h1
      · exact ih h p hp
theorem badP_at {l : List (List Dd)} {k : Nat} {p : List Dd} (hk : l[k]? = some p) (h0 : badP (l.take k) = 0) (hp : checkP p ≠ 0) : badP l = checkP p := by
  have hs : l = l.take k ++ p :: l.drop (k + 1) := by
    obtain ⟨hlt, he⟩ := List.getElem?_eq_some_iff.1 hk
    rw [← he, List.getElem_cons_drop, List.take_append_drop]
  have h1 : ∀ (a b : List (List Dd)), badP a = 0 → badP (a ++ p :: b) = checkP p := by
    intro a b ha
    induction a with
    | nil => rw [List.nil_append, badP, if_pos hp]
    | cons x t ih =>
      rw [badP] at ha
      split at ha
      · rename_i hx; exact absurd ha hx
      · rename_i hx; rw [List.cons_append, badP, if_neg hx, ih ha]
  conv => lhs; rw [hs]
  exact h1 _ _ h0
theorem badS_at {np : Nat} {cpus : Int} {l : List St} {k : Nat} {s : St} (hk : l[k]? = some s) (h0 : badS np cpus (l.take k) = 0) (hp : startC np cpus s ≠ 0) : badS np cpus l = startC np cpus s := by
  have hs : l = l.take k ++ s :: l.drop (k + 1) := by
    obtain ⟨hlt, he⟩ := List.getElem?_eq_some_iff.1 hk
    rw [← he, List.getElem_cons_drop, List.take_append_drop]
  have h1 : ∀ (a b : List St), badS np cpus a = 0 → badS np cpus (a ++ s :: b) = startC np cpus s := by
    intro a b ha
    induction a with
    | nil => rw [List.nil_append, badS, if_pos hp]
    | cons x t ih =>
      rw [badS] at ha
      split at ha
      · rename_i hx; exact absurd ha hx
      · rename_i hx; rw [List.cons_append, badS, if_neg hx, ih ha]
  conv => lhs; rw [hs]
  exact h1 _ _ h0
theorem badS_snoc (np : Nat) (cpus : Int) (l : List St) (s : St) : badS np cpus (l ++ [s]) = if badS np cpus l ≠ 0 then badS np cpus l else startC np cpus s := by
  induction l with
  | nil => simp only [List.nil_append, badS]; split <;> simp_all
  | cons a t ih =>
    simp only [List.cons_append, badS, ih]
    split
    · simp
    · rfl

end Go.Proofs.YtladfdpcdjjifaaGreatDoor

