/- Numbers and things as bytes: plain functions on lists, with no program in sight; Arguments opened: from what a row says of its arguments (readings) to the words for memory. No program in sight; The arguments of package bosunlaw36 opened: acts. -/
import Derived.Test.YtahpjoknmclbfaaDoorMem
import Derived.Laws.IdiomStrings
import Derived.ProofKit
import Derived.OpenShut
import Derived.ShutString
import Derived.ChangeOld
import Derived.Deep.Slices
import Derived.Deep.Fields
import Derived.ChangeSame
import Derived.Test.YtahpjoknmclbfaaDoorChecked
import Derived.Test.YtahpjoknmclbfaaDoorStM
import Derived.Test.YtahpjoknmclbfaaDoorPlA

/- Numbers and things as bytes: plain functions on lists, with no program in sight. -/
namespace Go.Proofs.YtahpjoknmclbfaaDoor
open Go.RowKit

/-- A byte as a value. -/
def B (b : UInt8) : Value := .int .u8 (b.toNat : Int)
theorem B_one (l : List UInt8) : ∀ u ∈ l.map B, u.oneCell' = true := by
  intro u hu
  obtain ⟨b, _, rfl⟩ := List.mem_map.1 hu
  rfl
theorem B_ofNat (n : Nat) (h : n < 256) : B (UInt8.ofNat n) = .int .u8 (n : Int) := by
  simp [B, Nat.mod_eq_of_lt h]

/-- string(b), b a slice that reads as l. -/
theorem run_string_of {P : Program} {w : World} {A : Option Addr} {m c : Nat} {l : List UInt8} (h : Reads w 1 A m (l.map B)) (src dst e : TypeId) (hs : P.underlying src = some (.slice e)) (he : P.underlying e = some (.int .u8)) (hd : P.underlying dst = some .string) :
    (convert src dst (.slice A m c)).run P w = .ok (.string ⟨l.toArray⟩) w := by
  have hm : m = l.length := by have := h.1; simpa using this.symm
  subst hm
  cases l with
  | nil =>
    rw [run_convert_bytes_string w src dst e _ _ c hs he hd]
    cases A with
    | none => simp [Conv.bytesToString]; rfl
    | some a => 
      have := run_convert_bytes_back w src dst e a c [] hs he hd (by simp)
      rw [run_convert_bytes_string w src dst e _ _ c hs he hd] at this
      exact this
  | cons b l =>
    obtain ⟨ad, rfl, hc⟩ := h.2 (by simp)
    exact run_convert_bytes_back w src dst e ad c (b :: l) hs he hd (fun j hj => hc j _ (by rw [List.getElem?_map, List.getElem?_eq_getElem hj]; rfl))

/-- A number's bytes, the greatest first, no zero ahead; fuel f. -/
def beN : Nat → Nat → List UInt8
  | 0, _ => []
  | f + 1, x => if x = 0 then [] else beN f (x / 256) ++ [UInt8.ofNat (x % 256)]
def be (x : Nat) : List UInt8 := beN 8 x

theorem beN_len (f x : Nat) : (beN f x).length ≤ f := by
  induction f generalizing x with
  | zero => simp [beN]
  | succ f ih =>
    simp only [beN]; split
    · simp
    · have := ih (x / 256); simp; omega
theorem be_len (x : Nat) : (be x).length ≤ 8 := beN_len 8 x

theorem beN_zero (f : Nat) : beN f 0 = [] := by cases f <;> simp [beN]

/-- The count of bytes, from the low end. -/
theorem beN_len_step (f x : Nat) (h : 0 < x) : (beN (f + 1) x).length = (beN f (x / 256)).length + 1 := by
  simp [beN, Nat.pos_iff_ne_zero.1 h]
theorem beN_len_pos (f x : Nat) (h : 0 < x) : 0 < (beN (f + 1) x).length := by
  rw [beN_len_step f x h]; omega

/-- byte i of the number, counted from the low end. -/
theorem beN_get (f x : Nat) (hx : x < 256 ^ f) : ∀ j, j < (beN f x).length → (beN f x)[(beN f x).length - 1 - j]? = some (UInt8.ofNat (x / 256 ^ j % 256)) := by
  induction f generalizing x with
  | zero => intro j hj; simp [beN] at hj
  | succ f ih =>
    intro j hj
    simp only [beN] at hj ⊢
    split at hj
    · simp at hj
    · next h0 =>
      rw [if_neg h0]
      simp only [List.length_append, List.length_cons, List.length_nil, Nat.zero_add] at hj ⊢
      cases j with
      | zero => simp
      | succ j =>
        rw [List.getElem?_append_left (by omega)]
        have hd : x / 256 < 256 ^ f := by
          rw [Nat.div_lt_iff_lt_mul (by omega)]; rw [Nat.pow_succ] at hx; exact hx
        have := ih (x / 256) hd j (by omega)
        rw [show (beN f (x / 256)).length + 1 - 1 - (j + 1) = (beN f (x / 256)).length - 1 - j by omega, this]
        rw [Nat.div_div_eq_div_mul, Nat.pow_succ, Nat.mul_comm]

/-- After the byte that is counted last nothing is left. -/
theorem be_div (f x : Nat) (hx : x < 256 ^ f) : x / 256 ^ (beN f x).length = 0 := by
  induction f generalizing x with
  | zero => simp at hx; simp [hx]
  | succ f ih =>
    simp only [beN]
    split
    · next h => simp [h]
    · have hd : x / 256 < 256 ^ f := by
        rw [Nat.div_lt_iff_lt_mul (by omega)]; rw [Nat.pow_succ] at hx; exact hx
      have := ih (x / 256) hd
      simp only [List.length_append, List.length_cons, List.length_nil, Nat.zero_add]
      rw [Nat.pow_succ, Nat.mul_comm, ← Nat.div_div_eq_div_mul]; exact this

theorem beN_fuel (f x : Nat) (hx : x < 256 ^ f) : beN (f + 1) x = beN f x := by
  induction f generalizing x with
  | zero => simp at hx; simp [hx, beN]
  | succ f ih =>
    simp only [beN]
    split
    · rfl
    · have hd : x / 256 < 256 ^ f := by
        rw [Nat.div_lt_iff_lt_mul (by omega)]; rw [Nat.pow_succ] at hx; exact hx
      have := ih (x / 256) hd
      rw [← this]; simp only [beN]

theorem count_step {x k : Nat} (hx : x < 256 ^ 8) (h : 0 < x / 256 ^ k) (hl : (be x).length = k + (beN (8 - k) (x / 256 ^ k)).length) (hk : k ≤ 8) :
   k < 8 ∧ (be x).length = k + 1 + (beN (8 - (k + 1)) (x / 256 ^ (k + 1))).length := by
  have hk8 : k < 8 := by
    rcases Nat.lt_or_ge k 8 with h8 | h8
    · exact h8
    · have : k = 8 := by omega
      subst this
      rw [Nat.div_eq_of_lt hx] at h; omega
  refine ⟨hk8, ?_⟩
  obtain ⟨f, hf⟩ : ∃ f, 8 - k = f + 1 := ⟨8 - k - 1, by omega⟩
  rw [hf, beN_len_step f _ h] at hl
  rw [show 8 - (k + 1) = f by omega, Nat.pow_succ, ← Nat.div_div_eq_div_mul, hl]; omega
theorem be_drop_step (x k : Nat) (hx : x < 256 ^ 8) (hk : k < (be x).length) : (be x).drop ((be x).length - (k + 1)) = UInt8.ofNat (x / 256 ^ k % 256) :: (be x).drop ((be x).length - k) := by
  have hg : (be x)[(be x).length - 1 - k]? = some (UInt8.ofNat (x / 256 ^ k % 256)) := beN_get 8 x hx k hk
  have hlt : (be x).length - (k + 1) < (be x).length := by omega
  rw [List.drop_eq_getElem_cons hlt]
  rw [show (be x).length - 1 - k = (be x).length - (k + 1) by omega, List.getElem?_eq_getElem hlt] at hg
  injection hg with hg
  rw [hg, show (be x).length - (k + 1) + 1 = (be x).length - k by omega]

/-- A number as bytes: how many, then those. -/
def encNum (x : Nat) : List UInt8 := UInt8.ofNat (be x).length :: be x
theorem encNum_len (x : Nat) : (encNum x).length = (be x).length + 1 := by simp [encNum]
def encTruth (b : Bool) : List UInt8 := if b then [1] else [0]
def encBytes (l : List UInt8) : List UInt8 := encNum l.length ++ l

/-- The cells of the writer's buffer after j rounds. -/
def fillA (x j : Nat) : Array Value := ((UInt8.ofNat (be x).length :: (List.replicate ((be x).length - j) 0 ++ (be x).drop ((be x).length - j))).map B).toArray
theorem fillA_zero (x : Nat) : fillA x 0 = ((UInt8.ofNat (be x).length :: List.replicate (be x).length 0).map B).toArray := by simp [fillA]
theorem fillA_done (x : Nat) : fillA x (be x).length = ((encNum x).map B).toArray := by simp [fillA, encNum]
theorem fillA_size (x j : Nat) (_hj : j ≤ (be x).length) : (fillA x j).size = (be x).length + 1 := by simp [fillA]
theorem fillA_step (x j : Nat) (hx : x < 256 ^ 8) (hj : j < (be x).length) : (fillA x j).setIfInBounds ((be x).length - j) (B (UInt8.ofNat (x / 256 ^ j % 256))) = fillA x (j + 1) := by
  have hg := beN_get 8 x hx j hj
  have hg' : (be x)[(be x).length - 1 - j]? = some (UInt8.ofNat (x / 256 ^ j % 256)) := hg
  clear hg
  unfold fillA
  generalize be x = l at *
  generalize UInt8.ofNat (x / 256 ^ j % 256) = c at *
  obtain ⟨m, hm⟩ : ∃ m, l.length = m + j + 1 := ⟨l.length - j - 1, by omega⟩
  rw [show l.length - 1 - j = m by omega] at hg'
  have hlt : m < l.length := by omega
  have hc : l[m] = c := by rw [List.getElem?_eq_getElem hlt] at hg'; injection hg'
  rw [show l.length - j = m + 1 by omega, show l.length - (j + 1) = m by omega, List.drop_eq_getElem_cons hlt, hc, List.setIfInBounds_toArray]
  simp [List.replicate_succ']

/-- A byte that is read. -/
theorem mod256 (x : Nat) : (UInt8.ofNat (x % 256)).toNat = x % 256 := by simp

/-- A reader's state: what is wrong first, and the bytes that are left. -/
abbrev RS := Int × List UInt8
def failS (s : RS) (e : Int) : RS := if s.1 = 0 then (e, s.2) else s
def takeS (s : RS) (n : Nat) : RS × Option (List UInt8) :=
  if s.1 ≠ 0 then (s, none) else if s.2.length < n then ((2, s.2), none) else ((0, s.2.drop n), some (s.2.take n))
def byteS (s : RS) : RS × UInt8 := match takeS s 1 with
  | (s', some l) => (s', l.headD 0)
  | (s', none) => (s', 0)
def valN (l : List UInt8) : Nat := l.foldl (fun x c => x * 256 + c.toNat) 0
def numS (s : RS) : RS × Nat :=
  if 8 < (byteS s).2.toNat then (failS (byteS s).1 3, 0) else
  match takeS (byteS s).1 (byteS s).2.toNat with
  | (s', none) => (s', 0)
  | (s', some l) => if l.headD 1 = 0 then (failS s' 3, 0) else (s', valN l)
def uptoS (s : RS) (most : Nat) : RS × Nat := if most < (numS s).2 then (failS (numS s).1 5, 0) else numS s
def truthS (s : RS) : RS × Bool := ((if 1 < (byteS s).2.toNat then failS (byteS s).1 3 else (byteS s).1), (byteS s).2.toNat == 1)
def bytesS (s : RS) (most : Int) : RS × List UInt8 :=
  if (numS s).1.1 ≠ 0 then ((numS s).1, []) else
  if most < (numS s).2 then (failS (numS s).1 5, []) else
  match takeS (numS s).1 (numS s).2 with
  | (s', some l) => (s', l)
  | (s', none) => (s', [])
def leftS (s : RS) : Nat := if s.1 = 0 then s.2.length else 0
def doneS (s : RS) : Int := if 0 < leftS s then 3 else s.1

theorem valN_snoc (l : List UInt8) (c : UInt8) : valN (l ++ [c]) = valN l * 256 + c.toNat := by simp [valN, List.foldl_append]
theorem valN_from (l : List UInt8) : ∀ a : Nat, l.foldl (fun x c => x * 256 + c.toNat) a < (a + 1) * 256 ^ l.length := by
  induction l with
  | nil => intro a; simp
  | cons c l ih =>
    intro a
    have h1 := ih (a * 256 + c.toNat)
    have h2 := c.toNat_lt
    have h3 : (a * 256 + c.toNat + 1) * 256 ^ l.length ≤ ((a + 1) * 256) * 256 ^ l.length := Nat.mul_le_mul_right _ (by omega)
    rw [List.foldl_cons, List.length_cons, Nat.pow_succ, Nat.mul_comm (256 ^ l.length) 256, ← Nat.mul_assoc]
    omega
theorem valN_lt (l : List UInt8) : valN l < 256 ^ l.length := by simpa [valN] using valN_from l 0
theorem valN_bound (l : List UInt8) (h : l.length ≤ 8) : valN l < 18446744073709551616 := by
  have h1 := valN_lt l
  have h2 : 256 ^ l.length ≤ 256 ^ 8 := Nat.pow_le_pow_right (by omega) h
  omega
theorem numS_lt (s : RS) : (numS s).2 < 18446744073709551616 := by
  unfold numS
  split
  · simp
  · next h =>
    unfold takeS
    split
    · simp
    · next l hl =>
      split at hl
      · simp at hl
      · split at hl
        · simp at hl
        · simp at hl
          obtain ⟨_, rfl⟩ := hl
          split
          · simp
          · exact valN_bound _ (by simp; omega)

end Go.Proofs.YtahpjoknmclbfaaDoor

/- Arguments opened: from what a row says of its arguments (readings) to the words for memory. No program in sight. -/
namespace Go.Proofs.YtahpjoknmclbfaaDoor
open Go.ChangeShapes Go.WideShapes Go.ChangeAt Go.RowKit Go.Deep
open Go.ChangeMaps (open_string shut_string)

section
variable {H : Type} {enc : TypeId × Value → H} {P : Program} {w : World} {base : Nat} {spare : Nat → Bool} {held : Bool}
/-- A slice of structs of one-cell fields: every element's fields, cell by cell. -/
theorem open_slice_fields {t e : TypeId} {fs : Array Field} {fuel : Nat} {cs : List Value} {x : DataW H × List MemPlace} (ht : P.underlying t = some (.slice e)) (he : P.underlying e = some (.struct fs))
    (hone : oneCellFields P fs = true) (hC : P.cellsOf e = fs.size) (h : DataW.trod enc P w base spare held fuel t cs = some x) :
    cs = [.slice none 0 0] ∨
    ∃ (a : Addr) (len cap : Nat), cs = [.slice (some a) len cap] ∧ len ≤ cap ∧ cap ≤ maxLen ∧
      ∀ i, i < len → ∃ (n : Nat), ∀ (j : Nat) (f : Field), fs[j]? = some f → ∃ (v : Value) (y : DataW H × List MemPlace), w.cell? (a.add (i * fs.size + j)) = some v ∧ DataW.trod enc P w base spare held n f.type [v] = some y := by
  rcases open_slice ht h with ⟨h0, _⟩ | ⟨a, len, cap, m, n, D, Pl, hcs, hb, hl, hm, hmm, hx, hi⟩
  · exact .inl h0
  · refine .inr ⟨a, len, cap, hcs, hl, hm, fun i him => ?_⟩
    obtain ⟨cs', hc, ht'⟩ := hi i (by rw [hmm]; split <;> omega)
    rw [hC] at hc
    obtain ⟨ys, n', hn', hy, hlen, hyl, hf⟩ := DataW.trod_struct he ht'
    obtain ⟨_, hcl, hat⟩ := World.cells?_some hc
    refine ⟨n', fun j f hj => ?_⟩
    obtain ⟨ho, hk⟩ := hone_of hone j f hj
    have hjl : j < fs.size := (Array.getElem?_eq_some_iff.1 hj).1
    have hcell := hat j hjl
    have hv : cs'[j]? = some (cs'[j]'(by omega)) := List.getElem?_eq_getElem (by omega)
    have h1 := hf j f hj
    rw [ho, hk] at h1
    have hone' : (cs'.drop j).take 1 = [cs'[j]'(by omega)] := by
      rw [List.drop_eq_getElem_cons (by omega)]
      rfl
    rw [hone'] at h1
    have hys : ys[j]? = some (ys[j]'(by omega)) := List.getElem?_eq_getElem (by omega)
    refine ⟨_, _, ?_, h1.trans hys⟩
    rw [← Go.Deep.add_add, hcell, hv]

/-- A slice of bytes. -/
theorem open_bytes {t e : TypeId} {fuel : Nat} {v : Value} {x : DataW H × List MemPlace} (ht : P.underlying t = some (.slice e)) (he : P.underlying e = some (.int .u8)) (hC : P.cellsOf e = 1)
    (h : DataW.trod enc P w base spare held fuel t [v] = some x) : ∃ (A : Option Addr) (m c : Nat) (l : List UInt8), v = .slice A m c ∧ Reads w 1 A m (l.map B) ∧ m ≤ c ∧ c ≤ maxLen := by
  rcases open_slice1 ht hC h with ⟨h0, _⟩ | ⟨a, len, cap, m, n, V, D, Pl, hcs, hb, hl, hm, hmm, hx, hi⟩
  · simp at h0
    exact ⟨none, 0, 0, [], h0, Reads.none_, Nat.le_refl _, Nat.zero_le _⟩
  · simp at hcs
    have hi' : ∀ i, i < len → ∃ b : UInt8, w.cell? (a.add i) = some (B b) := by
      intro i hil
      obtain ⟨h1, h2⟩ := hi i (by rw [hmm]; split <;> omega)
      obtain ⟨z, e0, _, wz⟩ := DataW.trod_int he h2
      simp at e0
      have hbd := bounds_u8 wz
      refine ⟨UInt8.ofNat z.toNat, ?_⟩
      rw [h1, e0, B_ofNat _ (by omega)]
      congr 2; omega
    obtain ⟨f, hf⟩ : ∃ f : Nat → UInt8, ∀ i, i < len → w.cell? (a.add i) = some (B (f i)) :=
      ⟨fun i => if hil : i < len then (hi' i hil).choose else 0, fun i hil => by simp only [dif_pos hil]; exact (hi' i hil).choose_spec⟩
    refine ⟨some a, len, cap, (List.range len).map f, hcs, ⟨by simp, fun _ => ⟨a, rfl, fun j u hu => ?_⟩⟩, hl, hm⟩
    obtain ⟨hj, hu⟩ := List.getElem?_eq_some_iff.1 hu
    simp at hj hu
    subst hu
    exact hf j hj

/-- A slice that is an argument itself lies in memory. -/
theorem slice_lt {r : Reach} {b0 : Nat} {t e : TypeId} {a : Addr} {len cap : Nat} (ht : P.underlying t = some (.slice e)) (h : Value.okWide P w r b0 t (.slice (some a) len cap)) : a.block < w.heap.size := by
  simp only [Value.okWide, ht, Cell.okWide, Cell.ok, World.has] at h
  obtain ⟨_, _, _, _, row, cells, hs, _⟩ := h
  unfold World.shape? at hs
  split at hs
  · next h => exact lt_of_block h
  · cases hs
theorem open_i64 {t : TypeId} {k : IntKind} {fuel : Nat} {v : Value} {x : DataW H × List MemPlace} (ht : P.underlying t = some (.int k)) (h : DataW.trod enc P w base spare held fuel t [v] = some x) : ∃ z : Int, v = .int k z ∧ (Lit.int k z).wf = true := by
  obtain ⟨z, e0, _, wz⟩ := DataW.trod_int ht h
  simp at e0
  exact ⟨z, e0, wz⟩
end

end Go.Proofs.YtahpjoknmclbfaaDoor

/- The arguments of package bosunlaw36 opened: acts. -/
namespace Go.Proofs.YtahpjoknmclbfaaDoor
open Go.ChangeShapes Go.WideShapes Go.ChangeAt Go.RowKit Go.Deep

/-- An act. -/
structure A36 where
  who : Nat
  name : Nat
  x : Nat
  lv : Int
  p : Bool
  A : Option Addr
  n : Nat
  c : Nat
  l : List Nat
def a36 (a : A36) : List Value := [.int .u8 a.who, .int .u8 a.name, U64 a.x, .int .i64 a.lv, .bool a.p, .slice a.A a.n a.c]
theorem a36_len (a : A36) : (a36 a).length = 6 := rfl
def OkA (w : World) (a : A36) : Prop := a.who < 256 ∧ a.name < 256 ∧ Reads w 1 a.A a.n (a.l.map U64)

section
variable {H : Type} {enc : TypeId × Value → H} {w : World} {base : Nat} {spare : Nat → Bool} {held : Bool}
theorem bounds36 {z : Int} (h : (Lit.int .u64 z).wf = true) : 0 ≤ z := by
  have h1 : IntKind.u64.min = 0 := by decide
  simp [Lit.wf, h1] at h
  omega
theorem bounds8 {z : Int} (h : (Lit.int .u8 z).wf = true) : 0 ≤ z ∧ z < 256 := by
  have h1 : IntKind.u8.min = 0 := by decide
  have h2 : IntKind.u8.max = 255 := by decide
  simp [Lit.wf, h1, h2] at h
  omega
theorem open_u64s {fuel : Nat} {v : Value} {x : DataW H × List MemPlace} (h : DataW.trod enc Tryd.prog w base spare held fuel 31 [v] = some x) : ∃ (A : Option Addr) (m c : Nat) (l : List Nat), v = .slice A m c ∧ Reads w 1 A m (l.map U64) := by
  rcases open_slice1 Tryd.underlying31 (by kernel_rfl) h with ⟨h0, _⟩ | ⟨a, len, cap, m, n, V, D, Pl, hcs, hb, hl, hm, hmm, hx, hi⟩
  · simp at h0
    exact ⟨none, 0, 0, [], h0, Reads.none_⟩
  · simp at hcs
    have hi' : ∀ i, i < len → ∃ b : Nat, w.cell? (a.add i) = some (U64 b) := by
      intro i hil
      obtain ⟨h1, h2⟩ := hi i (by rw [hmm]; split <;> omega)
      obtain ⟨z, e0, _, wz⟩ := DataW.trod_int Tryd.underlying30 h2
      simp at e0
      have hbd := bounds36 wz
      refine ⟨z.toNat, ?_⟩
      rw [h1, e0]
      congr 2
      omega
    obtain ⟨f, hf⟩ : ∃ f : Nat → Nat, ∀ i, i < len → w.cell? (a.add i) = some (U64 (f i)) :=
      ⟨fun i => if hil : i < len then (hi' i hil).choose else 0, fun i hil => by simp only [dif_pos hil]; exact (hi' i hil).choose_spec⟩
    refine ⟨some a, len, cap, (List.range len).map f, hcs, ⟨by simp, fun _ => ⟨a, rfl, fun j u hu => ?_⟩⟩⟩
    obtain ⟨hj, hu⟩ := List.getElem?_eq_some_iff.1 hu
    simp at hj hu
    subst hu
    exact hf j hj
theorem open_acts {fuel : Nat} {v : Value} {x : DataW H × List MemPlace} (h : DataW.trod enc Tryd.prog w base spare held fuel 22 [v] = some x) :
    ∃ (A : Option Addr) (n c : Nat) (acts : List A36), v = .slice A n c ∧ Reads w 6 A n (acts.flatMap a36) ∧ n ≤ maxLen ∧ ∀ a ∈ acts, OkA w a := by
  rcases open_slice_fields Tryd.underlying22 Tryd.underlying33 (by kernel_rfl) (by kernel_rfl) h with h0 | ⟨a, len, cap, hcs, hl, hm, hi⟩
  · simp at h0
    exact ⟨none, 0, 0, [], h0, Reads.none_, by simp, by simp⟩
  · simp at hcs
    have hi' : ∀ i, i < len → ∃ t : A36, (∀ j u, (a36 t)[j]? = some u → w.cell? (a.add (i * 6 + j)) = some u) ∧ OkA w t := by
      intro i hil
      obtain ⟨n, hf⟩ := hi i hil
      obtain ⟨v0, y0, c0, r0⟩ := hf 0 _ rfl
      obtain ⟨v1, y1, c1, r1⟩ := hf 1 _ rfl
      obtain ⟨v2, y2, c2, r2⟩ := hf 2 _ rfl
      obtain ⟨v3, y3, c3, r3⟩ := hf 3 _ rfl
      obtain ⟨v4, y4, c4, r4⟩ := hf 4 _ rfl
      obtain ⟨v5, y5, c5, r5⟩ := hf 5 _ rfl
      obtain ⟨z0, rfl, w0⟩ := open_i64 Tryd.underlying5 r0
      obtain ⟨z1, rfl, w1⟩ := open_i64 Tryd.underlying5 r1
      obtain ⟨z2, rfl, w2⟩ := open_i64 Tryd.underlying30 r2
      obtain ⟨z3, rfl, w3⟩ := open_i64 Tryd.underlying3 r3
      obtain ⟨z4, e4⟩ := DataW.trod_bool Tryd.underlying4 r4
      obtain ⟨A, m, c, l, rfl, hr⟩ := open_u64s r5
      have b0 := bounds8 w0
      have b1 := bounds8 w1
      have b2 := bounds36 w2
      have e4' : v4 = .bool z4 := by simpa using e4.1
      subst e4'
      refine ⟨⟨z0.toNat, z1.toNat, z2.toNat, z3, z4, A, m, c, l⟩, fun j u hu => ?_, by simp only; omega, by simp only; omega, hr⟩
      rcases j with _ | _ | _ | _ | _ | _ | j
      · simp [a36] at hu; subst hu; rw [show max z0 0 = z0 by omega]; exact c0
      · simp [a36] at hu; subst hu; rw [show max z1 0 = z1 by omega]; exact c1
      · simp [a36] at hu; subst hu; exact c2.trans (congrArg (fun z => some (Value.int .u64 z)) (by omega))
      · simp [a36] at hu; subst hu; exact c3
      · simp [a36] at hu; subst hu; exact c4
      · simp [a36] at hu; subst hu; exact c5
      · simp [a36] at hu
    obtain ⟨f, hf⟩ : ∃ f : Nat → A36, ∀ i, i < len → (∀ j u, (a36 (f i))[j]? = some u → w.cell? (a.add (i * 6 + j)) = some u) ∧ OkA w (f i) :=
      ⟨fun i => if hil : i < len then (hi' i hil).choose else ⟨0, 0, 0, 0, false, none, 0, 0, []⟩, fun i hil => by simp only [dif_pos hil]; exact (hi' i hil).choose_spec⟩
    have hll : ((List.range len).map f).length = len := by simp
    refine ⟨some a, len, cap, (List.range len).map f, hcs, ⟨by rw [flatK_len a36 6 a36_len, hll], fun _ => ⟨a, rfl, fun j u hu => ?_⟩⟩, Nat.le_trans hl hm, fun t ht => ?_⟩
    · have hj := (List.getElem?_eq_some_iff.1 hu).1
      rw [flatK_len a36 6 a36_len, hll] at hj
      have hq : j / 6 < len := by omega
      have he := flatK_get a36 6 a36_len ((List.range len).map f) (j / 6) (j % 6) (by rw [hll]; exact hq) (by omega)
      rw [show j / 6 * 6 + j % 6 = j by omega, hu] at he
      simp only [List.getElem_map, List.getElem_range] at he
      have := (hf (j / 6) hq).1 (j % 6) u he.symm
      rw [show j / 6 * 6 + j % 6 = j by omega] at this
      exact this
    · obtain ⟨i, hi2, rfl⟩ := List.mem_map.1 ht
      exact (hf i (List.mem_range.1 hi2)).2
end
end Go.Proofs.YtahpjoknmclbfaaDoor

