/- Events' lines parsed, in plain words. No program is walked here. -/
import Derived.Test.YtohkgdgdblnbfaaDoorEventL
import Derived.Test.YtohkgdgdblnbfaaDoorNumsI
namespace Go.Proofs.YtohkgdgdblnbfaaDoor
open Go.RowKit

def Ev.zero : Ev := ⟨0, 0, 0, 0, 0, 0, 0, 0⟩
/-- The number of a kind's name; 0: it is none. -/
def kindOf (w : List UInt8) : Int :=
  if w = kindD 1 then 1 else if w = kindD 2 then 2 else if w = kindD 3 then 3 else if w = kindD 4 then 4 else if w = kindD 5 then 5 else if w = kindD 6 then 6 else if w = kindD 7 then 7 else if w = kindD 8 then 8
  else if w = kindD 9 then 9 else if w = kindD 10 then 10 else 0
/-- The number of an op's name; -1: it is none. -/
def opOfE (w : List UInt8) : Int :=
  if w = opE 0 then 0 else if w = opE 1 then 1 else if w = opE 2 then 2 else if w = opE 3 then 3 else if w = opE 4 then 4 else if w = opE 5 then 5 else if w = opE 6 then 6 else if w = opE 7 then 7 else if w = opE 8 then 8
  else if w = opE 9 then 9 else if w = opE 10 then 10 else if w = opE 11 then 11 else -1
theorem kindOf_at {w : List UInt8} {k : Nat} (h1 : 1 ≤ k) (hk : k ≤ 10) (hw : kindD k = w) : kindOf w = k := by
  subst hw
  have : k = 1 ∨ k = 2 ∨ k = 3 ∨ k = 4 ∨ k = 5 ∨ k = 6 ∨ k = 7 ∨ k = 8 ∨ k = 9 ∨ k = 10 := by omega
  rcases this with rfl | rfl | rfl | rfl | rfl | rfl | rfl | rfl | rfl | rfl <;> decide
theorem kindOf_none {w : List UInt8} (h : ∀ j : Nat, 1 ≤ j → j < 11 → kindD j ≠ w) : kindOf w = 0 := by
  unfold kindOf
  rw [if_neg (fun e => h 1 (by omega) (by omega) e.symm), if_neg (fun e => h 2 (by omega) (by omega) e.symm), if_neg (fun e => h 3 (by omega) (by omega) e.symm), if_neg (fun e => h 4 (by omega) (by omega) e.symm), if_neg (fun e => h 5 (by omega) (by omega) e.symm), if_neg (fun e => h 6 (by omega) (by omega) e.symm), if_neg (fun e => h 7 (by omega) (by omega) e.symm), if_neg (fun e => h 8 (by omega) (by omega) e.symm), if_neg (fun e => h 9 (by omega) (by omega) e.symm), if_neg (fun e => h 10 (by omega) (by omega) e.symm)]
theorem opOfE_at {w : List UInt8} {k : Nat} (hk : k ≤ 11) (hw : opE k = w) : opOfE w = k := by
  subst hw
  have : k = 0 ∨ k = 1 ∨ k = 2 ∨ k = 3 ∨ k = 4 ∨ k = 5 ∨ k = 6 ∨ k = 7 ∨ k = 8 ∨ k = 9 ∨ k = 10 ∨ k = 11 := by omega
  rcases this with rfl | rfl | rfl | rfl | rfl | rfl | rfl | rfl | rfl | rfl | rfl | rfl <;> decide
theorem opOfE_none {w : List UInt8} (h : ∀ j : Nat, j < 12 → opE j ≠ w) : opOfE w = -1 := by
  unfold opOfE
  rw [if_neg (fun e => h 0 (by omega) e.symm), if_neg (fun e => h 1 (by omega) e.symm), if_neg (fun e => h 2 (by omega) e.symm), if_neg (fun e => h 3 (by omega) e.symm), if_neg (fun e => h 4 (by omega) e.symm), if_neg (fun e => h 5 (by omega) e.symm), if_neg (fun e => h 6 (by omega) e.symm), if_neg (fun e => h 7 (by omega) e.symm), if_neg (fun e => h 8 (by omega) e.symm), if_neg (fun e => h 9 (by omega) e.symm), if_neg (fun e => h 10 (by omega) e.symm), if_neg (fun e => h 11 (by omega) e.symm)]
theorem kindOf_range (w : List UInt8) : 0 ≤ kindOf w ∧ kindOf w ≤ 10 := by unfold kindOf; (repeat' split) <;> omega
theorem opOfE_range (w : List UInt8) : -1 ≤ opOfE w ∧ opOfE w ≤ 11 := by unfold opOfE; (repeat' split) <;> omega
/-- A number that is not above a greatest one, and what is wrong. -/
def numE (w : List UInt8) (most : Nat) : Nat × Int := if (readD w).2 ≠ 0 then (0, (readD w).2) else if most < (readD w).1 then (0, 5) else ((readD w).1, 0)
/-- What is wrong, with one thing more. -/
def addE (er e : Int) : Int := if e = 0 then er else if er = 0 ∨ e = 3 then e else er
def kindC (w : List UInt8) : Int := if kindOf w = 0 then 3 else 0
def opC (w : List UInt8) : Int := if opOfE w < 0 then 3 else 0
/-- What is wrong with eight words. -/
def wrongE (w0 w1 w2 w3 w4 w5 w6 w7 : List UInt8) : Int :=
  addE (addE (addE (addE (addE (addE (addE (addE 0 (numE w0 9223372036854775807).2) (numE w1 63).2) (kindC w2)) (numE w3 63).2) (numE w4 4294967295).2) (opC w5)) (numE w6 15).2) (numE w7 18446744073709551615).2
/-- The event of eight words. -/
def evOf (w0 w1 w2 w3 w4 w5 w6 w7 : List UInt8) : Ev := ⟨(numE w0 9223372036854775807).1, (numE w1 63).1, kindOf w2, (numE w3 63).1, (numE w4 4294967295).1, max 0 (opOfE w5), (numE w6 15).1, (numE w7 18446744073709551615).1⟩
def parse8 (w0 w1 w2 w3 w4 w5 w6 w7 : List UInt8) : Ev × Int := if wrongE w0 w1 w2 w3 w4 w5 w6 w7 = 0 then (evOf w0 w1 w2 w3 w4 w5 w6 w7, 0) else (Ev.zero, wrongE w0 w1 w2 w3 w4 w5 w6 w7)
/-- A line's event, and what is wrong. -/
def parseE (l : List UInt8) : Ev × Int :=
  match words l with
  | [w0, w1, w2, w3, w4, w5, w6, w7] => parse8 w0 w1 w2 w3 w4 w5 w6 w7
  | _ => (Ev.zero, 3)
theorem parseE_8 {l w0 w1 w2 w3 w4 w5 w6 w7 : List UInt8} (h : words l = [w0, w1, w2, w3, w4, w5, w6, w7]) : parseE l = parse8 w0 w1 w2 w3 w4 w5 w6 w7 := by rw [parseE, h]
theorem list8 {α : Type} (l : List α) (h : l.length = 8) : ∃ a b c d e f g i, l = [a, b, c, d, e, f, g, i] := by
  match l, h with
  | [a, b, c, d, e, f, g, i], _ => exact ⟨a, b, c, d, e, f, g, i, rfl⟩
theorem parseE_no {l : List UInt8} (h : (words l).length ≠ 8) : parseE l = (Ev.zero, 3) := by
  unfold parseE
  split
  · next h8 => rw [h8] at h; simp at h
  · rfl
theorem numE_code (w : List UInt8) (m : Nat) : (numE w m).2 = 0 ∨ (numE w m).2 = 3 ∨ (numE w m).2 = 5 := by
  have := readD_code w
  unfold numE
  split
  · exact this
  · split <;> simp
theorem numE_le (w : List UInt8) (m : Nat) : (numE w m).1 ≤ m := by
  unfold numE; split
  · simp
  · split <;> simp; omega
theorem numE_dec (x m : Nat) (hx : x < 18446744073709551616) (hm : x ≤ m) : numE (dec x) m = (x, 0) := by
  unfold numE
  rw [read_dec x hx]
  simp; omega
theorem addE_code {a b : Int} (ha : a = 0 ∨ a = 3 ∨ a = 5) (hb : b = 0 ∨ b = 3 ∨ b = 5) : addE a b = 0 ∨ addE a b = 3 ∨ addE a b = 5 := by
  rcases ha with rfl | rfl | rfl <;> rcases hb with rfl | rfl | rfl <;> decide
theorem addE_3 {a b : Int} (ha : a = 0 ∨ a = 3 ∨ a = 5) (hb : b = 0 ∨ b = 3 ∨ b = 5) : addE a b = 3 ↔ a = 3 ∨ b = 3 := by
  rcases ha with rfl | rfl | rfl <;> rcases hb with rfl | rfl | rfl <;> decide
theorem addE_0 {a b : Int} (ha : a = 0 ∨ a = 3 ∨ a = 5) (hb : b = 0 ∨ b = 3 ∨ b = 5) : addE a b = 0 ↔ a = 0 ∧ b = 0 := by
  rcases ha with rfl | rfl | rfl <;> rcases hb with rfl | rfl | rfl <;> decide
theorem kindC_code (w : List UInt8) : kindC w = 0 ∨ kindC w = 3 ∨ kindC w = 5 := by unfold kindC; split <;> simp
theorem opC_code (w : List UInt8) : opC w = 0 ∨ opC w = 3 ∨ opC w = 5 := by unfold opC; split <;> simp
theorem wrongE_all (w0 w1 w2 w3 w4 w5 w6 w7 : List UInt8) :
    (wrongE w0 w1 w2 w3 w4 w5 w6 w7 = 0 ∨ wrongE w0 w1 w2 w3 w4 w5 w6 w7 = 3 ∨ wrongE w0 w1 w2 w3 w4 w5 w6 w7 = 5) ∧
    (wrongE w0 w1 w2 w3 w4 w5 w6 w7 = 3 ↔ (((((((((numE w0 9223372036854775807).2 = 3 ∨ (numE w1 63).2 = 3) ∨ kindC w2 = 3) ∨ (numE w3 63).2 = 3) ∨ (numE w4 4294967295).2 = 3) ∨ opC w5 = 3) ∨ (numE w6 15).2 = 3) ∨ (numE w7 18446744073709551615).2 = 3))) ∧
    (wrongE w0 w1 w2 w3 w4 w5 w6 w7 = 0 ↔ (((((((((numE w0 9223372036854775807).2 = 0 ∧ (numE w1 63).2 = 0) ∧ kindC w2 = 0) ∧ (numE w3 63).2 = 0) ∧ (numE w4 4294967295).2 = 0) ∧ opC w5 = 0) ∧ (numE w6 15).2 = 0) ∧ (numE w7 18446744073709551615).2 = 0))) := by
  have c0 := numE_code w0 9223372036854775807
  have c1 := numE_code w1 63
  have c2 := kindC_code w2
  have c3 := numE_code w3 63
  have c4 := numE_code w4 4294967295
  have c5 := opC_code w5
  have c6 := numE_code w6 15
  have c7 := numE_code w7 18446744073709551615
  have z : (0 : Int) = 0 ∨ (0 : Int) = 3 ∨ (0 : Int) = 5 := .inl rfl
  have d0 := addE_code z c0
  have d1 := addE_code d0 c1
  have d2 := addE_code d1 c2
  have d3 := addE_code d2 c3
  have d4 := addE_code d3 c4
  have d5 := addE_code d4 c5
  have d6 := addE_code d5 c6
  have d7 := addE_code d6 c7
  refine ⟨d7, ?_, ?_⟩
  · unfold wrongE
    rw [addE_3 d6 c7, addE_3 d5 c6, addE_3 d4 c5, addE_3 d3 c4, addE_3 d2 c3, addE_3 d1 c2, addE_3 d0 c1, addE_3 z c0]
    simp
  · unfold wrongE
    rw [addE_0 d6 c7, addE_0 d5 c6, addE_0 d4 c5, addE_0 d3 c4, addE_0 d2 c3, addE_0 d1 c2, addE_0 d0 c1, addE_0 z c0]
    simp

theorem isWord_decE (x : Nat) : isWord (dec x) := by
  refine ⟨decN_ne 19 x, fun c hc => ?_⟩
  have h := List.all_eq_true.1 (decN_dig 20 x) c hc
  rw [isDig_iff] at h
  rintro rfl
  simp at h
theorem words_lineE (ws : List (List UInt8)) (h : ∀ w ∈ ws, isWord w) : words (joinS [32] ws) = ws := by
  have := words_join [32] (.inl rfl) [] (.inl rfl) ws h
  simpa using this
theorem isWord_kind (k : Int) (h1 : 1 ≤ k) (h2 : k ≤ 10) : isWord (kindD k) := by
  have : k = 1 ∨ k = 2 ∨ k = 3 ∨ k = 4 ∨ k = 5 ∨ k = 6 ∨ k = 7 ∨ k = 8 ∨ k = 9 ∨ k = 10 := by omega
  rcases this with rfl | rfl | rfl | rfl | rfl | rfl | rfl | rfl | rfl | rfl <;> exact ⟨by decide, by decide⟩
theorem isWord_op (k : Int) (h1 : 0 ≤ k) (h2 : k ≤ 11) : isWord (opE k) := by
  have : k = 0 ∨ k = 1 ∨ k = 2 ∨ k = 3 ∨ k = 4 ∨ k = 5 ∨ k = 6 ∨ k = 7 ∨ k = 8 ∨ k = 9 ∨ k = 10 ∨ k = 11 := by omega
  rcases this with rfl | rfl | rfl | rfl | rfl | rfl | rfl | rfl | rfl | rfl | rfl | rfl <;> exact ⟨by decide, by decide⟩
/-- A good event is parsed from its line. -/
theorem parse_lineE (e : Ev) (hg : goodE e = true) (hs : e.step ≤ 9223372036854775807) (hgn : e.gen < 4294967296) (hn : e.n < 18446744073709551616) : parseE (lineE e) = (e, 0) := by
  have hr := hg
  simp only [goodE, decide_eq_true_eq] at hr
  obtain ⟨r1, r2, r3, r4, r5, r6, r7, r8, r9, r10, r11⟩ := hr
  have hw : words (lineE e) = wordsE e := by
    rw [lineE, if_pos hg]
    exact words_lineE _ (by simp only [wordsE, List.forall_mem_cons]; exact ⟨isWord_decE _, isWord_decE _, isWord_kind _ r4 r5, isWord_decE _, isWord_decE _, isWord_op _ r8 r9, isWord_decE _, isWord_decE _, by simp⟩)
  rw [parseE_8 hw]
  have n0 := numE_dec e.step.toNat 9223372036854775807 (by omega) (by omega)
  have n1 := numE_dec e.cpu.toNat 63 (by omega) (by omega)
  have n3 := numE_dec e.slot.toNat 63 (by omega) (by omega)
  have n4 := numE_dec e.gen 4294967295 (by omega) (by omega)
  have n6 := numE_dec e.code.toNat 15 (by omega) (by omega)
  have n7 := numE_dec e.n 18446744073709551615 (by omega) (by omega)
  have k2 : kindOf (kindD e.kind) = e.kind := by
    have := kindOf_at (w := kindD e.kind) (k := e.kind.toNat) (by omega) (by omega) (by rw [show ((e.kind.toNat : Nat) : Int) = e.kind by omega])
    omega
  have k5 : opOfE (opE e.op) = e.op := by
    have := opOfE_at (w := opE e.op) (k := e.op.toNat) (by omega) (by rw [show ((e.op.toNat : Nat) : Int) = e.op by omega])
    omega
  have hz : wrongE (dec e.step.toNat) (dec e.cpu.toNat) (kindD e.kind) (dec e.slot.toNat) (dec e.gen) (opE e.op) (dec e.code.toNat) (dec e.n) = 0 := by
    rw [(wrongE_all _ _ _ _ _ _ _ _).2.2, n0, n1, n3, n4, n6, n7, kindC, opC, k2, k5]
    simp; omega
  rw [parse8, if_pos hz, evOf, n0, n1, n3, n4, n6, n7, k2, k5]
  obtain ⟨s, c, k, t, g, o, d, n⟩ := e
  simp only at *
  rw [show ((s.toNat : Nat) : Int) = s by omega, show ((c.toNat : Nat) : Int) = c by omega, show ((t.toNat : Nat) : Int) = t by omega, show ((d.toNat : Nat) : Int) = d by omega, Int.max_eq_right r8]
theorem parse_lineE_bad (e : Ev) (hg : goodE e = false) : parseE (lineE e) = (Ev.zero, 3) := by
  rw [lineE, if_neg (by simp [hg])]
  exact parseE_no (by decide)

/-- A number, or -1: it is above a greatest one. -/
def smallE (x most : Nat) : Int := if most < x then -1 else x
theorem smallE_nn (x m : Nat) : 0 ≤ smallE x m ↔ x ≤ m := by unfold smallE; split <;> omega
theorem smallE_le (x m : Nat) : smallE x m ≤ m := by unfold smallE; split <;> omega
set_option maxHeartbeats 1600000 in
/-- What the document's Parse says when the words are all of their forms. -/
theorem parse8_far (w0 w1 w2 w3 w4 w5 w6 w7 : List UInt8) (hk : kindOf w2 ≠ 0) (ho : 0 ≤ opOfE w5)
    (h3 : (readD w0).2 ≠ 3 ∧ (readD w1).2 ≠ 3 ∧ (readD w3).2 ≠ 3 ∧ (readD w4).2 ≠ 3 ∧ (readD w6).2 ≠ 3 ∧ (readD w7).2 ≠ 3)
    (far : Bool) (hfar : far = (((((((readD w0).2 != 0) || ((readD w1).2 != 0)) || ((readD w3).2 != 0)) || ((readD w4).2 != 0)) || ((readD w6).2 != 0)) || ((readD w7).2 != 0))) (g : Ev)
    (hgd : g = ⟨smallE (readD w0).1 9223372036854775807, smallE (readD w1).1 63, kindOf w2, smallE (readD w3).1 63, (readD w4).1 % 4294967296, opOfE w5, smallE (readD w6).1 15, (readD w7).1⟩) :
    parse8 w0 w1 w2 w3 w4 w5 w6 w7 = if (far || decide (4294967295 < (readD w4).1)) = true ∨ goodE g = false then (Ev.zero, 5) else (g, 0) := by
  obtain ⟨a0, a1, a3, a4, a6, a7⟩ := h3
  have z2 : kindC w2 = 0 := by rw [kindC, if_neg hk]
  have z5 : opC w5 = 0 := by rw [opC, if_neg (by omega)]
  obtain ⟨q1, q2, q3⟩ := wrongE_all w0 w1 w2 w3 w4 w5 w6 w7
  have r0 := readD_code w0
  have r1 := readD_code w1
  have r3 := readD_code w3
  have r4 := readD_code w4
  have r6 := readD_code w6
  have r7 := readD_code w7
  have l7 := readD_lt w7
  have hkr := kindOf_range w2
  have hor := opOfE_range w5
  have n3 : ∀ w m, (readD w).2 ≠ 3 → (numE w m).2 ≠ 3 := fun w m h => by
    unfold numE; split
    · exact h
    · split <;> simp
  have hno3 : wrongE w0 w1 w2 w3 w4 w5 w6 w7 ≠ 3 := by
    intro h
    rcases q2.1 h with ((((((h | h) | h) | h) | h) | h) | h) | h
    · exact n3 w0 9223372036854775807 a0 h
    · exact n3 w1 63 a1 h
    · rw [z2] at h; exact absurd h (by decide)
    · exact n3 w3 63 a3 h
    · exact n3 w4 4294967295 a4 h
    · rw [z5] at h; exact absurd h (by decide)
    · exact n3 w6 15 a6 h
    · exact n3 w7 18446744073709551615 a7 h
  have nz : ∀ w m, (numE w m).2 = 0 ↔ (readD w).2 = 0 ∧ (readD w).1 ≤ m := fun w m => by
    unfold numE; split
    · next h => simp [h]
    · next h => split <;> simp <;> omega
  have hgood : goodE g = true ↔ (((readD w0).1 ≤ 9223372036854775807 ∧ (readD w1).1 ≤ 63) ∧ (readD w3).1 ≤ 63) ∧ (readD w6).1 ≤ 15 := by
    rw [hgd]
    clear q1 q2 q3 n3 hno3 nz r0 r1 r3 r4 r6 r7 l7 z2 z5 a0 a1 a3 a4 a6 a7 hfar hgd
    simp only [goodE, decide_eq_true_eq]
    have s0 := smallE_nn (readD w0).1 9223372036854775807
    have s1 := smallE_nn (readD w1).1 63
    have s3 := smallE_nn (readD w3).1 63
    have s6 := smallE_nn (readD w6).1 15
    have t1 := smallE_le (readD w1).1 63
    have t3 := smallE_le (readD w3).1 63
    have t6 := smallE_le (readD w6).1 15
    rw [s0, s1, s3, s6]
    clear s0 s1 s3 s6
    generalize smallE (readD w1).1 63 = u1 at *
    generalize smallE (readD w3).1 63 = u3 at *
    generalize smallE (readD w6).1 15 = u6 at *
    generalize kindOf w2 = kk at *
    generalize opOfE w5 = oo at *
    generalize (readD w0).1 = v0
    generalize (readD w1).1 = v1
    generalize (readD w3).1 = v3
    generalize (readD w6).1 = v6
    omega
  have hF : far = true ↔ ((readD w0).2 ≠ 0 ∨ (readD w1).2 ≠ 0 ∨ (readD w3).2 ≠ 0 ∨ (readD w4).2 ≠ 0 ∨ (readD w6).2 ≠ 0 ∨ (readD w7).2 ≠ 0) := by rw [hfar]; simp only [Bool.or_eq_true, bne_iff_ne, or_assoc]
  have e0 := nz w0 9223372036854775807
  have e1 := nz w1 63
  have e3 := nz w3 63
  have e4 := nz w4 4294967295
  have e6 := nz w6 15
  have e7 := nz w7 18446744073709551615
  have hall : wrongE w0 w1 w2 w3 w4 w5 w6 w7 = 0 ↔ ¬ ((far || decide (4294967295 < (readD w4).1)) = true ∨ goodE g = false) := by
    constructor
    · intro h
      obtain ⟨⟨⟨⟨⟨⟨⟨h0, h1⟩, _⟩, h3⟩, h4⟩, _⟩, h6⟩, h7⟩ := q3.1 h
      have k0 := e0.1 h0
      have k1 := e1.1 h1
      have k3 := e3.1 h3
      have k4 := e4.1 h4
      have k6 := e6.1 h6
      have k7 := e7.1 h7
      rintro (hx | hx)
      · rw [Bool.or_eq_true, decide_eq_true_eq] at hx
        rcases hx with hx | hx
        · rcases hF.1 hx with h | h | h | h | h | h
          · exact h k0.1
          · exact h k1.1
          · exact h k3.1
          · exact h k4.1
          · exact h k6.1
          · exact h k7.1
        · exact absurd k4.2 (by omega)
      · rw [hgood.2 ⟨⟨⟨k0.2, k1.2⟩, k3.2⟩, k6.2⟩] at hx; cases hx
    · intro h
      have hg : goodE g = true := by
        cases hgg : goodE g
        · exact absurd (.inr hgg) h
        · rfl
      have hf : ¬ far = true := fun hx => h (.inl (by simp [hx]))
      have h4 : ¬ 4294967295 < (readD w4).1 := fun hx => h (.inl (by simp [hx]))
      obtain ⟨⟨⟨g0, g1⟩, g3⟩, g6⟩ := hgood.1 hg
      have f0 : (readD w0).2 = 0 := Classical.byContradiction fun hx => hf (hF.2 (.inl hx))
      have f1 : (readD w1).2 = 0 := Classical.byContradiction fun hx => hf (hF.2 (.inr (.inl hx)))
      have f3 : (readD w3).2 = 0 := Classical.byContradiction fun hx => hf (hF.2 (.inr (.inr (.inl hx))))
      have f4 : (readD w4).2 = 0 := Classical.byContradiction fun hx => hf (hF.2 (.inr (.inr (.inr (.inl hx)))))
      have f6 : (readD w6).2 = 0 := Classical.byContradiction fun hx => hf (hF.2 (.inr (.inr (.inr (.inr (.inl hx))))))
      have f7 : (readD w7).2 = 0 := Classical.byContradiction fun hx => hf (hF.2 (.inr (.inr (.inr (.inr (.inr hx))))))
      exact q3.2 ⟨⟨⟨⟨⟨⟨⟨e0.2 ⟨f0, g0⟩, e1.2 ⟨f1, g1⟩⟩, z2⟩, e3.2 ⟨f3, g3⟩⟩, e4.2 ⟨f4, Nat.le_of_not_lt h4⟩⟩, z5⟩, e6.2 ⟨f6, g6⟩⟩, e7.2 ⟨f7, l7⟩⟩
  rw [parse8]
  by_cases hw : wrongE w0 w1 w2 w3 w4 w5 w6 w7 = 0
  · rw [if_pos hw, if_neg (hall.1 hw)]
    obtain ⟨⟨⟨⟨⟨⟨⟨h0, h1⟩, _⟩, h3⟩, h4⟩, _⟩, h6⟩, h7⟩ := q3.1 hw
    have k0 := e0.1 h0
    have k1 := e1.1 h1
    have k3 := e3.1 h3
    have k4 := e4.1 h4
    have k6 := e6.1 h6
    have k7 := e7.1 h7
    have ne : ∀ w m, (readD w).2 = 0 → (readD w).1 ≤ m → numE w m = ((readD w).1, 0) := fun w m h1 h2 => by
      unfold numE; rw [if_neg (by simp [h1]), if_neg (by omega)]
    have se : ∀ x m : Nat, x ≤ m → smallE x m = x := fun x m h => by rw [smallE, if_neg (by omega)]
    rw [hgd, evOf, ne w0 _ k0.1 k0.2, ne w1 _ k1.1 k1.2, ne w3 _ k3.1 k3.2, ne w4 _ k4.1 k4.2, ne w6 _ k6.1 k6.2, ne w7 _ k7.1 k7.2]
    rw [se _ _ k0.2, se _ _ k1.2, se _ _ k3.2, se _ _ k6.2, Nat.mod_eq_of_lt (Nat.lt_succ_of_le k4.2), Int.max_eq_right ho]
  · have h5 : wrongE w0 w1 w2 w3 w4 w5 w6 w7 = 5 := by
      rcases q1 with h | h | h
      · exact absurd h hw
      · exact absurd h hno3
      · exact h
    have hnn := Classical.not_not.1 (mt hall.2 hw)
    rw [if_neg hw, if_pos hnn, h5]

end Go.Proofs.YtohkgdgdblnbfaaDoor
