/- Package deed: Parse answers as parseD says (the cases printed by a program: gen/parse.py). -/
import Derived.Test.YtladfdpcdjjifaaGreatDoorDeedQ
import Derived.Test.YtladfdpcdjjifaaGreatDoorDeedL2
namespace Go.Proofs.YtladfdpcdjjifaaGreatDoor
open Go.RowKit

theorem list_1 {α : Type} {l : List α} (h : l.length = 1) : ∃ a, l = [a] := by match l, h with | [a], _ => exact ⟨a, rfl⟩
theorem list_2 {α : Type} {l : List α} (h : l.length = 2) : ∃ a b, l = [a, b] := by match l, h with | [a, b], _ => exact ⟨a, b, rfl⟩
theorem list_4 {α : Type} {l : List α} (h : l.length = 4) : ∃ a b c d, l = [a, b, c, d] := by match l, h with | [a, b, c, d], _ => exact ⟨a, b, c, d, rfl⟩
theorem list_5 {α : Type} {l : List α} (h : l.length = 5) : ∃ a b c d e, l = [a, b, c, d, e] := by match l, h with | [a, b, c, d, e], _ => exact ⟨a, b, c, d, e, rfl⟩
theorem words_len0 (l : List UInt8) : ∀ cur, (∀ w ∈ wordsF cur l, w.length ≤ cur.length + l.length) ∧ (wordsF cur l).length ≤ l.length + 1 := by
  induction l with
  | nil => intro cur; unfold wordsF; split <;> simp
  | cons c t ih =>
    intro cur
    unfold wordsF
    split
    · split
      · have := ih []
        refine ⟨fun w hw => ?_, ?_⟩
        · have := this.1 w hw; simp at this ⊢; omega
        · have := this.2; simp; omega
      · have := ih []
        refine ⟨fun w hw => ?_, ?_⟩
        · rcases List.mem_cons.1 hw with rfl | hw
          · simp
          · have := this.1 w hw; simp at this ⊢; omega
        · have := this.2; simp; omega
    · have := ih (cur ++ [c])
      refine ⟨fun w hw => ?_, ?_⟩
      · have := this.1 w hw; simp at this ⊢; omega
      · have := this.2; simp; omega
theorem parseD_none (K : Nat) (l : List UInt8) (hw : words l = []) : parseD K l = (Dd.zero, 15) := by unfold parseD; rw [hw]
theorem parseD_word (K : Nat) (l w0 : List UInt8) (ws : List (List UInt8)) (hw : words l = w0 :: ws) (hop : opOf w0 = 0) : parseD K l = (Dd.zero, 15) := by
  unfold parseD; rw [hw]; simp [hop]

theorem parseD_op1 (K : Nat) (l w0 x1 : List UInt8) (hw : words l = w0 :: [x1]) (hop : opOf w0 = 1) :
    parseD K l = parsed ⟨1, 0, 0, 0, (readD x1).1, 0, false⟩ (false || (readD x1).2 != 0) := by
  unfold parseD; rw [hw]
  simp only [hop]
  by_cases h1 : (readD x1).2 = 0 <;> simp [partsL, wordOk, fillP, parsed, h1]

theorem parseD_op2 (K : Nat) (l w0 x1 x2 x3 x4 : List UInt8) (hw : words l = w0 :: [x1, x2, x3, x4]) (hop : opOf w0 = 2) :
    parseD K l = parsed ⟨2, ((min (readD x1).1 K : Nat) : Int), ((min (readD x2).1 K : Nat) : Int), ((min (readD x3).1 K : Nat) : Int), 0, (readH x4).1, false⟩ ((((false || (readD x1).2 != 0) || (readD x2).2 != 0) || (readD x3).2 != 0) || (readH x4).2 != 0) := by
  unfold parseD; rw [hw]
  simp only [hop]
  by_cases h1 : (readD x1).2 = 0 <;> by_cases h2 : (readD x2).2 = 0 <;> by_cases h3 : (readD x3).2 = 0 <;> by_cases h4 : (readH x4).2 = 0 <;> simp [wordOk, fillP, parsed, h1, h2, h3, h4]

theorem parseD_op2l (K : Nat) (l w0 x1 x2 x3 x4 x5 : List UInt8) (hw : words l = w0 :: [x1, x2, x3, x4, x5]) (hop : opOf w0 = 2) :
    parseD K l = parsed ⟨2, ((min (readD x1).1 K : Nat) : Int), ((min (readD x2).1 K : Nat) : Int), ((min (readD x3).1 K : Nat) : Int), 0, (readH x4).1, true⟩ (((((false || (readD x1).2 != 0) || (readD x2).2 != 0) || (readD x3).2 != 0) || (readH x4).2 != 0) || x5 != [108, 111, 111, 115, 101]) := by
  unfold parseD; rw [hw]
  simp only [hop]
  by_cases h1 : (readD x1).2 = 0 <;> by_cases h2 : (readD x2).2 = 0 <;> by_cases h3 : (readD x3).2 = 0 <;> by_cases h4 : (readH x4).2 = 0 <;> by_cases h5 : x5 = [108, 111, 111, 115, 101] <;> simp [partsL, wordOk, fillP, parsed, h1, h2, h3, h4, h5]

theorem parseD_op3 (K : Nat) (l w0 x1 : List UInt8) (hw : words l = w0 :: [x1]) (hop : opOf w0 = 3) :
    parseD K l = parsed ⟨3, 0, 0, 0, (readD x1).1, 0, false⟩ (false || (readD x1).2 != 0) := by
  unfold parseD; rw [hw]
  simp only [hop]
  by_cases h1 : (readD x1).2 = 0 <;> simp [partsL, wordOk, fillP, parsed, h1]

theorem parseD_op4 (K : Nat) (l w0 x1 : List UInt8) (hw : words l = w0 :: [x1]) (hop : opOf w0 = 4) :
    parseD K l = parsed ⟨4, 0, 0, ((min (readD x1).1 K : Nat) : Int), 0, 0, false⟩ (false || (readD x1).2 != 0) := by
  unfold parseD; rw [hw]
  simp only [hop]
  by_cases h1 : (readD x1).2 = 0 <;> simp [partsL, wordOk, fillP, parsed, h1]

theorem parseD_op5 (K : Nat) (l w0 : List UInt8) (hw : words l = w0 :: []) (hop : opOf w0 = 5) :
    parseD K l = parsed ⟨5, 0, 0, 0, 0, 0, false⟩ false := by
  unfold parseD; rw [hw]
  simp only [hop]
  simp [partsL, wordOk, parsed]

theorem parseD_op6 (K : Nat) (l w0 x1 : List UInt8) (hw : words l = w0 :: [x1]) (hop : opOf w0 = 6) :
    parseD K l = parsed ⟨6, 0, 0, 0, (readD x1).1, 0, false⟩ (false || (readD x1).2 != 0) := by
  unfold parseD; rw [hw]
  simp only [hop]
  by_cases h1 : (readD x1).2 = 0 <;> simp [partsL, wordOk, fillP, parsed, h1]

theorem parseD_op7 (K : Nat) (l w0 x1 x2 : List UInt8) (hw : words l = w0 :: [x1, x2]) (hop : opOf w0 = 7) :
    parseD K l = parsed ⟨7, 0, 0, ((min (readD x1).1 K : Nat) : Int), 0, (readH x2).1, false⟩ ((false || (readD x1).2 != 0) || (readH x2).2 != 0) := by
  unfold parseD; rw [hw]
  simp only [hop]
  by_cases h1 : (readD x1).2 = 0 <;> by_cases h2 : (readH x2).2 = 0 <;> simp [partsL, wordOk, fillP, parsed, h1, h2]

theorem parseD_op8 (K : Nat) (l w0 x1 x2 : List UInt8) (hw : words l = w0 :: [x1, x2]) (hop : opOf w0 = 8) :
    parseD K l = parsed ⟨8, 0, ((min (readD x2).1 K : Nat) : Int), ((min (readD x1).1 K : Nat) : Int), 0, 0, false⟩ ((false || (readD x1).2 != 0) || (readD x2).2 != 0) := by
  unfold parseD; rw [hw]
  simp only [hop]
  by_cases h1 : (readD x1).2 = 0 <;> by_cases h2 : (readD x2).2 = 0 <;> simp [partsL, wordOk, fillP, parsed, h1, h2]

theorem parseD_op9 (K : Nat) (l w0 x1 : List UInt8) (hw : words l = w0 :: [x1]) (hop : opOf w0 = 9) :
    parseD K l = parsed ⟨9, ((min (readD x1).1 K : Nat) : Int), 0, 0, 0, 0, false⟩ (false || (readD x1).2 != 0) := by
  unfold parseD; rw [hw]
  simp only [hop]
  by_cases h1 : (readD x1).2 = 0 <;> simp [partsL, wordOk, fillP, parsed, h1]

theorem parseD_op10 (K : Nat) (l w0 x1 x2 : List UInt8) (hw : words l = w0 :: [x1, x2]) (hop : opOf w0 = 10) :
    parseD K l = parsed ⟨10, ((min (readD x1).1 K : Nat) : Int), 0, 0, (readD x2).1, 0, false⟩ ((false || (readD x1).2 != 0) || (readD x2).2 != 0) := by
  unfold parseD; rw [hw]
  simp only [hop]
  by_cases h1 : (readD x1).2 = 0 <;> by_cases h2 : (readD x2).2 = 0 <;> simp [partsL, wordOk, fillP, parsed, h1, h2]

theorem parseD_op11 (K : Nat) (l w0 x1 : List UInt8) (hw : words l = w0 :: [x1]) (hop : opOf w0 = 11) :
    parseD K l = parsed ⟨11, ((min (readD x1).1 K : Nat) : Int), 0, 0, 0, 0, false⟩ (false || (readD x1).2 != 0) := by
  unfold parseD; rw [hw]
  simp only [hop]
  by_cases h1 : (readD x1).2 = 0 <;> simp [partsL, wordOk, fillP, parsed, h1]

theorem parsed_eq {p q : Dd × Int} (h : p = q) {w : World} {l : List UInt8} (hc : Calls Tryz.prog 26 #[strV l] w fun e w' => e = .returned (.tuple #[.agg (dC p.1.op p.1.a p.1.b p.1.r p.1.n p.1.mask p.1.loose), .int .i64 p.2]) ∧ Kept [] w w') :
    Calls Tryz.prog 26 #[strV l] w fun e w' => e = .returned (.tuple #[.agg (dCd q.1), .int .i64 q.2]) ∧ Kept [] w w' := by subst h; exact hc
theorem opOf_range (w0 : List UInt8) : 0 ≤ opOf w0 ∧ opOf w0 ≤ 11 := by
  unfold opOf; (repeat' split) <;> omega
theorem words_each (l : List UInt8) : (∀ x ∈ words l, x.length ≤ l.length) ∧ (words l).length ≤ l.length + 1 := by
  have h := words_len0 l []
  exact ⟨fun x hx => by have := h.1 x hx; simpa using this, h.2⟩
theorem partsL_partsN (k : Int) (h1 : 1 ≤ k) (h2 : k ≤ 11) (h3 : k ≠ 2) : (partsL k).length = partsN k := by
  rcases (by omega : k = 1 ∨ k = 3 ∨ k = 4 ∨ k = 5 ∨ k = 6 ∨ k = 7 ∨ k = 8 ∨ k = 9 ∨ k = 10 ∨ k = 11) with rfl | rfl | rfl | rfl | rfl | rfl | rfl | rfl | rfl | rfl <;> rfl
theorem parseD_form (K : Nat) (l w0 : List UInt8) (ws : List (List UInt8)) (hw : words l = w0 :: ws) (h0 : 1 ≤ opOf w0) (hmore : ws.length ≠ partsN (opOf w0) ∧ ¬ (ws.length = partsN (opOf w0) + 1 ∧ opOf w0 = 2)) : parseD K l = (Dd.zero, 3) := by
  have hr := opOf_range w0
  unfold parseD; rw [hw]
  simp only
  generalize opOf w0 = k at *
  have key : ws.length ≠ (if k = 2 ∧ ws.length = 4 then [65, 66, 82, 77] else partsL k : List UInt8).length := by
    by_cases h2 : k = 2
    · subst h2
      have e1 : partsN 2 = 4 := rfl
      have e2 : (partsL 2).length = 5 := rfl
      rw [e1] at hmore
      rw [if_neg (fun h => hmore.1 h.2), e2]
      exact fun h => hmore.2 ⟨h, rfl⟩
    · rw [if_neg (fun h => h2 h.1), partsL_partsN k h0 hr.2 h2]
      exact hmore.1
  rw [if_neg (show ¬ k = 0 by omega), if_pos key]

set_option maxHeartbeats 800000 in
theorem parse_any (l : List UInt8) (w : World) (hl : l.length ≤ 100000) (hM : HasMax w) :
    Calls Tryz.prog 26 #[strV l] w fun e w' => e = .returned (.tuple #[.agg (dCd (parseD 1048576 l).1), .int .i64 (parseD 1048576 l).2]) ∧ Kept [] w w' := by
  have hwl := words_each l
  cases hw : words l with
  | nil => exact parsed_eq (p := (Dd.zero, 15)) (parseD_none _ l hw).symm (parse_none l w hl hM hw)
  | cons w0 ws =>
    rw [hw] at hwl
    have hlen : ws.length ≤ 100002 := by have := hwl.2; simp at this; omega
    have hx : ∀ x ∈ ws, x.length ≤ 1000000 := fun x hx => by have := hwl.1 x (by simp [hx]); omega
    by_cases h0 : opOf w0 = 0
    · exact parsed_eq (p := (Dd.zero, 15)) (parseD_word _ l w0 ws hw h0).symm (parse_word l w0 ws w hl hM hw h0)
    · have hr := opOf_range w0
      have h1 : 1 ≤ opOf w0 := by omega
      have hpn : partsN (opOf w0) ≤ 4 := by unfold partsN; (repeat' split) <;> omega
      by_cases hmore : ws.length = partsN (opOf w0) ∨ (ws.length = partsN (opOf w0) + 1 ∧ opOf w0 = 2)
      · rcases (by omega : opOf w0 = 1 ∨ opOf w0 = 2 ∨ opOf w0 = 3 ∨ opOf w0 = 4 ∨ opOf w0 = 5 ∨ opOf w0 = 6 ∨ opOf w0 = 7 ∨ opOf w0 = 8 ∨ opOf w0 = 9 ∨ opOf w0 = 10 ∨ opOf w0 = 11) with h | h | h | h | h | h | h | h | h | h | h
        · have hn : ws.length = 1 := by rw [h] at hmore; have : partsN 1 = 1 := rfl; omega
          obtain ⟨x1, rfl⟩ : ∃ x1, ws = [x1] := list_1 hn
          exact parsed_eq (parseD_op1 _ l w0 x1 hw h).symm (parse_run l w0 _ 1 _ _ _ _ _ _ _ w hl hM hw h (by omega) hlen (by rw [h] at hmore; exact hmore) (by decide) (fun gl gd A n c w h1 h2 h3 => fill_op1 gl gd A n c x1 w h1 h2 h3 (hx x1 (by simp))))
        · by_cases hn : ws.length = 4
          · obtain ⟨x1, x2, x3, x4, rfl⟩ : ∃ x1 x2 x3 x4, ws = [x1, x2, x3, x4] := list_4 hn
            exact parsed_eq (parseD_op2 _ l w0 x1 x2 x3 x4 hw h).symm (parse_run l w0 _ 2 _ _ _ _ _ _ _ w hl hM hw h (by omega) hlen (by rw [h] at hmore; exact hmore) (by decide) (fun gl gd A n c w h1 h2 h3 => fill_op2 gl gd A n c x1 x2 x3 x4 w h1 h2 h3 (hx x1 (by simp)) (hx x2 (by simp)) (hx x3 (by simp)) (hx x4 (by simp))))
          · replace hn : ws.length = 5 := by rw [h] at hmore; have : partsN 2 = 4 := rfl; omega
            obtain ⟨x1, x2, x3, x4, x5, rfl⟩ : ∃ x1 x2 x3 x4 x5, ws = [x1, x2, x3, x4, x5] := list_5 hn
            exact parsed_eq (parseD_op2l _ l w0 x1 x2 x3 x4 x5 hw h).symm (parse_run l w0 _ 2 _ _ _ _ _ _ _ w hl hM hw h (by omega) hlen (by rw [h] at hmore; exact hmore) (by decide) (fun gl gd A n c w h1 h2 h3 => fill_op2l gl gd A n c x1 x2 x3 x4 x5 w h1 h2 h3 (hx x1 (by simp)) (hx x2 (by simp)) (hx x3 (by simp)) (hx x4 (by simp)) (hx x5 (by simp))))
        · have hn : ws.length = 1 := by rw [h] at hmore; have : partsN 3 = 1 := rfl; omega
          obtain ⟨x1, rfl⟩ : ∃ x1, ws = [x1] := list_1 hn
          exact parsed_eq (parseD_op3 _ l w0 x1 hw h).symm (parse_run l w0 _ 3 _ _ _ _ _ _ _ w hl hM hw h (by omega) hlen (by rw [h] at hmore; exact hmore) (by decide) (fun gl gd A n c w h1 h2 h3 => fill_op3 gl gd A n c x1 w h1 h2 h3 (hx x1 (by simp))))
        · have hn : ws.length = 1 := by rw [h] at hmore; have : partsN 4 = 1 := rfl; omega
          obtain ⟨x1, rfl⟩ : ∃ x1, ws = [x1] := list_1 hn
          exact parsed_eq (parseD_op4 _ l w0 x1 hw h).symm (parse_run l w0 _ 4 _ _ _ _ _ _ _ w hl hM hw h (by omega) hlen (by rw [h] at hmore; exact hmore) (by decide) (fun gl gd A n c w h1 h2 h3 => fill_op4 gl gd A n c x1 w h1 h2 h3 (hx x1 (by simp))))
        · have hn : ws.length = 0 := by rw [h] at hmore; have : partsN 5 = 0 := rfl; omega
          obtain rfl : ws = [] := List.eq_nil_of_length_eq_zero hn
          exact parsed_eq (parseD_op5 _ l w0 hw h).symm (parse_run l w0 _ 5 _ _ _ _ _ _ _ w hl hM hw h (by omega) hlen (by rw [h] at hmore; exact hmore) (by decide) (fun gl gd A n c w h1 h2 h3 => fill_op5 gl gd A n c w h1 h2 h3))
        · have hn : ws.length = 1 := by rw [h] at hmore; have : partsN 6 = 1 := rfl; omega
          obtain ⟨x1, rfl⟩ : ∃ x1, ws = [x1] := list_1 hn
          exact parsed_eq (parseD_op6 _ l w0 x1 hw h).symm (parse_run l w0 _ 6 _ _ _ _ _ _ _ w hl hM hw h (by omega) hlen (by rw [h] at hmore; exact hmore) (by decide) (fun gl gd A n c w h1 h2 h3 => fill_op6 gl gd A n c x1 w h1 h2 h3 (hx x1 (by simp))))
        · have hn : ws.length = 2 := by rw [h] at hmore; have : partsN 7 = 2 := rfl; omega
          obtain ⟨x1, x2, rfl⟩ : ∃ x1 x2, ws = [x1, x2] := list_2 hn
          exact parsed_eq (parseD_op7 _ l w0 x1 x2 hw h).symm (parse_run l w0 _ 7 _ _ _ _ _ _ _ w hl hM hw h (by omega) hlen (by rw [h] at hmore; exact hmore) (by decide) (fun gl gd A n c w h1 h2 h3 => fill_op7 gl gd A n c x1 x2 w h1 h2 h3 (hx x1 (by simp)) (hx x2 (by simp))))
        · have hn : ws.length = 2 := by rw [h] at hmore; have : partsN 8 = 2 := rfl; omega
          obtain ⟨x1, x2, rfl⟩ : ∃ x1 x2, ws = [x1, x2] := list_2 hn
          exact parsed_eq (parseD_op8 _ l w0 x1 x2 hw h).symm (parse_run l w0 _ 8 _ _ _ _ _ _ _ w hl hM hw h (by omega) hlen (by rw [h] at hmore; exact hmore) (by decide) (fun gl gd A n c w h1 h2 h3 => fill_op8 gl gd A n c x1 x2 w h1 h2 h3 (hx x1 (by simp)) (hx x2 (by simp))))
        · have hn : ws.length = 1 := by rw [h] at hmore; have : partsN 9 = 1 := rfl; omega
          obtain ⟨x1, rfl⟩ : ∃ x1, ws = [x1] := list_1 hn
          exact parsed_eq (parseD_op9 _ l w0 x1 hw h).symm (parse_run l w0 _ 9 _ _ _ _ _ _ _ w hl hM hw h (by omega) hlen (by rw [h] at hmore; exact hmore) (by decide) (fun gl gd A n c w h1 h2 h3 => fill_op9 gl gd A n c x1 w h1 h2 h3 (hx x1 (by simp))))
        · have hn : ws.length = 2 := by rw [h] at hmore; have : partsN 10 = 2 := rfl; omega
          obtain ⟨x1, x2, rfl⟩ : ∃ x1 x2, ws = [x1, x2] := list_2 hn
          exact parsed_eq (parseD_op10 _ l w0 x1 x2 hw h).symm (parse_run l w0 _ 10 _ _ _ _ _ _ _ w hl hM hw h (by omega) hlen (by rw [h] at hmore; exact hmore) (by decide) (fun gl gd A n c w h1 h2 h3 => fill_op10 gl gd A n c x1 x2 w h1 h2 h3 (hx x1 (by simp)) (hx x2 (by simp))))
        · have hn : ws.length = 1 := by rw [h] at hmore; have : partsN 11 = 1 := rfl; omega
          obtain ⟨x1, rfl⟩ : ∃ x1, ws = [x1] := list_1 hn
          exact parsed_eq (parseD_op11 _ l w0 x1 hw h).symm (parse_run l w0 _ 11 _ _ _ _ _ _ _ w hl hM hw h (by omega) hlen (by rw [h] at hmore; exact hmore) (by decide) (fun gl gd A n c w h1 h2 h3 => fill_op11 gl gd A n c x1 w h1 h2 h3 (hx x1 (by simp))))
      · exact parsed_eq (p := (Dd.zero, 3)) (parseD_form _ l w0 ws hw h1 (by omega)).symm (parse_form l w0 ws (opOf w0) w hl hM hw rfl h1 hlen (by omega) hpn)

end Go.Proofs.YtladfdpcdjjifaaGreatDoor
