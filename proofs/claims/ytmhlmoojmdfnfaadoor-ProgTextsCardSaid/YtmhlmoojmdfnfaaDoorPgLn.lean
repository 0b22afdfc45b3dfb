/- The lines of a text, and a program out of its lines, in plain words; a program's text is parsed as that program. No program is walked here. -/
import Derived.Test.YtmhlmoojmdfnfaaDoorDeedB
import Derived.Test.YtmhlmoojmdfnfaaDoorPgT
namespace Go.Proofs.YtmhlmoojmdfnfaaDoor
open Go.RowKit

/-- The lines of a text, the first of which has begun. -/
def linesF : List UInt8 → List UInt8 → List (List UInt8)
  | cur, [] => if cur = [] then [] else [cur]
  | cur, c :: t => if c = 10 then cur :: linesF [] t else linesF (cur ++ [c]) t
theorem linesF_len : ∀ (l cur : List UInt8), (linesF cur l).length ≤ l.length + 1 ∧ ∀ x ∈ linesF cur l, x.length ≤ cur.length + l.length
  | [], cur => by unfold linesF; split <;> simp
  | c :: t, cur => by
    unfold linesF
    split
    · have := linesF_len t []
      refine ⟨by simp; omega, fun x hx => ?_⟩
      rcases List.mem_cons.1 hx with rfl | hx
      · simp
      · have := this.2 x hx; simp at this ⊢; omega
    · have := linesF_len t (cur ++ [c])
      refine ⟨by simp; omega, fun x hx => ?_⟩
      have := this.2 x hx; simp at this ⊢; omega
theorem linesF_line : ∀ (x cur r : List UInt8), (∀ c ∈ x, c ≠ 10) → linesF cur (x ++ 10 :: r) = (cur ++ x) :: linesF [] r
  | [], cur, r, _ => by simp [linesF]
  | c :: t, cur, r, h => by
    rw [List.cons_append, linesF, if_neg (h c (by simp)), linesF_line t _ r (fun y hy => h y (by simp [hy]))]
    simp
theorem linesF_last : ∀ (x cur : List UInt8), (∀ c ∈ x, c ≠ 10) → cur ++ x ≠ [] → linesF cur x = [cur ++ x]
  | [], cur, _, hn => by simp at hn; simp [linesF, hn]
  | c :: t, cur, h, _ => by
    rw [linesF, if_neg (h c (by simp)), linesF_last t _ (fun y hy => h y (by simp [hy])) (by simp)]
    simp

theorem dec_no10 (x : Nat) : ∀ c ∈ dec x, c ≠ 10 := by
  intro c hc
  have h := List.all_eq_true.1 (decN_dig 20 x) c hc
  rw [isDig_iff] at h
  rintro rfl
  simp at h
theorem hex_no10 (x : Nat) : ∀ c ∈ hex x, c ≠ 10 := by
  intro c hc
  have h := List.all_eq_true.1 (hexN_all 16 x) c hc
  rintro rfl
  revert h; decide
theorem nameD_no10 (op : Int) : ∀ c ∈ nameD op, c ≠ 10 := by
  intro c hc
  rintro rfl
  revert hc
  unfold nameD
  (repeat' split) <;> decide
theorem cons_no10 {b : UInt8} {l : List UInt8} (hb : b ≠ 10) (h : ∀ c ∈ l, c ≠ 10) : ∀ c ∈ b :: l, c ≠ 10 := by
  intro c hc
  rcases List.mem_cons.1 hc with rfl | hc
  · exact hb
  · exact h c hc
theorem piece_no10 (d : Dd) (p : UInt8) : ∀ c ∈ pieceL d p, c ≠ 10 := by
  unfold pieceL
  split
  · exact cons_no10 (by decide) (dec_no10 _)
  · split
    · exact cons_no10 (by decide) (dec_no10 _)
    · split
      · exact cons_no10 (by decide) (dec_no10 _)
      · split
        · exact cons_no10 (by decide) (dec_no10 _)
        · split
          · exact cons_no10 (by decide) (hex_no10 _)
          · split
            · decide
            · simp
theorem lineD_no10 (d : Dd) : ∀ c ∈ lineD d, c ≠ 10 := by
  intro c hc
  unfold lineD at hc
  split at hc
  · rcases List.mem_append.1 hc with hc | hc
    · exact nameD_no10 _ c hc
    · obtain ⟨p, _, hp⟩ := List.mem_flatMap.1 hc
      exact piece_no10 d p c hp
  · simp at hc; subst hc; decide
theorem lineD_ne (d : Dd) : lineD d ≠ [] := by
  unfold lineD
  split
  · unfold nameD
    (repeat' split) <;> simp
  · simp
theorem lines_text : ∀ (p : List Dd) (s : List UInt8), linesF [] (textP p ++ s) = p.map lineD ++ linesF [] s
  | [], s => by simp [textP]
  | d :: t, s => by
    have h : textP (d :: t) ++ s = lineD d ++ 10 :: (textP t ++ s) := by simp [textP]
    rw [h, linesF_line _ _ _ (lineD_no10 d), lines_text t s]
    simp
theorem lines_all (p : List Dd) : linesF [] (textP p) = p.map lineD := by
  have := lines_text p []
  simpa [linesF] using this
theorem textP_nil {p : List Dd} (h : textP p = []) : p = [] := by
  cases p with
  | nil => rfl
  | cons d t => simp [textP] at h
theorem lines_cut (p : List Dd) : linesF [] ((textP p).take ((textP p).length - 1)) = p.map lineD := by
  rcases List.eq_nil_or_concat p with rfl | ⟨q, d, rfl⟩
  · simp [textP, linesF]
  · rw [List.concat_eq_append, textP_snoc, ← List.append_assoc, List.length_append]
    simp only [List.length_cons, List.length_nil, Nat.zero_add, Nat.add_sub_cancel]
    rw [List.take_left, lines_text, linesF_last _ _ (lineD_no10 d) (by simpa using lineD_ne d)]
    simp

/-- The program of lines, how many there are up to the first wrong one, and what is wrong. -/
def readsD : List Dd → List (List UInt8) → List Dd × Int × Int
  | acc, [] => (acc, acc.length, 0)
  | acc, l :: t => if (parseD 1048576 l).2 = 0 then readsD (acc ++ [(parseD 1048576 l).1]) t else ([], acc.length, (parseD 1048576 l).2)
theorem readsD_len : ∀ (ls : List (List UInt8)) (acc : List Dd), (readsD acc ls).1.length ≤ acc.length + ls.length
  | [], acc => by simp [readsD]
  | l :: t, acc => by
    unfold readsD
    split
    · have := readsD_len t (acc ++ [(parseD 1048576 l).1]); simp at this ⊢; omega
    · simp
/-- A text's program. -/
def parseP (ls : List (List UInt8)) : List Dd × Int × Int := if 256 < ls.length then ([], 0, 4) else readsD [] ls
theorem parseP_len (ls : List (List UInt8)) : (parseP ls).1.length ≤ 256 := by
  unfold parseP
  split
  · simp
  · have := readsD_len ls []; simp at this; omega
theorem readsD_lines : ∀ (p acc : List Dd), (∀ d ∈ p, goodD d = true ∧ d.n < 18446744073709551616 ∧ d.mask < 18446744073709551616) → readsD acc (p.map lineD) = (acc ++ p, ((acc ++ p).length : Int), 0)
  | [], acc, _ => by simp [readsD]
  | d :: t, acc, h => by
    obtain ⟨h1, h2, h3⟩ := h d (by simp)
    have hp : parseD 1048576 (lineD d) = (d, 0) := by obtain ⟨o, a, b, r, n, m, l⟩ := d; exact parse_line 1048576 (by omega) o a b r n m l h1 h2 h3
    rw [List.map_cons, readsD, hp, if_pos rfl, readsD_lines t _ (fun x hx => h x (by simp [hx]))]
    simp
theorem parse_text (p : List Dd) (hc : checkP p = 0) (h : ∀ d ∈ p, d.n < 18446744073709551616 ∧ d.mask < 18446744073709551616) : parseP (p.map lineD) = (p, (p.length : Int), 0) := by
  obtain ⟨hl, hg⟩ := checkP_zero hc
  rw [parseP, if_neg (by simp; omega), readsD_lines p [] (fun d hd => ⟨hg d hd, h d hd⟩)]
  simp

end Go.Proofs.YtmhlmoojmdfnfaaDoor
