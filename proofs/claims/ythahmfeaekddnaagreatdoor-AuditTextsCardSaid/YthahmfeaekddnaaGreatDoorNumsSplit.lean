/- The words of a text are what the library's Split leaves when empty pieces are dropped. -/
import Derived.Test.YthahmfeaekddnaaGreatDoorNumsPlain
import Derived.Lib.Split
namespace Go.Proofs.YthahmfeaekddnaaGreatDoor
open Go.RowKit

theorem no_blank {s : List UInt8} (h : ∀ j, j ≤ s.length → Lib.occAt s [32] j = false) : ∀ c ∈ s, c ≠ 32 := by
  intro c hc e
  subst e
  obtain ⟨i, hi, he⟩ := List.mem_iff_getElem.1 hc
  have := h i (by omega)
  rw [Lib.occAt_iff_take s [32] i (by simp; omega)] at this
  rw [List.drop_eq_getElem_cons hi, he] at this
  simp at this

theorem words_of_split (n : Nat) : ∀ s : List UInt8, s.length ≤ n → (Lib.splitK [32] 0 (Lib.count s [32]) s).filter (fun w => !w.isEmpty) = words s := by
  induction n with
  | zero =>
    intro s hs
    have : s = [] := List.eq_nil_of_length_eq_zero (by omega)
    subst this
    decide
  | succ n ih =>
    intro s hs
    rcases Lib.index_spec s [32] with ⟨h1, h2⟩ | ⟨i, h1, h2, h3, h4⟩
    · rw [Lib.count_miss h1]
      have hb := no_blank h2
      unfold Lib.splitK words
      have := wordsF_word s hb [] []
      simp only [List.append_nil, List.nil_append] at this
      rw [this]
      by_cases he : s = []
      · subst he; rfl
      · simp [wordsF, he]
    · have hroom := Lib.occAt_room h3
      have hi : i < s.length := by
        rcases hroom with h | h
        · simp at h; omega
        · simp at h
      rw [Lib.count_hit (by simp) h1, Nat.add_comm]
      unfold Lib.splitK
      rw [if_neg (by rw [h1]; simp), h1]
      simp only [Int.toNat_natCast, Nat.add_zero, List.length_singleton]
      have hd : (s.drop (i + 1)).length ≤ n := by simp; omega
      have hih := ih (s.drop (i + 1)) hd
      have hsi : s[i] = 32 := by
        have := Lib.occAt_head (c := 32) (t := []) rfl h3
        rw [List.getElem?_eq_getElem hi] at this
        injection this
      have hnb : ∀ c ∈ s.take i, c ≠ 32 := by
        intro c hc e
        subst e
        obtain ⟨j, hj, he⟩ := List.mem_iff_getElem.1 hc
        simp at hj
        have := h4 j (by omega)
        rw [Lib.occAt_iff_take s [32] j (by simp; omega)] at this
        simp at he
        rw [List.drop_eq_getElem_cons (show j < s.length by omega), he] at this
        simp at this
      have hsplit : s = s.take i ++ 32 :: s.drop (i + 1) := by
        rw [← hsi, ← List.drop_eq_getElem_cons hi, List.take_append_drop]
      have hw : words s = wordsF (s.take i) (32 :: s.drop (i + 1)) := by
        have h5 : words s = words (s.take i ++ 32 :: s.drop (i + 1)) := congrArg words hsplit
        rw [h5]; unfold words
        rw [wordsF_word _ hnb]
        rfl
      rw [hw]
      simp only [wordsF, if_true]
      rw [List.filter_cons, hih]
      by_cases he : s.take i = []
      · simp [he, words]
      · have : (s.take i).isEmpty = false := by simpa using he
        simp [this, he, words]

/-- Two digit texts of one length: the order of texts is that of numbers. -/
theorem less_val : ∀ (a b : List UInt8), a.length = b.length → a.all isDig = true → b.all isDig = true → ∀ p q : Nat, p ≤ q →
    (Op.bytesLess a b = true → a.foldl (fun x c => x * 10 + digV c) p < b.foldl (fun x c => x * 10 + digV c) q) ∧ (Op.bytesLess a b = false → p = q → b.foldl (fun x c => x * 10 + digV c) q ≤ a.foldl (fun x c => x * 10 + digV c) p)
  | [], [], _, _, _, p, q, _ => by simp [Op.bytesLess]; omega
  | [], _ :: _, h, _, _, _, _, _ => by simp at h
  | _ :: _, [], h, _, _, _, _, _ => by simp at h
  | a :: x, b :: y, h, ha, hb, p, q, hpq => by
    simp only [List.length_cons, Nat.add_right_cancel_iff] at h
    simp only [List.all_cons, Bool.and_eq_true] at ha hb
    have hda := digV_lt a ha.1
    have hdb := digV_lt b hb.1
    have h1 := ha.1
    have h2 := hb.1
    rw [isDig_iff] at h1 h2
    simp only [List.foldl_cons]
    have lo := valD_from_lt x ha.2
    have hi := valD_from_ge10 y
    rw [h] at lo
    constructor
    · intro hl
      simp only [Op.bytesLess, Bool.or_eq_true, Bool.and_eq_true, decide_eq_true_eq, beq_iff_eq] at hl
      rcases hl with hl | ⟨rfl, hl⟩
      · have hlt : a.toNat < b.toNat := by simpa [UInt8.lt_iff_toNat_lt] using hl
        have h3 := lo (p * 10 + digV a)
        have h4 := hi (q * 10 + digV b)
        have h5 : (p * 10 + digV a + 1) * 10 ^ y.length ≤ (q * 10 + digV b) * 10 ^ y.length := Nat.mul_le_mul_right _ (by unfold digV at *; omega)
        omega
      · exact (less_val x y h ha.2 hb.2 _ _ (by omega)).1 hl
    · intro hl e
      subst e
      simp only [Op.bytesLess, Bool.or_eq_false_iff, Bool.and_eq_false_iff, decide_eq_false_iff_not, beq_eq_false_iff_ne] at hl
      have hge : b.toNat ≤ a.toNat := by have := hl.1; simpa [UInt8.lt_iff_toNat_lt] using this
      by_cases e : a = b
      · subst e
        have hl2 : Op.bytesLess x y = false := by rcases hl.2 with h | h; exact absurd rfl h; exact h
        exact (less_val x y h ha.2 hb.2 _ _ (Nat.le_refl _)).2 hl2 rfl
      · have hne : a.toNat ≠ b.toNat := fun h => e (UInt8.toNat_inj.1 h)
        have h3 := valD_from_lt y hb.2 (p * 10 + digV b)
        have h4 := valD_from_ge10 x (p * 10 + digV a)
        rw [h] at h4
        have h5 : (p * 10 + digV b + 1) * 10 ^ y.length ≤ (p * 10 + digV a) * 10 ^ y.length := Nat.mul_le_mul_right _ (by unfold digV at *; omega)
        omega

/-- The text of the greatest number. -/
def greatT : List UInt8 := [49, 56, 52, 52, 54, 55, 52, 52, 48, 55, 51, 55, 48, 57, 53, 53, 49, 54, 49, 53]
theorem great_val : valD greatT = 18446744073709551615 := by decide
/-- How the document tells that a number is too great. -/
theorem too_great (l : List UInt8) (h : plainS l = true) : (20 < l.length ∨ (l.length = 20 ∧ Op.bytesLess l greatT = false ∧ l ≠ greatT)) ↔ 18446744073709551616 ≤ valD l := by
  have hp := h
  unfold plainS at hp
  simp only [Bool.and_eq_true, Bool.or_eq_true] at hp
  obtain ⟨ha, hc⟩ := hp
  rcases Nat.lt_trichotomy l.length 20 with hl | hl | hl
  · have h1 := valD_lt l ha
    have h2 : 10 ^ l.length ≤ 10 ^ 19 := Nat.pow_le_pow_right (by omega) (by omega)
    constructor
    · omega
    · omega
  · have h3 := less_val l greatT (by rw [hl]; rfl) ha (by decide) 0 0 (Nat.le_refl _)
    have hg := great_val
    unfold valD at hg ⊢
    rw [hg] at h3
    constructor
    · rintro (h | ⟨_, h4, h5⟩)
      · omega
      · have h6 := h3.2 h4 rfl
        rcases Nat.lt_or_ge (l.foldl (fun x c => x * 10 + digV c) 0) 18446744073709551616 with h7 | h7
        · exfalso
          have h8 : l.foldl (fun x c => x * 10 + digV c) 0 = 18446744073709551615 := by omega
          apply h5
          have h9 : valD l = 18446744073709551615 := h8
          have e1 : readD l = (18446744073709551615, 0) := by unfold readD; rw [h, h9]; rfl
          have e2 : readD greatT = (18446744073709551615, 0) := by decide
          have d1 := dec_read l (by rw [e1])
          have d2 := dec_read greatT (by rw [e2])
          rw [e1] at d1
          rw [e2] at d2
          rw [← d1, d2]
        · exact h7
    · intro h4
      right
      refine ⟨hl, ?_, ?_⟩
      · cases hb : Op.bytesLess l greatT with
        | false => rfl
        | true => have := h3.1 hb; omega
      · intro e
        subst e
        omega
  · constructor
    · intro _
      have hne : l ≠ [] := by rintro rfl; simp at hl
      have hh : l.headD 48 ≠ 48 := by
        rcases hc with hc | hc
        · rw [beq_iff_eq.1 hc] at hl; simp at hl
        · simpa using hc.2
      cases l with
      | nil => exact absurd rfl hne
      | cons a l0 =>
        simp only [List.headD_cons] at hh
        simp only [List.all_cons, Bool.and_eq_true] at ha
        have hda := ha.1
        rw [isDig_iff] at hda
        have hpa : 1 ≤ digV a := by
          unfold digV
          have : a.toNat ≠ 48 := fun e => hh (UInt8.toNat_inj.1 (by simpa using e))
          omega
        have h2 := valD_from_ge10 l0 (0 * 10 + digV a)
        have h3 : valD (a :: l0) = l0.foldl (fun x c => x * 10 + digV c) (0 * 10 + digV a) := rfl
        have h4 : 10 ^ 20 ≤ 10 ^ l0.length := Nat.pow_le_pow_right (by omega) (by simp at hl; omega)
        have h5 : 1 * 10 ^ l0.length ≤ (0 * 10 + digV a) * 10 ^ l0.length := Nat.mul_le_mul_right _ (by omega)
        omega
    · intro _; exact .inl hl

end Go.Proofs.YthahmfeaekddnaaGreatDoor
