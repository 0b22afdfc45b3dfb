/- Texts of numbers: plain functions on lists of bytes, with no program in sight. -/
import Derived.Test.YthahmfeaekddnaaGreatDoorMem
namespace Go.Proofs.YthahmfeaekddnaaGreatDoor
open Go.RowKit

/-- A digit. -/
def isDig (b : UInt8) : Bool := decide (48 ≤ b.toNat) && decide (b.toNat ≤ 57)
def digV (b : UInt8) : Nat := b.toNat - 48
def digB (d : Nat) : UInt8 := UInt8.ofNat (48 + d)

/-- The number of a decimal text. -/
def valD (l : List UInt8) : Nat := l.foldl (fun x c => x * 10 + digV c) 0
/-- Is it a decimal text? -/
def plainS (l : List UInt8) : Bool := l.all isDig && (l == [48] || (!l.isEmpty && l.headD 48 != 48))

/-- A number's decimal text; fuel f. -/
def decN : Nat → Nat → List UInt8
  | 0, _ => []
  | f + 1, x => if x < 10 then [digB x] else decN f (x / 10) ++ [digB (x % 10)]
def dec (x : Nat) : List UInt8 := decN 20 x

/-- What a decimal text is read as: the number and what is wrong. -/
def readD (l : List UInt8) : Nat × Int := if plainS l = false then (0, 3) else if 18446744073709551616 ≤ valD l then (0, 5) else (valD l, 0)

theorem digB_val (d : Nat) (h : d < 10) : digV (digB d) = d ∧ isDig (digB d) = true := by
  have h1 : (digB d).toNat = 48 + d := by simp [digB]; omega
  simp [digV, isDig, h1]; omega
theorem digB_toNat (d : Nat) (h : d < 200) : (digB d).toNat = 48 + d := by simp [digB]; omega
theorem isDig_iff (b : UInt8) : isDig b = true ↔ 48 ≤ b.toNat ∧ b.toNat ≤ 57 := by simp [isDig]
theorem digV_lt (b : UInt8) (h : isDig b = true) : digV b < 10 := by rw [isDig_iff] at h; unfold digV; omega
theorem digB_digV (b : UInt8) (h : isDig b = true) : digB (digV b) = b := by
  rw [isDig_iff] at h
  apply UInt8.toNat_inj.1
  rw [digB_toNat _ (by unfold digV; omega)]; unfold digV; omega

theorem valD_snoc (l : List UInt8) (c : UInt8) : valD (l ++ [c]) = valD l * 10 + digV c := by simp [valD, List.foldl_append]
theorem valD_from_mono (l : List UInt8) : ∀ a b : Nat, a ≤ b → l.foldl (fun x c => x * 10 + digV c) a ≤ l.foldl (fun x c => x * 10 + digV c) b := by
  induction l with
  | nil => intro a b h; exact h
  | cons c l ih => intro a b h; exact ih _ _ (by simp only; omega)
theorem valD_from_ge (l : List UInt8) : ∀ a : Nat, a ≤ l.foldl (fun x c => x * 10 + digV c) a := by
  induction l with
  | nil => intro a; exact Nat.le_refl _
  | cons c l ih => intro a; exact Nat.le_trans (by simp only; omega) (ih _)
theorem valD_take_le (l : List UInt8) (k : Nat) : valD (l.take k) ≤ valD l := by
  have h : valD l = (l.drop k).foldl (fun x c => x * 10 + digV c) (valD (l.take k)) := by
    unfold valD; rw [← List.foldl_append, List.take_append_drop]
  rw [h]; exact valD_from_ge _ _
theorem valD_step {l : List UInt8} {k : Nat} (h : k < l.length) : valD (l.take (k + 1)) = valD (l.take k) * 10 + digV l[k] := by
  rw [List.take_succ_eq_append_getElem h, valD_snoc]

theorem valD_decN (f x : Nat) (hx : x < 10 ^ f) : valD (decN f x) = x := by
  induction f generalizing x with
  | zero => simp at hx; simp [hx, decN, valD]
  | succ f ih =>
    simp only [decN]
    split
    · next h => simp [valD, (digB_val x h).1]
    · next h =>
      have hd : x / 10 < 10 ^ f := by
        rw [Nat.div_lt_iff_lt_mul (by omega)]; rw [Nat.pow_succ] at hx; exact hx
      rw [valD_snoc, ih _ hd, (digB_val _ (Nat.mod_lt _ (by omega))).1]
      omega
theorem decN_dig (f x : Nat) : (decN f x).all isDig = true := by
  induction f generalizing x with
  | zero => simp [decN]
  | succ f ih =>
    simp only [decN]
    split
    · next h => simp [(digB_val x h).2]
    · simp only [List.all_append, ih, List.all_cons, List.all_nil, (digB_val _ (Nat.mod_lt x (show 0 < 10 by omega))).2, Bool.and_self]
theorem decN_ne (f x : Nat) : decN (f + 1) x ≠ [] := by
  simp only [decN]; split <;> simp
theorem decN_head (f x : Nat) (hx : x < 10 ^ f) (h0 : 0 < x) : (decN f x).headD 48 ≠ 48 := by
  induction f generalizing x with
  | zero => simp at hx; omega
  | succ f ih =>
    simp only [decN]
    split
    · next h =>
      simp only [List.headD_cons]
      intro e
      have := congrArg UInt8.toNat e
      rw [digB_toNat _ (by omega)] at this
      simp at this
      omega
    · next h =>
      have hd : x / 10 < 10 ^ f := by
        rw [Nat.div_lt_iff_lt_mul (by omega)]; rw [Nat.pow_succ] at hx; exact hx
      have h1 := ih (x / 10) hd (by omega)
      cases hb : decN f (x / 10) with
      | nil =>
        cases f with
        | zero => simp at hd; omega
        | succ f => exact absurd hb (decN_ne f _)
      | cons c l => rw [hb] at h1; simpa using h1
theorem dec_zero : dec 0 = [48] := by decide
theorem plain_dec (x : Nat) (hx : x < 18446744073709551616) : plainS (dec x) = true := by
  have h20 : x < 10 ^ 20 := by omega
  unfold plainS
  rw [show (dec x).all isDig = true from decN_dig 20 x, Bool.true_and]
  rcases Nat.eq_zero_or_pos x with rfl | h0
  · decide
  · have h1 := decN_head 20 x h20 h0
    have h2 := decN_ne 19 x
    cases hb : decN 20 x with
    | nil => exact absurd hb h2
    | cons c l =>
      rw [hb] at h1
      unfold dec; rw [hb]
      simp at h1
      simp [h1]
theorem read_dec (x : Nat) (hx : x < 18446744073709551616) : readD (dec x) = (x, 0) := by
  have h20 : x < 10 ^ 20 := by omega
  unfold readD
  rw [plain_dec x hx]
  have : valD (dec x) = x := valD_decN 20 x h20
  rw [this, if_neg (by simp), if_neg (by omega)]

/-- A decimal text is what its number is printed as. -/
theorem decN_valD (f : Nat) : ∀ l : List UInt8, l.length ≤ f → l.all isDig = true → l ≠ [] → (l.length = 1 ∨ l.headD 48 ≠ 48) → decN f (valD l) = l := by
  induction f with
  | zero => intro l hl _ hn _; exact absurd (List.eq_nil_of_length_eq_zero (by omega)) hn
  | succ f ih =>
    intro l hl ha hn hh
    obtain ⟨l0, c, rfl⟩ : ∃ l0 c, l = l0 ++ [c] := ⟨l.dropLast, l.getLast hn, (List.dropLast_concat_getLast hn).symm⟩
    simp only [List.all_append, List.all_cons, List.all_nil, Bool.and_true, Bool.and_eq_true] at ha
    have hc := digV_lt c ha.2
    rw [valD_snoc]
    simp only [decN]
    by_cases h0 : l0 = []
    · subst h0
      rw [if_pos (by simp [valD]; omega)]
      simp [valD, digB_digV c ha.2]
    · have hhd : l0.headD 48 ≠ 48 := by
        rcases hh with hh | hh
        · simp at hh; exact absurd hh h0
        · cases l0 with
          | nil => exact absurd rfl h0
          | cons a l0 => simpa using hh
      have hi := ih l0 (by simp at hl; omega) ha.1 h0 (.inr hhd)
      have hpos : 0 < valD l0 := by
        cases l0 with
        | nil => exact absurd rfl h0
        | cons a l0 =>
          simp only [List.headD_cons] at hhd
          simp only [List.all_cons, Bool.and_eq_true] at ha
          have hda := ha.1.1
          rw [isDig_iff] at hda
          have : 0 < digV a := by
            unfold digV
            have : a.toNat ≠ 48 := fun e => hhd (UInt8.toNat_inj.1 (by simpa using e))
            omega
          have h2 := valD_from_ge l0 (0 * 10 + digV a)
          have h3 : valD (a :: l0) = l0.foldl (fun x c => x * 10 + digV c) (0 * 10 + digV a) := rfl
          omega
      rw [if_neg (by omega), show (valD l0 * 10 + digV c) / 10 = valD l0 by omega, show (valD l0 * 10 + digV c) % 10 = digV c by omega, hi, digB_digV c ha.2]

theorem valD_from_lt (l : List UInt8) (h : l.all isDig = true) : ∀ a : Nat, l.foldl (fun x c => x * 10 + digV c) a < (a + 1) * 10 ^ l.length := by
  induction l with
  | nil => intro a; simp
  | cons c l ih =>
    intro a
    simp only [List.all_cons, Bool.and_eq_true] at h
    have h1 := ih h.2 (a * 10 + digV c)
    have h2 := digV_lt c h.1
    have h3 : (a * 10 + digV c + 1) * 10 ^ l.length ≤ ((a + 1) * 10) * 10 ^ l.length := Nat.mul_le_mul_right _ (by omega)
    rw [List.foldl_cons, List.length_cons, Nat.pow_succ, Nat.mul_comm (10 ^ l.length) 10, ← Nat.mul_assoc]
    omega
theorem valD_lt (l : List UInt8) (h : l.all isDig = true) : valD l < 10 ^ l.length := by simpa [valD] using valD_from_lt l h 0
theorem valD_from_ge10 (l : List UInt8) : ∀ a : Nat, a * 10 ^ l.length ≤ l.foldl (fun x c => x * 10 + digV c) a := by
  induction l with
  | nil => intro a; simp
  | cons c l ih =>
    intro a
    have h1 := ih (a * 10 + digV c)
    have h3 : (a * 10) * 10 ^ l.length ≤ (a * 10 + digV c) * 10 ^ l.length := Nat.mul_le_mul_right _ (by omega)
    rw [List.foldl_cons, List.length_cons, Nat.pow_succ, Nat.mul_comm (10 ^ l.length) 10, ← Nat.mul_assoc]
    omega

/-- What was read is printed so. -/
theorem dec_read (l : List UInt8) (h : (readD l).2 = 0) : dec (readD l).1 = l := by
  unfold readD at h ⊢
  split at h
  · simp at h
  · next hp =>
    split at h
    · simp at h
    · next hv =>
      rw [if_neg hp, if_neg hv]
      simp only [Bool.not_eq_false] at hp
      unfold plainS at hp
      simp only [Bool.and_eq_true, Bool.or_eq_true] at hp
      obtain ⟨ha, hc⟩ := hp
      have hne : l ≠ [] := by
        rintro rfl
        simp at hc
      have hh : l.length = 1 ∨ l.headD 48 ≠ 48 := by
        rcases hc with hc | hc
        · left; rw [beq_iff_eq.1 hc]; rfl
        · right; simpa using hc.2
      refine decN_valD 20 l ?_ ha hne hh
      rcases Nat.lt_or_ge 20 l.length with hl | hl
      · exfalso
        rcases hh with hh | hh
        · omega
        · cases l with
          | nil => exact hne rfl
          | cons a l0 =>
            simp only [List.headD_cons] at hh
            simp only [List.all_cons, Bool.and_eq_true] at ha
            have hda := ha.1
            rw [isDig_iff] at hda
            have hpa : 1 ≤ digV a := by
              unfold digV
              have : a.toNat ≠ 48 := fun e => hh (UInt8.toNat_inj.1 (by simpa using e))
              omega
            have h2 := valD_from_ge10 l0 (0 * 10 + digV a)
            have h3 : valD (a :: l0) = l0.foldl (fun x c => x * 10 + digV c) (0 * 10 + digV a) := rfl
            have h4 : 10 ^ 20 ≤ 10 ^ l0.length := Nat.pow_le_pow_right (by omega) (by simp at hl; omega)
            have h5 : 1 * 10 ^ l0.length ≤ (0 * 10 + digV a) * 10 ^ l0.length := Nat.mul_le_mul_right _ (by omega)
            omega
      · exact hl

/-- Hex figures. -/
def hexB (d : Nat) : UInt8 := if d < 10 then UInt8.ofNat (48 + d) else UInt8.ofNat (87 + d)
/-- The value of a hex figure; 16: it is none. -/
def hexV (b : UInt8) : Nat := if 48 ≤ b.toNat ∧ b.toNat ≤ 57 then b.toNat - 48 else if 97 ≤ b.toNat ∧ b.toNat ≤ 102 then b.toNat - 87 else 16
theorem hexB_toNat (d : Nat) (h : d < 16) : (hexB d).toNat = if d < 10 then 48 + d else 87 + d := by
  unfold hexB; split <;> simp <;> omega
theorem hexV_hexB (d : Nat) (h : d < 16) : hexV (hexB d) = d := by
  unfold hexV; rw [hexB_toNat d h]; (repeat' split) <;> omega
theorem hexB_hexV (b : UInt8) (h : hexV b < 16) : hexB (hexV b) = b := by
  apply UInt8.toNat_inj.1
  rw [hexB_toNat _ h]
  unfold hexV at h ⊢
  by_cases h1 : 48 ≤ b.toNat ∧ b.toNat ≤ 57
  · rw [if_pos h1]; (repeat' split) <;> omega
  · rw [if_neg h1] at h ⊢
    by_cases h2 : 97 ≤ b.toNat ∧ b.toNat ≤ 102
    · rw [if_pos h2]; (repeat' split) <;> omega
    · rw [if_neg h2] at h; omega
def valH (l : List UInt8) : Nat := l.foldl (fun x c => x * 16 + hexV c) 0
theorem valH_snoc (l : List UInt8) (c : UInt8) : valH (l ++ [c]) = valH l * 16 + hexV c := by simp [valH, List.foldl_append]
theorem valH_step {l : List UInt8} {k : Nat} (h : k < l.length) : valH (l.take (k + 1)) = valH (l.take k) * 16 + hexV l[k] := by
  rw [List.take_succ_eq_append_getElem h, valH_snoc]
/-- The n low hex figures of x, the greatest first. -/
def hexN : Nat → Nat → List UInt8
  | 0, _ => []
  | n + 1, x => hexN n (x / 16) ++ [hexB (x % 16)]
def hex (x : Nat) : List UInt8 := hexN 16 x
theorem hexN_len (n x : Nat) : (hexN n x).length = n := by
  induction n generalizing x with
  | zero => rfl
  | succ n ih => simp [hexN, ih]
theorem hexN_all (n x : Nat) : (hexN n x).all (fun b => decide (hexV b < 16)) = true := by
  induction n generalizing x with
  | zero => rfl
  | succ n ih => simp only [hexN, List.all_append, ih, List.all_cons, List.all_nil, hexV_hexB _ (Nat.mod_lt x (show 0 < 16 by omega)), Bool.true_and, Bool.and_true]; simp; omega
theorem valH_hexN (n x : Nat) (hx : x < 16 ^ n) : valH (hexN n x) = x := by
  induction n generalizing x with
  | zero => simp at hx; simp [hx, hexN, valH]
  | succ n ih =>
    have hd : x / 16 < 16 ^ n := by
      rw [Nat.div_lt_iff_lt_mul (by omega)]; rw [Nat.pow_succ] at hx; exact hx
    simp only [hexN]
    rw [valH_snoc, ih _ hd, hexV_hexB _ (Nat.mod_lt _ (by omega))]
    omega
theorem hexN_valH (n : Nat) : ∀ l : List UInt8, l.length = n → l.all (fun b => decide (hexV b < 16)) = true → hexN n (valH l) = l := by
  induction n with
  | zero => intro l hl _; simp at hl; subst hl; rfl
  | succ n ih =>
    intro l hl ha
    have hn : l ≠ [] := by rintro rfl; simp at hl
    obtain ⟨l0, c, rfl⟩ : ∃ l0 c, l = l0 ++ [c] := ⟨l.dropLast, l.getLast hn, (List.dropLast_concat_getLast hn).symm⟩
    simp only [List.all_append, List.all_cons, List.all_nil, Bool.and_true, Bool.and_eq_true, decide_eq_true_eq] at ha
    simp only [hexN]
    rw [valH_snoc, show (valH l0 * 16 + hexV c) / 16 = valH l0 by omega, show (valH l0 * 16 + hexV c) % 16 = hexV c by omega, ih l0 (by simp at hl; omega) ha.1, hexB_hexV c ha.2]
theorem valH_from_lt (l : List UInt8) (h : l.all (fun b => decide (hexV b < 16)) = true) : ∀ a : Nat, l.foldl (fun x c => x * 16 + hexV c) a < (a + 1) * 16 ^ l.length := by
  induction l with
  | nil => intro a; simp
  | cons c l ih =>
    intro a
    simp only [List.all_cons, Bool.and_eq_true, decide_eq_true_eq] at h
    have h1 := ih h.2 (a * 16 + hexV c)
    have h3 : (a * 16 + hexV c + 1) * 16 ^ l.length ≤ ((a + 1) * 16) * 16 ^ l.length := Nat.mul_le_mul_right _ (by omega)
    rw [List.foldl_cons, List.length_cons, Nat.pow_succ, Nat.mul_comm (16 ^ l.length) 16, ← Nat.mul_assoc]
    omega
theorem valH_lt (l : List UInt8) (h : l.all (fun b => decide (hexV b < 16)) = true) : valH l < 16 ^ l.length := by simpa [valH] using valH_from_lt l h 0
/-- What a hex text is read as. -/
def readH (l : List UInt8) : Nat × Int := if l.length = 16 ∧ l.all (fun b => decide (hexV b < 16)) = true then (valH l, 0) else (0, 3)
theorem readH_hex (x : Nat) (hx : x < 18446744073709551616) : readH (hex x) = (x, 0) := by
  unfold readH
  rw [if_pos ⟨hexN_len 16 x, hexN_all 16 x⟩]
  rw [show valH (hex x) = x from valH_hexN 16 x (by simpa using hx)]
theorem hex_readH (l : List UInt8) (h : (readH l).2 = 0) : hex (readH l).1 = l := by
  unfold readH at h ⊢
  split at h
  · next hc => rw [if_pos hc]; exact hexN_valH 16 l hc.1 hc.2
  · simp at h

/-- The words of a text: what lies between blanks. cur: the word that is being read. -/
def wordsF : List UInt8 → List UInt8 → List (List UInt8)
  | cur, [] => if cur = [] then [] else [cur]
  | cur, c :: l => if c = 32 then (if cur = [] then wordsF [] l else cur :: wordsF [] l) else wordsF (cur ++ [c]) l
def words (l : List UInt8) : List (List UInt8) := wordsF [] l
def isWord (w : List UInt8) : Prop := w ≠ [] ∧ ∀ c ∈ w, c ≠ 32
theorem wordsF_word (w : List UInt8) (hw : ∀ c ∈ w, c ≠ 32) : ∀ cur l, wordsF cur (w ++ l) = wordsF (cur ++ w) l := by
  induction w with
  | nil => intro cur l; simp
  | cons c w ih =>
    intro cur l
    have hc : c ≠ 32 := hw c (by simp)
    rw [List.cons_append]
    simp only [wordsF, if_neg hc]
    rw [ih (fun d hd => hw d (by simp [hd]))]
    simp
theorem wordsF_all (l : List UInt8) : ∀ cur, (∀ c ∈ cur, c ≠ 32) → ∀ w ∈ wordsF cur l, isWord w := by
  induction l with
  | nil =>
    intro cur hc w hw
    simp only [wordsF] at hw
    split at hw
    · simp at hw
    · next h => simp at hw; subst hw; exact ⟨h, hc⟩
  | cons c l ih =>
    intro cur hc w hw
    simp only [wordsF] at hw
    split at hw
    · split at hw
      · exact ih [] (by simp) w hw
      · next h =>
        rcases List.mem_cons.1 hw with rfl | hw
        · exact ⟨h, hc⟩
        · exact ih [] (by simp) w hw
    · next h => exact ih (cur ++ [c]) (fun d hd => by rcases List.mem_append.1 hd with hd | hd; exact hc d hd; simp at hd; subst hd; exact h) w hw
theorem words_all (l : List UInt8) : ∀ w ∈ words l, isWord w := wordsF_all l [] (by simp)

/-- Texts put together with something between each two. -/
def joinS (by_ : List UInt8) : List (List UInt8) → List UInt8
  | [] => []
  | [w] => w
  | w :: ws => w ++ by_ ++ joinS by_ ws
theorem words_blank (l : List UInt8) : words (32 :: l) = words l := by simp [words, wordsF]
theorem words_join (by_ : List UInt8) (hb : by_ = [32] ∨ by_ = [32, 32]) (tail : List UInt8) (ht : tail = [] ∨ tail = [32]) : ∀ ws : List (List UInt8), (∀ w ∈ ws, isWord w) → words (joinS by_ ws ++ tail) = ws
  | [], _ => by rcases ht with rfl | rfl <;> rfl
  | [w], h => by
    have hw := h w (by simp)
    simp only [joinS, words]
    rw [wordsF_word w hw.2]
    rcases ht with rfl | rfl <;> simp [wordsF, hw.1]
  | w :: v :: ws, h => by
    have hw := h w (by simp)
    have ih := words_join by_ hb tail ht (v :: ws) (fun x hx => h x (by simp [hx]))
    simp only [joinS, words] at ih ⊢
    rw [List.append_assoc, List.append_assoc, wordsF_word w hw.2]
    rcases hb with rfl | rfl
    · simp only [List.nil_append, List.cons_append, wordsF, if_true, if_neg hw.1]
      rw [ih]
    · simp only [List.nil_append, List.cons_append, wordsF, if_true, if_neg hw.1]
      rw [ih]

end Go.Proofs.YthahmfeaekddnaaGreatDoor
