/- What was written is read as it was, and what was read is written as it was: plain laws on lists. -/
import Derived.Test.YtmhlmoojmdfnfaaDoorWirePlain
namespace Go.Proofs.YtmhlmoojmdfnfaaDoor
open Go.RowKit

theorem valN_beN (f x : Nat) (hx : x < 256 ^ f) : valN (beN f x) = x := by
  induction f generalizing x with
  | zero => simp at hx; simp [hx, beN, valN]
  | succ f ih =>
    simp only [beN]
    split
    · next h => simp [h, valN]
    · have hd : x / 256 < 256 ^ f := by
        rw [Nat.div_lt_iff_lt_mul (by omega)]; rw [Nat.pow_succ] at hx; exact hx
      rw [valN_snoc, ih _ hd, mod256]
      omega

theorem head_beN (f x : Nat) (hx : x < 256 ^ f) : (beN f x).headD 1 ≠ 0 := by
  induction f generalizing x with
  | zero => simp [beN]
  | succ f ih =>
    simp only [beN]
    split
    · simp
    · next h0 =>
      have hd : x / 256 < 256 ^ f := by
        rw [Nat.div_lt_iff_lt_mul (by omega)]; rw [Nat.pow_succ] at hx; exact hx
      have h1 := ih _ hd
      cases hb : beN f (x / 256) with
      | nil =>
        have hv := valN_beN f _ hd
        rw [hb] at hv
        simp [valN] at hv
        simp only [List.nil_append, List.headD_cons]
        intro hc
        have := congrArg UInt8.toNat hc
        rw [mod256] at this
        simp at this
        omega
      | cons c l =>
        rw [hb] at h1
        simpa using h1

theorem list_snoc (l : List UInt8) (h : l ≠ []) : ∃ l0 c, l = l0 ++ [c] := ⟨l.dropLast, l.getLast h, (List.dropLast_concat_getLast h).symm⟩

theorem beN_valN (f : Nat) : ∀ l : List UInt8, l.length ≤ f → l.headD 1 ≠ 0 → beN f (valN l) = l := by
  induction f with
  | zero => intro l hl _; simp at hl; subst hl; simp [beN]
  | succ f ih =>
    intro l hl hh
    by_cases hn : l = []
    · subst hn; simp [valN, beN]
    · obtain ⟨l0, c, rfl⟩ := list_snoc l hn
      have hl0 : l0.length ≤ f := by simp at hl; omega
      have hh0 : l0.headD 1 ≠ 0 := by
        cases l0 with
        | nil => simp
        | cons a l0 => simpa using hh
      have h0 := ih l0 hl0 hh0
      have hc := c.toNat_lt
      rw [valN_snoc]
      have hpos : valN l0 * 256 + c.toNat ≠ 0 := by
        intro he
        have hv0 : valN l0 = 0 := by omega
        have hc0 : c.toNat = 0 := by omega
        rw [hv0, beN_zero] at h0
        subst h0
        simp at hh
        exact hh (UInt8.toNat_inj.1 (by simpa using hc0))
      simp only [beN]
      rw [if_neg hpos, show (valN l0 * 256 + c.toNat) / 256 = valN l0 by omega, show (valN l0 * 256 + c.toNat) % 256 = c.toNat by omega, h0]
      simp

/-- A number that was read without a fault is what it is written as. -/
theorem num_once {l l' : List UInt8} {x : Nat} (h : numS (0, l) = ((0, l'), x)) : l = encNum x ++ l' := by
  unfold numS at h
  cases l with
  | nil => simp [byteS, takeS] at h
  | cons b l =>
    have hb : byteS (0, b :: l) = ((0, l), b) := by simp [byteS, takeS]
    rw [hb] at h
    simp only at h
    split at h
    · simp [failS] at h
    · next h8 =>
      by_cases hl : l.length < b.toNat
      · have : takeS (0, l) b.toNat = ((2, l), none) := by simp [takeS, hl]
        rw [this] at h
        simp at h
      · have : takeS (0, l) b.toNat = ((0, l.drop b.toNat), some (l.take b.toNat)) := by simp [takeS, hl]
        rw [this] at h
        simp only at h
        split at h
        · simp [failS] at h
        · next hh =>
          simp at h
          obtain ⟨rfl, rfl⟩ := h
          have hlen : (l.take b.toNat).length = b.toNat := by simp; omega
          have he := beN_valN 8 (l.take b.toNat) (by omega) hh
          unfold encNum be
          rw [he, hlen]
          simp

/-- A number that was written is read as it was. -/
theorem num_back (x : Nat) (l : List UInt8) (hx : x < 18446744073709551616) : numS (0, encNum x ++ l) = ((0, l), x) := by
  have hx8 : x < 256 ^ 8 := by simpa using hx
  have hl := be_len x
  have hb : byteS (0, encNum x ++ l) = ((0, be x ++ l), UInt8.ofNat (be x).length) := by simp [byteS, takeS, encNum]
  have hn : (UInt8.ofNat (be x).length).toNat = (be x).length := by simp; omega
  unfold numS
  rw [hb]
  simp only [hn]
  rw [if_neg (by omega)]
  have ht : takeS (0, be x ++ l) (be x).length = ((0, l), some (be x)) := by simp [takeS]
  rw [ht]
  simp only
  rw [if_neg (show ¬ (be x).headD 1 = 0 from head_beN 8 x hx8)]
  rw [show valN (be x) = x from valN_beN 8 x hx8]

theorem byte_back (b : UInt8) (l : List UInt8) : byteS (0, b :: l) = ((0, l), b) := by simp [byteS, takeS]
theorem truth_back (b : Bool) (l : List UInt8) : truthS (0, encTruth b ++ l) = ((0, l), b) := by
  cases b <;> simp [truthS, encTruth, byte_back]
theorem bytes_back (b l : List UInt8) (hb : b.length ≤ 60) : bytesS (0, encBytes b ++ l) 60 = ((0, l), b) := by
  unfold bytesS encBytes
  rw [List.append_assoc, num_back _ _ (by omega)]
  simp only
  rw [if_neg (by simp), if_neg (by omega)]
  have : takeS (0, b ++ l) b.length = ((0, l), some b) := by unfold takeS; rw [if_neg (by simp), if_neg (by simp)]; simp
  rw [this]

end Go.Proofs.YtmhlmoojmdfnfaaDoor
