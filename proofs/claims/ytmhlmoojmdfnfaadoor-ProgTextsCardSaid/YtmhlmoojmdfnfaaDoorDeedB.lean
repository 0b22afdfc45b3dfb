/- A deed's line is parsed as that deed. No program is walked here. -/
import Derived.Test.YtmhlmoojmdfnfaaDoorDeedS
namespace Go.Proofs.YtmhlmoojmdfnfaaDoor
open Go.RowKit
attribute [local simp] takeP

theorem isWord_dec (x : Nat) : isWord (dec x) := by
  refine ⟨decN_ne 19 x, fun c hc => ?_⟩
  have h := List.all_eq_true.1 (decN_dig 20 x) c hc
  rw [isDig_iff] at h
  rintro rfl
  simp at h
theorem isWord_hex (x : Nat) : isWord (hex x) := by
  refine ⟨fun h => ?_, fun c hc => ?_⟩
  · have := hexN_len 16 x
    rw [show hexN 16 x = hex x from rfl, h] at this
    simp at this
  · have h := List.all_eq_true.1 (hexN_all 16 x) c hc
    rintro rfl
    revert h; decide
theorem parsed_good (d : Dd) (h : goodD d = true) : parsed d false = (d, 0) := by simp [parsed, h]
theorem words_line (ws : List (List UInt8)) (h : ∀ w ∈ ws, isWord w) : words (joinS [32] ws) = ws := by
  have := words_join [32] (.inl rfl) [] (.inl rfl) ws h
  simpa using this
theorem parse_line_bad (K : Nat) (d : Dd) (hg : goodD d = false) : parseD K (lineD d) = (Dd.zero, 15) := by
  have : lineD d = [63] := by rw [lineD, if_neg (by simp [hg])]
  rw [this]
  exact parseD_word K [63] [63] [] (by decide) (by decide)

theorem parse_line_1 (K : Nat) (a b r n m : Nat) (l : Bool) (hg : goodD ⟨1, a, b, r, n, m, l⟩ = true) (_hK : 64 ≤ K) (_ha : a < 64) (_hb : b < 8) (_hr : r < 8) (hn : n < 18446744073709551616) (_hm : m < 18446744073709551616) :
    parseD K (lineD ⟨1, a, b, r, n, m, l⟩) = (⟨1, a, b, r, n, m, l⟩, 0) := by
  have hl : lineD ⟨1, a, b, r, n, m, l⟩ = joinS [32] [nameD 1, dec n] := by rw [lineD, if_pos hg]; simp [partsL, pieceL, joinS]
  have hw : words (lineD ⟨1, a, b, r, n, m, l⟩) = [nameD 1, dec n] := by
    rw [hl]; exact words_line _ (by simp only [List.forall_mem_cons]; exact ⟨⟨by decide, by decide⟩, isWord_dec _, by simp⟩)
  have hp := parseD_op1 K _ (nameD 1) (dec n) hw (by decide)
  rw [read_dec n (by omega)] at hp
  simp only [bne_self_eq_false, Bool.or_self] at hp
  rw [hp]
  have hz : (⟨1, 0, 0, 0, n, 0, false⟩ : Dd) = ⟨1, a, b, r, n, m, l⟩ := by
    have h2 := hg
    simp [goodD, onlyD, partsL, Dd.same] at h2
    apply Dd.ext' <;> simp <;> (try omega) <;> (try simp [h2])
  rw [hz, parsed_good _ hg]

theorem parse_line_2 (K : Nat) (a b r n m : Nat) (hg : goodD ⟨2, a, b, r, n, m, false⟩ = true) (hK : 64 ≤ K) (ha : a < 64) (hb : b < 8) (hr : r < 8) (_hn : n < 18446744073709551616) (hm : m < 18446744073709551616) :
    parseD K (lineD ⟨2, a, b, r, n, m, false⟩) = (⟨2, a, b, r, n, m, false⟩, 0) := by
  have hl : lineD ⟨2, a, b, r, n, m, false⟩ = joinS [32] [nameD 2, dec a, dec b, dec r, hex m] := by rw [lineD, if_pos hg]; simp [partsL, pieceL, joinS]
  have hw : words (lineD ⟨2, a, b, r, n, m, false⟩) = [nameD 2, dec a, dec b, dec r, hex m] := by
    rw [hl]; exact words_line _ (by simp only [List.forall_mem_cons]; exact ⟨⟨by decide, by decide⟩, isWord_dec _, isWord_dec _, isWord_dec _, isWord_hex _, by simp⟩)
  have hp := parseD_op2 K _ (nameD 2) (dec a) (dec b) (dec r) (hex m) hw (by decide)
  rw [read_dec a (by omega), read_dec b (by omega), read_dec r (by omega), readH_hex m hm] at hp
  simp only [show min a K = a by omega, show min b K = b by omega, show min r K = r by omega, bne_self_eq_false, Bool.or_self] at hp
  rw [hp]
  have hz : (⟨2, (a : Int), (b : Int), (r : Int), 0, m, false⟩ : Dd) = ⟨2, a, b, r, n, m, false⟩ := by
    have h2 := hg
    simp [goodD, onlyD, partsL, Dd.same] at h2
    apply Dd.ext' <;> simp <;> (try omega) <;> (try simp [h2])
  rw [hz, parsed_good _ hg]

theorem parse_line_2l (K : Nat) (a b r n m : Nat) (hg : goodD ⟨2, a, b, r, n, m, true⟩ = true) (hK : 64 ≤ K) (ha : a < 64) (hb : b < 8) (hr : r < 8) (_hn : n < 18446744073709551616) (hm : m < 18446744073709551616) :
    parseD K (lineD ⟨2, a, b, r, n, m, true⟩) = (⟨2, a, b, r, n, m, true⟩, 0) := by
  have hl : lineD ⟨2, a, b, r, n, m, true⟩ = joinS [32] [nameD 2, dec a, dec b, dec r, hex m, [108, 111, 111, 115, 101]] := by rw [lineD, if_pos hg]; simp [partsL, pieceL, joinS]
  have hw : words (lineD ⟨2, a, b, r, n, m, true⟩) = [nameD 2, dec a, dec b, dec r, hex m, [108, 111, 111, 115, 101]] := by
    rw [hl]; exact words_line _ (by simp only [List.forall_mem_cons]; exact ⟨⟨by decide, by decide⟩, isWord_dec _, isWord_dec _, isWord_dec _, isWord_hex _, ⟨by decide, by decide⟩, by simp⟩)
  have hp := parseD_op2l K _ (nameD 2) (dec a) (dec b) (dec r) (hex m) ([108, 111, 111, 115, 101]) hw (by decide)
  rw [read_dec a (by omega), read_dec b (by omega), read_dec r (by omega), readH_hex m hm] at hp
  simp only [show min a K = a by omega, show min b K = b by omega, show min r K = r by omega, bne_self_eq_false, Bool.or_self] at hp
  rw [hp]
  have hz : (⟨2, (a : Int), (b : Int), (r : Int), 0, m, true⟩ : Dd) = ⟨2, a, b, r, n, m, true⟩ := by
    have h2 := hg
    simp [goodD, onlyD, partsL, Dd.same] at h2
    apply Dd.ext' <;> simp <;> (try omega) <;> (try simp [h2])
  rw [hz, parsed_good _ hg]

theorem parse_line_3 (K : Nat) (a b r n m : Nat) (l : Bool) (hg : goodD ⟨3, a, b, r, n, m, l⟩ = true) (_hK : 64 ≤ K) (_ha : a < 64) (_hb : b < 8) (_hr : r < 8) (hn : n < 18446744073709551616) (_hm : m < 18446744073709551616) :
    parseD K (lineD ⟨3, a, b, r, n, m, l⟩) = (⟨3, a, b, r, n, m, l⟩, 0) := by
  have hl : lineD ⟨3, a, b, r, n, m, l⟩ = joinS [32] [nameD 3, dec n] := by rw [lineD, if_pos hg]; simp [partsL, pieceL, joinS]
  have hw : words (lineD ⟨3, a, b, r, n, m, l⟩) = [nameD 3, dec n] := by
    rw [hl]; exact words_line _ (by simp only [List.forall_mem_cons]; exact ⟨⟨by decide, by decide⟩, isWord_dec _, by simp⟩)
  have hp := parseD_op3 K _ (nameD 3) (dec n) hw (by decide)
  rw [read_dec n (by omega)] at hp
  simp only [bne_self_eq_false, Bool.or_self] at hp
  rw [hp]
  have hz : (⟨3, 0, 0, 0, n, 0, false⟩ : Dd) = ⟨3, a, b, r, n, m, l⟩ := by
    have h2 := hg
    simp [goodD, onlyD, partsL, Dd.same] at h2
    apply Dd.ext' <;> simp <;> (try omega) <;> (try simp [h2])
  rw [hz, parsed_good _ hg]

theorem parse_line_4 (K : Nat) (a b r n m : Nat) (l : Bool) (hg : goodD ⟨4, a, b, r, n, m, l⟩ = true) (hK : 64 ≤ K) (_ha : a < 64) (_hb : b < 8) (hr : r < 8) (_hn : n < 18446744073709551616) (_hm : m < 18446744073709551616) :
    parseD K (lineD ⟨4, a, b, r, n, m, l⟩) = (⟨4, a, b, r, n, m, l⟩, 0) := by
  have hl : lineD ⟨4, a, b, r, n, m, l⟩ = joinS [32] [nameD 4, dec r] := by rw [lineD, if_pos hg]; simp [partsL, pieceL, joinS]
  have hw : words (lineD ⟨4, a, b, r, n, m, l⟩) = [nameD 4, dec r] := by
    rw [hl]; exact words_line _ (by simp only [List.forall_mem_cons]; exact ⟨⟨by decide, by decide⟩, isWord_dec _, by simp⟩)
  have hp := parseD_op4 K _ (nameD 4) (dec r) hw (by decide)
  rw [read_dec r (by omega)] at hp
  simp only [show min r K = r by omega, bne_self_eq_false, Bool.or_self] at hp
  rw [hp]
  have hz : (⟨4, 0, 0, (r : Int), 0, 0, false⟩ : Dd) = ⟨4, a, b, r, n, m, l⟩ := by
    have h2 := hg
    simp [goodD, onlyD, partsL, Dd.same] at h2
    apply Dd.ext' <;> simp <;> (try omega) <;> (try simp [h2])
  rw [hz, parsed_good _ hg]

theorem parse_line_5 (K : Nat) (a b r n m : Nat) (l : Bool) (hg : goodD ⟨5, a, b, r, n, m, l⟩ = true) (_hK : 64 ≤ K) (_ha : a < 64) (_hb : b < 8) (_hr : r < 8) (_hn : n < 18446744073709551616) (_hm : m < 18446744073709551616) :
    parseD K (lineD ⟨5, a, b, r, n, m, l⟩) = (⟨5, a, b, r, n, m, l⟩, 0) := by
  have hl : lineD ⟨5, a, b, r, n, m, l⟩ = joinS [32] [nameD 5] := by rw [lineD, if_pos hg]; simp [partsL, joinS]
  have hw : words (lineD ⟨5, a, b, r, n, m, l⟩) = [nameD 5] := by
    rw [hl]; exact words_line _ (by simp only [List.forall_mem_cons]; exact ⟨⟨by decide, by decide⟩, by simp⟩)
  have hp := parseD_op5 K _ (nameD 5) hw (by decide)
  skip
  rw [hp]
  have hz : (⟨5, 0, 0, 0, 0, 0, false⟩ : Dd) = ⟨5, a, b, r, n, m, l⟩ := by
    have h2 := hg
    simp [goodD, onlyD, partsL, Dd.same] at h2
    apply Dd.ext' <;> simp <;> (try omega) <;> (try simp [h2])
  rw [hz, parsed_good _ hg]

theorem parse_line_6 (K : Nat) (a b r n m : Nat) (l : Bool) (hg : goodD ⟨6, a, b, r, n, m, l⟩ = true) (_hK : 64 ≤ K) (_ha : a < 64) (_hb : b < 8) (_hr : r < 8) (hn : n < 18446744073709551616) (_hm : m < 18446744073709551616) :
    parseD K (lineD ⟨6, a, b, r, n, m, l⟩) = (⟨6, a, b, r, n, m, l⟩, 0) := by
  have hl : lineD ⟨6, a, b, r, n, m, l⟩ = joinS [32] [nameD 6, dec n] := by rw [lineD, if_pos hg]; simp [partsL, pieceL, joinS]
  have hw : words (lineD ⟨6, a, b, r, n, m, l⟩) = [nameD 6, dec n] := by
    rw [hl]; exact words_line _ (by simp only [List.forall_mem_cons]; exact ⟨⟨by decide, by decide⟩, isWord_dec _, by simp⟩)
  have hp := parseD_op6 K _ (nameD 6) (dec n) hw (by decide)
  rw [read_dec n (by omega)] at hp
  simp only [bne_self_eq_false, Bool.or_self] at hp
  rw [hp]
  have hz : (⟨6, 0, 0, 0, n, 0, false⟩ : Dd) = ⟨6, a, b, r, n, m, l⟩ := by
    have h2 := hg
    simp [goodD, onlyD, partsL, Dd.same] at h2
    apply Dd.ext' <;> simp <;> (try omega) <;> (try simp [h2])
  rw [hz, parsed_good _ hg]

theorem parse_line_7 (K : Nat) (a b r n m : Nat) (l : Bool) (hg : goodD ⟨7, a, b, r, n, m, l⟩ = true) (hK : 64 ≤ K) (_ha : a < 64) (_hb : b < 8) (hr : r < 8) (_hn : n < 18446744073709551616) (hm : m < 18446744073709551616) :
    parseD K (lineD ⟨7, a, b, r, n, m, l⟩) = (⟨7, a, b, r, n, m, l⟩, 0) := by
  have hl : lineD ⟨7, a, b, r, n, m, l⟩ = joinS [32] [nameD 7, dec r, hex m] := by rw [lineD, if_pos hg]; simp [partsL, pieceL, joinS]
  have hw : words (lineD ⟨7, a, b, r, n, m, l⟩) = [nameD 7, dec r, hex m] := by
    rw [hl]; exact words_line _ (by simp only [List.forall_mem_cons]; exact ⟨⟨by decide, by decide⟩, isWord_dec _, isWord_hex _, by simp⟩)
  have hp := parseD_op7 K _ (nameD 7) (dec r) (hex m) hw (by decide)
  rw [read_dec r (by omega), readH_hex m hm] at hp
  simp only [show min r K = r by omega, bne_self_eq_false, Bool.or_self] at hp
  rw [hp]
  have hz : (⟨7, 0, 0, (r : Int), 0, m, false⟩ : Dd) = ⟨7, a, b, r, n, m, l⟩ := by
    have h2 := hg
    simp [goodD, onlyD, partsL, Dd.same] at h2
    apply Dd.ext' <;> simp <;> (try omega) <;> (try simp [h2])
  rw [hz, parsed_good _ hg]

theorem parse_line_8 (K : Nat) (a b r n m : Nat) (l : Bool) (hg : goodD ⟨8, a, b, r, n, m, l⟩ = true) (hK : 64 ≤ K) (_ha : a < 64) (hb : b < 8) (hr : r < 8) (_hn : n < 18446744073709551616) (_hm : m < 18446744073709551616) :
    parseD K (lineD ⟨8, a, b, r, n, m, l⟩) = (⟨8, a, b, r, n, m, l⟩, 0) := by
  have hl : lineD ⟨8, a, b, r, n, m, l⟩ = joinS [32] [nameD 8, dec r, dec b] := by rw [lineD, if_pos hg]; simp [partsL, pieceL, joinS]
  have hw : words (lineD ⟨8, a, b, r, n, m, l⟩) = [nameD 8, dec r, dec b] := by
    rw [hl]; exact words_line _ (by simp only [List.forall_mem_cons]; exact ⟨⟨by decide, by decide⟩, isWord_dec _, isWord_dec _, by simp⟩)
  have hp := parseD_op8 K _ (nameD 8) (dec r) (dec b) hw (by decide)
  rw [read_dec r (by omega), read_dec b (by omega)] at hp
  simp only [show min r K = r by omega, show min b K = b by omega, bne_self_eq_false, Bool.or_self] at hp
  rw [hp]
  have hz : (⟨8, 0, (b : Int), (r : Int), 0, 0, false⟩ : Dd) = ⟨8, a, b, r, n, m, l⟩ := by
    have h2 := hg
    simp [goodD, onlyD, partsL, Dd.same] at h2
    apply Dd.ext' <;> simp <;> (try omega) <;> (try simp [h2])
  rw [hz, parsed_good _ hg]

theorem parse_line_9 (K : Nat) (a b r n m : Nat) (l : Bool) (hg : goodD ⟨9, a, b, r, n, m, l⟩ = true) (hK : 64 ≤ K) (ha : a < 64) (_hb : b < 8) (_hr : r < 8) (_hn : n < 18446744073709551616) (_hm : m < 18446744073709551616) :
    parseD K (lineD ⟨9, a, b, r, n, m, l⟩) = (⟨9, a, b, r, n, m, l⟩, 0) := by
  have hl : lineD ⟨9, a, b, r, n, m, l⟩ = joinS [32] [nameD 9, dec a] := by rw [lineD, if_pos hg]; simp [partsL, pieceL, joinS]
  have hw : words (lineD ⟨9, a, b, r, n, m, l⟩) = [nameD 9, dec a] := by
    rw [hl]; exact words_line _ (by simp only [List.forall_mem_cons]; exact ⟨⟨by decide, by decide⟩, isWord_dec _, by simp⟩)
  have hp := parseD_op9 K _ (nameD 9) (dec a) hw (by decide)
  rw [read_dec a (by omega)] at hp
  simp only [show min a K = a by omega, bne_self_eq_false, Bool.or_self] at hp
  rw [hp]
  have hz : (⟨9, (a : Int), 0, 0, 0, 0, false⟩ : Dd) = ⟨9, a, b, r, n, m, l⟩ := by
    have h2 := hg
    simp [goodD, onlyD, partsL, Dd.same] at h2
    apply Dd.ext' <;> simp <;> (try omega) <;> (try simp [h2])
  rw [hz, parsed_good _ hg]

theorem parse_line_10 (K : Nat) (a b r n m : Nat) (l : Bool) (hg : goodD ⟨10, a, b, r, n, m, l⟩ = true) (hK : 64 ≤ K) (ha : a < 64) (_hb : b < 8) (_hr : r < 8) (hn : n < 18446744073709551616) (_hm : m < 18446744073709551616) :
    parseD K (lineD ⟨10, a, b, r, n, m, l⟩) = (⟨10, a, b, r, n, m, l⟩, 0) := by
  have hl : lineD ⟨10, a, b, r, n, m, l⟩ = joinS [32] [nameD 10, dec a, dec n] := by rw [lineD, if_pos hg]; simp [partsL, pieceL, joinS]
  have hw : words (lineD ⟨10, a, b, r, n, m, l⟩) = [nameD 10, dec a, dec n] := by
    rw [hl]; exact words_line _ (by simp only [List.forall_mem_cons]; exact ⟨⟨by decide, by decide⟩, isWord_dec _, isWord_dec _, by simp⟩)
  have hp := parseD_op10 K _ (nameD 10) (dec a) (dec n) hw (by decide)
  rw [read_dec a (by omega), read_dec n (by omega)] at hp
  simp only [show min a K = a by omega, bne_self_eq_false, Bool.or_self] at hp
  rw [hp]
  have hz : (⟨10, (a : Int), 0, 0, n, 0, false⟩ : Dd) = ⟨10, a, b, r, n, m, l⟩ := by
    have h2 := hg
    simp [goodD, onlyD, partsL, Dd.same] at h2
    apply Dd.ext' <;> simp <;> (try omega) <;> (try simp [h2])
  rw [hz, parsed_good _ hg]

theorem parse_line_11 (K : Nat) (a b r n m : Nat) (l : Bool) (hg : goodD ⟨11, a, b, r, n, m, l⟩ = true) (hK : 64 ≤ K) (ha : a < 64) (_hb : b < 8) (_hr : r < 8) (_hn : n < 18446744073709551616) (_hm : m < 18446744073709551616) :
    parseD K (lineD ⟨11, a, b, r, n, m, l⟩) = (⟨11, a, b, r, n, m, l⟩, 0) := by
  have hl : lineD ⟨11, a, b, r, n, m, l⟩ = joinS [32] [nameD 11, dec a] := by rw [lineD, if_pos hg]; simp [partsL, pieceL, joinS]
  have hw : words (lineD ⟨11, a, b, r, n, m, l⟩) = [nameD 11, dec a] := by
    rw [hl]; exact words_line _ (by simp only [List.forall_mem_cons]; exact ⟨⟨by decide, by decide⟩, isWord_dec _, by simp⟩)
  have hp := parseD_op11 K _ (nameD 11) (dec a) hw (by decide)
  rw [read_dec a (by omega)] at hp
  simp only [show min a K = a by omega, bne_self_eq_false, Bool.or_self] at hp
  rw [hp]
  have hz : (⟨11, (a : Int), 0, 0, 0, 0, false⟩ : Dd) = ⟨11, a, b, r, n, m, l⟩ := by
    have h2 := hg
    simp [goodD, onlyD, partsL, Dd.same] at h2
    apply Dd.ext' <;> simp <;> (try omega) <;> (try simp [h2])
  rw [hz, parsed_good _ hg]

theorem parse_line (K : Nat) (hK : 64 ≤ K) (o a b r : Int) (n m : Nat) (l : Bool) (hg : goodD ⟨o, a, b, r, n, m, l⟩ = true) (hn : n < 18446744073709551616) (hm : m < 18446744073709551616) :
    parseD K (lineD ⟨o, a, b, r, n, m, l⟩) = (⟨o, a, b, r, n, m, l⟩, 0) := by
  have hr := goodD_ranges hg
  simp only at hr
  obtain ⟨a, rfl⟩ := Int.eq_ofNat_of_zero_le hr.1
  obtain ⟨b, rfl⟩ := Int.eq_ofNat_of_zero_le hr.2.2.1
  obtain ⟨r, rfl⟩ := Int.eq_ofNat_of_zero_le hr.2.2.2.2.1
  rcases (by omega : o = 1 ∨ o = 2 ∨ o = 3 ∨ o = 4 ∨ o = 5 ∨ o = 6 ∨ o = 7 ∨ o = 8 ∨ o = 9 ∨ o = 10 ∨ o = 11) with rfl | rfl | rfl | rfl | rfl | rfl | rfl | rfl | rfl | rfl | rfl
  · exact parse_line_1 K a b r n m l hg hK (by omega) (by omega) (by omega) hn hm
  · cases l
    · exact parse_line_2 K a b r n m hg hK (by omega) (by omega) (by omega) hn hm
    · exact parse_line_2l K a b r n m hg hK (by omega) (by omega) (by omega) hn hm
  · exact parse_line_3 K a b r n m l hg hK (by omega) (by omega) (by omega) hn hm
  · exact parse_line_4 K a b r n m l hg hK (by omega) (by omega) (by omega) hn hm
  · exact parse_line_5 K a b r n m l hg hK (by omega) (by omega) (by omega) hn hm
  · exact parse_line_6 K a b r n m l hg hK (by omega) (by omega) (by omega) hn hm
  · exact parse_line_7 K a b r n m l hg hK (by omega) (by omega) (by omega) hn hm
  · exact parse_line_8 K a b r n m l hg hK (by omega) (by omega) (by omega) hn hm
  · exact parse_line_9 K a b r n m l hg hK (by omega) (by omega) (by omega) hn hm
  · exact parse_line_10 K a b r n m l hg hK (by omega) (by omega) (by omega) hn hm
  · exact parse_line_11 K a b r n m l hg hK (by omega) (by omega) (by omega) hn hm

end Go.Proofs.YtmhlmoojmdfnfaaDoor
