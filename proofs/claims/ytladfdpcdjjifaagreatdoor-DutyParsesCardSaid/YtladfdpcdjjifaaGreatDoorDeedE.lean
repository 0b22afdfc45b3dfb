/- A deed's line is parsed as that deed. No program is walked here; strings.Builder: copyCheck, WriteString, WriteByte at a builder of the call's own; strings.Builder: WriteByte at a builder of the call's own. -/
import Derived.Test.YtladfdpcdjjifaaGreatDoorDeedS
import Derived.Test.YtladfdpcdjjifaaGreatDoorProg
import Derived.Test.YtladfdpcdjjifaaGreatDoorWirePlain
import Derived.Lib.Builder
import Derived.Lib.AppendStr
import Derived.Laws.Externs
import Derived.Test.YtladfdpcdjjifaaGreatDoorMem

/- A deed's line is parsed as that deed. No program is walked here. -/
namespace Go.Proofs.YtladfdpcdjjifaaGreatDoor
open Go.RowKit
attribute [local simp] takeP

theorem isWord_dec (x : Nat) : isWord (dec x) := by
  refine ⟨decN_ne 19 x, fun c hc => ?_⟩
  have h := List.all_eq_true.1 (decN_dig 20 x) c hc
  rw [isDig_iff] at h
  rintro rfl
  simp at h
theorem isWord_hex (x : Nat) : isWord (hex x) := by
  refine ⟨fun h => ?_, fun c hc => ?_⟩
  · have := hexN_len 16 x
    rw [show hexN 16 x = hex x from rfl, h] at this
    simp at this
  · have h := List.all_eq_true.1 (hexN_all 16 x) c hc
    rintro rfl
    revert h; decide
theorem parsed_good (d : Dd) (h : goodD d = true) : parsed d false = (d, 0) := by simp [parsed, h]
theorem words_line (ws : List (List UInt8)) (h : ∀ w ∈ ws, isWord w) : words (joinS [32] ws) = ws := by
  have := words_join [32] (.inl rfl) [] (.inl rfl) ws h
  simpa using this
theorem parse_line_bad (K : Nat) (d : Dd) (hg : goodD d = false) : parseD K (lineD d) = (Dd.zero, 15) := by
  have : lineD d = [63] := by rw [lineD, if_neg (by simp [hg])]
  rw [this]
  exact parseD_word K [63] [63] [] (by decide) (by decide)

theorem parse_line_1 (K : Nat) (a b r n m : Nat) (l : Bool) (hg : goodD ⟨1, a, b, r, n, m, l⟩ = true) (_hK : 64 ≤ K) (_ha : a < 64) (_hb : b < 8) (_hr : r < 8) (hn : n < 18446744073709551616) (_hm : m < 18446744073709551616) :
    parseD K (lineD ⟨1, a, b, r, n, m, l⟩) = (⟨1, a, b, r, n, m, l⟩, 0) := by
  have hl : lineD ⟨1, a, b, r, n, m, l⟩ = joinS [32] [nameD 1, dec n] := by rw [lineD, if_pos hg]; simp [partsL, pieceL, joinS]
  have hw : words (lineD ⟨1, a, b, r, n, m, l⟩) = [nameD 1, dec n] := by
    rw [hl]; exact words_line _ (by simp only [List.forall_mem_cons]; exact ⟨⟨by decide, by decide⟩, isWord_dec _, by simp⟩)
  have hp := parseD_op1 K _ (nameD 1) (dec n) hw (by decide)
  rw [read_dec n (by omega)] at hp
  simp only [bne_self_eq_false, Bool.or_self] at hp
  rw [hp]
  have hz : (⟨1, 0, 0, 0, n, 0, false⟩ : Dd) = ⟨1, a, b, r, n, m, l⟩ := by
    have h2 := hg
    simp [goodD, onlyD, partsL, Dd.same] at h2
    apply Dd.ext' <;> simp <;> (try omega) <;> (try simp [h2])
  rw [hz, parsed_good _ hg]

theorem parse_line_2 (K : Nat) (a b r n m : Nat) (hg : goodD ⟨2, a, b, r, n, m, false⟩ = true) (hK : 64 ≤ K) (ha : a < 64) (hb : b < 8) (hr : r < 8) (_hn : n < 18446744073709551616) (hm : m < 18446744073709551616) :
    parseD K (lineD ⟨2, a, b, r, n, m, false⟩) = (⟨2, a, b, r, n, m, false⟩, 0) := by
  have hl : lineD ⟨2, a, b, r, n, m, false⟩ = joinS [32] [nameD 2, dec a, dec b, dec r, hex m] := by rw [lineD, if_pos hg]; simp [partsL, pieceL, joinS]
  have hw : words (lineD ⟨2, a, b, r, n, m, false⟩) = [nameD 2, dec a, dec b, dec r, hex m] := by
    rw [hl]; exact words_line _ (by simp only [List.forall_mem_cons]; exact ⟨⟨by decide, by decide⟩, isWord_dec _, isWord_dec _, isWord_dec _, isWord_hex _, by simp⟩)
  have hp := parseD_op2 K _ (nameD 2) (dec a) (dec b) (dec r) (hex m) hw (by decide)
  rw [read_dec a (by omega), read_dec b (by omega), read_dec r (by omega), readH_hex m hm] at hp
  simp only [show min a K = a by omega, show min b K = b by omega, show min r K = r by omega, bne_self_eq_false, Bool.or_self] at hp
  rw [hp]
  have hz : (⟨2, (a : Int), (b : Int), (r : Int), 0, m, false⟩ : Dd) = ⟨2, a, b, r, n, m, false⟩ := by
    have h2 := hg
    simp [goodD, onlyD, partsL, Dd.same] at h2
    apply Dd.ext' <;> simp <;> (try omega) <;> (try simp [h2])
  rw [hz, parsed_good _ hg]

theorem parse_line_2l (K : Nat) (a b r n m : Nat) (hg : goodD ⟨2, a, b, r, n, m, true⟩ = true) (hK : 64 ≤ K) (ha : a < 64) (hb : b < 8) (hr : r < 8) (_hn : n < 18446744073709551616) (hm : m < 18446744073709551616) :
    parseD K (lineD ⟨2, a, b, r, n, m, true⟩) = (⟨2, a, b, r, n, m, true⟩, 0) := by
  have hl : lineD ⟨2, a, b, r, n, m, true⟩ = joinS [32] [nameD 2, dec a, dec b, dec r, hex m, [108, 111, 111, 115, 101]] := by rw [lineD, if_pos hg]; simp [partsL, pieceL, joinS]
  have hw : words (lineD ⟨2, a, b, r, n, m, true⟩) = [nameD 2, dec a, dec b, dec r, hex m, [108, 111, 111, 115, 101]] := by
    rw [hl]; exact words_line _ (by simp only [List.forall_mem_cons]; exact ⟨⟨by decide, by decide⟩, isWord_dec _, isWord_dec _, isWord_dec _, isWord_hex _, ⟨by decide, by decide⟩, by simp⟩)
  have hp := parseD_op2l K _ (nameD 2) (dec a) (dec b) (dec r) (hex m) ([108, 111, 111, 115, 101]) hw (by decide)
  rw [read_dec a (by omega), read_dec b (by omega), read_dec r (by omega), readH_hex m hm] at hp
  simp only [show min a K = a by omega, show min b K = b by omega, show min r K = r by omega, bne_self_eq_false, Bool.or_self] at hp
  rw [hp]
  have hz : (⟨2, (a : Int), (b : Int), (r : Int), 0, m, true⟩ : Dd) = ⟨2, a, b, r, n, m, true⟩ := by
    have h2 := hg
    simp [goodD, onlyD, partsL, Dd.same] at h2
    apply Dd.ext' <;> simp <;> (try omega) <;> (try simp [h2])
  rw [hz, parsed_good _ hg]

theorem parse_line_3 (K : Nat) (a b r n m : Nat) (l : Bool) (hg : goodD ⟨3, a, b, r, n, m, l⟩ = true) (_hK : 64 ≤ K) (_ha : a < 64) (_hb : b < 8) (_hr : r < 8) (hn : n < 18446744073709551616) (_hm : m < 18446744073709551616) :
    parseD K (lineD ⟨3, a, b, r, n, m, l⟩) = (⟨3, a, b, r, n, m, l⟩, 0) := by
  have hl : lineD ⟨3, a, b, r, n, m, l⟩ = joinS [32] [nameD 3, dec n] := by rw [lineD, if_pos hg]; simp [partsL, pieceL, joinS]
  have hw : words (lineD ⟨3, a, b, r, n, m, l⟩) = [nameD 3, dec n] := by
    rw [hl]; exact words_line _ (by simp only [List.forall_mem_cons]; exact ⟨⟨by decide, by decide⟩, isWord_dec _, by simp⟩)
  have hp := parseD_op3 K _ (nameD 3) (dec n) hw (by decide)
  rw [read_dec n (by omega)] at hp
  simp only [bne_self_eq_false, Bool.or_self] at hp
  rw [hp]
  have hz : (⟨3, 0, 0, 0, n, 0, false⟩ : Dd) = ⟨3, a, b, r, n, m, l⟩ := by
    have h2 := hg
    simp [goodD, onlyD, partsL, Dd.same] at h2
    apply Dd.ext' <;> simp <;> (try omega) <;> (try simp [h2])
  rw [hz, parsed_good _ hg]

theorem parse_line_4 (K : Nat) (a b r n m : Nat) (l : Bool) (hg : goodD ⟨4, a, b, r, n, m, l⟩ = true) (hK : 64 ≤ K) (_ha : a < 64) (_hb : b < 8) (hr : r < 8) (_hn : n < 18446744073709551616) (_hm : m < 18446744073709551616) :
    parseD K (lineD ⟨4, a, b, r, n, m, l⟩) = (⟨4, a, b, r, n, m, l⟩, 0) := by
  have hl : lineD ⟨4, a, b, r, n, m, l⟩ = joinS [32] [nameD 4, dec r] := by rw [lineD, if_pos hg]; simp [partsL, pieceL, joinS]
  have hw : words (lineD ⟨4, a, b, r, n, m, l⟩) = [nameD 4, dec r] := by
    rw [hl]; exact words_line _ (by simp only [List.forall_mem_cons]; exact ⟨⟨by decide, by decide⟩, isWord_dec _, by simp⟩)
  have hp := parseD_op4 K _ (nameD 4) (dec r) hw (by decide)
  rw [read_dec r (by omega)] at hp
  simp only [show min r K = r by omega, bne_self_eq_false, Bool.or_self] at hp
  rw [hp]
  have hz : (⟨4, 0, 0, (r : Int), 0, 0, false⟩ : Dd) = ⟨4, a, b, r, n, m, l⟩ := by
    have h2 := hg
    simp [goodD, onlyD, partsL, Dd.same] at h2
    apply Dd.ext' <;> simp <;> (try omega) <;> (try simp [h2])
  rw [hz, parsed_good _ hg]

theorem parse_line_5 (K : Nat) (a b r n m : Nat) (l : Bool) (hg : goodD ⟨5, a, b, r, n, m, l⟩ = true) (_hK : 64 ≤ K) (_ha : a < 64) (_hb : b < 8) (_hr : r < 8) (_hn : n < 18446744073709551616) (_hm : m < 18446744073709551616) :
    parseD K (lineD ⟨5, a, b, r, n, m, l⟩) = (⟨5, a, b, r, n, m, l⟩, 0) := by
  have hl : lineD ⟨5, a, b, r, n, m, l⟩ = joinS [32] [nameD 5] := by rw [lineD, if_pos hg]; simp [partsL, joinS]
  have hw : words (lineD ⟨5, a, b, r, n, m, l⟩) = [nameD 5] := by
    rw [hl]; exact words_line _ (by simp only [List.forall_mem_cons]; exact ⟨⟨by decide, by decide⟩, by simp⟩)
  have hp := parseD_op5 K _ (nameD 5) hw (by decide)
  skip
  rw [hp]
  have hz : (⟨5, 0, 0, 0, 0, 0, false⟩ : Dd) = ⟨5, a, b, r, n, m, l⟩ := by
    have h2 := hg
    simp [goodD, onlyD, partsL, Dd.same] at h2
    apply Dd.ext' <;> simp <;> (try omega) <;> (try simp [h2])
  rw [hz, parsed_good _ hg]

theorem parse_line_6 (K : Nat) (a b r n m : Nat) (l : Bool) (hg : goodD ⟨6, a, b, r, n, m, l⟩ = true) (_hK : 64 ≤ K) (_ha : a < 64) (_hb : b < 8) (_hr : r < 8) (hn : n < 18446744073709551616) (_hm : m < 18446744073709551616) :
    parseD K (lineD ⟨6, a, b, r, n, m, l⟩) = (⟨6, a, b, r, n, m, l⟩, 0) := by
  have hl : lineD ⟨6, a, b, r, n, m, l⟩ = joinS [32] [nameD 6, dec n] := by rw [lineD, if_pos hg]; simp [partsL, pieceL, joinS]
  have hw : words (lineD ⟨6, a, b, r, n, m, l⟩) = [nameD 6, dec n] := by
    rw [hl]; exact words_line _ (by simp only [List.forall_mem_cons]; exact ⟨⟨by decide, by decide⟩, isWord_dec _, by simp⟩)
  have hp := parseD_op6 K _ (nameD 6) (dec n) hw (by decide)
  rw [read_dec n (by omega)] at hp
  simp only [bne_self_eq_false, Bool.or_self] at hp
  rw [hp]
  have hz : (⟨6, 0, 0, 0, n, 0, false⟩ : Dd) = ⟨6, a, b, r, n, m, l⟩ := by
    have h2 := hg
    simp [goodD, onlyD, partsL, Dd.same] at h2
    apply Dd.ext' <;> simp <;> (try omega) <;> (try simp [h2])
  rw [hz, parsed_good _ hg]

theorem parse_line_7 (K : Nat) (a b r n m : Nat) (l : Bool) (hg : goodD ⟨7, a, b, r, n, m, l⟩ = true) (hK : 64 ≤ K) (_ha : a < 64) (_hb : b < 8) (hr : r < 8) (_hn : n < 18446744073709551616) (hm : m < 18446744073709551616) :
    parseD K (lineD ⟨7, a, b, r, n, m, l⟩) = (⟨7, a, b, r, n, m, l⟩, 0) := by
  have hl : lineD ⟨7, a, b, r, n, m, l⟩ = joinS [32] [nameD 7, dec r, hex m] := by rw [lineD, if_pos hg]; simp [partsL, pieceL, joinS]
  have hw : words (lineD ⟨7, a, b, r, n, m, l⟩) = [nameD 7, dec r, hex m] := by
    rw [hl]; exact words_line _ (by simp only [List.forall_mem_cons]; exact ⟨⟨by decide, by decide⟩, isWord_dec _, isWord_hex _, by simp⟩)
  have hp := parseD_op7 K _ (nameD 7) (dec r) (hex m) hw (by decide)
  rw [read_dec r (by omega), readH_hex m hm] at hp
  simp only [show min r K = r by omega, bne_self_eq_false, Bool.or_self] at hp
  rw [hp]
  have hz : (⟨7, 0, 0, (r : Int), 0, m, false⟩ : Dd) = ⟨7, a, b, r, n, m, l⟩ := by
    have h2 := hg
    simp [goodD, onlyD, partsL, Dd.same] at h2
    apply Dd.ext' <;> simp <;> (try omega) <;> (try simp [h2])
  rw [hz, parsed_good _ hg]

theorem parse_line_8 (K : Nat) (a b r n m : Nat) (l : Bool) (hg : goodD ⟨8, a, b, r, n, m, l⟩ = true) (hK : 64 ≤ K) (_ha : a < 64) (hb : b < 8) (hr : r < 8) (_hn : n < 18446744073709551616) (_hm : m < 18446744073709551616) :
    parseD K (lineD ⟨8, a, b, r, n, m, l⟩) = (⟨8, a, b, r, n, m, l⟩, 0) := by
  have hl : lineD ⟨8, a, b, r, n, m, l⟩ = joinS [32] [nameD 8, dec r, dec b] := by rw [lineD, if_pos hg]; simp [partsL, pieceL, joinS]
  have hw : words (lineD ⟨8, a, b, r, n, m, l⟩) = [nameD 8, dec r, dec b] := by
    rw [hl]; exact words_line _ (by simp only [List.forall_mem_cons]; exact ⟨⟨by decide, by decide⟩, isWord_dec _, isWord_dec _, by simp⟩)
  have hp := parseD_op8 K _ (nameD 8) (dec r) (dec b) hw (by decide)
  rw [read_dec r (by omega), read_dec b (by omega)] at hp
  simp only [show min r K = r by omega, show min b K = b by omega, bne_self_eq_false, Bool.or_self] at hp
  rw [hp]
  have hz : (⟨8, 0, (b : Int), (r : Int), 0, 0, false⟩ : Dd) = ⟨8, a, b, r, n, m, l⟩ := by
    have h2 := hg
    simp [goodD, onlyD, partsL, Dd.same] at h2
    apply Dd.ext' <;> simp <;> (try omega) <;> (try simp [h2])
  rw [hz, parsed_good _ hg]

theorem parse_line_9 (K : Nat) (a b r n m : Nat) (l : Bool) (hg : goodD ⟨9, a, b, r, n, m, l⟩ = true) (hK : 64 ≤ K) (ha : a < 64) (_hb : b < 8) (_hr : r < 8) (_hn : n < 18446744073709551616) (_hm : m < 18446744073709551616) :
    parseD K (lineD ⟨9, a, b, r, n, m, l⟩) = (⟨9, a, b, r, n, m, l⟩, 0) := by
  have hl : lineD ⟨9, a, b, r, n, m, l⟩ = joinS [32] [nameD 9, dec a] := by rw [lineD, if_pos hg]; simp [partsL, pieceL, joinS]
  have hw : words (lineD ⟨9, a, b, r, n, m, l⟩) = [nameD 9, dec a] := by
    rw [hl]; exact words_line _ (by simp only [List.forall_mem_cons]; exact ⟨⟨by decide, by decide⟩, isWord_dec _, by simp⟩)
  have hp := parseD_op9 K _ (nameD 9) (dec a) hw (by decide)
  rw [read_dec a (by omega)] at hp
  simp only [show min a K = a by omega, bne_self_eq_false, Bool.or_self] at hp
  rw [hp]
  have hz : (⟨9, (a : Int), 0, 0, 0, 0, false⟩ : Dd) = ⟨9, a, b, r, n, m, l⟩ := by
    have h2 := hg
    simp [goodD, onlyD, partsL, Dd.same] at h2
    apply Dd.ext' <;> simp <;> (try omega) <;> (try simp [h2])
  rw [hz, parsed_good _ hg]

theorem parse_line_10 (K : Nat) (a b r n m : Nat) (l : Bool) (hg : goodD ⟨10, a, b, r, n, m, l⟩ = true) (hK : 64 ≤ K) (ha : a < 64) (_hb : b < 8) (_hr : r < 8) (hn : n < 18446744073709551616) (_hm : m < 18446744073709551616) :
    parseD K (lineD ⟨10, a, b, r, n, m, l⟩) = (⟨10, a, b, r, n, m, l⟩, 0) := by
  have hl : lineD ⟨10, a, b, r, n, m, l⟩ = joinS [32] [nameD 10, dec a, dec n] := by rw [lineD, if_pos hg]; simp [partsL, pieceL, joinS]
  have hw : words (lineD ⟨10, a, b, r, n, m, l⟩) = [nameD 10, dec a, dec n] := by
    rw [hl]; exact words_line _ (by simp only [List.forall_mem_cons]; exact ⟨⟨by decide, by decide⟩, isWord_dec _, isWord_dec _, by simp⟩)
  have hp := parseD_op10 K _ (nameD 10) (dec a) (dec n) hw (by decide)
  rw [read_dec a (by omega), read_dec n (by omega)] at hp
  simp only [show min a K = a by omega, bne_self_eq_false, Bool.or_self] at hp
  rw [hp]
  have hz : (⟨10, (a : Int), 0, 0, n, 0, false⟩ : Dd) = ⟨10, a, b, r, n, m, l⟩ := by
    have h2 := hg
    simp [goodD, onlyD, partsL, Dd.same] at h2
    apply Dd.ext' <;> simp <;> (try omega) <;> (try simp [h2])
  rw [hz, parsed_good _ hg]

theorem parse_line_11 (K : Nat) (a b r n m : Nat) (l : Bool) (hg : goodD ⟨11, a, b, r, n, m, l⟩ = true) (hK : 64 ≤ K) (ha : a < 64) (_hb : b < 8) (_hr : r < 8) (_hn : n < 18446744073709551616) (_hm : m < 18446744073709551616) :
    parseD K (lineD ⟨11, a, b, r, n, m, l⟩) = (⟨11, a, b, r, n, m, l⟩, 0) := by
  have hl : lineD ⟨11, a, b, r, n, m, l⟩ = joinS [32] [nameD 11, dec a] := by rw [lineD, if_pos hg]; simp [partsL, pieceL, joinS]
  have hw : words (lineD ⟨11, a, b, r, n, m, l⟩) = [nameD 11, dec a] := by
    rw [hl]; exact words_line _ (by simp only [List.forall_mem_cons]; exact ⟨⟨by decide, by decide⟩, isWord_dec _, by simp⟩)
  have hp := parseD_op11 K _ (nameD 11) (dec a) hw (by decide)
  rw [read_dec a (by omega)] at hp
  simp only [show min a K = a by omega, bne_self_eq_false, Bool.or_self] at hp
  rw [hp]
  have hz : (⟨11, (a : Int), 0, 0, 0, 0, false⟩ : Dd) = ⟨11, a, b, r, n, m, l⟩ := by
    have h2 := hg
    simp [goodD, onlyD, partsL, Dd.same] at h2
    apply Dd.ext' <;> simp <;> (try omega) <;> (try simp [h2])
  rw [hz, parsed_good _ hg]

theorem parse_line (K : Nat) (hK : 64 ≤ K) (o a b r : Int) (n m : Nat) (l : Bool) (hg : goodD ⟨o, a, b, r, n, m, l⟩ = true) (hn : n < 18446744073709551616) (hm : m < 18446744073709551616) :
    parseD K (lineD ⟨o, a, b, r, n, m, l⟩) = (⟨o, a, b, r, n, m, l⟩, 0) := by
  have hr := goodD_ranges hg
  simp only at hr
  obtain ⟨a, rfl⟩ := Int.eq_ofNat_of_zero_le hr.1
  obtain ⟨b, rfl⟩ := Int.eq_ofNat_of_zero_le hr.2.2.1
  obtain ⟨r, rfl⟩ := Int.eq_ofNat_of_zero_le hr.2.2.2.2.1
  rcases (by omega : o = 1 ∨ o = 2 ∨ o = 3 ∨ o = 4 ∨ o = 5 ∨ o = 6 ∨ o = 7 ∨ o = 8 ∨ o = 9 ∨ o = 10 ∨ o = 11) with rfl | rfl | rfl | rfl | rfl | rfl | rfl | rfl | rfl | rfl | rfl
  · exact parse_line_1 K a b r n m l hg hK (by omega) (by omega) (by omega) hn hm
  · cases l
    · exact parse_line_2 K a b r n m hg hK (by omega) (by omega) (by omega) hn hm
    · exact parse_line_2l K a b r n m hg hK (by omega) (by omega) (by omega) hn hm
  · exact parse_line_3 K a b r n m l hg hK (by omega) (by omega) (by omega) hn hm
  · exact parse_line_4 K a b r n m l hg hK (by omega) (by omega) (by omega) hn hm
  · exact parse_line_5 K a b r n m l hg hK (by omega) (by omega) (by omega) hn hm
  · exact parse_line_6 K a b r n m l hg hK (by omega) (by omega) (by omega) hn hm
  · exact parse_line_7 K a b r n m l hg hK (by omega) (by omega) (by omega) hn hm
  · exact parse_line_8 K a b r n m l hg hK (by omega) (by omega) (by omega) hn hm
  · exact parse_line_9 K a b r n m l hg hK (by omega) (by omega) (by omega) hn hm
  · exact parse_line_10 K a b r n m l hg hK (by omega) (by omega) (by omega) hn hm
  · exact parse_line_11 K a b r n m l hg hK (by omega) (by omega) (by omega) hn hm

end Go.Proofs.YtladfdpcdjjifaaGreatDoor

/- strings.Builder: copyCheck, WriteString, WriteByte at a builder of the call's own. -/
namespace Go.Proofs.YtladfdpcdjjifaaGreatDoor
open Go.RowKit

theorem Tryz.infoB : (Tryz.prog.info? 5).map (fun i => (i.zero, i.size, i.bytes)) = some (some (.int .u8 0), 1, 1) := by kernel_rfl

set_option maxHeartbeats 1000000 in
set_option maxRecDepth 100000 in
theorem copyCheck_used (b : Nat) (w : World) (h0 : w.cell? ⟨b, 0, none⟩ = some (.pointer (some ⟨b, 0, none⟩))) :
    Calls Tryz.prog 73 #[.pointer (some ⟨b, 0, none⟩)] w fun e w' => e = .returned (.tuple #[]) ∧ w = w' := by
  obtain ⟨j, hj, _⟩ := Option.map_eq_some_iff.1 (show (Tryz.prog.info? 78).map (·.size) = some 2 by kernel_rfl)
  go_enter Tryz.func73, Tryz.ntmps73
  go_wp2
  rw [Lib.run_neq_ptr_same w _ Tryz.underlying75 hj]
  go_wp2
  go_end0
  exact ⟨rfl, rfl⟩

set_option maxHeartbeats 1000000 in
set_option maxRecDepth 100000 in
theorem copyCheck_fresh (b : Nat) (w : World) (h0 : w.cell? ⟨b, 0, none⟩ = some (.pointer none)) (hsh : w.shape? b = some (78, 2)) (hfz : w.frozen? ⟨b, 0, none⟩ = false) :
    Calls Tryz.prog 73 #[.pointer (some ⟨b, 0, none⟩)] w fun e w' => e = .returned (.tuple #[]) ∧ w' = w.setCell ⟨b, 0, none⟩ (.pointer (some ⟨b, 0, none⟩)) := by
  obtain ⟨j, hj, hjs⟩ := Option.map_eq_some_iff.1 (show (Tryz.prog.info? 78).map (·.size) = some 2 by kernel_rfl)
  go_enter Tryz.func73, Tryz.ntmps73
  go_wp2
  rw [Lib.run_to_unsafe w ⟨b, 0, none⟩ Tryz.underlying75 Tryz.underlying119 hj (by rw [hjs]; decide) hsh (Nat.zero_lt_succ 1)]
  simp only [Result.andThen]
  rw [Oper.upon_value]
  go_wp2
  rw [run_callFunc_extern Tryz.func95 (by kernel_rfl) (by kernel_rfl) (by kernel_rfl) (e := Extern.AbiNoEscape.same) (by kernel_rfl)]
  rw [Lib.run_noEscape]
  simp only [Result.andThen]
  rw [Oper.upon_value]
  go_wp2
  rw [Lib.run_from_unsafe w ⟨b, 0, none⟩ Tryz.underlying119 Tryz.underlying75 hj hsh (by kernel_rfl)]
  simp only [Result.andThen]
  rw [Oper.upon_value]
  go_wp2
  go_end0
  exact ⟨rfl, rfl⟩

theorem copyCheck_any (B b : Nat) (bs : List Value) (w : World) (h : Lib.IsBuilder 78 5 B b bs w) :
    Calls Tryz.prog 73 #[.pointer (some ⟨b, 0, none⟩)] w fun e w' => e = .returned (.tuple #[]) ∧ (Lib.BuilderAt 78 5 B b (.pointer (some ⟨b, 0, none⟩)) bs w' ∧ Below B w w') := by
  rcases h with h | h
  · refine (copyCheck_fresh b w h.cell0 h.shape h.frozen0).mono ?_
    rintro e w' ⟨rfl, rfl⟩
    exact ⟨rfl, h.used _, (Below.refl B w).setCell (p := ⟨b, 0, none⟩) h.1 _⟩
  · refine (copyCheck_used b w h.cell0).mono ?_
    rintro e w' ⟨rfl, rfl⟩
    exact ⟨rfl, h, Below.refl B _⟩

set_option maxHeartbeats 2000000 in
set_option maxRecDepth 100000 in
theorem writeString_any (B b : Nat) (bs : List Value) (s : ByteArray) (w : World) (h : Lib.IsBuilder 78 5 B b bs w) (hlen : bs.length + s.size ≤ 140737488355328) (hBw : B ≤ w.heap.size) :
    Calls Tryz.prog 44 #[.pointer (some ⟨b, 0, none⟩), .string s] w fun e w' => e = .returned (.tuple #[.int .i64 s.size, .nilIface]) ∧ (Lib.IsBuilder 78 5 B b (bs ++ Lib.strCells s) w' ∧ Below B w w') := by
  obtain ⟨i0, hi, hz0, hz1, hz2⟩ := info_parts Tryz.infoB
  have HC := Lib.hid (copyCheck_any B b bs w h)
  clear h
  go_enter Tryz.func44, Tryz.ntmps44
  go_wp2_with fail
  refine (HC.out).mono ?_
  rintro e w1 ⟨rfl, h1, hb1⟩
  obtain ⟨hB, v, hbk, hown, hne⟩ := h1
  have c0 : w1.cell? ⟨b, 0, none⟩ = some (.pointer (some ⟨b, 0, none⟩)) := by rw [Lib.cell_of_heap hbk]; rfl
  have c1 : w1.cell? ⟨b, 1, none⟩ = some v := by rw [Lib.cell_of_heap hbk]; rfl
  go_wp2_with (at_builtin; refine Lib.wpList_append_own_string _ rfl _ _ 76 9 rfl B 5 i0 Tryz.underlying76 Tryz.underlying9 hi hz0 hz1 hz2 _ _ _ rfl hown s rfl ?c3 ?c4 ?c5 ?_)
  case c3 => unfold maxLen; omega
  case c4 => omega
  case c5 => have := hb1.size; omega
  intro v' w2 hown' hgrow _
  have hlt : b < w1.heap.size := lt_of_block hbk
  have hb2 : w2.heap[b]? = some (.cells #[.pointer (some ⟨b, 0, none⟩), v] 78 (0, 0)) := by
    rw [hgrow.block b hlt (fun e => hne e.symm)]
    exact hbk
  have d0 : w2.cell? ⟨b, 0, none⟩ = some (.pointer (some ⟨b, 0, none⟩)) := by rw [Lib.cell_of_heap hb2]; rfl
  have d1 : w2.cell? ⟨b, 1, none⟩ = some v := by rw [Lib.cell_of_heap hb2]; rfl
  have f1 : w2.frozen? ⟨b, 1, none⟩ = false := Lib.frozen_of_heap hb2 1
  obtain ⟨ao, n', cap, rfl⟩ : ∃ ao n' cap, v' = .slice ao n' cap := by
    rcases hown'.2 with ⟨hv, _⟩ | ⟨g, cap, cur, hv, _⟩
    · exact ⟨_, _, _, hv⟩
    · exact ⟨_, _, _, hv⟩
  go_wp2
  go_ret2
  refine ⟨rfl, .inr ?_, ?_⟩
  · exact Lib.BuilderAt.put (T := 78) (e := 5) hB hb2 (bs' := bs ++ Lib.strCells s) (by simpa [Lib.strCells_length] using hown') (by decide)
  · exact (hb1.grown hgrow (by have := hb1.size; omega) (fun k hk => (hown.lt k hk).1)).setCell (p := ⟨b, 1, none⟩) hB _

theorem builder_new (w : World) : Lib.IsBuilder 78 5 w.heap.size w.heap.size [] (w.alloc (.cells #[.pointer none, .slice none 0 0] 78)) :=
  .inl ⟨Nat.le_refl _, .slice none 0 0, Blk.new _ _ _, World.ownsRow_nil _ _ _ _, by simp [Value.ownBlock]⟩
/-- A builder of a call's own abides what leaves its blocks alone. -/
theorem builder_kept {B b : Nat} {bs : List Value} {w w' : World} (h : Lib.IsBuilder 78 5 B b bs w) (hk : Kept [] w w') : Lib.IsBuilder 78 5 B b bs w' := by
  have hA : ∀ p, Lib.BuilderAt 78 5 B b p bs w → Lib.BuilderAt 78 5 B b p bs w' := fun p ⟨h1, v, h2, h3, h4⟩ => ⟨h1, v, Blk.kept h2 hk (by simp), own_kept h3 hk (by simp), h4⟩
  rcases h with h | h
  · exact .inl (hA _ h)
  · exact .inr (hA _ h)

end Go.Proofs.YtladfdpcdjjifaaGreatDoor

/- strings.Builder: WriteByte at a builder of the call's own. -/
namespace Go.Proofs.YtladfdpcdjjifaaGreatDoor
open Go.RowKit

theorem own_to {w : World} {B : Nat} {e : TypeId} {size n : Nat} {v : Value} {xs : List Value} (h : w.ownsRow 0 e size v n xs) (hb : ∀ k, k ∈ fp v → B ≤ k) : w.ownsRow B e size v n xs := by
  refine ⟨h.1, ?_⟩
  rcases h.2 with hn | ⟨g, cap, cur, rfl, _, r⟩
  · exact .inl hn
  · exact .inr ⟨g, cap, cur, rfl, hb g (by simp [fp, Value.ownBlock]), r⟩

set_option maxHeartbeats 2000000 in
set_option maxRecDepth 100000 in
theorem writeByte_any (B b : Nat) (bs : List Value) (c : Int) (w : World) (h : Lib.IsBuilder 78 5 B b bs w) (hlen : bs.length + 1 ≤ 140737488355328) (hBw : B ≤ w.heap.size) :
    Calls Tryz.prog 46 #[.pointer (some ⟨b, 0, none⟩), .int .u8 c] w fun e w' => e = .returned .nilIface ∧ (Lib.IsBuilder 78 5 B b (bs ++ [.int .u8 c]) w' ∧ Below B w w') := by
  have HC := Lib.hid (copyCheck_any B b bs w h)
  clear h
  go_enter Tryz.func46, Tryz.ntmps46
  go_wp2_with fail
  refine (HC.out).mono ?_
  rintro e w1 ⟨rfl, h1, hb1⟩
  obtain ⟨hB, v, hbk, hown, hne⟩ := h1
  have c0 : w1.cell? ⟨b, 0, none⟩ = some (.pointer (some ⟨b, 0, none⟩)) := by rw [Lib.cell_of_heap hbk]; rfl
  have c1 : w1.cell? ⟨b, 1, none⟩ = some v := by rw [Lib.cell_of_heap hbk]; rfl
  have hlt : b < w1.heap.size := lt_of_block hbk
  have HB1 : Hid (Blk w1 b 78 #[.pointer (some ⟨b, 0, none⟩), v]) := hbk
  have HBW := Lib.hid hb1
  have hsz : B ≤ w1.heap.size := by have := hb1.size; omega
  have HO : Hid ((w1.alloc (.cells #[.int .u8 c] 5)).ownsRow 0 5 1 v bs.length bs) := own_kept (own_base hown) ((Kept.refl [] _).alloc _) (by simp)
  have HFV : Hid (∀ k, k ∈ fp v → B ≤ k) := fun k hk => (hown.lt k (mem_fp.1 hk)).1
  have HR : Hid (Reads (w1.alloc (.cells #[.int .u8 c] 5)) 1 (some ⟨w1.heap.size, 0, none⟩) 1 [.int .u8 c]) := reads_one w1 5 (.int .u8 c)
  have HNE : Hid (b ∉ fp v) := fun hm => hne (mem_fp.1 hm)
  clear hbk hown hne hb1
  go_wp2_with (at_builtin; refine wpList_append_any _ rfl _ _ 76 rfl 5 (.int .u8 0) 1 1 Tryz.underlying76 Tryz.infoB rfl (by decide) v bs.length bs rfl HO.out _ 1 1 [.int .u8 c] rfl HR.out (by simp [Value.oneCell']) (by simp only [maxLen]; omega) (by omega) ?_; rintro A2 c2 w2 happ; have HA := Lib.hid happ; have hB2 := (HB1.out.alloc (.cells #[.int .u8 c] 5)).kept happ.2.1 HNE.out; have d0 := hB2.cell; have f1 := hB2.frozen; have l1 := hB2.lt; have HB2 := Lib.hid hB2; clear happ hB2)
  go_ret
  have hbl : Below B w w2 := (HBW.out.alloc hsz _).trans (HA.out.2.1.below (by simp; omega) HFV.out)
  refine ⟨rfl, .inr ?_, hbl.setCell (p := ⟨b, 1, none⟩) hB _⟩
  exact Lib.BuilderAt.put (T := 78) (e := 5) hB HB2.out (bs' := bs ++ [.int .u8 c]) (by
    have := own_to HA.out.1 (B := B) (fun k hk => by
      rcases HA.out.2.2 k hk with h1 | h1
      · exact HFV.out k h1
      · simp at h1; omega)
    simpa using this) (by decide)

end Go.Proofs.YtladfdpcdjjifaaGreatDoor

