/- The document's Line of a deed. -/
import Derived.Test.YtmhlmoojmdfnfaaDoorDeedL2
namespace Go.Proofs.YtmhlmoojmdfnfaaDoor
open Go.RowKit

theorem str_app2 (s x : List UInt8) : ((⟨s.toArray⟩ : ByteArray) ++ ⟨#[32]⟩) ++ ⟨x.toArray⟩ = ⟨(s ++ 32 :: x).toArray⟩ := by
  rw [show (⟨s.toArray⟩ : ByteArray) ++ ⟨#[32]⟩ = ⟨(s ++ [32]).toArray⟩ from str_append s [32], str_append]
  simp

set_option maxHeartbeats 1600000 in
theorem refLine_bad (o a b r : Int) (n m : Nat) (l : Bool) (w : World) (hg : goodD ⟨o, a, b, r, n, m, l⟩ = false) :
    Calls Tryd.prog 32 #[.agg (dC o a b r n m l)] w fun e w' => e = .returned (strV (lineD ⟨o, a, b, r, n, m, l⟩)) ∧ Kept [] w w' := by
  have HG : Hid (∀ w, Calls Tryd.prog 34 #[.agg (dC o a b r n m l)] w fun e w' => e = .returned (.bool false) ∧ Kept [] w w') := fun w => by
    have := refGood o a b r n m l w
    rw [hg] at this
    exact this
  have HF : Hid (lineD ⟨o, a, b, r, n, m, l⟩ = [63]) := by rw [Hid, lineD, if_neg (by simp [hg])]
  clear hg
  go_enter Tryd.func32, Tryd.ntmps32
  go_wp2_with fail
  refine (HG.out _).mono ?_
  rintro e w1 ⟨rfl, hk1⟩
  go_wp2_with fail
  go_ret
  exact ⟨by rw [HF.out]; rfl, ((Kept.refl [] w).alloc _).trans hk1⟩

set_option maxHeartbeats 6400000 in
theorem refLine_good (o : Int) (a b r n m : Nat) (l : Bool) (w : World) (hg : goodD ⟨o, a, b, r, n, m, l⟩ = true) (ha : a < 64) (hb : b < 8) (hr : r < 8) (hn : n < 18446744073709551616) (hm : m < 18446744073709551616) :
    Calls Tryd.prog 32 #[.agg (dC o a b r n m l)] w fun e w' => e = .returned (strV (lineD ⟨o, a, b, r, n, m, l⟩)) ∧ Kept [] w w' := by
  have HG : Hid (∀ w, Calls Tryd.prog 34 #[.agg (dC o a b r n m l)] w fun e w' => e = .returned (.bool true) ∧ Kept [] w w') := fun w => by
    have := refGood o a b r n m l w
    rw [hg] at this
    exact this
  have HF : Hid (lineD ⟨o, a, b, r, n, m, l⟩ = nameD o ++ (partsL o).flatMap (pieceL ⟨o, a, b, r, n, m, l⟩)) := by rw [Hid, lineD, if_pos hg]
  have HNM := Lib.hid (fun w => refName o w)
  have HPT := Lib.hid (fun w => refParts o w)
  have hN := nameD_len o
  have hpl := partsL_len o
  have HPa : Hid (∀ w, Calls Tryd.prog 80 #[.int .u64 a] w fun e w' => e = .returned (strV (dec a)) ∧ w = w') := fun w => refPrint a w (by omega)
  have HPb : Hid (∀ w, Calls Tryd.prog 80 #[.int .u64 b] w fun e w' => e = .returned (strV (dec b)) ∧ w = w') := fun w => refPrint b w (by omega)
  have HPr : Hid (∀ w, Calls Tryd.prog 80 #[.int .u64 r] w fun e w' => e = .returned (strV (dec r)) ∧ w = w') := fun w => refPrint r w (by omega)
  have HPn : Hid (∀ w, Calls Tryd.prog 80 #[.int .u64 n] w fun e w' => e = .returned (strV (dec n)) ∧ w = w') := fun w => refPrint n w (by omega)
  have HX : Hid (∀ w, Calls Tryd.prog 81 #[.int .u64 m] w fun e w' => e = .returned (strV (hex m)) ∧ w = w') := fun w => refHex m w hm
  have hda := dec_len a (by omega)
  have hdb := dec_len b (by omega)
  have hdr := dec_len r (by omega)
  have hdn := dec_len n (by omega)
  have hdm : (hex m).length ≤ 16 := by rw [hex, hexN_len]; omega
  have HEa : Hid (pieceL ⟨o, a, b, r, n, m, l⟩ 65 = 32 :: dec a) := by simp [Hid, pieceL]
  have HEb : Hid (pieceL ⟨o, a, b, r, n, m, l⟩ 66 = 32 :: dec b) := by simp [Hid, pieceL]
  have HEr : Hid (pieceL ⟨o, a, b, r, n, m, l⟩ 82 = 32 :: dec r) := by simp [Hid, pieceL]
  have HEn : Hid (pieceL ⟨o, a, b, r, n, m, l⟩ 78 = 32 :: dec n) := by simp [Hid, pieceL]
  have HEm : Hid (pieceL ⟨o, a, b, r, n, m, l⟩ 77 = 32 :: hex m) := by simp [Hid, pieceL]
  have HEl : Hid (∀ c : UInt8, c ≠ 65 → c ≠ 66 → c ≠ 82 → c ≠ 78 → c ≠ 77 → pieceL ⟨o, a, b, r, n, m, l⟩ c = if l then [32, 108, 111, 111, 115, 101] else []) := by intro c h1 h2 h3 h4 h5; simp [pieceL, h1, h2, h3, h4, h5]
  generalize pieceL ⟨o, a, b, r, n, m, l⟩ = pc at *
  generalize dec a = xa at *
  generalize dec b = xb at *
  generalize dec r = xr at *
  generalize dec n = xn at *
  generalize hex m = xm at *
  generalize nameD o = nm at *
  generalize partsL o = ps at *
  clear hg
  go_enter Tryd.func32, Tryd.ntmps32
  go_wp2_with fail
  refine (HG.out _).mono ?_
  rintro e w1 ⟨rfl, hk1⟩
  have HB1 := Lib.hid ((Blk.new w 41 (dC o a b r n m l)).kept hk1 (by simp))
  have hc1 := HB1.out.cell
  have HK1 := Lib.hid (((Kept.refl [] w).alloc _).trans hk1)
  clear hk1
  go_wp2_with fail
  refine (HNM.out _).mono ?_
  rintro e w2 ⟨rfl, hk2⟩
  have HB2 := Lib.hid (HB1.out.kept hk2 (by simp))
  have hc2 := HB2.out.cell
  have HK2 := Lib.hid (HK1.out.trans hk2)
  clear hk2 hc1
  go_wp2_with fail
  refine (HPT.out _).mono ?_
  rintro e w3 ⟨rfl, hk3⟩
  have HB3 := Lib.hid (HB2.out.kept hk3 (by simp))
  have hc3 := HB3.out.cell
  have HK3 := Lib.hid (HK2.out.trans hk3)
  clear hk3 hc2
  go_wp2_with fail
  go_loop [3, 5] (fun sv iv => ∃ (k : Nat) (s : List UInt8), k ≤ ps.length ∧ iv = .int .i64 k ∧ sv = strV s ∧ s.length ≤ 6 + 21 * k ∧ Hid (s = nm ++ (ps.take k).flatMap pc)) (fun _ i => ps.length - (intOf i).toNat)
  case atStart => exact ⟨0, nm, by omega, rfl, rfl, by omega, by simp [Hid]⟩
  case round =>
    obtain ⟨k, s, hk, rfl, rfl, hsl, HS⟩ := hrel
    by_cases hlt : k < ps.length
    · obtain ⟨c, hlk⟩ : ∃ c : UInt8, ps[k] = c := ⟨_, rfl⟩
      have hidx : (⟨ps.toArray⟩ : ByteArray)[k]'(show k < (⟨ps.toArray⟩ : ByteArray).size from hlt) = c := hlk
      have HE2 : Hid (nm ++ (ps.take (k + 1)).flatMap pc = s ++ pc c) := by
        rw [Hid, List.take_succ_eq_append_getElem hlt, hlk, HS.out]; simp
      clear hlk HS
      rcases (by by_cases h1 : c = 65 <;> by_cases h2 : c = 66 <;> by_cases h3 : c = 82 <;> by_cases h4 : c = 78 <;> by_cases h5 : c = 77 <;> simp_all : c = 65 ∨ c = 66 ∨ c = 82 ∨ c = 78 ∨ c = 77 ∨ (c ≠ 65 ∧ c ≠ 66 ∧ c ≠ 82 ∧ c ≠ 78 ∧ c ≠ 77)) with rfl | rfl | rfl | rfl | rfl | ⟨n1, n2, n3, n4, n5⟩
      · have HA := Lib.hid (str_app2 s xa)
        go_wp2_with fail
        refine (HPa.out _).mono ?_
        rintro e w4 ⟨rfl, rfl⟩
        go_wp2_with fail
        go_round
        case rel => exact ⟨k + 1, s ++ 32 :: xa, by omega, by go_num, congrArg Value.string HA.out, by simp only [List.length_append, List.length_cons]; omega, by rw [Hid, HE2.out, HEa.out]⟩
        case measure => simp [intOf]; omega
      · have HA := Lib.hid (str_app2 s xb)
        go_wp2_with fail
        refine (HPb.out _).mono ?_
        rintro e w4 ⟨rfl, rfl⟩
        go_wp2_with fail
        go_round
        case rel => exact ⟨k + 1, s ++ 32 :: xb, by omega, by go_num, congrArg Value.string HA.out, by simp only [List.length_append, List.length_cons]; omega, by rw [Hid, HE2.out, HEb.out]⟩
        case measure => simp [intOf]; omega
      · have HA := Lib.hid (str_app2 s xr)
        go_wp2_with fail
        refine (HPr.out _).mono ?_
        rintro e w4 ⟨rfl, rfl⟩
        go_wp2_with fail
        go_round
        case rel => exact ⟨k + 1, s ++ 32 :: xr, by omega, by go_num, congrArg Value.string HA.out, by simp only [List.length_append, List.length_cons]; omega, by rw [Hid, HE2.out, HEr.out]⟩
        case measure => simp [intOf]; omega
      · have HA := Lib.hid (str_app2 s xn)
        go_wp2_with fail
        refine (HPn.out _).mono ?_
        rintro e w4 ⟨rfl, rfl⟩
        go_wp2_with fail
        go_round
        case rel => exact ⟨k + 1, s ++ 32 :: xn, by omega, by go_num, congrArg Value.string HA.out, by simp only [List.length_append, List.length_cons]; omega, by rw [Hid, HE2.out, HEn.out]⟩
        case measure => simp [intOf]; omega
      · have HA := Lib.hid (str_app2 s xm)
        go_wp2_with fail
        refine (HX.out _).mono ?_
        rintro e w4 ⟨rfl, rfl⟩
        go_wp2_with fail
        go_round
        case rel => exact ⟨k + 1, s ++ 32 :: xm, by omega, by go_num, congrArg Value.string HA.out, by simp only [List.length_append, List.length_cons]; omega, by rw [Hid, HE2.out, HEm.out]⟩
        case measure => simp [intOf]; omega
      · have HL := Lib.hid (HEl.out c n1 n2 n3 n4 n5)
        have b1 := byte_ne n1 (rfl : _ = (65 : Int))
        have b2 := byte_ne n2 (rfl : _ = (66 : Int))
        have b3 := byte_ne n3 (rfl : _ = (82 : Int))
        have b4 := byte_ne n4 (rfl : _ = (78 : Int))
        have b5 := byte_ne n5 (rfl : _ = (77 : Int))
        clear n1 n2 n3 n4 n5 HEl
        have HA := Lib.hid (str_append s [32, 108, 111, 111, 115, 101])
        cases l
        · go_wp2_with fail
          go_round
          case rel => exact ⟨k + 1, s, by omega, by go_num, rfl, by omega, by rw [Hid, HE2.out, HL.out]; simp⟩
          case measure => simp [intOf]; omega
        · go_wp2_with fail
          go_round
          case rel => exact ⟨k + 1, s ++ [32, 108, 111, 111, 115, 101], by omega, by go_num, congrArg Value.string HA.out, by simp only [List.length_append, List.length_cons, List.length_nil]; omega, by rw [Hid, HE2.out, HL.out]; rfl⟩
          case measure => simp [intOf]; omega
    · obtain rfl : k = ps.length := by omega
      have HE : Hid (s = nm ++ ps.flatMap pc) := by
        have := HS.out
        rw [List.take_of_length_le (Nat.le_refl _)] at this
        exact this
      clear HS
      go_wp2_with fail
      go_ret
      exact ⟨by rw [HF.out, ← HE.out]; rfl, HK3.out⟩

theorem refLine (o a b r : Int) (n m : Nat) (l : Bool) (w : World) (hn : n < 18446744073709551616) (hm : m < 18446744073709551616) :
    Calls Tryd.prog 32 #[.agg (dC o a b r n m l)] w fun e w' => e = .returned (strV (lineD ⟨o, a, b, r, n, m, l⟩)) ∧ Kept [] w w' := by
  by_cases hg : goodD ⟨o, a, b, r, n, m, l⟩ = true
  · have hr := goodD_ranges hg
    simp only at hr
    obtain ⟨a, rfl⟩ := Int.eq_ofNat_of_zero_le hr.1
    obtain ⟨b, rfl⟩ := Int.eq_ofNat_of_zero_le hr.2.2.1
    obtain ⟨r, rfl⟩ := Int.eq_ofNat_of_zero_le hr.2.2.2.2.1
    exact refLine_good o a b r n m l w hg (by omega) (by omega) (by omega) hn hm
  · exact refLine_bad o a b r n m l w (by simpa using hg)

end Go.Proofs.YtmhlmoojmdfnfaaDoor
