/- The document's Lines and Parse of programs. -/
import Derived.Test.YtmhlmoojmdfnfaaDoorPgLn
import Derived.Test.YtmhlmoojmdfnfaaDoorPgRow
import Derived.Test.YtmhlmoojmdfnfaaDoorDeedParsesW
namespace Go.Proofs.YtmhlmoojmdfnfaaDoor
open Go.RowKit

set_option maxHeartbeats 2000000 in
theorem refLines8 (l : List UInt8) (w : World) (hl : l.length ≤ 1100000) :
    Calls Tryd.prog 112 #[strV l] w fun e w' => ∃ A c, e = .returned (.slice A (linesF [] l).length c) ∧ FreshS w w' (linesF [] l) A (linesF [] l).length c := by
  go_enter Tryd.func112, Tryd.ntmps112
  go_wp2_with fail
  go_loopw [3, 4, 5] (fun ov fv iv wr => ∃ (i f : Nat) (A : Option Addr) (n c : Nat) (done : List (List UInt8)), i ≤ l.length + 1 ∧ f ≤ i ∧ n ≤ i ∧ iv = .int .i64 i ∧ fv = .int .i64 f ∧ ov = .slice A n c ∧
      (i ≤ l.length → Hid (done ++ linesF ((l.drop f).take (i - f)) (l.drop i) = linesF [] l)) ∧ (i = l.length + 1 → Hid (done = linesF [] l)) ∧ Hid (FreshS w wr done A n c)) (fun _ _ i _ => l.length + 1 - (intOf i).toNat)
  case atStart => exact ⟨0, 0, none, 0, 0, [], by omega, by omega, by omega, rfl, rfl, rfl, fun _ => rfl, fun h => by omega, World.ownsRow_nil _ _ _ _, Kept.refl _ _, by simp [fp, Value.ownBlock]⟩
  case round =>
    obtain ⟨i, f, A, n, c, done, hi, hf, hn, rfl, rfl, rfl, h1, h2, HF⟩ := hrel
    have H1 := Lib.hid h1
    have H2 := Lib.hid h2
    clear h1 h2
    by_cases hlt : i < l.length
    · obtain ⟨b, hlk⟩ : ∃ b : UInt8, l[i] = b := ⟨_, rfl⟩
      have hidx : (⟨l.toArray⟩ : ByteArray)[i]'(show i < (⟨l.toArray⟩ : ByteArray).size from hlt) = b := hlk
      have hdrop : l.drop i = b :: l.drop (i + 1) := by rw [List.drop_eq_getElem_cons hlt, hlk]
      have hcur : (l.drop f).take (i + 1 - f) = (l.drop f).take (i - f) ++ [b] := by
        have hfl : i - f < (l.drop f).length := by simp; omega
        rw [show i + 1 - f = (i - f) + 1 by omega, List.take_succ_eq_append_getElem hfl]
        have : (l.drop f)[i - f] = b := by rw [List.getElem_drop]; rw [← hlk]; congr 1; omega
        rw [this]
      have hw := (H1.out (by omega)).out
      rw [hdrop] at hw
      have hil : ((i : Int) == (l.length : Int)) = false := by simp; omega
      clear hdrop hlk
      by_cases hb : b = 10
      · subst hb
        have hbb : (((10 : UInt8).toNat : Int) != 10) = false := by decide
        simp only [linesF, if_true] at hw
        have hx := str_extract l f i
        obtain ⟨p, hp⟩ : ∃ p, (l.drop f).take (i - f) = p := ⟨_, rfl⟩
        rw [hp] at hx hw
        have HX := Lib.hid hx
        have HW := Lib.hid hw
        clear hx hw hp hcur
        go_wp2_with (at_builtin; rw [HX.out]; go_must (refine wpList_append_any _ rfl _ _ _ rfl 9 (.string ByteArray.empty) 1 16 Tryd.underlying91 Tryd.info9 rfl (by omega) (.slice A n c) n (done.map strV) rfl (HF.out.1.alloc _) (some ⟨wr.heap.size, 0, none⟩) 1 1 [strV p] rfl (reads_one _ _ _) (by simp; rfl) (by simp only [maxLen]; omega) (by omega) ?_); intro A2 c2 w2 happ; have HA := Lib.hid happ; clear happ)
        go_roundw
        case rel =>
          refine ⟨i + 1, i + 1, A2, n + 1, c2, done ++ [p], by omega, by omega, by omega, by go_num, by go_num, rfl, fun _ => ?_, fun h => by omega, HF.out.push HA.out⟩
          have := HW.out
          simp [Hid]
          exact this
        case measure => simp [intOf]; omega
      · have hbb : (((b.toNat : Nat) : Int) != 10) = true := by
          have : b.toNat ≠ 10 := fun e => hb (UInt8.toNat_inj.1 (by simpa using e))
          simp; omega
        simp only [linesF, if_neg hb] at hw
        have HW := Lib.hid hw
        have HCU := Lib.hid hcur
        clear hw hb hcur
        go_wp2_with fail
        go_roundw
        case rel =>
          refine ⟨i + 1, f, A, n, c, done, by omega, by omega, by omega, by go_num, rfl, rfl, fun _ => ?_, fun h => by omega, HF.out⟩
          have := HW.out
          rw [← HCU.out] at this
          exact this
        case measure => simp [intOf]; omega
    · by_cases hle : i ≤ l.length
      · have hie : i = l.length := by omega
        have hw := (H1.out hle).out
        have hd0 : l.drop i = [] := List.drop_eq_nil_of_le (by omega)
        rw [hd0] at hw
        simp only [linesF] at hw
        have hi1 : l.length ≤ i := by omega
        have hil : ((i : Int) == (l.length : Int)) = true := by simp; omega
        by_cases hfi : f < i
        · have hne : (l.drop f).take (i - f) ≠ [] := by
            intro e; have := congrArg List.length e; simp at this; omega
          rw [if_neg hne] at hw
          have hfb : ((f : Int) == (i : Int)) = false := by simp; omega
          have hx := str_extract l f i
          obtain ⟨p, hp⟩ : ∃ p, (l.drop f).take (i - f) = p := ⟨_, rfl⟩
          rw [hp] at hx hw
          have HX := Lib.hid hx
          have HW := Lib.hid hw
          have HIE := Lib.hid hie
          clear hx hw hne hp hie
          go_wp2_with (at_builtin; rw [HX.out]; go_must (refine wpList_append_any _ rfl _ _ _ rfl 9 (.string ByteArray.empty) 1 16 Tryd.underlying91 Tryd.info9 rfl (by omega) (.slice A n c) n (done.map strV) rfl (HF.out.1.alloc _) (some ⟨wr.heap.size, 0, none⟩) 1 1 [strV p] rfl (reads_one _ _ _) (by simp; rfl) (by simp only [maxLen]; omega) (by omega) ?_); intro A2 c2 w2 happ; have HA := Lib.hid happ; clear happ)
          go_roundw
          case rel => exact ⟨i + 1, i + 1, A2, n + 1, c2, done ++ [p], by omega, by omega, by omega, by go_num, by go_num, rfl, fun h => by have := HIE.out; omega, fun _ => HW.out, HF.out.push HA.out⟩
          case measure => simp [intOf]; omega
        · have hfe : f = i := by omega
          subst hfe
          have hfb : ((f : Int) == (f : Int)) = true := by simp
          rw [Nat.sub_self, List.take_zero, if_pos rfl, List.append_nil] at hw
          have HW := Lib.hid hw
          have HIE := Lib.hid hie
          clear hw hie
          go_wp2_with fail
          go_roundw
          case rel => exact ⟨f + 1, f, A, n, c, done, by omega, by omega, by omega, by go_num, by go_num, rfl, fun h => by have := HIE.out; omega, fun _ => HW.out, HF.out⟩
          case measure => simp [intOf]; omega
      · have hie : i = l.length + 1 := by omega
        have hd := (H2.out hie).out
        subst hd
        have hnn : n = (linesF [] l).length := by have := HF.out.1.1; simpa using this.symm
        subst hnn
        have hi1 : l.length + 1 ≤ i := by omega
        clear hie
        go_wp2_with fail
        go_ret
        exact ⟨A, c, rfl, HF.out⟩

set_option maxHeartbeats 3200000 in
set_option maxRecDepth 100000 in
theorem refParse8 (l : List UInt8) (w : World) (hl : l.length ≤ 90000) :
    Calls Tryd.prog 52 #[strV l] w fun e w' => ∃ A n c, e = .returned (.tuple #[.slice A n c, .int .i64 (parseP (linesF [] l)).2.1, .int .i64 (parseP (linesF [] l)).2.2]) ∧ RowD w w' (parseP (linesF [] l)).1 A n c ∧ Kept [] w w' := by
  have HL := Lib.hid (fun w => refLines8 l w (by omega))
  have HX : Hid (∀ x ∈ linesF [] l, x.length ≤ 100000) := fun x hx => by have := (linesF_len l []).2 x hx; simp at this; omega
  have hll := (linesF_len l []).1
  generalize linesF [] l = ls at *
  by_cases hlong : 256 < ls.length
  · have hp : parseP ls = ([], 0, 4) := if_pos hlong
    rw [hp]
    clear hp
    have hlb : decide ((256 : Int) < (ls.length : Int)) = true := by simp; omega
    go_enter Tryd.func52, Tryd.ntmps52
    go_wp2_with fail
    refine (HL.out _).mono ?_
    rintro e w1 ⟨A, c, rfl, hF⟩
    have HLS := Lib.hid hF
    clear hF
    go_wp2_with fail
    go_ret3
    exact ⟨_, _, _, rfl, RowD.nil _ _, HLS.out.2.1⟩
  · have hp : parseP ls = readsD [] ls := if_neg hlong
    rw [hp]
    clear hp
    have hlb : decide ((256 : Int) < (ls.length : Int)) = false := by simp; omega
    obtain ⟨R, hR⟩ : ∃ R, readsD [] ls = R := ⟨_, rfl⟩
    rw [hR]
    have HR := Lib.hid hR
    clear hR
    go_enter Tryd.func52, Tryd.ntmps52
    go_wp2_with fail
    refine (HL.out _).mono ?_
    rintro e w1 ⟨A, c, rfl, hF⟩
    have HLS := Lib.hid hF
    clear hF
    go_wp2_with fail
    go_loopw [6, 7] (fun ov iv wr => ∃ (k : Nat) (A' : Option Addr) (n' c' : Nat) (done : List Dd), k ≤ ls.length ∧ iv = .int .i64 k ∧ ov = .slice A' n' c' ∧ n' = k ∧ Hid (readsD done (ls.drop k) = R) ∧ Hid (RowD w1 wr done A' n' c') ∧ Hid (Kept [] w1 wr)) (fun _ i _ => ls.length - (intOf i).toNat)
    case atStart => exact ⟨0, none, 0, 0, [], by omega, rfl, rfl, rfl, HR.out, RowD.nil _ _, Kept.refl _ _⟩
    case round =>
      obtain ⟨k, A', n', c', done, hk, rfl, rfl, hnk, HD, HF, HK⟩ := hrel
      subst hnk
      have hws := HK.out.size
      by_cases hlt : n' < ls.length
      · obtain ⟨x, hx⟩ : ∃ x, ls[n'] = x := ⟨_, rfl⟩
        have hd := HD.out
        rw [List.drop_eq_getElem_cons hlt, hx, readsD] at hd
        have hxl := HX.out x (hx ▸ List.getElem_mem hlt)
        obtain ⟨b, o, rfl, hb, hcell⟩ := (Reads.of_own HLS.out.1).addr (by omega) (by omega)
        have hc0 : wr.cell? ⟨b, o + n', none⟩ = some (strV x) := HK.out.cell_some (hcell n' (strV x) (by rw [List.getElem?_map, List.getElem?_eq_getElem hlt, hx]; rfl)) (by simp)
        have HP := Lib.hid (fun w => refParse_any x w (by omega))
        rw [parse_same] at HP
        have hi0 : (0 : Int) ≤ (n' : Int) := by omega
        have hi1 : (n' : Int) < (ls.length : Int) := by omega
        have hdl : done.length = n' := HF.out.reads.len.symm
        generalize parseD 1048576 x = pr at *
        obtain ⟨⟨o1, a1, b1, r1, n1, m1, l1⟩, ec⟩ := pr
        simp only [dCd] at HP hd
        clear hcell hx HD
        by_cases hec : ec = 0
        · subst hec
          rw [if_pos rfl] at hd
          have HD := Lib.hid hd
          clear hd
          go_wp2_with fail
          refine (HP.out _).mono ?_
          rintro e w2 ⟨rfl, hk2⟩
          have HK2 := Lib.hid ((HK.out.trans hk2).alloc (.cells (dC o1 a1 b1 r1 n1 m1 l1) 41))
          have HF2 := Lib.hid (HF.out.kept (hk2.alloc (.cells (dC o1 a1 b1 r1 n1 m1 l1) 41)) (by simp))
          have hws2 := HK2.out.size
          clear hk2
          go_wp2_with (at_builtin; go_must (refine wpList_append_any _ rfl _ _ _ rfl 41 (.agg (dC 0 0 0 0 0 0 false)) 7 56 Tryd.underlying22 Tryd.info41 rfl (by omega) (.slice A' n' c') n' (done.flatMap dL) rfl (HF2.out.1.alloc _) (some ⟨w2.heap.size + 1, 0, none⟩) 1 1 (dL ⟨o1, a1, b1, r1, n1, m1, l1⟩) rfl (by have h := reads_dd (w2.alloc (.cells (dC o1 a1 b1 r1 n1 m1 l1) 41)) 41 ⟨o1, a1, b1, r1, n1, m1, l1⟩; simp only [World.size_alloc] at h; exact h) (dL_one _) (by simp only [maxLen]; omega) (by omega) ?_); intro A2 c2 w3 happ; have HA := Lib.hid happ; clear happ)
          go_roundw
          case rel => exact ⟨n' + 1, A2, n' + 1, c2, done ++ [⟨o1, a1, b1, r1, n1, m1, l1⟩], by omega, by go_num, rfl, rfl, HD, (HF2.out.kept ((Kept.refl [] _).alloc _) (by simp)).append (by have := HK2.out.size; simp only [World.size_alloc] at this ⊢; omega) HA.out, HK2.out.trans' ((((Kept.refl _ _).alloc _).trans HA.out.2.1)) (fun q hq => .inr (HF2.out.2 q hq))⟩
          case measure => simp [intOf]; omega
        · have hec2 : (ec != 0) = true := by rw [bne_iff_ne]; exact hec
          rw [if_neg hec, hdl] at hd
          have HD := Lib.hid hd
          clear hec hd
          go_wp2_with fail
          refine (HP.out _).mono ?_
          rintro e w2 ⟨rfl, hk2⟩
          have HK2 := Lib.hid (HLS.out.2.1.trans (HK.out.trans hk2))
          clear hk2
          go_wp2_with fail
          go_ret3
          rw [← HD.out]
          exact ⟨_, _, _, rfl, RowD.nil _ _, HK2.out.alloc _⟩
      · obtain rfl : n' = ls.length := by omega
        have hd := HD.out
        rw [List.drop_of_length_le (Nat.le_refl _), readsD] at hd
        have hdl : done.length = ls.length := HF.out.reads.len.symm
        rw [hdl] at hd
        have HDD := Lib.hid hd
        clear hd HD
        go_wp2_with fail
        go_ret3
        rw [← HDD.out]
        exact ⟨_, _, _, rfl, ⟨HF.out.1, fun q hq => by have := HF.out.2 q hq; have := HLS.out.2.1.size; omega⟩, HLS.out.2.1.trans HK.out⟩

end Go.Proofs.YtmhlmoojmdfnfaaDoor
