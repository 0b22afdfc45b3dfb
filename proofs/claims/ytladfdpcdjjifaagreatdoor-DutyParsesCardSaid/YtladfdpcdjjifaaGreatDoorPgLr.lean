/- The document's Lines and Parse of programs. -/
import Derived.Test.YtladfdpcdjjifaaGreatDoorDeedK
import Derived.Test.YtladfdpcdjjifaaGreatDoorDeedC
import Derived.Test.YtladfdpcdjjifaaGreatDoorDeedV
namespace Go.Proofs.YtladfdpcdjjifaaGreatDoor
open Go.RowKit

set_option maxHeartbeats 2000000 in
theorem refLines8 (l : List UInt8) (w : World) (hl : l.length ≤ 1100000) :
    Calls Tryz.prog 14 #[strV l] w fun e w' => ∃ A c, e = .returned (.slice A (linesF [] l).length c) ∧ FreshS w w' (linesF [] l) A (linesF [] l).length c := by
  go_enter Tryz.func14, Tryz.ntmps14
  go_wp2_with fail
  go_loopw [3, 4, 5] (fun ov fv iv wr => ∃ (i f : Nat) (A : Option Addr) (n c : Nat) (done : List (List UInt8)), i ≤ l.length + 1 ∧ f ≤ i ∧ n ≤ i ∧ iv = .int .i64 i ∧ fv = .int .i64 f ∧ ov = .slice A n c ∧
      (i ≤ l.length → Hid (done ++ linesF ((l.drop f).take (i - f)) (l.drop i) = linesF [] l)) ∧ (i = l.length + 1 → Hid (done = linesF [] l)) ∧ Hid (FreshS w wr done A n c)) (fun _ _ i _ => l.length + 1 - (intOf i).toNat)
  case atStart => exact ⟨0, 0, none, 0, 0, [], by omega, by omega, by omega, rfl, rfl, rfl, fun _ => rfl, fun h => by omega, World.ownsRow_nil _ _ _ _, Kept.refl _ _, by simp [fp, Value.ownBlock]⟩
  case round =>
    obtain ⟨i, f, A, n, c, done, hi, hf, hn, rfl, rfl, rfl, h1, h2, HF⟩ := hrel
    have H1 := Lib.hid h1
    have H2 := Lib.hid h2
    clear h1 h2
    by_cases hlt : i < l.length
    · obtain ⟨b, hlk⟩ : ∃ b : UInt8, l[i] = b := ⟨_, rfl⟩
      have hidx : (⟨l.toArray⟩ : ByteArray)[i]'(show i < (⟨l.toArray⟩ : ByteArray).size from hlt) = b := hlk
      have hdrop : l.drop i = b :: l.drop (i + 1) := by rw [List.drop_eq_getElem_cons hlt, hlk]
      have hcur : (l.drop f).take (i + 1 - f) = (l.drop f).take (i - f) ++ [b] := by
        have hfl : i - f < (l.drop f).length := by simp; omega
        rw [show i + 1 - f = (i - f) + 1 by omega, List.take_succ_eq_append_getElem hfl]
        have : (l.drop f)[i - f] = b := by rw [List.getElem_drop]; rw [← hlk]; congr 1; omega
        rw [this]
      have hw := (H1.out (by omega)).out
      rw [hdrop] at hw
      have hil : ((i : Int) == (l.length : Int)) = false := by simp; omega
      clear hdrop hlk
      by_cases hb : b = 10
      · subst hb
        have hbb : (((10 : UInt8).toNat : Int) != 10) = false := by decide
        simp only [linesF, if_true] at hw
        have hx := str_extract l f i
        obtain ⟨p, hp⟩ : ∃ p, (l.drop f).take (i - f) = p := ⟨_, rfl⟩
        rw [hp] at hx hw
        have HX := Lib.hid hx
        have HW := Lib.hid hw
        clear hx hw hp hcur
        go_wp2_with (at_builtin; rw [HX.out]; go_must (refine wpList_append_any _ rfl _ _ _ rfl 9 (.string ByteArray.empty) 1 16 Tryz.underlying34 Tryz.info9 rfl (by omega) (.slice A n c) n (done.map strV) rfl (HF.out.1.alloc _) (some ⟨wr.heap.size, 0, none⟩) 1 1 [strV p] rfl (reads_one _ _ _) (by simp; rfl) (by simp only [maxLen]; omega) (by omega) ?_); intro A2 c2 w2 happ; have HA := Lib.hid happ; clear happ)
        go_roundw
        case rel =>
          refine ⟨i + 1, i + 1, A2, n + 1, c2, done ++ [p], by omega, by omega, by omega, by go_num, by go_num, rfl, fun _ => ?_, fun h => by omega, HF.out.push HA.out⟩
          have := HW.out
          simp [Hid]
          exact this
        case measure => simp [intOf]; omega
      · have hbb : (((b.toNat : Nat) : Int) != 10) = true := by
          have : b.toNat ≠ 10 := fun e => hb (UInt8.toNat_inj.1 (by simpa using e))
          simp; omega
        simp only [linesF, if_neg hb] at hw
        have HW := Lib.hid hw
        have HCU := Lib.hid hcur
        clear hw hb hcur
        go_wp2_with fail
        go_roundw
        case rel =>
          refine ⟨i + 1, f, A, n, c, done, by omega, by omega, by omega, by go_num, rfl, rfl, fun _ => ?_, fun h => by omega, HF.out⟩
          have := HW.out
          rw [← HCU.out] at this
          exact this
        case measure => simp [intOf]; omega
    · by_cases hle : i ≤ l.length
      · have hie : i = l.length := by omega
        have hw := (H1.out hle).out
        have hd0 : l.drop i = [] := List.drop_eq_nil_of_le (by omega)
        rw [hd0] at hw
        simp only [linesF] at hw
        have hi1 : l.length ≤ i := by omega
        have hil : ((i : Int) == (l.length : Int)) = true := by simp; omega
        by_cases hfi : f < i
        · have hne : (l.drop f).take (i - f) ≠ [] := by
            intro e; have := congrArg List.length e; simp at this; omega
          rw [if_neg hne] at hw
          have hfb : ((f : Int) == (i : Int)) = false := by simp; omega
          have hx := str_extract l f i
          obtain ⟨p, hp⟩ : ∃ p, (l.drop f).take (i - f) = p := ⟨_, rfl⟩
          rw [hp] at hx hw
          have HX := Lib.hid hx
          have HW := Lib.hid hw
          have HIE := Lib.hid hie
          clear hx hw hne hp hie
          go_wp2_with (at_builtin; rw [HX.out]; go_must (refine wpList_append_any _ rfl _ _ _ rfl 9 (.string ByteArray.empty) 1 16 Tryz.underlying34 Tryz.info9 rfl (by omega) (.slice A n c) n (done.map strV) rfl (HF.out.1.alloc _) (some ⟨wr.heap.size, 0, none⟩) 1 1 [strV p] rfl (reads_one _ _ _) (by simp; rfl) (by simp only [maxLen]; omega) (by omega) ?_); intro A2 c2 w2 happ; have HA := Lib.hid happ; clear happ)
          go_roundw
          case rel => exact ⟨i + 1, i + 1, A2, n + 1, c2, done ++ [p], by omega, by omega, by omega, by go_num, by go_num, rfl, fun h => by have := HIE.out; omega, fun _ => HW.out, HF.out.push HA.out⟩
          case measure => simp [intOf]; omega
        · have hfe : f = i := by omega
          subst hfe
          have hfb : ((f : Int) == (f : Int)) = true := by simp
          rw [Nat.sub_self, List.take_zero, if_pos rfl, List.append_nil] at hw
          have HW := Lib.hid hw
          have HIE := Lib.hid hie
          clear hw hie
          go_wp2_with fail
          go_roundw
          case rel => exact ⟨f + 1, f, A, n, c, done, by omega, by omega, by omega, by go_num, by go_num, rfl, fun h => by have := HIE.out; omega, fun _ => HW.out, HF.out⟩
          case measure => simp [intOf]; omega
      · have hie : i = l.length + 1 := by omega
        have hd := (H2.out hie).out
        subst hd
        have hnn : n = (linesF [] l).length := by have := HF.out.1.1; simpa using this.symm
        subst hnn
        have hi1 : l.length + 1 ≤ i := by omega
        clear hie
        go_wp2_with fail
        go_ret
        exact ⟨A, c, rfl, HF.out⟩

end Go.Proofs.YtladfdpcdjjifaaGreatDoor
