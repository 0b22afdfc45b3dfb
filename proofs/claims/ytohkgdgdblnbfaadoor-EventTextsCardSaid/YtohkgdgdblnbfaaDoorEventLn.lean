/- A text's lines and its events: in plain words, and the document's lines and Read. -/
import Derived.Test.YtohkgdgdblnbfaaDoorEventRP2
import Derived.Test.YtohkgdgdblnbfaaDoorEventS
namespace Go.Proofs.YtohkgdgdblnbfaaDoor
open Go.RowKit

/-- The lines of a text, the first of which has begun. -/
def linesF : List UInt8 → List UInt8 → List (List UInt8)
  | cur, [] => if cur = [] then [] else [cur]
  | cur, c :: t => if c = 10 then cur :: linesF [] t else linesF (cur ++ [c]) t
/-- The events of lines, how many there are up to the first wrong one, and what is wrong. -/
def readsE : List Ev → List (List UInt8) → List Ev × Int × Int
  | acc, [] => (acc, acc.length, 0)
  | acc, l :: t => if (parseE l).2 = 0 then readsE (acc ++ [(parseE l).1]) t else ([], acc.length, (parseE l).2)
theorem linesF_len : ∀ (l cur : List UInt8), (linesF cur l).length ≤ l.length + 1 ∧ ∀ x ∈ linesF cur l, x.length ≤ cur.length + l.length
  | [], cur => by unfold linesF; split <;> simp
  | c :: t, cur => by
    unfold linesF
    split
    · have := linesF_len t []
      refine ⟨by simp; omega, fun x hx => ?_⟩
      rcases List.mem_cons.1 hx with rfl | hx
      · simp
      · have := this.2 x hx; simp at this ⊢; omega
    · have := linesF_len t (cur ++ [c])
      refine ⟨by simp; omega, fun x hx => ?_⟩
      have := this.2 x hx; simp at this ⊢; omega
theorem readsE_len : ∀ (ls : List (List UInt8)) (acc : List Ev), (readsE acc ls).1.length ≤ acc.length + ls.length
  | [], acc => by simp [readsE]
  | l :: t, acc => by
    unfold readsE
    split
    · have := readsE_len t (acc ++ [(parseE l).1]); simp at this ⊢; omega
    · simp

set_option maxHeartbeats 2000000 in
theorem refLines (l : List UInt8) (w : World) (hl : l.length ≤ 100000) :
    Calls Tryd.prog 52 #[strV l] w fun e w' => ∃ A c, e = .returned (.slice A (linesF [] l).length c) ∧ FreshS w w' (linesF [] l) A (linesF [] l).length c := by
  go_enter Tryd.func52, Tryd.ntmps52
  go_wp2_with fail
  go_loopw [3, 4, 5] (fun ov fv iv wr => ∃ (i f : Nat) (A : Option Addr) (n c : Nat) (done : List (List UInt8)), i ≤ l.length ∧ f ≤ i ∧ n ≤ i ∧ iv = .int .i64 i ∧ fv = .int .i64 f ∧ ov = .slice A n c ∧
      Hid (done ++ linesF ((l.drop f).take (i - f)) (l.drop i) = linesF [] l) ∧ Hid (FreshS w wr done A n c)) (fun _ _ i _ => l.length - (intOf i).toNat)
  case atStart => exact ⟨0, 0, none, 0, 0, [], by omega, by omega, by omega, rfl, rfl, rfl, rfl, World.ownsRow_nil _ _ _ _, Kept.refl _ _, by simp [fp, Value.ownBlock]⟩
  case round =>
    obtain ⟨i, f, A, n, c, done, hi, hf, hn, rfl, rfl, rfl, H1, HF⟩ := hrel
    by_cases hlt : i < l.length
    · obtain ⟨b, hlk⟩ : ∃ b : UInt8, l[i] = b := ⟨_, rfl⟩
      have hidx : (⟨l.toArray⟩ : ByteArray)[i]'(show i < (⟨l.toArray⟩ : ByteArray).size from hlt) = b := hlk
      have hdrop : l.drop i = b :: l.drop (i + 1) := by rw [List.drop_eq_getElem_cons hlt, hlk]
      have hcur : (l.drop f).take (i + 1 - f) = (l.drop f).take (i - f) ++ [b] := by
        have hfl : i - f < (l.drop f).length := by simp; omega
        rw [show i + 1 - f = (i - f) + 1 by omega, List.take_succ_eq_append_getElem hfl]
        have : (l.drop f)[i - f] = b := by rw [List.getElem_drop]; rw [← hlk]; congr 1; omega
        rw [this]
      have hw := H1.out
      rw [hdrop] at hw
      clear hdrop hlk
      by_cases hb : b = 10
      · subst hb
        have hbb : (((10 : UInt8).toNat : Int) == 10) = true := by decide
        simp only [linesF, if_true] at hw
        have hx := str_extract l f i
        obtain ⟨p, hp⟩ : ∃ p, (l.drop f).take (i - f) = p := ⟨_, rfl⟩
        rw [hp] at hx hw
        have HX := Lib.hid hx
        have HW := Lib.hid hw
        clear hx hw hp hcur H1
        go_wp2_with (at_builtin; rw [HX.out]; go_must (refine wpList_append_any _ rfl _ _ _ rfl 9 (.string ByteArray.empty) 1 16 Tryd.underlying58 Tryd.info9 rfl (by omega) (.slice A n c) n (done.map strV) rfl (HF.out.1.alloc _) (some ⟨wr.heap.size, 0, none⟩) 1 1 [strV p] rfl (reads_one _ _ _) (by simp; rfl) (by simp only [maxLen]; omega) (by omega) ?_); intro A2 c2 w2 happ; have HA := Lib.hid happ; clear happ)
        go_roundw
        case rel =>
          refine ⟨i + 1, i + 1, A2, n + 1, c2, done ++ [p], by omega, by omega, by omega, by go_num, by go_num, rfl, ?_, HF.out.push HA.out⟩
          have := HW.out
          simp [Hid]
          exact this
        case measure => simp [intOf]; omega
      · have hbb : (((b.toNat : Nat) : Int) == 10) = false := by
          have : b.toNat ≠ 10 := fun e => hb (UInt8.toNat_inj.1 (by simpa using e))
          simp; omega
        simp only [linesF, if_neg hb] at hw
        have HW := Lib.hid hw
        have HCU := Lib.hid hcur
        clear hw hb hcur H1
        go_wp2_with fail
        go_roundw
        case rel =>
          refine ⟨i + 1, f, A, n, c, done, by omega, by omega, by omega, by go_num, rfl, rfl, ?_, HF.out⟩
          have := HW.out
          rw [← HCU.out] at this
          exact this
        case measure => simp [intOf]; omega
    · obtain rfl : i = l.length := by omega
      have hw := H1.out
      rw [List.drop_of_length_le (Nat.le_refl _), List.take_of_length_le (by simp)] at hw
      simp only [linesF] at hw
      by_cases hfl : f < l.length
      · rw [if_neg (by intro e; have := congrArg List.length e; simp at this; omega)] at hw
        have hx := str_extract l f l.length
        rw [List.take_of_length_le (by simp)] at hx
        obtain ⟨p, hp⟩ : ∃ p, l.drop f = p := ⟨_, rfl⟩
        rw [hp] at hx hw
        have hw2 : linesF [] l = done ++ [p] := hw.symm
        have HX := Lib.hid hx
        have HW := Lib.hid hw2
        clear hx hw hw2 hp H1
        go_wp2_with (at_builtin; rw [HX.out]; go_must (refine wpList_append_any _ rfl _ _ _ rfl 9 (.string ByteArray.empty) 1 16 Tryd.underlying58 Tryd.info9 rfl (by omega) (.slice A n c) n (done.map strV) rfl (HF.out.1.alloc _) (some ⟨wr.heap.size, 0, none⟩) 1 1 [strV p] rfl (reads_one _ _ _) (by simp; rfl) (by simp only [maxLen]; omega) (by omega) ?_); intro A2 c2 w2 happ; have HA := Lib.hid happ; clear happ)
        go_ret
        have hF := HF.out.push HA.out
        have hlen := hF.1.1
        rw [HW.out]
        have hn1 : (done ++ [p]).length = n + 1 := by simpa using hlen
        rw [hn1]
        exact ⟨_, _, rfl, hF⟩
      · rw [if_pos (by rw [List.drop_of_length_le (by omega)]), List.append_nil] at hw
        have HW := Lib.hid hw.symm
        clear H1 hw
        go_wp2_with fail
        go_ret
        have hF := HF.out
        have hn1 : done.length = n := by simpa using hF.1.1
        rw [HW.out, hn1]
        exact ⟨_, _, rfl, hF⟩

theorem FreshE.push {w wr w2 : World} {done : List Ev} {A A2 : Option Addr} {n c c2 : Nat} {e : Ev} {o : Obj} (hF : FreshE w wr done A n c)
    (happ : Appended (wr.alloc o) w2 30 8 (.slice A n c) (.slice A2 (n + 1) c2) (n + 1) (done.flatMap eL ++ eL e)) : FreshE w w2 (done ++ [e]) A2 (n + 1) c2 := by
  have hkb : Kept (fp (.slice A n c)) wr w2 := (((Kept.refl _ _).alloc _).trans happ.2.1)
  refine ⟨by simpa using happ.1, hF.2.1.trans' hkb fun q hq => .inr (hF.2.2 q hq), fun q hq => ?_⟩
  have := hF.2.1.size
  rcases happ.2.2 q hq with h | h
  · exact hF.2.2 q h
  · simp at h; omega
theorem FreshE.old {w wr w2 : World} {l : List Ev} {A : Option Addr} {n c : Nat} (h : FreshE w wr l A n c) (hk : Kept [] wr w2) : FreshE w w2 l A n c := ⟨own_kept h.1 hk (by simp), h.2.1.trans hk, h.2.2⟩

set_option maxHeartbeats 3200000 in
set_option maxRecDepth 100000 in
theorem refReadE (l : List UInt8) (w : World) (hl : l.length ≤ 90000) :
    Calls Tryd.prog 27 #[strV l] w fun e w' => ∃ A n c, e = .returned (.tuple #[.slice A n c, .int .i64 (readsE [] (linesF [] l)).2.1, .int .i64 (readsE [] (linesF [] l)).2.2]) ∧ FreshE w w' (readsE [] (linesF [] l)).1 A n c := by
  have HL := Lib.hid (fun w => refLines l w (by omega))
  have HX : Hid (∀ x ∈ linesF [] l, x.length ≤ 100000) := fun x hx => by have := (linesF_len l []).2 x hx; simp at this; omega
  have hll := (linesF_len l []).1
  generalize linesF [] l = ls at *
  obtain ⟨R, hR⟩ : ∃ R, readsE [] ls = R := ⟨_, rfl⟩
  rw [hR]
  have HR := Lib.hid hR
  clear hR
  go_enter Tryd.func27, Tryd.ntmps27
  go_wp2_with fail
  refine (HL.out _).mono ?_
  rintro e w1 ⟨A, c, rfl, hF⟩
  have HLS := Lib.hid hF
  clear hF
  go_wp2_with fail
  go_loopw [6, 7] (fun ov iv wr => ∃ (k : Nat) (A' : Option Addr) (n' c' : Nat) (done : List Ev), k ≤ ls.length ∧ iv = .int .i64 k ∧ ov = .slice A' n' c' ∧ n' = k ∧ Hid (readsE done (ls.drop k) = R) ∧ Hid (FreshE w1 wr done A' n' c')) (fun _ i _ => ls.length - (intOf i).toNat)
  case atStart => exact ⟨0, none, 0, 0, [], by omega, rfl, rfl, rfl, HR.out, World.ownsRow_nil _ _ _ _, Kept.refl _ _, by simp [fp, Value.ownBlock]⟩
  case round =>
    obtain ⟨k, A', n', c', done, hk, rfl, rfl, hnk, HD, HF⟩ := hrel
    subst hnk
    by_cases hlt : n' < ls.length
    · obtain ⟨x, hx⟩ : ∃ x, ls[n'] = x := ⟨_, rfl⟩
      have hd := HD.out
      rw [List.drop_eq_getElem_cons hlt, hx, readsE] at hd
      have hxl := HX.out x (hx ▸ List.getElem_mem hlt)
      obtain ⟨b, o, rfl, hb, hcell⟩ := (Reads.of_own HLS.out.1).addr (by omega) (by omega)
      have hc0 : wr.cell? ⟨b, o + n', none⟩ = some (strV x) := HF.out.2.1.cell_some (hcell n' (strV x) (by rw [List.getElem?_map, List.getElem?_eq_getElem hlt, hx]; rfl)) (by simp)
      have HP := Lib.hid (fun w => refParseE_any x w (by omega))
      have hi0 : (0 : Int) ≤ (n' : Int) := by omega
      have hi1 : (n' : Int) < (ls.length : Int) := by omega
      have hdl : done.length = n' := by have := HF.out.1.1; rw [flat_len] at this; omega
      generalize parseE x = pr at *
      obtain ⟨⟨s, cp, kd, t, g, oo, d, n⟩, ec⟩ := pr
      simp only at HP hd
      clear hcell hx HD
      by_cases hec : ec = 0
      · subst hec
        rw [if_pos rfl] at hd
        have HD := Lib.hid hd
        clear hd
        go_wp2_with fail
        refine (HP.out _).mono ?_
        rintro e w2 ⟨rfl, hk2⟩
        have HF2 := Lib.hid ((HF.out.old hk2).old ((Kept.refl _ _).alloc (.cells (eC s cp kd t g oo d n) 30)))
        clear hk2
        go_wp2_with (at_builtin; go_must (refine wpList_append_any _ rfl _ _ _ rfl 30 (.agg (eC 0 0 0 0 0 0 0 0)) 8 64 Tryd.underlying22 Tryd.info30 rfl (by omega) (.slice A' n' c') n' (done.flatMap eL) rfl (HF2.out.1.alloc _) (some ⟨w2.heap.size + 1, 0, none⟩) 1 1 (eL ⟨s, cp, kd, t, g, oo, d, n⟩) rfl (by have h := reads_ev (w2.alloc (.cells (eC s cp kd t g oo d n) 30)) 30 ⟨s, cp, kd, t, g, oo, d, n⟩; simp only [World.size_alloc] at h; exact h) (eL_one _) (by simp only [maxLen]; omega) (by omega) ?_); intro A2 c2 w3 happ; have HA := Lib.hid happ; clear happ)
        go_roundw
        case rel => exact ⟨n' + 1, A2, n' + 1, c2, done ++ [⟨s, cp, kd, t, g, oo, d, n⟩], by omega, by go_num, rfl, rfl, HD, HF2.out.push HA.out⟩
        case measure => simp [intOf]; omega
      · have hec2 : (ec != 0) = true := by rw [bne_iff_ne]; exact hec
        rw [if_neg hec, hdl] at hd
        have HD := Lib.hid hd
        clear hec hd
        go_wp2_with fail
        refine (HP.out _).mono ?_
        rintro e w2 ⟨rfl, hk2⟩
        have HK2 := Lib.hid (HLS.out.2.1.trans (HF.out.2.1.trans hk2))
        clear hk2
        go_wp2_with fail
        go_ret3
        rw [← HD.out]
        exact ⟨_, _, _, rfl, World.ownsRow_nil _ _ _ _, HK2.out.alloc _, by simp [fp, Value.ownBlock]⟩
    · obtain rfl : n' = ls.length := by omega
      have hd := HD.out
      rw [List.drop_of_length_le (Nat.le_refl _), readsE] at hd
      have hdl : done.length = ls.length := by have := HF.out.1.1; rw [flat_len] at this; omega
      rw [hdl] at hd
      have HDD := Lib.hid hd
      clear hd HD
      go_wp2_with fail
      go_ret3
      rw [← HDD.out]
      exact ⟨_, _, _, rfl, HF.out.1, HLS.out.2.1.trans HF.out.2.1, fun q hq => by have := HF.out.2.2 q hq; have := HLS.out.2.1.size; omega⟩

end Go.Proofs.YtohkgdgdblnbfaaDoor
