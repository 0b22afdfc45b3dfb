/- Package prog: lines, Parse. -/
import Derived.Test.YtmhlmoojmdfnfaaDoorPgLn
import Derived.Test.YtmhlmoojmdfnfaaDoorPgRow
import Derived.Test.YtmhlmoojmdfnfaaDoorShelf
import Derived.Lib.CutLaws
import Derived.WalkMore
import Derived.ScopeJumps
namespace Go.Proofs.YtmhlmoojmdfnfaaDoor
open Go.RowKit

theorem cut10_nil : Lib.cut [] [10] = ([], [], false) := by decide
theorem cut10_nl (t : List UInt8) : (Lib.cut (10 :: t) [10]).1 = [] ∧ (Lib.cut (10 :: t) [10]).2.1 = t := by
  simp [Lib.cut, Lib.index]
theorem cut10_cons (b : UInt8) (t : List UInt8) (hb : b ≠ 10) : (Lib.cut (b :: t) [10]).1 = b :: (Lib.cut t [10]).1 ∧ (Lib.cut (b :: t) [10]).2.1 = (Lib.cut t [10]).2.1 := by
  have hg := Lib.index_ge t [10]
  have hp : List.isPrefixOf [10] (b :: t) = false := by simp [List.isPrefixOf]; exact fun h => hb h.symm
  have hi : Lib.index (b :: t) [10] = if Lib.index t [10] == -1 then -1 else Lib.index t [10] + 1 := by
    rw [Lib.index, if_neg (by simp [hp])]
  unfold Lib.cut
  rw [hi]
  by_cases h : Lib.index t [10] = -1
  · simp [h]
  · have h1 : (Lib.index t [10] == -1) = false := by simpa using h
    rw [h1]
    obtain ⟨k, hk⟩ := Int.eq_ofNat_of_zero_le (show 0 ≤ Lib.index t [10] by omega)
    rw [hk]
    have h2 : ((k : Int) + 1).toNat = k + 1 := by omega
    have h3 : (0 : Int) ≤ (k : Int) + 1 := by omega
    simp [h2, h3]
theorem cut10_lines : ∀ (l cur : List UInt8), cur ++ l ≠ [] → linesF cur l = (cur ++ (Lib.cut l [10]).1) :: linesF [] (Lib.cut l [10]).2.1
  | [], cur, h => by simp at h; simp [linesF, h, cut10_nil]
  | b :: t, cur, _ => by
    by_cases hb : b = 10
    · subst hb
      rw [(cut10_nl t).1, (cut10_nl t).2]
      simp [linesF]
    · rw [(cut10_cons b t hb).1, (cut10_cons b t hb).2, linesF, if_neg hb, cut10_lines t _ (by simp)]
      simp
theorem cut10_len : ∀ (l : List UInt8), l ≠ [] → (Lib.cut l [10]).2.1.length < l.length ∧ (Lib.cut l [10]).1.length ≤ l.length
  | [], h => absurd rfl h
  | b :: t, _ => by
    by_cases hb : b = 10
    · subst hb
      rw [(cut10_nl t).1, (cut10_nl t).2]
      simp
    · rw [(cut10_cons b t hb).1, (cut10_cons b t hb).2]
      by_cases ht : t = []
      · subst ht; simp [cut10_nil]
      · have := cut10_len t ht
        simp only [List.length_cons]; omega

theorem cutP_of (s : List UInt8) (w : World) (hl : s.length ≤ 1100000) (hM : HasMax w) :
    Calls Tryd.prog 146 #[strV s, .string ⟨#[10]⟩] w fun e w' => e = .returned (.tuple #[strV (Lib.cut s [10]).1, strV (Lib.cut s [10]).2.1, .bool (Lib.cut s [10]).2.2]) ∧ ∃ n, w' = w.drewN n := by
  obtain ⟨m, hm⟩ := hM
  exact Tryd.strings_Cut ⟨s.toArray⟩ ⟨#[10]⟩ m w (by show s.length < _; omega) hm


/-- A scope with one label: the way to the label, and a pass from it. -/
theorem wp_scope_label {P : Program} {a : Act} {w : World} {Q : Exit → Act → World → Prop} {c X : Code} (l : Nat) (J : Act → World → Prop) (μ : Act → World → Nat) (hf : findLabel c l = some (.seq .skip X))
    (first : ∀ Q', (∀ a w, J a w → X.wp P Q' a w) → c.wp P Q' a w)
    (pass : ∀ a w, J a w → X.wp P (Exit.jump l (fun a' w' => J a' w' ∧ μ a' w' < μ a w) Q) a w) : (Code.scope c).wp P Q a w := by
  refine wp_scope_jumps l J μ hf (first _ fun a w hJ => wp_mono (pass a w hJ) ?_) (fun a w hJ => wp_seq (wp_skip (pass a w hJ)))
  intro e a' w' h
  cases e <;> first | exact h | exact ⟨h.1, h.2.1⟩
def jumpM (a : Act) (_ : World) : Nat := match a.tmps.getD 0 undef with | .string s => s.size | _ => 0

set_option maxHeartbeats 1600000 in
set_option maxRecDepth 100000 in
theorem plines_any (l : List UInt8) (w : World) (hl : l.length ≤ 1100000) (hM : HasMax w) :
    Calls Tryd.prog 111 #[strV l] w fun e w' => ∃ A n c, e = .returned (.tuple #[.slice A n c, .bool (decide ((linesF [] l).length ≤ 256))]) ∧ ((linesF [] l).length ≤ 256 → n = (linesF [] l).length ∧ FreshS w w' (linesF [] l) A n c) ∧ Kept [] w w' := by
  have HM := Lib.hid hM
  clear hM
  go_enter Tryd.func111, Tryd.ntmps111
  go_wp2_with fail
  refine wp_scope_label 0 (fun a' w' => ∃ (done : List (List UInt8)) (rest : List UInt8) (A : Option Addr) (n c : Nat) (u5 u6 u7 u8 u9 u10 u11 u12 u13 u14 u15 u16 u17 u18 u19 u20 u21 u22 u23 u24 : Value), a' = { tmps := #[strV rest, undef, .slice none 0 0, .bool false, .slice A n c, u5, u6, u7, u8, u9, u10, u11, u12, u13, u14, u15, u16, u17, u18, u19, u20, u21, u22, u23, u24], defers := [] } ∧ Hid (done ++ linesF [] rest = linesF [] l) ∧ n ≤ 256 ∧ rest.length ≤ l.length ∧ Hid (FreshS w w' done A n c)) jumpM rfl ?_ ?_
  · intro Q' hQ
    go_wp2_with fail
    go_step3
    rename_i K hK
    exact hK _ _ (hQ _ _ ⟨[], l, none, 0, 0, _, _, _, _, _, _, _, _, _, _, _, _, _, _, _, _, _, _, _, _, rfl, rfl, by omega, Nat.le_refl _, World.ownsRow_nil _ _ _ _, Kept.refl _ _, by simp [fp, Value.ownBlock]⟩)
  · rintro a' w' ⟨done, rest, A, n, c, u5, u6, u7, u8, u9, u10, u11, u12, u13, u14, u15, u16, u17, u18, u19, u20, u21, u22, u23, u24, rfl, HD, hn, hrl, HF⟩
    have hdn : done.length = n := by have := HF.out.1.1; simpa using this
    by_cases hr : rest = []
    · subst hr
      have hd := HD.out
      simp only [linesF, List.append_nil, if_true] at hd
      have HDD := Lib.hid hd
      clear hd HD
      go_wp2_with fail
      simp only [Exit.jump]
      go_ret2
      rw [← HDD.out]
      exact ⟨A, n, c, by rw [hdn, decide_eq_true hn]; rfl, fun _ => ⟨hdn.symm, HF.out⟩, HF.out.2.1⟩
    · have hce := cut10_lines rest [] (by simpa using hr)
      have hcl := cut10_len rest hr
      have hre : rest.isEmpty = false := by cases rest with | nil => exact absurd rfl hr | cons a t => rfl
      have hd := HD.out
      rw [hce] at hd
      have HC := Lib.hid (fun w h => cutP_of rest w (by omega) h)
      generalize (Lib.cut rest [10]).1 = x at *
      generalize (Lib.cut rest [10]).2.1 = y at *
      generalize (Lib.cut rest [10]).2.2 = z at *
      simp only [List.nil_append] at hd
      by_cases h256 : n = 256
      · subst h256
        have hlen : ¬ (linesF [] l).length ≤ 256 := by rw [← hd]; simp; omega
        have HL := Lib.hid hlen
        clear hd hlen hce HD hr HC
        go_wp2_with fail
        simp only [Exit.jump]
        go_ret2
        exact ⟨none, 0, 0, by rw [decide_eq_false HL.out]; rfl, fun h => absurd h HL.out, HF.out.2.1⟩
      · have hnb : ((n : Int) == 256) = false := by simp; omega
        have HDD := Lib.hid hd
        clear hd hce HD hr
        go_wp2_with fail
        refine (HC.out _ (HM.out.old HF.out.2.1)).mono ?_
        rintro e w1 ⟨rfl, k, rfl⟩
        have HF1 : Hid (FreshS w (w'.drewN k) done A n c) := ⟨own_kept HF.out.1 ((Kept.refl [] _).drewN _) (by simp), HF.out.2.1.drewN _, HF.out.2.2⟩
        generalize w'.drewN k = w1 at *
        go_wp2_with (at_builtin; go_must (refine wpList_append_any _ rfl _ _ _ rfl 9 (.string ByteArray.empty) 1 16 Tryd.underlying91 Tryd.info9 rfl (by omega) (.slice A n c) n (done.map strV) rfl (HF1.out.1.alloc _) (some ⟨w1.heap.size, 0, none⟩) 1 1 [strV x] rfl (reads_one _ _ _) (by simp; rfl) (by simp only [maxLen]; omega) (by omega) ?_); intro A2 c2 w2 happ; have HA := Lib.hid happ; clear happ)
        go_step3
        refine ⟨rfl, ⟨done ++ [x], y, A2, n + 1, c2, _, _, _, _, _, _, _, _, _, _, _, _, _, _, _, _, _, _, _, _, rfl, ?_, by omega, by omega, HF1.out.push HA.out⟩, ?_⟩
        · have := HDD.out
          simp [Hid]
          exact this
        · show y.length < rest.length; omega


set_option maxHeartbeats 3200000 in
set_option maxRecDepth 100000 in
theorem pparse_any (l : List UInt8) (w : World) (hl : l.length ≤ 90000) (hM : HasMax w) :
    Calls Tryd.prog 51 #[strV l] w fun e w' => ∃ A n c, e = .returned (.tuple #[.slice A n c, .int .i64 (parseP (linesF [] l)).2.1, .int .i64 (parseP (linesF [] l)).2.2]) ∧ RowD w w' (parseP (linesF [] l)).1 A n c ∧ Kept [] w w' := by
  have HL := Lib.hid (fun w h => plines_any l w (by omega) h)
  have HX : Hid (∀ x ∈ linesF [] l, x.length ≤ 100000) := fun x hx => by have := (linesF_len l []).2 x hx; simp at this; omega
  have HM := Lib.hid hM
  clear hM
  generalize linesF [] l = ls at *
  by_cases hlong : 256 < ls.length
  · have hp : parseP ls = ([], 0, 4) := if_pos hlong
    rw [hp]
    clear hp
    rw [decide_eq_false (by omega)] at HL
    go_enter Tryd.func51, Tryd.ntmps51
    go_wp2_with fail
    refine (HL.out _ HM.out).mono ?_
    rintro e w1 ⟨A, n, c, rfl, _, hk⟩
    have HK := Lib.hid hk
    clear hk
    go_wp2_with fail
    go_ret3
    exact ⟨_, _, _, rfl, RowD.nil _ _, HK.out⟩
  · have hp : parseP ls = readsD [] ls := if_neg hlong
    rw [hp]
    clear hp
    rw [decide_eq_true (by omega)] at HL
    obtain ⟨R, hR⟩ : ∃ R, readsD [] ls = R := ⟨_, rfl⟩
    rw [hR]
    have HR := Lib.hid hR
    clear hR
    go_enter Tryd.func51, Tryd.ntmps51
    go_wp2_with fail
    refine (HL.out _ HM.out).mono ?_
    rintro e w1 ⟨A, n, c, rfl, hF, hk⟩
    obtain ⟨rfl, hF⟩ := hF (by omega)
    have HLS := Lib.hid hF
    have HM1 := Lib.hid (HM.out.old hk)
    clear hF hk
    go_wp2_with fail
    go_loopw [7, 21] (fun ov iv wr => ∃ (k : Nat) (A' : Option Addr) (n' c' : Nat) (done : List Dd), k ≤ ls.length ∧ iv = .int .i64 k ∧ ov = .slice A' n' c' ∧ n' = k ∧ Hid (readsD done (ls.drop k) = R) ∧ Hid (RowD w1 wr done A' n' c') ∧ Hid (Kept [] w1 wr)) (fun _ i _ => ls.length - (intOf i).toNat)
    case atStart => exact ⟨0, none, 0, 0, [], by omega, rfl, rfl, rfl, HR.out, RowD.nil _ _, Kept.refl _ _⟩
    case round =>
      obtain ⟨k, A', n', c', done, hk, rfl, rfl, hnk, HD, HF, HK⟩ := hrel
      subst hnk
      have hws := HK.out.size
      by_cases hlt : n' < ls.length
      · obtain ⟨x, hx⟩ : ∃ x, ls[n'] = x := ⟨_, rfl⟩
        have hd := HD.out
        rw [List.drop_eq_getElem_cons hlt, hx, readsD] at hd
        have hxl := HX.out x (hx ▸ List.getElem_mem hlt)
        obtain ⟨b, o, rfl, hb, hcell⟩ := (Reads.of_own HLS.out.1).addr (by omega) (by omega)
        have hc0 : wr.cell? ⟨b, o + n', none⟩ = some (strV x) := HK.out.cell_some (hcell n' (strV x) (by rw [List.getElem?_map, List.getElem?_eq_getElem hlt, hx]; rfl)) (by simp)
        have HP := Lib.hid (fun w h => parse_any x w (by omega) h)
        have HMr := Lib.hid (HM1.out.old HK.out)
        have hi0 : (0 : Int) ≤ (n' : Int) := by omega
        have hi1 : (n' : Int) < (ls.length : Int) := by omega
        have hdl : done.length = n' := HF.out.reads.len.symm
        generalize parseD 1048576 x = pr at *
        obtain ⟨⟨o1, a1, b1, r1, n1, m1, l1⟩, ec⟩ := pr
        simp only [dCd] at HP hd
        clear hcell hx HD
        by_cases hec : ec = 0
        · subst hec
          rw [if_pos rfl] at hd
          have HD := Lib.hid hd
          clear hd
          go_wp2_with fail
          refine (HP.out _ HMr.out).mono ?_
          rintro e w2 ⟨rfl, hk2⟩
          have HK2 := Lib.hid ((HK.out.trans hk2).alloc (.cells (dC o1 a1 b1 r1 n1 m1 l1) 41))
          have HF2 := Lib.hid (HF.out.kept (hk2.alloc (.cells (dC o1 a1 b1 r1 n1 m1 l1) 41)) (by simp))
          have hws2 := HK2.out.size
          clear hk2
          go_wp2_with (at_builtin; go_must (refine wpList_append_any _ rfl _ _ _ rfl 41 (.agg (dC 0 0 0 0 0 0 false)) 7 56 Tryd.underlying22 Tryd.info41 rfl (by omega) (.slice A' n' c') n' (done.flatMap dL) rfl (HF2.out.1.alloc _) (some ⟨w2.heap.size + 1, 0, none⟩) 1 1 (dL ⟨o1, a1, b1, r1, n1, m1, l1⟩) rfl (by have h := reads_dd (w2.alloc (.cells (dC o1 a1 b1 r1 n1 m1 l1) 41)) 41 ⟨o1, a1, b1, r1, n1, m1, l1⟩; simp only [World.size_alloc] at h; exact h) (dL_one _) (by simp only [maxLen]; omega) (by omega) ?_); intro A2 c2 w3 happ; have HA := Lib.hid happ; clear happ)
          go_roundw
          case rel => exact ⟨n' + 1, A2, n' + 1, c2, done ++ [⟨o1, a1, b1, r1, n1, m1, l1⟩], by omega, by go_num, rfl, rfl, HD, (HF2.out.kept ((Kept.refl [] _).alloc _) (by simp)).append (by have := HK2.out.size; simp only [World.size_alloc] at this ⊢; omega) HA.out, HK2.out.trans' ((((Kept.refl _ _).alloc _).trans HA.out.2.1)) (fun q hq => .inr (HF2.out.2 q hq))⟩
          case measure => simp [intOf]; omega
        · have hec2 : (ec != 0) = true := by rw [bne_iff_ne]; exact hec
          rw [if_neg hec, hdl] at hd
          have HD := Lib.hid hd
          clear hec hd
          go_wp2_with fail
          refine (HP.out _ HMr.out).mono ?_
          rintro e w2 ⟨rfl, hk2⟩
          have HK2 := Lib.hid (HLS.out.2.1.trans (HK.out.trans hk2))
          clear hk2
          go_wp2_with fail
          go_ret3
          rw [← HD.out]
          exact ⟨_, _, _, rfl, RowD.nil _ _, HK2.out.alloc _⟩
      · obtain rfl : n' = ls.length := by omega
        have hd := HD.out
        rw [List.drop_of_length_le (Nat.le_refl _), readsD] at hd
        have hdl : done.length = ls.length := HF.out.reads.len.symm
        rw [hdl] at hd
        have HDD := Lib.hid hd
        clear hd HD
        go_wp2_with fail
        go_ret3
        rw [← HDD.out]
        exact ⟨_, _, _, rfl, ⟨HF.out.1, fun q hq => by have := HF.out.2 q hq; have := HLS.out.2.1.size; omega⟩, HLS.out.2.1.trans HK.out⟩

end Go.Proofs.YtmhlmoojmdfnfaaDoor
