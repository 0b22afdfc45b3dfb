/- The document's Same and Bytes of programs; prog.Decode. -/
import Derived.Test.YtmhlmoojmdfnfaaDoorDeedWR
import Derived.Test.YtmhlmoojmdfnfaaDoorPgB
import Derived.Test.YtmhlmoojmdfnfaaDoorPgG
import Derived.Deep.QuietTactic
import Derived.BigQuiet
namespace Go.Proofs.YtmhlmoojmdfnfaaDoor
open Go.RowKit
attribute [local go_sem] eqDeed

set_option maxHeartbeats 3200000 in
set_option maxRecDepth 100000 in
theorem refSameD (A : Option Addr) (n c : Nat) (A2 : Option Addr) (m d : Nat) (l : List Dd) (w : World) (ha : ReadsD w A n l) (hb : ReadsD w A2 m l) (hl : l.length ≤ 100000) :
    Calls Tryd.prog 28 #[.slice A n c, .slice A2 m d] w fun e w' => e = .returned (.bool true) ∧ Kept [] w w' := by
  have hn := ha.len
  have hm := hb.len
  subst hn hm
  have HA := Lib.hid ha
  have HB := Lib.hid hb
  have hbn : ((l.length : Int) != (l.length : Int)) = false := by simp
  clear ha hb
  go_enter Tryd.func28, Tryd.ntmps28
  go_wp2_with fail
  go_loopw [5] (fun iv wr => ∃ k : Nat, k ≤ l.length ∧ iv = .int .i64 k ∧ Hid (Kept [] w wr)) (fun i _ => l.length - (intOf i).toNat)
  case atStart => exact ⟨0, by omega, rfl, Kept.refl _ _⟩
  case round =>
    obtain ⟨k, hk, rfl, HK⟩ := hrel
    by_cases hlt : k < l.length
    · obtain ⟨e, b, o, rfl, hx, hb, hc0, hc1, hc2, hc3, hc4, hc5, hc6⟩ := (HA.out.old HK.out).at_ hlt
      obtain ⟨e2, b2, o2, rfl, hx2, hb2, hd0, hd1, hd2, hd3, hd4, hd5, hd6⟩ := (HB.out.old HK.out).at_ hlt
      rw [hx] at hx2
      injection hx2 with hx2
      subst hx2
      obtain ⟨o1, a1, b1, r1, n1, m1, l1⟩ := e
      simp only at hc0 hc1 hc2 hc3 hc4 hc5 hc6 hd0 hd1 hd2 hd3 hd4 hd5 hd6
      have hi0 : (0 : Int) ≤ (k : Int) := by omega
      have hi1 : (k : Int) < (l.length : Int) := by omega
      clear hx
      go_wp2_with fail
      go_quiet (fail)
      go_wp2_with fail
      go_roundw
      case rel => exact ⟨k + 1, by omega, by go_num, HK.out.trans (by (repeat (first | (with_reducible exact Kept.refl _ _) | (with_reducible assumption) | (with_reducible refine Kept.alloc ?_ _) | (with_reducible refine Kept.drew ?_) | (with_reducible refine Kept.drewN ?_ _) | (with_reducible refine Kept.setCell ?_ ?_ _) | (exact .inr (Nat.le_refl _)) | (exact .inr (by simp only; omega)) | (exact .inr (by omega)))))⟩
      case measure => simp [intOf]; omega
    · obtain rfl : k = l.length := by omega
      go_wp2_with fail
      go_ret
      exact ⟨rfl, HK.out⟩

set_option maxHeartbeats 3200000 in
set_option maxRecDepth 100000 in
theorem refBytesP (A : Option Addr) (n c : Nat) (l : List Dd) (w : World) (hr : ReadsD w A n l) (hc : checkP l = 0) (hok : ∀ d ∈ l, d.n < 18446744073709551616 ∧ d.mask < 18446744073709551616) :
    Calls Tryd.prog 27 #[.slice A n c] w fun e w' => ∃ A' n' c', e = .returned (.slice A' n' c') ∧ Fresh w w' (encP l) A' n' c' := by
  obtain rfl := hr.len
  obtain ⟨hl, hgood⟩ := checkP_zero hc
  have HR := Lib.hid hr
  have HOK := Lib.hid hok
  have HGD := Lib.hid hgood
  have HNU := Lib.hid (fun w => refNum_any l.length w (by omega))
  have en := encNum_le9 l.length
  have HLS : Hid (∀ k, k ≤ l.length → (encK l.length (l.take k)).length ≤ 9 + 16 * k) := fun k hk => by
    have := encK_small l.length (l.take k) (fun d hd => hgood d (List.mem_of_mem_take hd))
    rw [List.length_take, Nat.min_eq_left hk] at this
    exact this
  clear hr hok hgood hc
  go_enter Tryd.func27, Tryd.ntmps27
  go_wp2_with fail
  refine (HNU.out _).mono ?_
  rintro e w1 ⟨A1, c1, rfl, hf1⟩
  have HF1 : Hid (Fresh w w1 (encK l.length []) A1 (encNum l.length).length c1) := by rw [show encK l.length [] = encNum l.length by simp [encK]]; exact hf1
  clear hf1
  generalize (encNum l.length).length = n1 at *
  go_wp2_with fail
  go_loopw [3, 4] (fun bv iv wr => ∃ (k : Nat) (A' : Option Addr) (n' c' : Nat), k ≤ l.length ∧ iv = .int .i64 k ∧ bv = .slice A' n' c' ∧ Hid (Fresh w wr (encK l.length (l.take k)) A' n' c')) (fun _ i _ => l.length - (intOf i).toNat)
  case atStart => exact ⟨0, A1, n1, c1, by omega, rfl, rfl, HF1⟩
  case round =>
    clear HF1
    obtain ⟨k, A', n', c', hk, rfl, rfl, HF⟩ := hrel
    have hlk := HLS.out k hk
    have hnl := HF.out.len
    by_cases hlt : k < l.length
    · obtain ⟨d, b, o, rfl, hx, hb, hc0, hc1, hc2, hc3, hc4, hc5, hc6⟩ := (HR.out.old HF.out.2.1).at_ hlt
      have hi0 : (0 : Int) ≤ (k : Int) := by omega
      have hi1 : (k : Int) < (l.length : Int) := by omega
      have hxm := List.mem_of_getElem? hx
      have hgd := HGD.out d hxm
      have hdo := HOK.out d hxm
      have hed := encD_small hgd
      have HSN : Hid (encK l.length (l.take (k + 1)) = encK l.length (l.take k) ++ encD d) := by show _ = _; rw [take_snoc hx]; exact encK_snoc _ _ _
      obtain ⟨h1, h2, h3, h4, h5, h6, h7, h8⟩ := goodD_bounds hgd
      obtain ⟨o1, a1, b1, r1, n2, m1, l1⟩ := d
      simp only at hc0 hc1 hc2 hc3 hc4 hc5 hc6 hdo h1 h2 h3 h4 h5 h6 h7 h8
      obtain ⟨o1, rfl⟩ := Int.eq_ofNat_of_zero_le (show 0 ≤ o1 by omega)
      obtain ⟨a1, rfl⟩ := Int.eq_ofNat_of_zero_le h1
      obtain ⟨b1, rfl⟩ := Int.eq_ofNat_of_zero_le h3
      obtain ⟨r1, rfl⟩ := Int.eq_ofNat_of_zero_le h5
      have HBD := Lib.hid (fun w => refBytesD o1 a1 b1 r1 n2 m1 l1 w (by omega) (by omega) (by omega) (by omega) hdo.1 hdo.2)
      generalize encD ⟨(o1 : Int), (a1 : Int), (b1 : Int), (r1 : Int), n2, m1, l1⟩ = ed at *
      have HNL := Lib.hid hnl
      clear hx hxm hgd hdo hnl
      go_wp2_with fail
      refine (HBD.out _).mono ?_
      rintro e w2 ⟨A2, n3, c2, rfl, hf2⟩
      have hn3 := hf2.len
      have HF2 := Lib.hid hf2
      have HOW : Hid (w2.ownsRow 0 5 1 (.slice A' n' c') n' ((encK l.length (l.take k)).map B)) := own_kept HF.out.1 hf2.2.1 (by simp)
      have hb1 : n' + n3 ≤ 100000 := by rw [hn3, HNL.out]; omega
      have HN3 := Lib.hid hn3
      clear hf2 hn3
      go_wp2_with (at_builtin; refine wpList_append_any _ rfl _ _ 32 rfl 5 (.int .u8 0) 1 1 Tryd.underlying32 Tryd.info5 rfl (by decide) (.slice A' n' c') n' _ rfl HOW.out A2 n3 c2 (ed.map B) rfl (Reads.of_own HF2.out.1) (B_one _) (by simp only [maxLen]; omega) (by omega) ?_; rintro A3 c3 w3 happ; have HP3 := Lib.hid happ; clear happ)
      go_roundw
      case rel => exact ⟨k + 1, A3, n' + n3, c3, by omega, by go_num, rfl, HF.out.append HF2.out.2.1 (by rw [HSN.out, List.map_append]; exact HP3.out)⟩
      case measure => simp [intOf]; omega
    · obtain rfl : k = l.length := by omega
      rw [List.take_of_length_le (Nat.le_refl _)] at HF
      go_wp2_with fail
      go_ret
      exact ⟨_, _, _, rfl, HF.out⟩

/-- Bytes' program. -/
def decP (l : List UInt8) : List Dd × Int :=
  if (getPr (0, l)).2.2 ≠ 0 then ([], (getPr (0, l)).2.2) else if doneS (getPr (0, l)).1 ≠ 0 then ([], doneS (getPr (0, l)).1) else ((getPr (0, l)).2.1, 0)
theorem decP_len (l : List UInt8) : (decP l).1.length ≤ 256 := by
  unfold decP
  split
  · simp
  · split
    · simp
    · exact getPr_len _

set_option maxHeartbeats 3200000 in
set_option maxRecDepth 100000 in
theorem pdecode_any (A : Option Addr) (m c : Nat) (l : List UInt8) (w : World) (hr : Reads w 1 A m (l.map B)) (hb : l.length ≤ 1000000000) :
    Calls Tryd.prog 26 #[.slice A m c] w fun e w' => ∃ A' n' c', e = .returned (.tuple #[.slice A' n' c', .int .i64 (decP l).2]) ∧ RowD w w' (decP l).1 A' n' c' ∧ Kept [] w w' := by
  have HRD := Lib.hid (rread_any A m c l w hr hb)
  have HG := Lib.hid (fun g A c w h => pget_any g A c (0, l) w h)
  have HU : Hid (decP l = if (getPr (0, l)).2.2 ≠ 0 then ([], (getPr (0, l)).2.2) else if doneS (getPr (0, l)).1 ≠ 0 then ([], doneS (getPr (0, l)).1) else ((getPr (0, l)).2.1, 0)) := rfl
  generalize getPr (0, l) = x at *
  obtain ⟨s2, p, ev⟩ := x
  simp only at HU
  clear hr
  by_cases h1 : ev = 0
  · have hb1 : (ev == 0) = true := by simp [h1]
    rw [if_neg (by simp [h1])] at HU
    obtain ⟨dn, hdn⟩ : ∃ dn, doneS s2 = dn := ⟨_, rfl⟩
    rw [hdn] at HU
    have HDN := Lib.hid (fun g A c w h => rdone_any g A c s2 w h)
    rw [hdn] at HDN
    clear hdn h1
    by_cases h2 : dn = 0
    · have hb2 : (dn != 0) = false := by simp [h2]
      rw [if_neg (by simp [h2])] at HU
      clear h2
      go_enter Tryd.func26, Tryd.ntmps26
      go_wp2_with fail
      refine (HRD.out).mono ?_
      rintro e w1 ⟨g, A1, c1, rfl, hR1, hk1, hg1, hA1⟩
      have HR1 := Lib.hid hR1
      have HK1 := Lib.hid hk1
      have hs1 := hk1.size
      clear hR1 hk1 hA1
      go_wp2_with fail
      refine (HG.out g A1 c1 _ HR1.out).mono ?_
      rintro e w2 ⟨Av, nv, cv, rfl, hgo, hrow⟩
      obtain ⟨A2, c2, hR2, hk2, _⟩ := hgo
      have HR2 := Lib.hid hR2
      have HK2 : Hid (Kept [] w w2) := HK1.out.trans' hk2 (fun k hm => .inr (by simp at hm; omega))
      have HRW : Hid (RowD w w2 p Av nv cv) := ⟨hrow.1, fun k hk => Nat.le_trans hs1 (hrow.2 k hk)⟩
      clear hR2 hk2 hrow
      go_wp2_with fail
      refine (HDN.out g A2 c2 _ HR2.out).mono ?_
      rintro e w3 ⟨rfl, rfl⟩
      go_wp2_with fail
      go_ret2
      rw [HU.out]
      exact ⟨Av, nv, cv, rfl, HRW.out, HK2.out⟩
    · have hb2 : (dn != 0) = true := by simp [h2]
      rw [if_pos h2] at HU
      clear h2
      go_enter Tryd.func26, Tryd.ntmps26
      go_wp2_with fail
      refine (HRD.out).mono ?_
      rintro e w1 ⟨g, A1, c1, rfl, hR1, hk1, hg1, hA1⟩
      have HR1 := Lib.hid hR1
      have HK1 := Lib.hid hk1
      clear hR1 hk1 hA1
      go_wp2_with fail
      refine (HG.out g A1 c1 _ HR1.out).mono ?_
      rintro e w2 ⟨Av, nv, cv, rfl, hgo, hrow⟩
      obtain ⟨A2, c2, hR2, hk2, _⟩ := hgo
      have HR2 := Lib.hid hR2
      have HK2 : Hid (Kept [] w w2) := HK1.out.trans' hk2 (fun k hm => .inr (by simp at hm; omega))
      clear hR2 hk2 hrow
      go_wp2_with fail
      refine (HDN.out g A2 c2 _ HR2.out).mono ?_
      rintro e w3 ⟨rfl, rfl⟩
      go_wp2_with fail
      go_ret2
      rw [HU.out]
      exact ⟨none, 0, 0, rfl, RowD.nil _ _, HK2.out⟩
  · have hb1 : (ev == 0) = false := by simp [h1]
    have hb2 : (ev != 0) = true := by simp [h1]
    rw [if_pos h1] at HU
    clear h1
    go_enter Tryd.func26, Tryd.ntmps26
    go_wp2_with fail
    refine (HRD.out).mono ?_
    rintro e w1 ⟨g, A1, c1, rfl, hR1, hk1, hg1, hA1⟩
    have HR1 := Lib.hid hR1
    have HK1 := Lib.hid hk1
    clear hR1 hk1 hA1
    go_wp2_with fail
    refine (HG.out g A1 c1 _ HR1.out).mono ?_
    rintro e w2 ⟨Av, nv, cv, rfl, hgo, hrow⟩
    obtain ⟨A2, c2, hR2, hk2, _⟩ := hgo
    have HK2 : Hid (Kept [] w w2) := HK1.out.trans' hk2 (fun k hm => .inr (by simp at hm; omega))
    clear hR2 hk2 hrow
    go_wp2_with fail
    go_ret2
    rw [HU.out]
    exact ⟨none, 0, 0, rfl, RowD.nil _ _, HK2.out⟩

/-- A deed's words are words. -/
def okD (d : Dd) : Prop := d.n < 18446744073709551616 ∧ d.mask < 18446744073709551616
theorem getP_ok (x : RS × Dd) (c : UInt8) (h : okD x.2) : okD (getP x c).2 := by
  have := numS_lt x.1
  unfold getP okD at *
  (repeat' split) <;> simp_all
theorem fold_ok : ∀ (ps : List UInt8) (x : RS × Dd), okD x.2 → okD (ps.foldl getP x).2
  | [], _, h => h
  | c :: t, x, h => fold_ok t (getP x c) (getP_ok x c h)
theorem getD_okD (s : RS) : okD (getD s).2.1 := by
  have hz : okD Dd.zero := ⟨by simp [Dd.zero], by simp [Dd.zero]⟩
  have hr : okD (readP (byteS s).1 (byteS s).2.toNat).2 := fold_ok _ _ ⟨by simp, by simp⟩
  unfold getD
  (repeat' split) <;> assumption

theorem getPk_once : ∀ (n : Nat) (s s' : RS) (acc p : List Dd), s.1 = 0 → getPk n s acc = (s', p, 0) → ∃ q, p = acc ++ q ∧ q.length = n ∧ (∀ d ∈ q, goodD d = true ∧ okD d) ∧ s.2 = q.flatMap encD ++ s'.2 ∧ s'.1 = 0
  | 0, s, s', acc, p, h0, h => by
    injection h with h1 h2
    injection h2 with h2 h3
    subst h1 h2
    exact ⟨[], by simp, rfl, by simp, by simp, h0⟩
  | n + 1, s, s', acc, p, h0, h => by
    rw [getPk] at h
    split at h
    · rename_i h1
      exact absurd (congrArg (fun y : RS × List Dd × Int => y.2.2) h) h1
    · rename_i h1
      have h1 : (getD s).2.2 = 0 := by simpa using h1
      obtain ⟨_, h2, h3, h4⟩ := get_once (s := s) (s' := (getD s).1) (d := (getD s).2.1) (by rw [← h1])
      obtain ⟨q, hq1, hq2, hq3, hq4, hq5⟩ := getPk_once n (getD s).1 s' (acc ++ [(getD s).2.1]) p h2 h
      refine ⟨(getD s).2.1 :: q, by rw [hq1]; simp, by simp [hq2], ?_, by rw [h4, hq4]; simp, hq5⟩
      intro d hd
      rcases List.mem_cons.1 hd with rfl | hd
      · exact ⟨h3, getD_okD s⟩
      · exact hq3 d hd
theorem getPr_once {s s' : RS} {p : List Dd} (h : getPr s = (s', p, 0)) : s.1 = 0 ∧ s'.1 = 0 ∧ checkP p = 0 ∧ (∀ d ∈ p, okD d) ∧ s.2 = encP p ++ s'.2 := by
  unfold getPr at h
  split at h
  · rename_i h1
    exact absurd (congrArg (fun y : RS × List Dd × Int => y.2.2) h) h1
  · rename_i h1
    have h1 : (numS s).1.1 = 0 := by simpa using h1
    split at h
    · exact absurd (congrArg (fun y : RS × List Dd × Int => y.2.2) h) (by simp)
    · rename_i h2
      obtain ⟨h3, h4⟩ := numS_once h1
      obtain ⟨q, hq1, hq2, hq3, hq4, hq5⟩ := getPk_once _ _ _ _ _ h1 h
      obtain rfl : p = q := by simpa using hq1
      refine ⟨h3, hq5, checkP_good (by omega) (fun d hd => (hq3 d hd).1), fun d hd => (hq3 d hd).2, ?_⟩
      rw [h4, hq4, encP, hq2, List.append_assoc]
theorem decP_once {l : List UInt8} (h : (decP l).2 = 0) : checkP (decP l).1 = 0 ∧ (∀ d ∈ (decP l).1, okD d) ∧ l = encP (decP l).1 := by
  unfold decP at h ⊢
  split at h
  · rename_i h1; exact absurd h h1
  · rename_i h1
    rw [if_neg h1]
    split at h
    · rename_i h2; exact absurd h h2
    · rename_i h2
      rw [if_neg h2]
      have h1 : (getPr (0, l)).2.2 = 0 := by simpa using h1
      obtain ⟨_, g1, g2, g3, g4⟩ := getPr_once (s := (0, l)) (s' := (getPr (0, l)).1) (p := (getPr (0, l)).2.1) (Prod.ext rfl (Prod.ext rfl h1))
      have h3 : (getPr (0, l)).1.2 = [] := by
        have h2 : doneS (getPr (0, l)).1 = 0 := by simpa using h2
        unfold doneS leftS at h2
        rw [if_pos g1] at h2
        split at h2
        · cases h2
        · rename_i h5; exact List.length_eq_zero_iff.1 (by omega)
      rw [h3, List.append_nil] at g4
      exact ⟨g2, g3, g4⟩
theorem decP_err {l : List UInt8} (h : (decP l).2 ≠ 0) : (decP l).1 = [] := by
  unfold decP at h ⊢
  split
  · rfl
  · rename_i h1
    split
    · rfl
    · rename_i h2; rw [if_neg h1, if_neg h2] at h; exact absurd rfl h

theorem getPk_back : ∀ (q : List Dd) (acc : List Dd) (l : List UInt8), (∀ d ∈ q, goodD d = true) → (∀ d ∈ q, okD d) → getPk q.length (0, q.flatMap encD ++ l) acc = ((0, l), acc ++ q, 0)
  | [], acc, l, _, _ => by simp [getPk]
  | d :: t, acc, l, hg, ho => by
    have h1 := get_enc d (t.flatMap encD ++ l) (hg d (by simp)) (ho d (by simp)).1 (ho d (by simp)).2
    rw [List.length_cons, getPk, List.flatMap_cons, List.append_assoc, h1]
    simp only
    rw [if_neg (by simp), getPk_back t (acc ++ [d]) l (fun x hx => hg x (by simp [hx])) (fun x hx => ho x (by simp [hx]))]
    simp
theorem getPr_back {p : List Dd} (l : List UInt8) (hc : checkP p = 0) (ho : ∀ d ∈ p, okD d) : getPr (0, encP p ++ l) = ((0, l), p, 0) := by
  obtain ⟨h1, h2⟩ := checkP_zero hc
  unfold getPr encP
  rw [List.append_assoc, num_back _ _ (by omega)]
  simp only
  rw [if_neg (by simp), if_neg (by omega), getPk_back p [] l h2 ho]
  rfl
theorem decP_back {p : List Dd} (hc : checkP p = 0) (ho : ∀ d ∈ p, okD d) : decP (encP p) = (p, 0) := by
  have h := getPr_back [] hc ho
  rw [List.append_nil] at h
  unfold decP
  rw [h]
  simp [doneS, leftS]

end Go.Proofs.YtmhlmoojmdfnfaaDoor
