/- Package bosunref08: held, Simple. -/
import Derived.Test.YtmhlmoojmdfnfaaDoorPgM
namespace Go.Proofs.YtmhlmoojmdfnfaaDoor
open Go.RowKit

theorem ret_inb {a a' b b' : Int} {p q : Bool} (h : a = a') (h1 : b = b') (h' : p = q) : Ending.returned (.tuple #[.int .i64 a, .int .u64 b, .bool p]) = .returned (.tuple #[.int .i64 a', .int .u64 b', .bool q]) := by rw [h, h1, h']
theorem heldR_none {p : List Dd} (h : heldL p = none) : heldR p = (-1, 0, false) := by rw [heldR, h]
theorem heldR_some {p : List Dd} {lk : Int} {n : Nat} (h : heldL p = some (lk, n)) : heldR p = (lk, n, true) := by rw [heldR, h]
theorem take_take_le {l : List Dd} {k n : Nat} (h : k ≤ n) : (l.take n).take k = l.take k := by rw [List.take_take, Nat.min_eq_left h]
theorem heldR_small (p : List Dd) (hc : checkP p = 0) (k : Nat) (hk : k ≤ p.length) : (heldR (p.take k)).2.1 ≤ 65536 * 256 := by
  cases h : heldL (p.take k) with
  | none => rw [heldR_none h]; simp
  | some s => obtain ⟨lk, n⟩ := s; rw [heldR_some h]; exact (held_small p hc k hk h).1
theorem mostR_succ {p : List Dd} {k : Nat} {d : Dd} (h : p[k]? = some d) : mostR p (k + 1) = if d.op = 11 then (if mostR p k < (heldR (p.take k)).2.1 + 1 then (heldR (p.take k)).2.1 + 1 else mostR p k) else mostR p k := by simp [mostR, h]
theorem mostR_small (p : List Dd) (hc : checkP p = 0) : ∀ k, k ≤ p.length → mostR p k ≤ 65536 * 256 + 1
  | 0, _ => by simp [mostR]
  | k + 1, hk => by
    have h1 := mostR_small p hc k (by omega)
    have h2 := heldR_small p hc k (by omega)
    rw [mostR_succ (List.getElem?_eq_getElem (by omega))]
    split
    · split <;> omega
    · exact h1

set_option maxHeartbeats 3200000 in
set_option maxRecDepth 100000 in
theorem refHeld (A : Option Addr) (n c : Nat) (l : List Dd) (at_ : Nat) (w : World) (hr : ReadsD w A n l) (hat : at_ ≤ l.length) (hnb : ∀ d ∈ l, d.n < 18446744073709551616) (hc : checkP l = 0) :
    Calls Tryd.prog 59 #[.slice A n c, .int .i64 at_] w fun e w' => e = .returned (.tuple #[.int .i64 (heldR (l.take at_)).1, .int .u64 ((heldR (l.take at_)).2.1 : Nat), .bool (heldR (l.take at_)).2.2]) ∧ Kept [] w w' := by
  obtain rfl := hr.len
  have hl2 := (checkP_zero hc).1
  have HR := Lib.hid hr
  have HNB := Lib.hid hnb
  have HC0 := Lib.hid hc
  clear hr hnb hc
  go_enter Tryd.func59, Tryd.ntmps59
  go_wp2_with fail
  go_loopw [7, 8, 9] (fun lv nv kv wr => ∃ (k : Nat) (lk : Int) (nn : Nat), k ≤ at_ ∧ kv = .int .i64 k ∧ lv = .int .i64 lk ∧ nv = .int .u64 (nn : Nat) ∧ Hid (heldL (l.take k) = some (lk, nn)) ∧ Hid (Kept [] w wr)) (fun _ _ k _ => at_ - (intOf k).toNat)
  case atStart => exact ⟨0, -1, 0, by omega, rfl, rfl, rfl, rfl, Kept.refl _ _⟩
  case round =>
    obtain ⟨k, lk, nn, hk1, rfl, rfl, rfl, HS, HK⟩ := hrel
    have hsm := held_small l HC0.out k (by omega) HS.out
    simp only at hsm
    obtain ⟨hs1, hs3⟩ := hsm
    by_cases hlt : k < at_
    · obtain ⟨d, b, o, rfl, hx, hb, hc0, hc1, hc2, hc3, hc4, hc5, hc6⟩ := (HR.out.old HK.out).at_ (k := k) (by omega)
      have hi0 : (0 : Int) ≤ (k : Int) := by omega
      have hi1 : (k : Int) < (l.length : Int) := by omega
      have HSN : Hid (heldL (l.take (k + 1)) = heldS (lk, nn) d) := by
        show _ = _
        rw [take_snoc hx, heldL_snoc, HS.out]; rfl
      have HNO : Hid (heldS (lk, nn) d = none → heldR (l.take at_) = (-1, 0, false)) := fun h => by
        refine heldR_none (heldL_take (l.take at_) (k + 1) ?_)
        rw [take_take_le (by omega), HSN.out, h]
      have hnd := HNB.out d (List.mem_of_getElem? hx)
      have hcd : costD d < 18446744073709551616 := by unfold costD; split <;> omega
      obtain ⟨o1, a1, b1, r1, n1, m1, l1⟩ := d
      simp only at hc0 hc1 hc2 hc3 hc4 hc5 hc6 hnd
      clear hx HS
      by_cases e1 : o1 = 9 ∨ o1 = 10
      · by_cases e2 : 0 ≤ lk
        · have HV : Hid (heldR (l.take at_) = (-1, 0, false)) := HNO.out (by rw [heldS, if_pos e1, if_pos e2])
          have d1 : decide (0 ≤ lk) = true := by simpa using e2
          clear HSN HNO
          rcases e1 with rfl | rfl
          all_goals
            go_wp2_with fail
            go_ret3
            exact ⟨ret_inb (by rw [HV.out]) (by rw [HV.out]; rfl) (by rw [HV.out]), HK.out⟩
        · have HV : Hid (heldL (l.take (k + 1)) = some (a1, 0)) := by show _ = _; rw [HSN.out, heldS, if_pos e1, if_neg e2]
          have d1 : decide (0 ≤ lk) = false := by simpa using e2
          clear HSN HNO
          rcases e1 with rfl | rfl
          all_goals
            go_wp2_with fail
            go_roundw
            case rel => exact ⟨k + 1, a1, 0, by omega, by go_num, rfl, rfl, HV, HK⟩
            case measure => simp [intOf]; omega
      · have f9 : (o1 == 9) = false := beq_eq_false_iff_ne.2 (fun h => e1 (.inl h))
        have f10 : (o1 == 10) = false := beq_eq_false_iff_ne.2 (fun h => e1 (.inr h))
        by_cases e2 : o1 = 11
        · subst e2
          by_cases e3 : lk = a1
          · subst e3
            have HV : Hid (heldL (l.take (k + 1)) = some (-1, nn)) := by show _ = _; rw [HSN.out, heldS, if_neg e1, if_pos rfl, if_pos rfl]
            have hz : (lk != lk) = false := by simp
            clear HSN HNO e1 f9 f10
            go_wp2_with fail
            go_roundw
            case rel => exact ⟨k + 1, -1, nn, by omega, by go_num, rfl, rfl, HV, HK⟩
            case measure => simp [intOf]; omega
          · have HV : Hid (heldR (l.take at_) = (-1, 0, false)) := HNO.out (by rw [heldS, if_neg e1, if_pos rfl, if_neg e3])
            have hz : (lk != a1) = true := by simp [e3]
            clear HSN HNO e1 f9 f10 e3
            go_wp2_with fail
            go_ret3
            exact ⟨ret_inb (by rw [HV.out]) (by rw [HV.out]; rfl) (by rw [HV.out]), HK.out⟩
        · have f11 : (o1 == 11) = false := beq_eq_false_iff_ne.2 e2
          by_cases e3 : 0 ≤ lk ∧ o1 ≠ 1
          · have HV : Hid (heldR (l.take at_) = (-1, 0, false)) := HNO.out (by rw [heldS, if_neg e1, if_neg e2, if_pos e3])
            have d1 : decide (0 ≤ lk) = true := by simpa using e3.1
            have d2 : (o1 != 1) = true := by simp [e3.2]
            clear HSN HNO e1 e2 e3
            go_wp2_with fail
            go_ret3
            exact ⟨ret_inb (by rw [HV.out]) (by rw [HV.out]; rfl) (by rw [HV.out]), HK.out⟩
          · have HV : Hid (heldL (l.take (k + 1)) = some (lk, addS nn (costD ⟨o1, a1, b1, r1, n1, m1, l1⟩))) := by show _ = _; rw [HSN.out, heldS, if_neg e1, if_neg e2, if_neg e3]
            have HC := Lib.hid (fun w => refCost o1 a1 b1 r1 n1 m1 l1 w)
            generalize costD ⟨o1, a1, b1, r1, n1, m1, l1⟩ = cd at *
            have HA := Lib.hid (fun w => refAdd nn cd w (by omega) hcd)
            generalize addS nn cd = nx at *
            clear HSN HNO e1 e2
            have hcase : (decide (0 ≤ lk) = false) ∨ (decide (0 ≤ lk) = true ∧ 0 ≤ lk ∧ o1 = 1) := by
              by_cases h : 0 ≤ lk
              · exact .inr ⟨by simpa using h, h, by
                  by_cases h2 : o1 = 1
                  · exact h2
                  · exact absurd ⟨h, h2⟩ e3⟩
              · exact .inl (by simpa using h)
            clear e3
            rcases hcase with d1 | ⟨d1, d2, rfl⟩
            all_goals
              go_wp2_with fail
              refine (HC.out _).mono ?_
              rintro e w2 ⟨rfl, hk2⟩
              have HK2 := Lib.hid (HK.out.trans hk2)
              clear hk2
              go_wp2_with fail
              refine (HA.out _).mono ?_
              rintro e w3 ⟨rfl, rfl⟩
              go_wp2_with fail
              go_roundw
              case rel => exact ⟨k + 1, lk, nx, by omega, by go_num, rfl, rfl, HV, HK2⟩
              case measure => simp [intOf]; omega
    · obtain rfl : k = at_ := by omega
      have HV := Lib.hid (heldR_some HS.out)
      go_wp2_with fail
      go_ret3
      exact ⟨ret_inb (by rw [HV.out]) (by rw [HV.out]) (by rw [HV.out]), HK.out⟩

theorem refSimple_none {p : List Dd} (h : heldL p = none) : simpleP p = (0, false) := by
  rw [← simple_same]; unfold refSimpleP; rw [h]; split <;> rfl
theorem refSimple_some {p : List Dd} (h0 : checkP p = 0) {lk : Int} {n : Nat} (h : heldL p = some (lk, n)) : simpleP p = if 0 ≤ lk then (0, false) else (mostR p p.length, true) := by
  rw [← simple_same]; unfold refSimpleP; rw [if_pos h0, h]

set_option maxHeartbeats 3200000 in
set_option maxRecDepth 100000 in
theorem refSimple (A : Option Addr) (n c : Nat) (l : List Dd) (w : World) (hr : ReadsD w A n l) (hn : n ≤ 9223372036854775807) (hnb : ∀ d ∈ l, d.n < 18446744073709551616) : Calls Tryd.prog 16 #[.slice A n c] w fun e w' => e = .returned (.tuple #[.int .u64 ((simpleP l).1 : Nat), .bool (simpleP l).2]) ∧ Kept [] w w' := by
  obtain rfl := hr.len
  have HCK := Lib.hid (refCheckP A l.length c l w hr hn)
  have HR := Lib.hid hr
  have HNB := Lib.hid hnb
  clear hr hnb
  obtain ⟨ck, hck⟩ : ∃ ck, checkP l = ck := ⟨_, rfl⟩
  rw [hck] at HCK
  by_cases h0 : ck = 0
  · subst h0
    have HC0 := Lib.hid hck
    have HHD : Hid (∀ w' at_, Kept [] w w' → at_ ≤ l.length → Calls Tryd.prog 59 #[.slice A l.length c, .int .i64 (at_ : Nat)] w' fun e w'' => e = .returned (.tuple #[.int .i64 (heldR (l.take at_)).1, .int .u64 ((heldR (l.take at_)).2.1 : Nat), .bool (heldR (l.take at_)).2.2]) ∧ Kept [] w' w'') := fun w' at_ hk h => refHeld A l.length c l at_ w' (HR.out.old hk) h HNB.out HC0.out
    have HH0 := Lib.hid (fun w' hk => HHD.out w' l.length hk (Nat.le_refl _))
    rw [List.take_of_length_le (Nat.le_refl _)] at HH0
    have hcase : Hid ((heldR l = (-1, 0, false) ∧ simpleP l = (0, false)) ∨ ∃ lk nn, heldR l = (lk, nn, true) ∧ simpleP l = if 0 ≤ lk then (0, false) else (mostR l l.length, true)) := by
      show _ ∨ _
      cases h : heldL l with
      | none => exact .inl ⟨heldR_none h, refSimple_none h⟩
      | some s => obtain ⟨lk, nn⟩ := s; exact .inr ⟨lk, nn, heldR_some h, refSimple_some hck h⟩
    clear hck
    rcases hcase with ⟨h1, h2⟩ | ⟨lk, nn, h1, h2⟩
    · rw [h1] at HH0
      have HV := Lib.hid h2
      clear h1 h2
      go_enter Tryd.func16, Tryd.ntmps16
      go_wp2_with fail
      refine (HCK.out).mono ?_
      rintro e w1 ⟨rfl, hk1⟩
      have HK1 := Lib.hid hk1
      clear hk1
      go_wp2_with fail
      refine (HH0.out _ HK1.out).mono ?_
      rintro e w2 ⟨rfl, hk2⟩
      have HK2 := Lib.hid (HK1.out.trans hk2)
      clear hk2
      go_wp2_with fail
      go_ret2
      exact ⟨ret_nb (by rw [HV.out]; rfl) (by rw [HV.out]), HK2.out⟩
    · rw [h1] at HH0
      by_cases h3 : 0 ≤ lk
      · rw [if_pos h3] at h2
        have HV := Lib.hid h2
        have d1 : decide (0 ≤ lk) = true := by simpa using h3
        clear h1 h2
        go_enter Tryd.func16, Tryd.ntmps16
        go_wp2_with fail
        refine (HCK.out).mono ?_
        rintro e w1 ⟨rfl, hk1⟩
        have HK1 := Lib.hid hk1
        clear hk1
        go_wp2_with fail
        refine (HH0.out _ HK1.out).mono ?_
        rintro e w2 ⟨rfl, hk2⟩
        have HK2 := Lib.hid (HK1.out.trans hk2)
        clear hk2
        go_wp2_with fail
        go_ret2
        exact ⟨ret_nb (by rw [HV.out]; rfl) (by rw [HV.out]), HK2.out⟩
      · rw [if_neg h3] at h2
        have HV := Lib.hid h2
        have d1 : decide (0 ≤ lk) = false := by simpa using h3
        clear h1 h2 h3
        go_enter Tryd.func16, Tryd.ntmps16
        go_wp2_with fail
        refine (HCK.out).mono ?_
        rintro e w1 ⟨rfl, hk1⟩
        have HK1 := Lib.hid hk1
        clear hk1
        go_wp2_with fail
        refine (HH0.out _ HK1.out).mono ?_
        rintro e w2 ⟨rfl, hk2⟩
        have HK2 := Lib.hid (HK1.out.trans hk2)
        clear hk2
        go_wp2_with fail
        go_loopw [7, 8] (fun mv kv wr => ∃ k : Nat, k ≤ l.length ∧ kv = .int .i64 k ∧ mv = .int .u64 (mostR l k : Nat) ∧ Hid (Kept [] w wr)) (fun _ k _ => l.length - (intOf k).toNat)
        case atStart => exact ⟨0, by omega, rfl, rfl, HK2⟩
        case round =>
          obtain ⟨k, hk1, rfl, rfl, HK⟩ := hrel
          by_cases hlt : k < l.length
          · obtain ⟨d, b, o, rfl, hx, hb, hc0, hc1, hc2, hc3, hc4, hc5, hc6⟩ := (HR.out.old HK.out).at_ hlt
            have hi0 : (0 : Int) ≤ (k : Int) := by omega
            have hi1 : (k : Int) < (l.length : Int) := by omega
            have HMS : Hid (mostR l (k + 1) = _) := mostR_succ hx
            have hm1 := mostR_small l HC0.out k hk1
            have hh1 := heldR_small l HC0.out k hk1
            have HHK := Lib.hid (HHD.out _ k HK.out hk1)
            generalize heldR (l.take k) = hk at *
            obtain ⟨hlk, hnn, hok⟩ := hk
            simp only at HHK HMS hh1
            generalize mostR l k = mk at *
            obtain ⟨o1, a1, b1, r1, n1, m1, l1⟩ := d
            simp only at hc0 HMS
            clear hx hc1 hc2 hc3 hc4 hc5 hc6
            by_cases e1 : o1 = 11
            · subst e1
              rw [if_pos rfl] at HMS
              by_cases e2 : mk < hnn + 1
              · rw [if_pos e2] at HMS
                have d2 : decide ((mk : Int) < (hnn : Int) + 1) = true := by simp; omega
                go_wp2_with fail
                refine (HHK.out).mono ?_
                rintro e w3 ⟨rfl, hk3⟩
                have HK3 := Lib.hid (HK.out.trans hk3)
                clear hk3
                go_wp2_with fail
                go_roundw
                case rel => exact ⟨k + 1, by omega, by go_num, by rw [HMS.out]; go_num, HK3⟩
                case measure => simp [intOf]; omega
              · rw [if_neg e2] at HMS
                have d2 : decide ((mk : Int) < (hnn : Int) + 1) = false := by simp; omega
                go_wp2_with fail
                refine (HHK.out).mono ?_
                rintro e w3 ⟨rfl, hk3⟩
                have HK3 := Lib.hid (HK.out.trans hk3)
                clear hk3
                go_wp2_with fail
                go_roundw
                case rel => exact ⟨k + 1, by omega, by go_num, by rw [HMS.out], HK3⟩
                case measure => simp [intOf]; omega
            · rw [if_neg e1] at HMS
              have f1 : (o1 == 11) = false := beq_eq_false_iff_ne.2 e1
              clear e1
              go_wp2_with fail
              go_roundw
              case rel => exact ⟨k + 1, by omega, by go_num, by rw [HMS.out], HK⟩
              case measure => simp [intOf]; omega
          · obtain rfl : k = l.length := by omega
            go_wp2_with fail
            go_ret2
            exact ⟨ret_nb (by rw [HV.out]) (by rw [HV.out]), HK.out⟩
  · have hb : (ck != 0) = true := by simp [h0]
    have HV : Hid (simpleP l = (0, false)) := simpleP_no (by rw [hck]; exact h0)
    clear h0 hck
    go_enter Tryd.func16, Tryd.ntmps16
    go_wp2_with fail
    refine (HCK.out).mono ?_
    rintro e w1 ⟨rfl, hk1⟩
    have HK1 := Lib.hid hk1
    clear hk1
    go_wp2_with fail
    go_ret2
    exact ⟨ret_nb (by rw [HV.out]; rfl) (by rw [HV.out]), HK1.out⟩

end Go.Proofs.YtmhlmoojmdfnfaaDoor
