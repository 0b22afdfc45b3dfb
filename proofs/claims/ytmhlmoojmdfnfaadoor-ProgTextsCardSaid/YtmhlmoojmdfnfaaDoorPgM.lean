/- Packages prog and bosunref08: Simple. -/
import Derived.Test.YtmhlmoojmdfnfaaDoorPgC
namespace Go.Proofs.YtmhlmoojmdfnfaaDoor
open Go.RowKit

theorem ret_nb {a b : Int} {p q : Bool} (h : a = b) (h' : p = q) : Ending.returned (.tuple #[.int .u64 a, .bool p]) = .returned (.tuple #[.int .u64 b, .bool q]) := by rw [h, h']
theorem simpleP_no {p : List Dd} (h : checkP p ≠ 0) : simpleP p = (0, false) := by rw [simpleP, if_neg h]
theorem simpleP_none {p : List Dd} (h : simL p = none) : simpleP p = (0, false) := by unfold simpleP; rw [h]; split <;> rfl
theorem simpleP_some {p : List Dd} (h0 : checkP p = 0) {lk : Int} {n m : Nat} (h : simL p = some (lk, n, m)) : simpleP p = if lk = -1 then (m, true) else (0, false) := by unfold simpleP; rw [if_pos h0, h]

set_option maxHeartbeats 3200000 in
set_option maxRecDepth 100000 in
theorem psimple_any (A : Option Addr) (n c : Nat) (l : List Dd) (w : World) (hr : ReadsD w A n l) (hn : n ≤ 9223372036854775807) (hnb : ∀ d ∈ l, d.n < 18446744073709551616) : Calls Tryd.prog 15 #[.slice A n c] w fun e w' => e = .returned (.tuple #[.int .u64 ((simpleP l).1 : Nat), .bool (simpleP l).2]) ∧ Kept [] w w' := by
  obtain rfl := hr.len
  have HCK := Lib.hid (pcheck_any A l.length c l w hr hn)
  have HR := Lib.hid hr
  have HNB := Lib.hid hnb
  clear hr hnb
  obtain ⟨ck, hck⟩ : ∃ ck, checkP l = ck := ⟨_, rfl⟩
  rw [hck] at HCK
  by_cases h0 : ck = 0
  · subst h0
    have HC0 := Lib.hid hck
    clear hck
    go_enter Tryd.func15, Tryd.ntmps15
    go_wp2_with fail
    refine (HCK.out).mono ?_
    rintro e w1 ⟨rfl, hk1⟩
    have HK1 := Lib.hid hk1
    clear hk1
    go_wp2_with fail
    go_loopw [4, 5, 6, 15] (fun lv nv mv kv wr => ∃ (k : Nat) (lk : Int) (nn mm : Nat), k ≤ l.length ∧ kv = .int .i64 k ∧ lv = .int .i64 lk ∧ nv = .int .u64 (nn : Nat) ∧ mv = .int .u64 (mm : Nat) ∧ Hid (simL (l.take k) = some (lk, nn, mm)) ∧ Hid (Kept [] w wr)) (fun _ _ _ k _ => l.length - (intOf k).toNat)
    case atStart => exact ⟨0, -1, 0, 0, by omega, rfl, rfl, rfl, rfl, rfl, HK1⟩
    case round =>
      obtain ⟨k, lk, nn, mm, hk1, rfl, rfl, rfl, rfl, HS, HK⟩ := hrel
      have hsm := sim_small l HC0.out k hk1 HS.out
      simp only at hsm
      obtain ⟨hs1, hs2, hs3⟩ := hsm
      by_cases hlt : k < l.length
      · obtain ⟨d, b, o, rfl, hx, hb, hc0, hc1, hc2, hc3, hc4, hc5, hc6⟩ := (HR.out.old HK.out).at_ hlt
        have hi0 : (0 : Int) ≤ (k : Int) := by omega
        have hi1 : (k : Int) < (l.length : Int) := by omega
        have HSN : Hid (simL (l.take (k + 1)) = simS (lk, nn, mm) d) := by
          show _ = _
          rw [take_snoc hx, simL_snoc, HS.out]; rfl
        have hnd := HNB.out d (List.mem_of_getElem? hx)
        obtain ⟨o1, a1, b1, r1, n1, m1, l1⟩ := d
        simp only at hc0 hc1 hc2 hc3 hc4 hc5 hc6 hnd
        clear hx HS
        by_cases e1 : o1 = 1
        · subst e1
          have HA := Lib.hid (fun w => sadd_any nn n1 w (by omega) hnd)
          have HV : Hid (simL (l.take (k + 1)) = some (lk, addS nn n1, mm)) := by show _ = _; rw [HSN.out, simS, if_pos rfl]
          clear HSN
          generalize addS nn n1 = nx at *
          go_wp2_with fail
          refine (HA.out _).mono ?_
          rintro e w2 ⟨rfl, rfl⟩
          go_wp2_with fail
          go_roundw
          case rel => exact ⟨k + 1, lk, nx, mm, by omega, by go_num, rfl, rfl, rfl, HV, HK.out.alloc _⟩
          case measure => simp [intOf]; omega
        · have f1 : (o1 == 1) = false := beq_eq_false_iff_ne.2 e1
          by_cases e2 : o1 = 11
          · subst e2
            by_cases e3 : a1 = lk
            · subst e3
              have HA := Lib.hid (fun w => sadd_any nn 1 w (by omega) (by omega))
              have HV : Hid (simL (l.take (k + 1)) = some (-1, nn, max mm (addS nn 1))) := by show _ = _; rw [HSN.out, simS, if_neg (by simp), if_pos ⟨rfl, rfl⟩]
              clear HSN e1
              have hab : (a1 == a1) = true := by simp
              have hlt2 := addS_lt nn 1
              generalize addS nn 1 = nx at *
              go_wp2_with fail
              refine (HA.out _).mono ?_
              rintro e w2 ⟨rfl, rfl⟩
              go_wp2_with fail
              go_roundw
              case rel => exact ⟨k + 1, -1, nn, max mm nx, by omega, by go_num, rfl, rfl, by go_num, HV, HK.out.alloc _⟩
              case measure => simp [intOf]; omega
            · have HV : Hid (simpleP l = (0, false)) := by
                refine simpleP_none (simL_take l (k + 1) ?_)
                rw [HSN.out, simS, if_neg (by simp), if_neg (fun h => e3 h.2), if_pos (.inr rfl)]
              have f3 : (a1 == lk) = false := beq_eq_false_iff_ne.2 e3
              clear HSN e1 e3
              by_cases e4 : lk = -1
              · subst e4
                go_wp2_with fail
                go_ret2
                exact ⟨ret_nb (by rw [HV.out]; rfl) (by rw [HV.out]), HK.out.alloc _⟩
              · have f4 : (lk == -1) = false := beq_eq_false_iff_ne.2 e4
                clear e4
                go_wp2_with fail
                go_ret2
                exact ⟨ret_nb (by rw [HV.out]; rfl) (by rw [HV.out]), HK.out.alloc _⟩
          · have f2 : (o1 == 11) = false := beq_eq_false_iff_ne.2 e2
            by_cases e4 : lk = -1
            · subst e4
              by_cases e5 : o1 = 9 ∨ o1 = 10
              · have HV : Hid (simL (l.take (k + 1)) = some (a1, 0, mm)) := by show _ = _; rw [HSN.out, simS, if_neg e1, if_neg (fun h => e2 h.1), if_neg (by simp [e2]), if_pos e5]
                clear HSN e1 e2 f1 f2
                rcases e5 with rfl | rfl
                all_goals
                  go_wp2_with fail
                  go_roundw
                  case rel => exact ⟨k + 1, a1, 0, mm, by omega, by go_num, rfl, rfl, rfl, HV, HK.out.alloc _⟩
                  case measure => simp [intOf]; omega
              · have HV : Hid (simL (l.take (k + 1)) = some (-1, nn, mm)) := by show _ = _; rw [HSN.out, simS, if_neg e1, if_neg (fun h => e2 h.1), if_neg (by simp [e2]), if_neg e5]
                have f5 : (o1 == 9) = false := beq_eq_false_iff_ne.2 (fun h => e5 (.inl h))
                have f6 : (o1 == 10) = false := beq_eq_false_iff_ne.2 (fun h => e5 (.inr h))
                clear HSN e1 e2 e5
                go_wp2_with fail
                go_roundw
                case rel => exact ⟨k + 1, -1, nn, mm, by omega, by go_num, rfl, rfl, rfl, HV, HK.out.alloc _⟩
                case measure => simp [intOf]; omega
            · have HV : Hid (simpleP l = (0, false)) := by
                refine simpleP_none (simL_take l (k + 1) ?_)
                rw [HSN.out, simS, if_neg e1, if_neg (fun h => e2 h.1), if_pos (.inl e4)]
              have f4 : (lk == -1) = false := beq_eq_false_iff_ne.2 e4
              clear HSN e1 e2 e4
              go_wp2_with fail
              go_ret2
              exact ⟨ret_nb (by rw [HV.out]; rfl) (by rw [HV.out]), HK.out.alloc _⟩
      · obtain rfl : k = l.length := by omega
        rw [List.take_of_length_le (Nat.le_refl _)] at HS
        have HV := Lib.hid (simpleP_some HC0.out HS.out)
        by_cases e4 : lk = -1
        · subst e4
          rw [if_pos rfl] at HV
          go_wp2_with fail
          go_ret2
          exact ⟨ret_nb (by rw [HV.out]) (by rw [HV.out]), HK.out⟩
        · rw [if_neg e4] at HV
          have f4 : (lk != -1) = true := by simp [e4]
          clear e4
          go_wp2_with fail
          go_ret2
          exact ⟨ret_nb (by rw [HV.out]; rfl) (by rw [HV.out]), HK.out⟩
  · have hb : (ck != 0) = true := by simp [h0]
    have HV : Hid (simpleP l = (0, false)) := simpleP_no (by rw [hck]; exact h0)
    clear h0 hck
    go_enter Tryd.func15, Tryd.ntmps15
    go_wp2_with fail
    refine (HCK.out).mono ?_
    rintro e w1 ⟨rfl, hk1⟩
    have HK1 := Lib.hid hk1
    clear hk1
    go_wp2_with fail
    go_ret2
    exact ⟨ret_nb (by rw [HV.out]; rfl) (by rw [HV.out]), HK1.out⟩

end Go.Proofs.YtmhlmoojmdfnfaaDoor
