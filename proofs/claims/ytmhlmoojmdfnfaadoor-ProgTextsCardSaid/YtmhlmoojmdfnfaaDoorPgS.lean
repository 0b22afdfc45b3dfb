/- Packages prog and bosunref08: Steps. -/
import Derived.Test.YtmhlmoojmdfnfaaDoorPgC
import Derived.Deep.RegionHeld3
namespace Go.Proofs.YtmhlmoojmdfnfaaDoor
open Go.RowKit

/-- The last deed; without any: the zero deed. -/
def lastD (p : List Dd) : Dd := p.getLast?.getD Dd.zero
theorem lastD_snoc (p : List Dd) (d : Dd) : lastD (p ++ [d]) = d := by simp [lastD]
theorem endsExit_last (p : List Dd) : endsExit p = ((lastD p).op == 3) := by
  unfold endsExit lastD
  cases p.getLast? with
  | none => rfl
  | some d => rfl
theorem stepsP_ok {p : List Dd} (h : checkP p = 0) : stepsP p = if endsExit p then costs p else addS (costs p) 1 := by rw [stepsP, if_pos h]
theorem stepsP_no {p : List Dd} (h : checkP p ≠ 0) : stepsP p = 0 := by rw [stepsP, if_neg h]

set_option maxHeartbeats 3200000 in
set_option maxRecDepth 100000 in
theorem psteps_any (A : Option Addr) (n c : Nat) (l : List Dd) (w : World) (hr : ReadsD w A n l) (hn : n ≤ 9223372036854775807) (hnb : ∀ d ∈ l, d.n < 18446744073709551616) : Calls Tryd.prog 22 #[.slice A n c] w fun e w' => e = .returned (.int .u64 (stepsP l : Nat)) ∧ Kept [] w w' := by
  obtain rfl := hr.len
  have HCK := Lib.hid (pcheck_any A l.length c l w hr hn)
  have HR := Lib.hid hr
  have HNB := Lib.hid hnb
  clear hr hnb
  obtain ⟨ck, hck⟩ : ∃ ck, checkP l = ck := ⟨_, rfl⟩
  rw [hck] at HCK
  by_cases h0 : ck = 0
  · subst h0
    obtain ⟨hl2, hgood⟩ := checkP_zero hck
    have HG := Lib.hid hgood
    have HV := Lib.hid (stepsP_ok hck)
    clear hck hgood
    go_enter Tryd.func22, Tryd.ntmps22
    go_wp2_with fail
    refine (HCK.out).mono ?_
    rintro e w1 ⟨rfl, hk1⟩
    have HK1 := Lib.hid hk1
    have hsz := hk1.size
    clear hk1
    go_wp2_with fail
    go_loopw [3, 13] (fun nv kv wr => ∃ k : Nat, k ≤ l.length ∧ kv = .int .i64 k ∧ nv = .int .u64 (costs (l.take k) : Nat) ∧ Hid (Kept [] w wr) ∧ Hid (Blk wr w1.heap.size 41 (dCd (lastD (l.take k))))) (fun _ k _ => l.length - (intOf k).toNat)
    case atStart => exact ⟨0, by omega, rfl, rfl, HK1.out.alloc _, Blk.new _ _ _⟩
    case round =>
      obtain ⟨k, hk1, rfl, rfl, HK, HB⟩ := hrel
      by_cases hlt : k < l.length
      · obtain ⟨d, b, o, rfl, hx, hb, hc0, hc1, hc2, hc3, hc4, hc5, hc6⟩ := (HR.out.old HK.out).at_ hlt
        have hi0 : (0 : Int) ≤ (k : Int) := by omega
        have hi1 : (k : Int) < (l.length : Int) := by omega
        have hcl := costs_lt (l.take k)
        have hcd : costD d < 18446744073709551616 := by
          have := HNB.out d (List.mem_of_getElem? hx)
          unfold costD; split <;> omega
        have HT := Lib.hid (take_snoc hx)
        have HSN : Hid (costs (l.take (k + 1)) = addS (costs (l.take k)) (costD d)) := by rw [HT.out]; exact costs_snoc _ _
        have HLD : Hid (lastD (l.take (k + 1)) = d) := by rw [HT.out]; exact lastD_snoc _ _
        have hgd := HG.out d (List.mem_of_getElem? hx)
        obtain ⟨o1, a1, b1, r1, n1, m1, l1⟩ := d
        simp only at hc0 hc1 hc2 hc3 hc4 hc5 hc6
        have HC := Lib.hid (fun w => pcost_any o1 a1 b1 r1 n1 m1 l1 w hgd)
        generalize costD ⟨o1, a1, b1, r1, n1, m1, l1⟩ = cd at *
        generalize costs (l.take k) = cs at *
        have HA := Lib.hid (fun w => sadd_any cs cd w hcl hcd)
        have hf := HB.out.frozen
        have hbl := HB.out.lt
        have hbw : w.heap.size ≤ w1.heap.size := hsz
        have hne1 : ¬ (w1.heap.size = wr.heap.size) := by omega
        have hne2 : ¬ (wr.heap.size = w1.heap.size) := by omega
        have hcB := HB.out.cell
        clear hx hgd
        go_wp2_with fail
        go_region_held3 (fun w' => w'.cell? ⟨wr.heap.size, 0, none⟩ = some (.int .i64 o1) ∧ w'.cell? ⟨wr.heap.size, 1, none⟩ = some (.int .i64 a1) ∧ w'.cell? ⟨wr.heap.size, 2, none⟩ = some (.int .i64 b1) ∧ w'.cell? ⟨wr.heap.size, 3, none⟩ = some (.int .i64 r1) ∧ w'.cell? ⟨wr.heap.size, 4, none⟩ = some (.int .u64 n1) ∧ w'.cell? ⟨wr.heap.size, 5, none⟩ = some (.int .u64 m1) ∧ w'.cell? ⟨wr.heap.size, 6, none⟩ = some (.bool l1)) (go_keep) (first | (go_at_call 62; refine (HC.out _).mono ?_; rintro e w2 ⟨rfl, hk2⟩; have hB9 := (Blk.new wr 41 (dC o1 a1 b1 r1 n1 m1 l1)).drew.kept hk2 (by simp); have hc9 := hB9.cell; have HK2 := Lib.hid (((Kept.refl [] wr).alloc _).drew.trans hk2); have HB2 := Lib.hid (HB.out.kept HK2.out (by simp)); have hcB2 := HB2.out.cell; have hf2 := HB2.out.frozen; have hbl2 := HB2.out.lt; clear hB9 hk2) | (go_at_call 58; refine (HA.out _).mono ?_; rintro e w3 ⟨rfl, rfl⟩))
        go_wp2_with fail
        go_roundw
        case rel => exact ⟨k + 1, by omega, by go_num, by rw [HSN.out], (((((((HK.out.trans HK2.out).setCell (.inr hbw) _).setCell (.inr hbw) _).setCell (.inr hbw) _).setCell (.inr hbw) _).setCell (.inr hbw) _).setCell (.inr hbw) _).setCell (.inr hbw) _, by rw [HLD.out]; exact ((((((HB2.out.set 0 _).set 1 _).set 2 _).set 3 _).set 4 _).set 5 _).set 6 _⟩
        case measure => simp [intOf]; omega
      · obtain rfl : k = l.length := by omega
        have hfin : l.take l.length = l := List.take_of_length_le (Nat.le_refl _)
        rw [hfin] at HB ⊢
        have hcl := costs_lt l
        have hc0 : wr.cell? ⟨w1.heap.size, 0, none⟩ = some (.int .i64 (lastD l).op) := by rw [HB.out.cell]; rfl
        have HE := Lib.hid (endsExit_last l)
        have HA := Lib.hid (fun w => sadd_any (costs l) 1 w hcl (by omega))
        generalize (lastD l).op = lo at *
        generalize costs l = cs at *
        clear hfin
        by_cases h3 : lo = 3
        · have hb3 : (lo != 3) = false := by simp [h3]
          have HV2 : Hid (stepsP l = cs) := by
            show _ = _
            rw [HV.out, HE.out, if_pos (by simp [h3])]
          clear h3
          go_wp2_with fail
          go_ret
          exact ⟨ret_int (by rw [HV2.out]), HK.out⟩
        · have hb3 : (lo != 3) = true := by simp [h3]
          have HV2 : Hid (stepsP l = addS cs 1) := by
            show _ = _
            rw [HV.out, HE.out, if_neg (by simp [h3])]
          clear h3
          go_wp2_with fail
          refine (HA.out _).mono ?_
          rintro e w3 ⟨rfl, rfl⟩
          go_wp2_with fail
          go_ret
          exact ⟨ret_int (by rw [HV2.out]), HK.out⟩
  · have hb : (ck != 0) = true := by simp [h0]
    have HV : Hid (stepsP l = 0) := stepsP_no (by rw [hck]; exact h0)
    clear h0 hck
    go_enter Tryd.func22, Tryd.ntmps22
    go_wp2_with fail
    refine (HCK.out).mono ?_
    rintro e w1 ⟨rfl, hk1⟩
    have HK1 := Lib.hid hk1
    clear hk1
    go_wp2_with fail
    go_ret
    exact ⟨ret_int (by rw [HV.out]; rfl), HK1.out⟩

set_option maxHeartbeats 3200000 in
set_option maxRecDepth 100000 in
theorem refSteps (A : Option Addr) (n c : Nat) (l : List Dd) (w : World) (hr : ReadsD w A n l) (hn : n ≤ 9223372036854775807) (hnb : ∀ d ∈ l, d.n < 18446744073709551616) : Calls Tryd.prog 23 #[.slice A n c] w fun e w' => e = .returned (.int .u64 (stepsP l : Nat)) ∧ Kept [] w w' := by
  obtain rfl := hr.len
  have HCK := Lib.hid (refCheckP A l.length c l w hr hn)
  have HR := Lib.hid hr
  have HNB := Lib.hid hnb
  clear hr hnb
  obtain ⟨ck, hck⟩ : ∃ ck, checkP l = ck := ⟨_, rfl⟩
  rw [hck] at HCK
  by_cases h0 : ck = 0
  · subst h0
    obtain ⟨hl2, hgood⟩ := checkP_zero hck
    have HV := Lib.hid (stepsP_ok hck)
    clear hck hgood
    go_enter Tryd.func23, Tryd.ntmps23
    go_wp2_with fail
    refine (HCK.out).mono ?_
    rintro e w1 ⟨rfl, hk1⟩
    have HK1 := Lib.hid hk1
    clear hk1
    go_wp2_with fail
    go_loopw [3, 4] (fun nv kv wr => ∃ k : Nat, k ≤ l.length ∧ kv = .int .i64 k ∧ nv = .int .u64 (costs (l.take k) : Nat) ∧ Hid (Kept [] w wr)) (fun _ k _ => l.length - (intOf k).toNat)
    case atStart => exact ⟨0, by omega, rfl, rfl, HK1⟩
    case round =>
      obtain ⟨k, hk1, rfl, rfl, HK⟩ := hrel
      by_cases hlt : k < l.length
      · obtain ⟨d, b, o, rfl, hx, hb, hc0, hc1, hc2, hc3, hc4, hc5, hc6⟩ := (HR.out.old HK.out).at_ hlt
        have hi0 : (0 : Int) ≤ (k : Int) := by omega
        have hi1 : (k : Int) < (l.length : Int) := by omega
        have hcl := costs_lt (l.take k)
        have hcd : costD d < 18446744073709551616 := by
          have := HNB.out d (List.mem_of_getElem? hx)
          unfold costD; split <;> omega
        have HSN : Hid (costs (l.take (k + 1)) = addS (costs (l.take k)) (costD d)) := by rw [take_snoc hx]; exact costs_snoc _ _
        obtain ⟨o1, a1, b1, r1, n1, m1, l1⟩ := d
        simp only at hc0 hc1 hc2 hc3 hc4 hc5 hc6
        have HC := Lib.hid (fun w => refCost o1 a1 b1 r1 n1 m1 l1 w)
        generalize costD ⟨o1, a1, b1, r1, n1, m1, l1⟩ = cd at *
        generalize costs (l.take k) = cs at *
        have HA := Lib.hid (fun w => refAdd cs cd w hcl hcd)
        clear hx
        go_wp2_with fail
        refine (HC.out _).mono ?_
        rintro e w2 ⟨rfl, hk2⟩
        have HK2 := Lib.hid (HK.out.trans hk2)
        clear hk2
        go_wp2_with fail
        refine (HA.out _).mono ?_
        rintro e w3 ⟨rfl, rfl⟩
        go_wp2_with fail
        go_roundw
        case rel => exact ⟨k + 1, by omega, by go_num, by rw [HSN.out], HK2⟩
        case measure => simp [intOf]; omega
      · obtain rfl : k = l.length := by omega
        have hfin : l.take l.length = l := List.take_of_length_le (Nat.le_refl _)
        rw [hfin] at ⊢
        have hcl := costs_lt l
        have HE := Lib.hid (endsExit_last l)
        have HA := Lib.hid (fun w => refAdd (costs l) 1 w hcl (by omega))
        generalize costs l = cs at *
        clear hfin
        rcases List.eq_nil_or_concat l with rfl | ⟨q, d, hq⟩
        · have HV2 : Hid (stepsP [] = addS cs 1) := by
            show _ = _
            rw [HV.out, if_neg (by simp [endsExit])]
          go_wp2_with fail
          refine (HA.out _).mono ?_
          rintro e w3 ⟨rfl, rfl⟩
          go_wp2_with fail
          go_ret
          exact ⟨ret_int (by rw [HV2.out]), HK.out⟩
        · rw [List.concat_eq_append] at hq
          have hlq : l.length = q.length + 1 := by rw [hq]; simp
          have hld : lastD l = d := by rw [hq]; exact lastD_snoc _ _
          obtain ⟨d', b, o, rfl, hx, hb, hc0, hc1, hc2, hc3, hc4, hc5, hc6⟩ := (HR.out.old HK.out).at_ (k := l.length - 1) (by omega)
          have hdd : d' = d := by
            have h5 : l[l.length - 1]? = some d := by rw [hlq, Nat.add_sub_cancel, hq]; simp
            rw [h5] at hx; injection hx with hx; exact hx.symm
          subst hdd
          rw [hld] at HE
          have hn0 : ((l.length : Int) == 0) = false := beq_eq_false_iff_ne.2 (by omega)
          have hn1 : (1 : Int) ≤ (l.length : Int) := by omega
          have hn2 : (l.length : Int) - 1 < (l.length : Int) := by omega
          have hn3 : ((l.length : Int) - 1).toNat = l.length - 1 := by omega
          have hn4 : (0 : Int) ≤ (l.length : Int) - 1 := by omega
          have hn5 : ¬ (l.length = 0) := by omega
          obtain ⟨o1, a1, b1, r1, n1, m1, l1⟩ := d'
          simp only at hc0 HE
          clear hx hld hq hlq hc1 hc2 hc3 hc4 hc5 hc6
          by_cases h3 : o1 = 3
          · have hb3 : (o1 != 3) = false := by simp [h3]
            have HV2 : Hid (stepsP l = cs) := by
              show _ = _
              rw [HV.out, HE.out, if_pos (by simp [h3])]
            clear h3
            go_wp2_with fail
            go_ret
            exact ⟨ret_int (by rw [HV2.out]), HK.out⟩
          · have hb3 : (o1 != 3) = true := by simp [h3]
            have HV2 : Hid (stepsP l = addS cs 1) := by
              show _ = _
              rw [HV.out, HE.out, if_neg (by simp [h3])]
            clear h3
            go_wp2_with fail
            refine (HA.out _).mono ?_
            rintro e w3 ⟨rfl, rfl⟩
            go_wp2_with fail
            go_ret
            exact ⟨ret_int (by rw [HV2.out]), HK.out⟩
  · have hb : (ck != 0) = true := by simp [h0]
    have HV : Hid (stepsP l = 0) := stepsP_no (by rw [hck]; exact h0)
    clear h0 hck
    go_enter Tryd.func23, Tryd.ntmps23
    go_wp2_with fail
    refine (HCK.out).mono ?_
    rintro e w1 ⟨rfl, hk1⟩
    have HK1 := Lib.hid hk1
    clear hk1
    go_wp2_with fail
    go_ret
    exact ⟨ret_int (by rw [HV.out]; rfl), HK1.out⟩

end Go.Proofs.YtmhlmoojmdfnfaaDoor
