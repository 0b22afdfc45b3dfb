/- Packages prog and bosunref08: Locks; the law's few. -/
import Derived.Test.YtmhlmoojmdfnfaaDoorPgC
import Derived.Test.YtmhlmoojmdfnfaaDoorSets1
namespace Go.Proofs.YtmhlmoojmdfnfaaDoor
open Go.RowKit

def locksU (p : List Dd) : Nat := p.foldl locksF 0
theorem locksU_snoc (p : List Dd) (d : Dd) : locksU (p ++ [d]) = locksF (locksU p) d := by simp [locksU, List.foldl_append]
theorem locksU_lt (p : List Dd) (h : ∀ d ∈ p, goodD d = true) : ∀ k, k ≤ p.length → locksU (p.take k) < 18446744073709551616
  | 0, _ => by simp [locksU]
  | k + 1, hk => by
    rw [List.take_succ_eq_append_getElem (by omega), locksU_snoc]
    exact locksF_lt (locksU_lt p h k (by omega)) (h _ (List.getElem_mem _))
theorem locksP_ok {p : List Dd} (h : checkP p = 0) : locksP p = locksU p := by rw [locksP, if_pos h]; rfl
theorem locksP_no {p : List Dd} (h : checkP p ≠ 0) : locksP p = 0 := by rw [locksP, if_neg h]
theorem locksF_yes {s : Nat} {d : Dd} (h : d.op = 9 ∨ d.op = 10) : locksF s d = s ||| 2 ^ d.a.toNat := by rw [locksF, if_pos h]
theorem locksF_no {s : Nat} {d : Dd} (h : ¬ (d.op = 9 ∨ d.op = 10)) : locksF s d = s := by rw [locksF, if_neg h]

set_option maxHeartbeats 3200000 in
set_option maxRecDepth 100000 in
theorem plocks_any (A : Option Addr) (n c : Nat) (l : List Dd) (w : World) (hr : ReadsD w A n l) (hn : n ≤ 9223372036854775807) : Calls Tryd.prog 19 #[.slice A n c] w fun e w' => e = .returned (.int .u64 (locksP l : Nat)) ∧ Kept [] w w' := by
  obtain rfl := hr.len
  have HCK := Lib.hid (pcheck_any A l.length c l w hr hn)
  have HR := Lib.hid hr
  clear hr
  obtain ⟨ck, hck⟩ : ∃ ck, checkP l = ck := ⟨_, rfl⟩
  rw [hck] at HCK
  by_cases h0 : ck = 0
  · subst h0
    have HV := Lib.hid (locksP_ok hck)
    have HG := Lib.hid (checkP_zero hck).2
    clear hck
    go_enter Tryd.func19, Tryd.ntmps19
    go_wp2_with fail
    refine (HCK.out).mono ?_
    rintro e w1 ⟨rfl, hk1⟩
    have HK1 := Lib.hid hk1
    clear hk1
    go_wp2_with fail
    go_loopw [3, 12] (fun sv kv wr => ∃ k : Nat, k ≤ l.length ∧ kv = .int .i64 k ∧ sv = .int .u64 (locksU (l.take k) : Nat) ∧ Hid (Kept [] w wr)) (fun _ k _ => l.length - (intOf k).toNat)
    case atStart => exact ⟨0, by omega, rfl, rfl, HK1⟩
    case round =>
      obtain ⟨k, hk1, rfl, rfl, HK⟩ := hrel
      by_cases hlt : k < l.length
      · obtain ⟨d, b, o, rfl, hx, hb, hc0, hc1, hc2, hc3, hc4, hc5, hc6⟩ := (HR.out.old HK.out).at_ hlt
        have hi0 : (0 : Int) ≤ (k : Int) := by omega
        have hi1 : (k : Int) < (l.length : Int) := by omega
        have hsl := locksU_lt l HG.out k hk1
        have HSN : Hid (locksU (l.take (k + 1)) = locksF (locksU (l.take k)) d) := by show _ = _; rw [take_snoc hx]; exact locksU_snoc _ _
        have hga := goodD_a (HG.out d (List.mem_of_getElem? hx))
        generalize locksU (l.take k) = s at *
        obtain ⟨o1, a1, b1, r1, n1, m1, l1⟩ := d
        simp only at hc0 hc1 hc2 hc3 hc4 hc5 hc6 hga
        obtain ⟨q, rfl⟩ := Int.eq_ofNat_of_zero_le hga.1
        have hq : q < 64 := by omega
        clear hx
        by_cases e1 : o1 = 9 ∨ o1 = 10
        · have HV2 : Hid (locksU (l.take (k + 1)) = s ||| 2 ^ q) := by show _ = _; rw [HSN.out, locksF_yes e1]; simp
          clear HSN
          have hp1 : 2 ^ q < 18446744073709551616 := Nat.pow_lt_pow_right (a := 2) (m := q) (n := 64) (by omega) hq
          have hw2 : ((2 : Int) ^ q) = ((2 ^ q : Nat) : Int) := by simp
          generalize 2 ^ q = p at *
          have hor := u64_or_nat s p hsl hp1
          generalize s ||| p = r at *
          have hq0 : (0 : Int) ≤ (q : Int) := by omega
          have hq1 : (q : Int) ≤ 64 := by omega
          rcases e1 with rfl | rfl
          all_goals
            go_wp2_with fail
            go_roundw
            case rel => exact ⟨k + 1, by omega, by go_num, by rw [HV2.out], HK.out.alloc _⟩
            case measure => simp [intOf]; omega
        · have HV2 : Hid (locksU (l.take (k + 1)) = s) := by show _ = _; rw [HSN.out, locksF_no e1]
          have f5 : (o1 == 9) = false := beq_eq_false_iff_ne.2 (fun h => e1 (.inl h))
          have f6 : (o1 == 10) = false := beq_eq_false_iff_ne.2 (fun h => e1 (.inr h))
          clear HSN e1
          go_wp2_with fail
          go_roundw
          case rel => exact ⟨k + 1, by omega, by go_num, by rw [HV2.out], HK.out.alloc _⟩
          case measure => simp [intOf]; omega
      · obtain rfl : k = l.length := by omega
        rw [List.take_of_length_le (Nat.le_refl _)]
        go_wp2_with fail
        go_ret
        exact ⟨ret_int (by rw [HV.out]), HK.out⟩
  · have hb : (ck != 0) = true := by simp [h0]
    have HV : Hid (locksP l = 0) := locksP_no (by rw [hck]; exact h0)
    clear h0 hck
    go_enter Tryd.func19, Tryd.ntmps19
    go_wp2_with fail
    refine (HCK.out).mono ?_
    rintro e w1 ⟨rfl, hk1⟩
    have HK1 := Lib.hid hk1
    clear hk1
    go_wp2_with fail
    go_ret
    exact ⟨ret_int (by rw [HV.out]; rfl), HK1.out⟩

set_option maxHeartbeats 3200000 in
set_option maxRecDepth 100000 in
theorem refLocks (A : Option Addr) (n c : Nat) (l : List Dd) (w : World) (hr : ReadsD w A n l) (hn : n ≤ 9223372036854775807) : Calls Tryd.prog 20 #[.slice A n c] w fun e w' => e = .returned (.int .u64 (locksP l : Nat)) ∧ Kept [] w w' := by
  obtain rfl := hr.len
  have HCK := Lib.hid (fun w' hk => refCheckP A l.length c l w' (hr.old hk) hn)
  have HR := Lib.hid hr
  clear hr
  obtain ⟨ck, hck⟩ : ∃ ck, checkP l = ck := ⟨_, rfl⟩
  rw [hck] at HCK
  by_cases h0 : ck = 0
  · subst h0
    have HV := Lib.hid (locksP_ok hck)
    have HG := Lib.hid (checkP_zero hck).2
    clear hck
    go_enter Tryd.func20, Tryd.ntmps20
    go_wp2_with fail
    go_loopw [3, 4] (fun sv kv wr => ∃ k : Nat, k ≤ l.length ∧ kv = .int .i64 k ∧ sv = .int .u64 (locksU (l.take k) : Nat) ∧ Hid (Kept [] w wr)) (fun _ k _ => l.length - (intOf k).toNat)
    case atStart => exact ⟨0, by omega, rfl, rfl, Kept.refl _ _⟩
    case round =>
      obtain ⟨k, hk1, rfl, rfl, HK⟩ := hrel
      by_cases hlt : k < l.length
      · have hi0 : (0 : Int) ≤ (k : Int) := by omega
        have hi1 : (k : Int) < (l.length : Int) := by omega
        have d1 : decide ((k : Int) < (l.length : Int)) = true := by simpa using hlt
        go_wp2_with fail
        refine (HCK.out _ HK.out).mono ?_
        rintro e w2 ⟨rfl, hk2⟩
        have HK2 := Lib.hid (HK.out.trans hk2)
        clear hk2
        obtain ⟨d, b, o, rfl, hx, hb, hc0, hc1, hc2, hc3, hc4, hc5, hc6⟩ := (HR.out.old HK2.out).at_ hlt
        have hsl := locksU_lt l HG.out k hk1
        have HSN : Hid (locksU (l.take (k + 1)) = locksF (locksU (l.take k)) d) := by show _ = _; rw [take_snoc hx]; exact locksU_snoc _ _
        have hga := goodD_a (HG.out d (List.mem_of_getElem? hx))
        generalize locksU (l.take k) = s at *
        obtain ⟨o1, a1, b1, r1, n1, m1, l1⟩ := d
        simp only at hc0 hc1 hc2 hc3 hc4 hc5 hc6 hga
        obtain ⟨q, rfl⟩ := Int.eq_ofNat_of_zero_le hga.1
        have hq : q < 64 := by omega
        clear hx
        by_cases e1 : o1 = 9 ∨ o1 = 10
        · have HV2 : Hid (locksU (l.take (k + 1)) = s ||| 2 ^ q) := by show _ = _; rw [HSN.out, locksF_yes e1]; simp
          clear HSN
          have HPT := Lib.hid (fun w => refPut1 s q w hsl hq)
          generalize s ||| 2 ^ q = r at *
          rcases e1 with rfl | rfl
          all_goals
            go_wp2_with fail
            refine (HPT.out _).mono ?_
            rintro e w3 ⟨rfl, hk3⟩
            have HK3 := Lib.hid (HK2.out.trans hk3)
            clear hk3
            go_wp2_with fail
            go_roundw
            case rel => exact ⟨k + 1, by omega, by go_num, by rw [HV2.out], HK3⟩
            case measure => simp [intOf]; omega
        · have HV2 : Hid (locksU (l.take (k + 1)) = s) := by show _ = _; rw [HSN.out, locksF_no e1]
          have f5 : (o1 == 9) = false := beq_eq_false_iff_ne.2 (fun h => e1 (.inl h))
          have f6 : (o1 == 10) = false := beq_eq_false_iff_ne.2 (fun h => e1 (.inr h))
          clear HSN e1
          go_wp2_with fail
          go_roundw
          case rel => exact ⟨k + 1, by omega, by go_num, by rw [HV2.out], HK2⟩
          case measure => simp [intOf]; omega
      · obtain rfl : k = l.length := by omega
        rw [List.take_of_length_le (Nat.le_refl _)]
        go_wp2_with fail
        refine (HCK.out _ HK.out).mono ?_
        rintro e w2 ⟨rfl, hk2⟩
        have HK2 := Lib.hid (HK.out.trans hk2)
        clear hk2
        go_wp2_with fail
        go_ret
        exact ⟨ret_int (by rw [HV.out]), HK2.out⟩
  · have hb : (ck == 0) = false := by simp [h0]
    have HV : Hid (locksP l = 0) := locksP_no (by rw [hck]; exact h0)
    clear h0 hck
    go_enter Tryd.func20, Tryd.ntmps20
    go_wp2_with fail
    go_loopw [3, 4] (fun sv kv wr => kv = .int .i64 0 ∧ sv = .int .u64 0 ∧ Hid (Kept [] w wr)) (fun _ _ _ => 0)
    case atStart => exact ⟨rfl, rfl, Kept.refl _ _⟩
    case round =>
      obtain ⟨rfl, rfl, HK⟩ := hrel
      go_wp2_with fail
      refine (HCK.out _ HK.out).mono ?_
      rintro e w2 ⟨rfl, hk2⟩
      have HK2 := Lib.hid (HK.out.trans hk2)
      clear hk2
      go_wp2_with fail
      go_ret
      exact ⟨ret_int (by rw [HV.out]; rfl), HK2.out⟩

/-- x[:k], elements of any size. -/
theorem run_cutK_hi {P : Program} (t e : TypeId) (size : Nat) (ht : P.underlying t = some (.slice e)) (hs : (P.info? e).map (·.size) = some size) (A : Option Addr) (len cap : Nat) (k : IntKind) (x : Int) (n : Nat) (hx : x = n) (h1 : n ≤ cap) (w : World) :
    (Instr.slice t (.slice A len cap) none (some (.int k x)) none).run P w = .ok (.slice A n cap) w := by
  subst hx
  have h2 : (fun x : Addr => x.add 0) = id := by funext x; simp [Addr.add]
  cases hq : P.info? e with
  | none => simp [hq] at hs
  | some i => simp [Instr.slice, Instr.sliceBounds, Instr.sliceBound, run_underlying ht, sizeOf, typeInfo, hq, asIntOf, h1, h2]
theorem ReadsD.upto {w : World} {A : Option Addr} {n : Nat} {l : List Dd} (h : ReadsD w A n l) {k : Nat} (hk : k ≤ n) : ReadsD w A k (l.take k) := by
  have := Reads.upto h hk
  rw [flatK_take dL 7 dL_len] at this
  exact this
set_option maxHeartbeats 800000 in
theorem few8_any (A : Option Addr) (n c : Nat) (l : List Dd) (w : World) (hr : ReadsD w A n l) (hc : n ≤ c) (hc2 : c ≤ 9223372036854775807) :
    Calls Tryd.prog 14 #[.slice A n c] w fun e w' => e = .returned (.slice A (l.take 300).length c) ∧ w = w' := by
  have hn := hr.len
  by_cases h : 300 < n
  · have hl : (l.take 300).length = 300 := by rw [List.length_take]; omega
    rw [hl]
    have hsl := run_cutK_hi (P := Tryd.prog) 22 41 7 Tryd.underlying22 Tryd.size41 A n c .i64 300 300 rfl (by omega)
    clear hr hn hl
    go_enter Tryd.func14, Tryd.ntmps14
    go_wp2_with fail
    go_ret
    exact ⟨rfl, rfl⟩
  · have hl : (l.take 300).length = n := by rw [List.length_take]; omega
    rw [hl]
    clear hr hn hl
    go_enter Tryd.func14, Tryd.ntmps14
    go_wp2_with fail
    go_ret
    exact ⟨rfl, rfl⟩
theorem ReadsD.few {w : World} {A : Option Addr} {n : Nat} {l : List Dd} (h : ReadsD w A n l) : ReadsD w A (l.take 300).length (l.take 300) := by
  have hn := h.len
  have := h.upto (k := (l.take 300).length) (by rw [List.length_take]; omega)
  rw [show l.take (l.take 300).length = l.take 300 by rw [List.length_take, List.take_eq_take_iff]; omega] at this
  exact this

end Go.Proofs.YtmhlmoojmdfnfaaDoor
