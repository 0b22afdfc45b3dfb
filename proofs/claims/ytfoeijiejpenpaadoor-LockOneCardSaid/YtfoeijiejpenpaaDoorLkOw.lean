/- Law 26: LockOne, walked. -/
import Derived.Test.YtfoeijiejpenpaaDoorLkGl
namespace Go.Proofs.YtfoeijiejpenpaaDoor
open Go.RowKit

/-- The locks whose owners are among the first threads. -/
def allN (s : Lk) (t : Nat) : Nat := setN (fun l => decide (0 ≤ getO s.owner l ∧ getO s.owner l < t)) s.lines.length
theorem allN_zero (s : Lk) : allN s 0 = 0 := by
  refine Nat.eq_of_testBit_eq fun i => ?_
  unfold allN
  rw [setN_bit]
  have : decide (0 ≤ getO s.owner i ∧ getO s.owner i < ((0 : Nat) : Int)) = false := by simp
  rw [this]
  simp
theorem ownN_in {s : Lk} {t : Nat} (ht : t < s.eff.length) : ownN s t = setN (fun l => getO s.owner l == (t : Int)) s.lines.length := by
  unfold ownN; rw [if_pos (by omega)]
theorem allN_and (s : Lk) {t : Nat} (ht : t < s.eff.length) : allN s t &&& ownN s t = 0 := by
  rw [ownN_in ht]
  refine Nat.eq_of_testBit_eq fun i => ?_
  unfold allN
  rw [Nat.testBit_and, setN_bit, setN_bit]
  by_cases h : getO s.owner i = t
  · simp [h]
  · simp [h]
theorem allN_or (s : Lk) {t : Nat} (ht : t < s.eff.length) : allN s t ||| ownN s t = allN s (t + 1) := by
  rw [ownN_in ht]
  refine Nat.eq_of_testBit_eq fun i => ?_
  unfold allN
  rw [Nat.testBit_or, setN_bit, setN_bit, setN_bit, ← Bool.and_or_distrib_left]
  congr 1
  rw [Bool.eq_iff_iff]
  simp
  omega
theorem allN_lt {s : Lk} {K : Nat} (h : s.Whole K) (t : Nat) : allN s t < 18446744073709551616 := setN_lt _ _ h.nl
/-- A way along the chain: r falls, all that was met is apart. -/
def RoadI (r : Int → Nat) (a : Int) (k : Nat) : Prop := a < 6 ∧ ∃ l : List Int, l.length = k ∧ l.Nodup ∧ (∀ x ∈ l, 0 ≤ x ∧ x < ((6 : Nat) : Int)) ∧ (0 ≤ a → ∀ x ∈ l, r a < r x)
theorem RoadI.start (r : Int → Nat) {a : Int} (h : a < 6) : RoadI r a 0 := ⟨h, [], rfl, .nil, by simp, by simp⟩
theorem RoadI.add {r : Int → Nat} {a : Int} {k : Nat} (h : RoadI r a k) (h0 : 0 ≤ a) : ∃ l : List Int, l.length = k + 1 ∧ l.Nodup ∧ (∀ x ∈ l, 0 ≤ x ∧ x < ((6 : Nat) : Int)) ∧ ∀ x ∈ l, r a ≤ r x := by
  obtain ⟨h6, l, hl, hn, hr, hf⟩ := h
  refine ⟨a :: l, by simp [hl], List.nodup_cons.2 ⟨fun hm => by have := hf h0 a hm; omega, hn⟩, fun x hx => ?_, fun x hx => ?_⟩
  · rcases List.mem_cons.1 hx with rfl | hx
    · omega
    · exact hr x hx
  · rcases List.mem_cons.1 hx with rfl | hx
    · omega
    · have := hf h0 x hx; omega
theorem RoadI.step {nx : Int → Int} {r : Int → Nat} (hr : Falls nx r) {a : Int} {k : Nat} (h : RoadI r a k) (h0 : 0 ≤ a) (h6 : nx a < 6) : RoadI r (nx a) (k + 1) := by
  obtain ⟨l, hl, hn, hb, hf⟩ := h.add h0
  exact ⟨h6, l, hl, hn, hb, fun hx x hm => by have := hf x hm; have := hr a h0 hx; omega⟩
theorem RoadI.end_ {r : Int → Nat} {a : Int} (h : RoadI r a 6) : a < 0 := by
  refine Decidable.byContradiction fun h0 => ?_
  obtain ⟨l, hl, hn, hb, _⟩ := h.add (by omega)
  have := pigeon 6 l hn hb
  omega
theorem bits_and0 {a b : Nat} (ha : a < 18446744073709551616) (hb : b < 18446744073709551616) (h : a &&& b = 0) : bits BinOp.and .u64 (a : Int) (b : Int) = 0 := by
  rw [bits_and_u64_nat a b ha hb, h]; rfl

set_option maxHeartbeats 12800000 in
set_option maxRecDepth 100000 in
theorem lockOne_any (A : Option Addr) (n c : Nat) (acts : List Ac) (w : World) (hr : Reads w 3 A n (acts.flatMap aL)) (hn : n ≤ 9223372036854775807) (hk : ∀ a ∈ acts, a.k < 256) (hD : HasDb w) :
    Calls Tryd.prog 4 #[.slice A n c] w fun e w' => e = .returned (.bool true) ∧ Kept [] w w' := by
  have hal := hr.lenK aL 3 aL_len (by omega)
  subst hal
  have HR := Lib.hid hr
  have HD := Lib.hid hD
  have HN := Lib.hid (new_go w)
  have HK := Lib.hid hk
  clear hr hD hk
  go_enter Tryd.func4, Tryd.ntmps4
  go_wp2_with fail
  refine (HN.out).mono ?_
  rintro e w1 ⟨g, rfl, hg⟩
  have HG := Lib.hid hg
  clear hg HN
  go_wp2_with fail
  go_loopw [4] (fun iv wr => ∃ i : Nat, i ≤ acts.length ∧ i ≤ 70 ∧ iv = .int .i64 i ∧ Hid (LkGo w wr g i)) (fun i _ => 70 - (intOf i).toNat)
  case atStart => exact ⟨0, by omega, by omega, rfl, HG.out⟩
  case round =>
    clear HG
    obtain ⟨i, hi1, hi2, rfl, HG⟩ := hrel
    by_cases hgo : i < acts.length ∧ i < 70
    · obtain ⟨hg1, hg2⟩ := hgo
      obtain ⟨x, hx⟩ : ∃ x, acts[i]? = some x := ⟨acts[i], List.getElem?_eq_getElem hg1⟩
      have hxk := HK.out x (List.mem_of_getElem? hx)
      have hkw : Kept [] w wr := by obtain ⟨_, _, _, h⟩ := HG.out; exact h.kept
      obtain ⟨b, o, rfl, hb0, hcc⟩ := HR.out.cellsK aL 3 aL_len (by omega) (by omega)
      have hc0 : wr.cell? ⟨b, o + i * 3, none⟩ = some (.int .u8 x.k) := hkw.cell_some (hcc i x hx 0 (by omega)) (by simp)
      have hc1 : wr.cell? ⟨b, o + i * 3 + 1, none⟩ = some (.int .i64 x.p) := hkw.cell_some (hcc i x hx 1 (by omega)) (by simp)
      have hc2 : wr.cell? ⟨b, o + i * 3 + 2, none⟩ = some (.int .i64 x.l) := hkw.cell_some (hcc i x hx 2 (by omega)) (by simp)
      have hj0 : (0 : Int) ≤ (i : Int) := by omega
      have hj1 : (i : Int) < (acts.length : Int) := by omega
      have d1 : decide ((i : Int) < (acts.length : Int)) = true := by simpa using hg1
      have d2 : decide ((i : Int) < 70) = true := by simp; omega
      obtain ⟨ak, xp, xl⟩ := x
      simp only at hc0 hc1 hc2 hxk
      have HSM := Lib.hid (small_any ak hxk xp xl wr)
      have HPL := Lib.hid (fun W (h : LkGo w W g i) A' B' => plays_any h (by omega) HD.out ak hxk A' B')
      clear hcc hx hkw hxk hb0
      go_wp2_with fail
      refine (HSM.out).mono ?_
      rintro e w2 ⟨⟨A', B', rfl⟩, hk2⟩
      have HG2 := Lib.hid (HG.out.old hk2)
      clear hk2 hc0 hc1 hc2
      go_wp2_with fail
      refine (HPL.out _ HG2.out A' B').mono ?_
      rintro e wp ⟨rfl, hgo⟩
      have HGO := Lib.hid hgo
      obtain ⟨a, s, js, hst⟩ := hgo
      have HST := Lib.hid hst
      have HWA : Hid (∀ W, Kept [] wp W → ∀ t : Nat, Calls Tryd.prog 16 #[.pointer (some ⟨g, 0, none⟩), .int .i64 t] W fun e W' => e = .returned (.tuple #[.int .i64 (getW s.waits t).1, .int .i64 (getW s.waits t).2]) ∧ Kept [] W W') := fun W hk t => by
        have h1 := lkWaits_any (hst.is.is.at_.old hk) hst.all.whole t
        rw [hst.g_] at h1
        exact h1
      have HWN : Hid (∀ W, Kept [] wp W → ∀ t : Int, Calls Tryd.prog 15 #[.pointer (some ⟨g, 0, none⟩), .int .i64 t] W fun e W' => e = .returned (.int .u64 (ownN s t : Nat)) ∧ W = W') := fun W hk t => by
        have h1 := lkOwned_any (hst.is.is.at_.old hk) hst.all.whole t
        rw [hst.g_] at h1
        exact h1
      have HLN : Hid (∀ W, Kept [] wp W → ∀ m : Nat, Calls Tryd.prog 10 #[.pointer (some ⟨g, 0, none⟩), .int .i64 m] W fun e W' => ∃ A n c, e = .returned (.slice A n c) ∧ FreshI W W' (lineM s m) A n c) := fun W hk m => by
        have h1 := lkLine_any (hst.is.is.old hk) hst.all.whole m
        rw [hst.g_] at h1
        exact h1
      have HOW : Hid (∀ W, Kept [] wp W → ∀ m : Int, Calls Tryd.prog 13 #[.pointer (some ⟨g, 0, none⟩), .int .i64 m] W fun e W' => e = .returned (.int .i64 (getO s.owner m)) ∧ W = W') := fun W hk m => by
        have h1 := lkOwner_any (hst.is.is.at_.old hk) hst.all.whole m
        rw [hst.g_] at h1
        exact h1
      have HNX : Hid (∀ W, Kept [] wp W → ∀ t : Int, Calls Tryd.prog 17 #[.pointer (some ⟨g, 0, none⟩), .int .i64 t] W fun e W' => e = .returned (.int .i64 (nextW s.owner s.waits t)) ∧ Kept [] W W') := fun W hk t => by
        have h1 := next_any (hst.is.is.at_.old hk) hst.all t
        rw [hst.g_] at h1
        exact h1
      obtain ⟨r, hfr⟩ := hst.all.falls
      have HFR := Lib.hid hfr
      clear hst HG HSM HPL HG2 hfr
      go_wp2_with fail
      go_loopw [5, 6] (fun av tv wr => ∃ (aN t : Nat), t ≤ 6 ∧ av = .int .u64 aN ∧ tv = .int .i64 t ∧ Hid (aN = allN s t) ∧ Hid (Kept [] wp wr)) (fun _ t _ => 6 - (intOf t).toNat)
      case atStart => exact ⟨0, 0, by omega, rfl, rfl, (allN_zero s).symm, Kept.refl _ _⟩
      case round =>
        obtain ⟨aN, t, ht1, rfl, rfl, HAN, HKT⟩ := hrel
        by_cases htl : t < 6
        · have hte : t < s.eff.length := by have := HST.out.n6; omega
          have HOT := Lib.hid (HWN.out _ HKT.out t)
          have hal := allN_lt HST.out.all.whole t
          have hol := ownN_lt HST.out.all.whole (t : Int)
          rw [← HAN.out] at hal
          have hand := bits_and0 hal hol (by rw [HAN.out]; exact allN_and s hte)
          have hor := bits_or_u64_nat aN (ownN s t) hal hol
          rw [HAN.out, allN_or s hte, ← HAN.out] at hor
          have hti : (t : Int) < 6 := by omega
          have HWT := Lib.hid (HWA.out _ HKT.out t)
          have hrg := HST.out.all.wrng t
          have HHE := Lib.hid (HST.out.all.held t)
          have HRO := Lib.hid (RoadI.start r hti)
          have hself : Hid ((getW s.waits t).1 ≠ -1 → getO s.owner (getW s.waits t).1 ≠ t) := fun h1 h2 => by
            have h3 := HFR.out t (by omega)
            unfold nextW at h3
            rw [if_neg h1, h2] at h3
            have := h3 (by omega)
            omega
          generalize ownN s t = oN at *
          obtain ⟨a1, ha1⟩ : ∃ a1, allN s (t + 1) = a1 := ⟨_, rfl⟩
          have HA1 := Lib.hid ha1
          rw [ha1] at hor
          generalize getW s.waits t = xw at *
          obtain ⟨x1, x2⟩ := xw
          simp only at HWT hrg HHE hself
          clear ha1 hal hol
          by_cases hx1 : x1 = -1
          · subst hx1
            clear HHE hself hrg
            go_wp2_with fail
            refine (HOT.out).mono ?_
            rintro e w3 ⟨rfl, rfl⟩
            go_wp2_with fail
            refine (HWT.out).mono ?_
            rintro e w4 ⟨rfl, hk4⟩
            have HK4 := Lib.hid (HKT.out.trans hk4)
            clear hk4
            go_wp2_with fail
            go_loopw [10, 11] (fun pv kv wr3 => ∃ (p : Int) (k : Nat), k ≤ 6 ∧ pv = .int .i64 p ∧ kv = .int .i64 k ∧ Hid (RoadI r p k) ∧ Hid (Kept [] wp wr3)) (fun _ k _ => 6 - (intOf k).toNat)
            case atStart => exact ⟨t, 0, by omega, rfl, rfl, HRO.out, HK4.out⟩
            case round =>
              clear HRO HK4
              obtain ⟨p, k, hk1, rfl, rfl, HRO, HKP⟩ := hrel
              by_cases hkl : k < 6
              · have hki : (k : Int) < 6 := by omega
                by_cases hp : 0 ≤ p
                · have HNP := Lib.hid (HNX.out _ HKP.out p)
                  have HR2 := Lib.hid (HRO.out.step HFR.out hp (by have := HST.out.all.nrng p; have := HST.out.n6; omega))
                  generalize nextW s.owner s.waits p = p2 at *
                  go_wp2_with fail
                  refine (HNP.out).mono ?_
                  rintro e w6 ⟨rfl, hk6⟩
                  have HK6 := Lib.hid (HKP.out.trans hk6)
                  clear hk6
                  go_wp2_with fail
                  go_roundw
                  case rel => exact ⟨p2, k + 1, by omega, rfl, by go_num, HR2.out, HK6.out⟩
                  case measure => simp [intOf]; omega
                · have hp1 : p < 0 := by omega
                  go_wp2_with fail
                  go_roundw
                  case rel => exact ⟨a1, t + 1, by omega, by first | rfl | exact congrArg (Value.int .u64) hor, by go_num, HA1.out.symm, HKP.out⟩
                  case measure => simp [intOf]; omega
              · obtain rfl : k = 6 := by omega
                have hp1 : p < 0 := HRO.out.end_
                go_wp2_with fail
                go_roundw
                case rel => exact ⟨a1, t + 1, by omega, by first | rfl | exact congrArg (Value.int .u64) hor, by go_num, HA1.out.symm, HKP.out⟩
                case measure => simp [intOf]; omega
          · have h10 : 0 ≤ x1 := by have := hrg.1.1; omega
            have HO1 := Lib.hid (fun W hk => HOW.out W hk x1)
            have ho0 : getO s.owner x1 ≠ -1 := HHE.out hx1
            have ho1 : getO s.owner x1 ≠ t := hself.out hx1
            have ho2 := HST.out.all.orng x1
            generalize getO s.owner x1 = o1 at *
            have ho3 : 0 ≤ o1 := by omega
            have hob : (o1 == (t : Int)) = false := beq_eq_false_iff_ne.2 ho1
            clear HHE hself hrg hx1 ho0 ho1 ho2
            go_wp2_with fail
            refine (HOT.out).mono ?_
            rintro e w3 ⟨rfl, rfl⟩
            go_wp2_with fail
            refine (HWT.out).mono ?_
            rintro e w4 ⟨rfl, hk4⟩
            have HK4 := Lib.hid (HKT.out.trans hk4)
            clear hk4
            go_wp2_with fail
            refine (HO1.out _ HK4.out).mono ?_
            rintro e w5 ⟨rfl, rfl⟩
            go_wp2_with fail
            refine (HO1.out _ HK4.out).mono ?_
            rintro e w5 ⟨rfl, rfl⟩
            go_wp2_with fail
            go_loopw [10, 11] (fun pv kv wr3 => ∃ (p : Int) (k : Nat), k ≤ 6 ∧ pv = .int .i64 p ∧ kv = .int .i64 k ∧ Hid (RoadI r p k) ∧ Hid (Kept [] wp wr3)) (fun _ k _ => 6 - (intOf k).toNat)
            case atStart => exact ⟨t, 0, by omega, rfl, rfl, HRO.out, HK4.out⟩
            case round =>
              clear HRO HK4
              obtain ⟨p, k, hk1, rfl, rfl, HRO, HKP⟩ := hrel
              by_cases hkl : k < 6
              · have hki : (k : Int) < 6 := by omega
                by_cases hp : 0 ≤ p
                · have HNP := Lib.hid (HNX.out _ HKP.out p)
                  have HR2 := Lib.hid (HRO.out.step HFR.out hp (by have := HST.out.all.nrng p; have := HST.out.n6; omega))
                  generalize nextW s.owner s.waits p = p2 at *
                  go_wp2_with fail
                  refine (HNP.out).mono ?_
                  rintro e w6 ⟨rfl, hk6⟩
                  have HK6 := Lib.hid (HKP.out.trans hk6)
                  clear hk6
                  go_wp2_with fail
                  go_roundw
                  case rel => exact ⟨p2, k + 1, by omega, rfl, by go_num, HR2.out, HK6.out⟩
                  case measure => simp [intOf]; omega
                · have hp1 : p < 0 := by omega
                  go_wp2_with fail
                  go_roundw
                  case rel => exact ⟨a1, t + 1, by omega, by first | rfl | exact congrArg (Value.int .u64) hor, by go_num, HA1.out.symm, HKP.out⟩
                  case measure => simp [intOf]; omega
              · obtain rfl : k = 6 := by omega
                have hp1 : p < 0 := HRO.out.end_
                go_wp2_with fail
                go_roundw
                case rel => exact ⟨a1, t + 1, by omega, by first | rfl | exact congrArg (Value.int .u64) hor, by go_num, HA1.out.symm, HKP.out⟩
                case measure => simp [intOf]; omega
        · have ht6 : 6 ≤ (t : Int) := by omega
          go_wp2_with fail
          go_loopw [12] (fun mv wr2 => ∃ m : Nat, m ≤ 6 ∧ mv = .int .i64 m ∧ Hid (Kept [] wp wr2)) (fun m _ => 6 - (intOf m).toNat)
          case atStart => exact ⟨0, by omega, rfl, HKT.out⟩
          case round =>
            clear HKT
            obtain ⟨m, hm1, rfl, HKM⟩ := hrel
            by_cases hml : m < 6
            · have HOM := Lib.hid (HOW.out _ HKM.out m)
              have hmi : (m : Int) < 6 := by omega
              have hm6 : m < s.lines.length := by have := HST.out.m6; omega
              have hor := HST.out.all.orng m
              have hn6 := HST.out.n6
              by_cases ho : getO s.owner m = -1
              · rw [ho] at HOM
                have HLM := Lib.hid (HLN.out _ HKM.out m)
                have hle : lineM s m = [] := by
                  refine List.eq_nil_iff_forall_not_mem.2 fun x hx => ?_
                  obtain ⟨j, rfl, hj2, hj3⟩ := lineM_mem HST.out.all hm6 hx
                  exact HST.out.all.held j (by omega) (by rw [hj3]; exact ho)
                rw [hle] at HLM
                have HHS := Lib.hid (fun W => refHas aN m W (by rw [HAN.out]; exact allN_lt HST.out.all.whole _) (by omega))
                have hbit : aN.testBit m = false := by
                  rw [HAN.out]
                  unfold allN
                  rw [setN_bit, ho]
                  simp
                rw [hbit] at HHS
                clear ho hor hle hbit hn6
                go_wp2_with fail
                refine (HOM.out).mono ?_
                rintro e w5 ⟨rfl, rfl⟩
                go_wp2_with fail
                refine (HLM.out).mono ?_
                rintro e w6 ⟨A4, n4, c4, rfl, hf⟩
                have hn4 : n4 = 0 := by have := hf.reads.1; simpa using this.symm
                have HK6 := Lib.hid (HKM.out.trans hf.2.1)
                subst hn4
                clear hf
                go_wp2_with fail
                refine (HHS.out _).mono ?_
                rintro e w7 ⟨rfl, hk7⟩
                have HK7 := Lib.hid (HK6.out.trans hk7)
                clear hk7
                go_wp2_with fail
                go_roundw
                case rel => exact ⟨m + 1, by omega, by go_num, HK7.out⟩
                case measure => simp [intOf]; omega
              · obtain ⟨q, hq⟩ : ∃ q : Nat, getO s.owner m = q := ⟨(getO s.owner m).toNat, by omega⟩
                rw [hq] at HOM
                have hq0 : (0 : Int) ≤ (q : Int) := by omega
                have hq1 : (q : Int) ≤ 5 := by omega
                have HWQ := Lib.hid (HWN.out _ HKM.out q)
                have HHS := Lib.hid (fun W => refHas (ownN s q) m W (ownN_lt HST.out.all.whole _) (by omega))
                have hbit : (ownN s q).testBit m = true := by
                  rw [ownN_in (by omega), setN_bit, hq]
                  simp
                  exact hm6
                rw [hbit] at HHS
                generalize ownN s q = oN at *
                clear ho hor hbit hn6 hq
                go_wp2_with fail
                refine (HOM.out).mono ?_
                rintro e w5 ⟨rfl, rfl⟩
                go_wp2_with fail
                refine (HWQ.out).mono ?_
                rintro e w6 ⟨rfl, rfl⟩
                go_wp2_with fail
                refine (HHS.out _).mono ?_
                rintro e w7 ⟨rfl, hk7⟩
                have HK7 := Lib.hid (HKM.out.trans hk7)
                clear hk7
                go_wp2_with fail
                go_roundw
                case rel => exact ⟨m + 1, by omega, by go_num, HK7.out⟩
                case measure => simp [intOf]; omega
            · obtain rfl : m = 6 := by omega
              go_wp2_with fail
              go_roundw
              case rel => exact ⟨i + 1, by omega, by omega, by go_num, HGO.out.old HKM.out⟩
              case measure => simp [intOf]; omega
    · have hkw : Kept [] w wr := by obtain ⟨_, _, _, h⟩ := HG.out; exact h.kept
      have HKW := Lib.hid hkw
      have HA := Lib.hid (awake26 wr)
      clear hkw
      rcases (by omega : i = acts.length ∨ (i < acts.length ∧ i = 70)) with h1 | ⟨h1, h2⟩
      · subst h1
        clear hgo
        go_wp2_with fail
        refine (HA.out).mono ?_
        rintro e w2 ⟨rfl, hk2⟩
        have HK2 := Lib.hid (HKW.out.trans hk2)
        clear hk2
        go_wp2_with fail
        go_ret
        exact ⟨rfl, HK2.out⟩
      · subst h2
        have d1 : decide (((70 : Nat) : Int) < (acts.length : Int)) = true := by simp; omega
        have hj1 : ((70 : Nat) : Int) < (acts.length : Int) := by omega
        have hj2 : (70 : Int) < (acts.length : Int) := by omega
        clear hgo
        go_wp2_with fail
        refine (HA.out).mono ?_
        rintro e w2 ⟨rfl, hk2⟩
        have HK2 := Lib.hid (HKW.out.trans hk2)
        clear hk2
        go_wp2_with fail
        go_ret
        exact ⟨rfl, HK2.out⟩


end Go.Proofs.YtfoeijiejpenpaaDoor
