/- Slices of deeds; packages prog and sums, and the document's: Check, cost, Add. -/
import Derived.Test.YtmhlmoojmdfnfaaDoorDeedR4
import Derived.Test.YtmhlmoojmdfnfaaDoorDeedP2
import Derived.Test.YtmhlmoojmdfnfaaDoorRowK
import Derived.Test.YtmhlmoojmdfnfaaDoorPgPlain
import Derived.Laws.Externs
namespace Go.Proofs.YtmhlmoojmdfnfaaDoor
open Go.RowKit

theorem Tryd.info41 : (Tryd.prog.info? 41).map (fun i => (i.zero, i.size, i.bytes)) = some (some (.agg (dC 0 0 0 0 0 0 false)), 7, 56) := by kernel_rfl
theorem Tryd.size41 : (Tryd.prog.info? 41).map (·.size) = some 7 := by kernel_rfl
/-- A deed's cells, as a list. -/
def dL (d : Dd) : List Value := (dC d.op d.a d.b d.r d.n d.mask d.loose).toList
theorem dL_len (d : Dd) : (dL d).length = 7 := rfl
theorem dL_one (d : Dd) : ∀ u ∈ dL d, u.oneCell' = true := by
  intro u hu
  simp [dL] at hu
  rcases hu with rfl | rfl | rfl | rfl | rfl | rfl | rfl <;> rfl
theorem dflat_one (l : List Dd) : ∀ u ∈ l.flatMap dL, u.oneCell' = true := by
  intro u hu
  obtain ⟨x, _, hx⟩ := List.mem_flatMap.1 hu
  exact dL_one x u hx
/-- A slice of deeds. -/
def ReadsD (w : World) (A : Option Addr) (n : Nat) (l : List Dd) : Prop := Reads w 7 A n (l.flatMap dL)
theorem ReadsD.len {w : World} {A : Option Addr} {n : Nat} {l : List Dd} (h : ReadsD w A n l) : n = l.length := Reads.lenK dL 7 dL_len h (by omega)
theorem ReadsD.old {w w' : World} {A : Option Addr} {n : Nat} {l : List Dd} (h : ReadsD w A n l) (hk : Kept [] w w') : ReadsD w' A n l := Reads.old h hk
theorem ReadsD.at_ {w : World} {A : Option Addr} {n : Nat} {l : List Dd} (h : ReadsD w A n l) {k : Nat} (hk : k < l.length) : ∃ (d : Dd) (b o : Nat), A = some ⟨b, o, none⟩ ∧ l[k]? = some d ∧ b < w.heap.size ∧
    w.cell? ⟨b, o + k * 7, none⟩ = some (.int .i64 d.op) ∧ w.cell? ⟨b, o + k * 7 + 1, none⟩ = some (.int .i64 d.a) ∧ w.cell? ⟨b, o + k * 7 + 2, none⟩ = some (.int .i64 d.b) ∧ w.cell? ⟨b, o + k * 7 + 3, none⟩ = some (.int .i64 d.r) ∧
    w.cell? ⟨b, o + k * 7 + 4, none⟩ = some (.int .u64 d.n) ∧ w.cell? ⟨b, o + k * 7 + 5, none⟩ = some (.int .u64 d.mask) ∧ w.cell? ⟨b, o + k * 7 + 6, none⟩ = some (.bool d.loose) := by
  have hn := h.len
  obtain ⟨b, o, rfl, hb, hc⟩ := Reads.cellsK dL 7 dL_len h (by omega) (by omega)
  have hx : l[k]? = some l[k] := List.getElem?_eq_getElem hk
  exact ⟨l[k], b, o, rfl, hx, hb, hc k _ hx 0 (by omega), hc k _ hx 1 (by omega), hc k _ hx 2 (by omega), hc k _ hx 3 (by omega), hc k _ hx 4 (by omega), hc k _ hx 5 (by omega), hc k _ hx 6 (by omega)⟩
theorem take_snoc {l : List Dd} {k : Nat} {d : Dd} (h : l[k]? = some d) : l.take (k + 1) = l.take k ++ [d] := by rw [List.take_add_one, h]; rfl
theorem mem_take_succ {l : List Dd} {k : Nat} {d : Dd} (h : l[k]? = some d) {P : Dd → Prop} (hp : ∀ x ∈ l.take k, P x) (hd : P d) : ∀ x ∈ l.take (k + 1), P x := by
  intro x hx
  rw [take_snoc h] at hx
  rcases List.mem_append.1 hx with hx | hx
  · exact hp x hx
  · simp at hx; subst hx; exact hd

set_option maxHeartbeats 1600000 in
set_option maxRecDepth 100000 in
theorem pcheck_any (A : Option Addr) (n c : Nat) (l : List Dd) (w : World) (hr : ReadsD w A n l) (hn : n ≤ 9223372036854775807) : Calls Tryd.prog 17 #[.slice A n c] w fun e w' => e = .returned (.int .i64 (checkP l)) ∧ Kept [] w w' := by
  obtain rfl := hr.len
  have HR := Lib.hid hr
  clear hr
  by_cases hl : 256 < l.length
  · have HV := Lib.hid (checkP_long hl)
    go_enter Tryd.func17, Tryd.ntmps17
    go_wp2_with fail
    go_ret
    exact ⟨ret_int (by rw [HV.out]; try rfl), Kept.refl _ _⟩
  · have hl2 : l.length ≤ 256 := by omega
    go_enter Tryd.func17, Tryd.ntmps17
    go_wp2_with fail
    go_loopw [10] (fun kv wr => ∃ k : Nat, k ≤ l.length ∧ kv = .int .i64 k ∧ Hid (∀ d ∈ l.take k, goodD d = true) ∧ Hid (Kept [] w wr)) (fun k _ => l.length - (intOf k).toNat)
    case atStart => exact ⟨0, by omega, rfl, (fun d hd => by simp at hd), Kept.refl _ _⟩
    case round =>
      obtain ⟨k, hk1, rfl, HG, HK⟩ := hrel
      by_cases hlt : k < l.length
      · obtain ⟨d, b, o, rfl, hx, hb, hc0, hc1, hc2, hc3, hc4, hc5, hc6⟩ := (HR.out.old HK.out).at_ hlt
        have hi0 : (0 : Int) ≤ (k : Int) := by omega
        have hi1 : (k : Int) < (l.length : Int) := by omega
        have HX := Lib.hid hx
        have HGD := Lib.hid (fun w => good_any d.op d.a d.b d.r d.n d.mask d.loose w)
        obtain ⟨gd, hgd⟩ : ∃ gd, goodD d = gd := ⟨_, rfl⟩
        have HGV := Lib.hid hgd
        obtain ⟨o1, a1, b1, r1, n1, m1, l1⟩ := d
        simp only at hc0 hc1 hc2 hc3 hc4 hc5 hc6 HGD
        rw [hgd] at HGD
        clear hx hgd
        cases gd
        · have HV : Hid (checkP l = 1) := checkP_bad hl2 (List.mem_of_getElem? HX.out) HGV.out
          go_wp2_with fail
          refine (HGD.out _).mono ?_
          rintro e w1 ⟨rfl, hk2⟩
          have HK2 := Lib.hid (((HK.out.alloc _)).trans hk2)
          clear hk2
          go_wp2_with fail
          go_ret
          exact ⟨ret_int (by rw [HV.out]; try rfl), HK2.out⟩
        · go_wp2_with fail
          refine (HGD.out _).mono ?_
          rintro e w1 ⟨rfl, hk2⟩
          have HK2 := Lib.hid (((HK.out.alloc _)).trans hk2)
          clear hk2
          go_wp2_with fail
          go_roundw
          case rel => exact ⟨k + 1, by omega, by go_num, mem_take_succ HX.out HG.out HGV.out, HK2⟩
          case measure => simp [intOf]; omega
      · obtain rfl : k = l.length := by omega
        have HV : Hid (checkP l = 0) := checkP_good hl2 (by have := HG.out; rwa [List.take_of_length_le (Nat.le_refl _)] at this)
        go_wp2_with fail
        go_ret
        exact ⟨ret_int (by rw [HV.out]; try rfl), HK.out⟩

set_option maxHeartbeats 1600000 in
set_option maxRecDepth 100000 in
theorem refCheckP (A : Option Addr) (n c : Nat) (l : List Dd) (w : World) (hr : ReadsD w A n l) (hn : n ≤ 9223372036854775807) : Calls Tryd.prog 18 #[.slice A n c] w fun e w' => e = .returned (.int .i64 (checkP l)) ∧ Kept [] w w' := by
  obtain rfl := hr.len
  have HR := Lib.hid hr
  clear hr
  by_cases hl : 256 < l.length
  · have HV := Lib.hid (checkP_long hl)
    go_enter Tryd.func18, Tryd.ntmps18
    go_wp2_with fail
    go_ret
    exact ⟨ret_int (by rw [HV.out]; try rfl), Kept.refl _ _⟩
  · have hl2 : l.length ≤ 256 := by omega
    go_enter Tryd.func18, Tryd.ntmps18
    go_wp2_with fail
    go_loopw [3] (fun kv wr => ∃ k : Nat, k ≤ l.length ∧ kv = .int .i64 k ∧ Hid (∀ d ∈ l.take k, goodD d = true) ∧ Hid (Kept [] w wr)) (fun k _ => l.length - (intOf k).toNat)
    case atStart => exact ⟨0, by omega, rfl, (fun d hd => by simp at hd), Kept.refl _ _⟩
    case round =>
      obtain ⟨k, hk1, rfl, HG, HK⟩ := hrel
      by_cases hlt : k < l.length
      · obtain ⟨d, b, o, rfl, hx, hb, hc0, hc1, hc2, hc3, hc4, hc5, hc6⟩ := (HR.out.old HK.out).at_ hlt
        have hi0 : (0 : Int) ≤ (k : Int) := by omega
        have hi1 : (k : Int) < (l.length : Int) := by omega
        have HX := Lib.hid hx
        have HGD := Lib.hid (fun w => refGood d.op d.a d.b d.r d.n d.mask d.loose w)
        obtain ⟨gd, hgd⟩ : ∃ gd, goodD d = gd := ⟨_, rfl⟩
        have HGV := Lib.hid hgd
        obtain ⟨o1, a1, b1, r1, n1, m1, l1⟩ := d
        simp only at hc0 hc1 hc2 hc3 hc4 hc5 hc6 HGD
        rw [hgd] at HGD
        clear hx hgd
        cases gd
        · have HV : Hid (checkP l = 1) := checkP_bad hl2 (List.mem_of_getElem? HX.out) HGV.out
          go_wp2_with fail
          refine (HGD.out _).mono ?_
          rintro e w1 ⟨rfl, hk2⟩
          have HK2 := Lib.hid ((HK.out).trans hk2)
          clear hk2
          go_wp2_with fail
          go_ret
          exact ⟨ret_int (by rw [HV.out]; try rfl), HK2.out⟩
        · go_wp2_with fail
          refine (HGD.out _).mono ?_
          rintro e w1 ⟨rfl, hk2⟩
          have HK2 := Lib.hid ((HK.out).trans hk2)
          clear hk2
          go_wp2_with fail
          go_roundw
          case rel => exact ⟨k + 1, by omega, by go_num, mem_take_succ HX.out HG.out HGV.out, HK2⟩
          case measure => simp [intOf]; omega
      · obtain rfl : k = l.length := by omega
        have HV : Hid (checkP l = 0) := checkP_good hl2 (by have := HG.out; rwa [List.take_of_length_le (Nat.le_refl _)] at this)
        go_wp2_with fail
        go_ret
        exact ⟨ret_int (by rw [HV.out]; try rfl), HK.out⟩

set_option maxHeartbeats 800000 in
theorem pcost_any (o a b r : Int) (n m : Nat) (l : Bool) (w : World) (hg : goodD ⟨o, a, b, r, n, m, l⟩ = true) : Calls Tryd.prog 62 #[.agg (dC o a b r n m l)] w fun e w' => e = .returned (.int .u64 (costD ⟨o, a, b, r, n, m, l⟩ : Nat)) ∧ Kept [] w w' := by
  have HC := Lib.hid (fun w => calls_any o a b r n m l w)
  rw [hg] at HC
  by_cases ho : o = 1
  · subst ho
    have HV : Hid (costD ⟨1, a, b, r, n, m, l⟩ = n) := rfl
    have HC2 : Hid (∀ w, Calls Tryd.prog 37 #[.agg (dC 1 a b r n m l)] w fun e w' => e = .returned (.bool false) ∧ Kept [] w w') := HC
    clear hg HC
    go_enter Tryd.func62, Tryd.ntmps62
    go_wp2_with fail
    refine (HC2.out _).mono ?_
    rintro e w1 ⟨rfl, hk1⟩
    have hB := (Blk.new w 41 (dC 1 a b r n m l)).kept hk1 (by simp)
    have hc0 : w1.cell? ⟨w.heap.size, 4, none⟩ = some (.int .u64 n) := by rw [hB.cell]; rfl
    have HK := Lib.hid (((Kept.refl [] w).alloc _).trans hk1)
    clear hB hk1
    go_wp2_with fail
    go_ret
    exact ⟨ret_int (by rw [HV.out]; try rfl), HK.out⟩
  · have HV : Hid (costD ⟨o, a, b, r, n, m, l⟩ = 1) := by show (if o = 1 then n else 1) = 1; rw [if_neg ho]
    have HC2 : Hid (∀ w, Calls Tryd.prog 37 #[.agg (dC o a b r n m l)] w fun e w' => e = .returned (.bool true) ∧ Kept [] w w') := fun w => by
      have := HC.out w
      rw [show (true && o != 1) = true by simp [ho]] at this
      exact this
    clear hg HC
    go_enter Tryd.func62, Tryd.ntmps62
    go_wp2_with fail
    refine (HC2.out _).mono ?_
    rintro e w1 ⟨rfl, hk1⟩
    have HK := Lib.hid (((Kept.refl [] w).alloc _).trans hk1)
    clear hk1
    go_wp2_with fail
    go_ret
    exact ⟨ret_int (by rw [HV.out]; try rfl), HK.out⟩
set_option maxHeartbeats 800000 in
theorem refCost (o a b r : Int) (n m : Nat) (l : Bool) (w : World) : Calls Tryd.prog 64 #[.agg (dC o a b r n m l)] w fun e w' => e = .returned (.int .u64 (costD ⟨o, a, b, r, n, m, l⟩ : Nat)) ∧ Kept [] w w' := by
  by_cases ho : o = 1
  · subst ho
    have HV : Hid (costD ⟨1, a, b, r, n, m, l⟩ = n) := rfl
    go_enter Tryd.func64, Tryd.ntmps64
    go_wp2_with fail
    go_ret
    exact ⟨ret_int (by rw [HV.out]; try rfl), (Kept.refl _ _).alloc _⟩
  · have HV : Hid (costD ⟨o, a, b, r, n, m, l⟩ = 1) := by show (if o = 1 then n else 1) = 1; rw [if_neg ho]
    have hb : (o == 1) = false := beq_eq_false_iff_ne.2 ho
    clear ho
    go_enter Tryd.func64, Tryd.ntmps64
    go_wp2_with fail
    go_ret
    exact ⟨ret_int (by rw [HV.out]; try rfl), (Kept.refl _ _).alloc _⟩

theorem add64_0 (x y : Int) (hx : 0 ≤ x) (hy : 0 ≤ y) (w : World) : (callFunc 116 #[.int .u64 x, .int .u64 y, .int .u64 0]).run Tryd.prog w =
    .ok (.value (.tuple #[.int .u64 ((x + y) % 18446744073709551616), .int .u64 ((x + y) / 18446744073709551616)])) w := by
  rw [run_callFunc_extern Tryd.func116 (by kernel_rfl) (by kernel_rfl) (by kernel_rfl) (e := add64Entry) (by kernel_rfl), run_add64 x y 0 hx hy (Int.le_refl 0) (by decide)]
  simp only [Result.andThen, Int.add_zero]
set_option maxHeartbeats 800000 in
theorem sadd_any (x y : Nat) (w : World) (hx : x < 18446744073709551616) (hy : y < 18446744073709551616) : Calls Tryd.prog 58 #[.int .u64 x, .int .u64 y] w fun e w' => e = .returned (.int .u64 (addS x y : Nat)) ∧ w = w' := by
  have HA := Lib.hid (add64_0 (x : Int) (y : Int) (by omega) (by omega))
  by_cases h : 18446744073709551615 < x + y
  · have HV : Hid (addS x y = 18446744073709551615) := if_pos h
    have e1 : ((x : Int) + y) / 18446744073709551616 = 1 := by omega
    rw [e1] at HA
    clear h e1
    go_enter Tryd.func58, Tryd.ntmps58
    go_wp2_with (simp only [HA.out])
    go_ret
    exact ⟨ret_int (by rw [HV.out]; try rfl), rfl⟩
  · have HV : Hid (addS x y = x + y) := if_neg h
    have e1 : ((x : Int) + y) / 18446744073709551616 = 0 := by omega
    have e2 : ((x : Int) + y) % 18446744073709551616 = ((x + y : Nat) : Int) := by omega
    rw [e1, e2] at HA
    clear h e1 e2
    go_enter Tryd.func58, Tryd.ntmps58
    go_wp2_with (simp only [HA.out])
    go_ret
    exact ⟨ret_int (by rw [HV.out]; try rfl), rfl⟩
set_option maxHeartbeats 800000 in
theorem refAdd (x y : Nat) (w : World) (hx : x < 18446744073709551616) (hy : y < 18446744073709551616) : Calls Tryd.prog 63 #[.int .u64 x, .int .u64 y] w fun e w' => e = .returned (.int .u64 (addS x y : Nat)) ∧ w = w' := by
  by_cases h : 18446744073709551615 < x + y
  · have HV : Hid (addS x y = 18446744073709551615) := if_pos h
    have d1 : decide ((18446744073709551615 : Int) - (x : Int) < (y : Int)) = true := by simp; omega
    have h0 : (0 : Int) ≤ 18446744073709551615 - (x : Int) := by omega
    clear h
    go_enter Tryd.func63, Tryd.ntmps63
    go_wp2_with fail
    go_ret
    exact ⟨ret_int (by rw [HV.out]; try rfl), rfl⟩
  · have HV : Hid (addS x y = x + y) := if_neg h
    have d1 : decide ((18446744073709551615 : Int) - (x : Int) < (y : Int)) = false := by simp; omega
    have h0 : (0 : Int) ≤ 18446744073709551615 - (x : Int) := by omega
    have h1 : (x : Int) + (y : Int) < 18446744073709551616 := by omega
    clear h
    go_enter Tryd.func63, Tryd.ntmps63
    go_wp2_with fail
    go_ret
    exact ⟨ret_int (by rw [HV.out]; try rfl), rfl⟩

end Go.Proofs.YtmhlmoojmdfnfaaDoor
