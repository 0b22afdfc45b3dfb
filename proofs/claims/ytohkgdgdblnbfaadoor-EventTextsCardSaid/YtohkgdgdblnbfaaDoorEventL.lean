/- Package event: Line. -/
import Derived.Test.YtohkgdgdblnbfaaDoorEventG
import Derived.Deep.RegionHeld3
import Derived.Deep.DrawnRows
namespace Go.Proofs.YtohkgdgdblnbfaaDoor
open Go.RowKit
attribute [local go_sem ↓] Go.wp_at_zero Go.wp_at_succ

set_option maxHeartbeats 800000 in
theorem eline1_any (x : Nat) (w : World) (hx : x ≤ 9223372036854775807) (hP : HasPow w) : Calls Tryd.prog 34 #[.int .i64 x] w fun e w' => e = .returned (strV (dec x)) ∧ Kept [] w w' := by
  have HC := Lib.hid (print_any x w (by omega) hP)
  generalize dec x = xs at *
  clear hP
  go_enter Tryd.func34, Tryd.ntmps34
  go_wp2_with fail
  refine HC.out.mono ?_
  rintro e w1 ⟨rfl, hk1⟩
  go_wp2_with fail
  go_ret
  exact ⟨rfl, hk1⟩

/-- An event's words. -/
def wordsE (e : Ev) : List (List UInt8) := [dec e.step.toNat, dec e.cpu.toNat, kindD e.kind, dec e.slot.toNat, dec e.gen, opE e.op, dec e.code.toNat, dec e.n]
/-- An event's line. -/
def lineE (e : Ev) : List UInt8 := if goodE e then joinS [32] (wordsE e) else [63]

theorem kindD_len (k : Int) : (kindD k).length ≤ 8 := by unfold kindD; (repeat' split) <;> simp
theorem nameD_len (op : Int) : (nameD op).length ≤ 6 := by
  unfold nameD; (repeat' split) <;> simp
theorem opE_len (o : Int) : (opE o).length ≤ 6 := by
  unfold opE; split
  · simp
  · exact nameD_len o
theorem dec_len (x : Nat) (hx : x < 18446744073709551616) : (dec x).length ≤ 20 := by rw [← dec_digits x hx]; exact decDigits_len x hx
theorem join_inter (ws : List (List UInt8)) : Lib.join ws [32] = joinS [32] ws := by
  unfold Lib.join
  induction ws with
  | nil => rfl
  | cons a t ih =>
    cases t with
    | nil => simp [joinS, List.intercalate]
    | cons b t =>
      simp only [joinS]
      rw [← ih]
      simp [List.intercalate]

theorem joinE (bk : Nat) (x1 x2 x3 x4 x5 x6 x7 x8 : List UInt8) (w : World) (hB : Blk w bk 9 #[strV x1, strV x2, strV x3, strV x4, strV x5, strV x6, strV x7, strV x8]) (hl : x1.length ≤ 30 ∧ x2.length ≤ 30 ∧ x3.length ≤ 30 ∧ x4.length ≤ 30 ∧ x5.length ≤ 30 ∧ x6.length ≤ 30 ∧ x7.length ≤ 30 ∧ x8.length ≤ 30) :
    Calls Tryd.prog 36 #[.slice (some ⟨bk, 0, none⟩) 8 8, .string ⟨#[32]⟩] w fun e w' => e = .returned (strV (joinS [32] [x1, x2, x3, x4, x5, x6, x7, x8])) ∧ Kept [] w w' := by
  have h := Tryd.strings_Join bk 0 8 [⟨x1.toArray⟩, ⟨x2.toArray⟩, ⟨x3.toArray⟩, ⟨x4.toArray⟩, ⟨x5.toArray⟩, ⟨x6.toArray⟩, ⟨x7.toArray⟩, ⟨x8.toArray⟩] ⟨#[32]⟩ w (fun j x hx => by rw [Nat.zero_add, hB.cell]; have := List.getElem?_eq_some_iff.1 hx; obtain ⟨h1, h2⟩ := this; subst h2; match j, h1 with | 0, _ => rfl | 1, _ => rfl | 2, _ => rfl | 3, _ => rfl | 4, _ => rfl | 5, _ => rfl | 6, _ => rfl | 7, _ => rfl) hB.lt (by simp) (by simp) (by
    show (Lib.join [x1, x2, x3, x4, x5, x6, x7, x8] [32]).length ≤ _
    rw [join_inter]; simp [joinS]; omega)
  refine h.mono fun e w' ⟨h1, h2⟩ => ⟨?_, Kept.ofBelow h2 _⟩
  rw [h1]
  have e1 : Lib.join [x1, x2, x3, x4, x5, x6, x7, x8] [32] = joinS [32] [x1, x2, x3, x4, x5, x6, x7, x8] := join_inter _
  rw [← e1]; rfl

attribute [local irreducible] dec
set_option maxHeartbeats 6400000 in
theorem eline_good (s c t d : Nat) (k o : Int) (g n : Nat) (w : World) (hg : goodE ⟨s, c, k, t, g, o, d, n⟩ = true) (hs : s ≤ 9223372036854775807) (hc : c ≤ 63) (ht : t ≤ 63) (hd : d ≤ 15) (hgn : g < 4294967296) (hn : n < 18446744073709551616) (hP : HasPow w) :
    Calls Tryd.prog 18 #[.agg (eC s c k t g o d n)] w fun e w' => e = .returned (strV (lineE ⟨s, c, k, t, g, o, d, n⟩)) ∧ Kept [] w w' := by
  have HG : Hid (∀ w, Calls Tryd.prog 20 #[.agg (eC s c k t g o d n)] w fun e w' => e = .returned (.bool true) ∧ Kept [] w w') := fun w => by have := egood_any s c k t g o d n w; rw [hg] at this; exact this
  have HF : Hid (lineE ⟨s, c, k, t, g, o, d, n⟩ = joinS [32] [dec s, dec c, kindD k, dec t, dec g, opE o, dec d, dec n]) := by rw [Hid, lineE, if_pos hg]; simp [wordsE]
  have HL1 := Lib.hid (fun (x : Nat) w h1 h2 => eline1_any x w h1 h2)
  have HN3 := Lib.hid (fun w => ename_any k w)
  have HL5 := Lib.hid (fun (x : Nat) w h1 h2 => print_any x w h1 h2)
  have HO6 := Lib.hid (fun w => eop_any o w)
  have l1 := dec_len s (by omega)
  have l2 := dec_len c (by omega)
  have l3 := kindD_len k
  have l4 := dec_len t (by omega)
  have l5 := dec_len g (by omega)
  have l6 := opE_len o
  have l7 := dec_len d (by omega)
  have l8 := dec_len n (by omega)
  generalize kindD k = x3 at *
  generalize opE o = x6 at *
  have HJ : Hid (∀ bk w, Blk w bk 9 #[strV (dec s), strV (dec c), strV x3, strV (dec t), strV (dec g), strV x6, strV (dec d), strV (dec n)] → Calls Tryd.prog 36 #[.slice (some ⟨bk, 0, none⟩) 8 8, .string ⟨#[32]⟩] w fun e w' => e = .returned (strV (joinS [32] [(dec s), (dec c), x3, (dec t), (dec g), x6, (dec d), (dec n)])) ∧ Kept [] w w') := fun bk w h => joinE bk (dec s) (dec c) x3 (dec t) (dec g) x6 (dec d) (dec n) w h (by omega)
  generalize joinS [32] [(dec s), (dec c), x3, (dec t), (dec g), x6, (dec d), (dec n)] = res at *
  have HP := Lib.hid hP
  have hwr : IntKind.u64.wrap (g : Int) = (g : Int) := IntWalk.u64_in _ (by omega)
  clear hP hg
  go_enter Tryd.func18, Tryd.ntmps18
  go_wp2_with fail
  refine (HG.out _).mono ?_
  rintro e w1 ⟨rfl, hk1⟩
  have hB := Lib.hid ((Blk.new w 30 (eC s c k t g o d n)).kept hk1 (by simp))
  have hK := Lib.hid (((Kept.refl [] w).alloc _).trans hk1)
  have hc := hB.out.cell
  clear hk1
  go_wp2_with fail
  go_region_held3 (fun w' => w'.cell? ⟨w.heap.size, 0, none⟩ = some (.int .i64 s) ∧ w'.cell? ⟨w.heap.size, 1, none⟩ = some (.int .i64 c) ∧ w'.cell? ⟨w.heap.size, 2, none⟩ = some (.int .i64 k) ∧ w'.cell? ⟨w.heap.size, 3, none⟩ = some (.int .i64 t) ∧ w'.cell? ⟨w.heap.size, 4, none⟩ = some (.int .u32 g) ∧ w'.cell? ⟨w.heap.size, 5, none⟩ = some (.int .i64 o) ∧ w'.cell? ⟨w.heap.size, 6, none⟩ = some (.int .i64 d) ∧ w'.cell? ⟨w.heap.size, 7, none⟩ = some (.int .u64 n)) (go_keep) (first | (go_at_call 34; refine (HL1.out _ _ (by omega) (by first | exact HP.out.old hK.out | exact HP.out.old hK.out.drew)).mono ?_; rintro e w1 ⟨rfl, hk1⟩; have hB := Lib.hid (Blk.kept (hk := hk1) (h := by exact hB.out) (hg := by simp)); have hc := hB.out.cell; have hK := Lib.hid (Kept.trans (h := by first | exact hK.out | exact hK.out.drew) (h' := hk1)); clear hk1) | (go_at_call 22; refine (HN3.out _).mono ?_; rintro e w1 ⟨rfl, hk1⟩; have hB := Lib.hid (Blk.kept (hk := hk1) (h := by exact hB.out) (hg := by simp)); have hc := hB.out.cell; have hK := Lib.hid (Kept.trans (h := by first | exact hK.out | exact hK.out.drew) (h' := hk1)); clear hk1) | (go_at_call 35; refine (HL5.out _ _ (by omega) (by first | exact HP.out.old hK.out | exact HP.out.old hK.out.drew)).mono ?_; rintro e w1 ⟨rfl, hk1⟩; have hB := Lib.hid (Blk.kept (hk := hk1) (h := by exact hB.out) (hg := by simp)); have hc := hB.out.cell; have hK := Lib.hid (Kept.trans (h := by first | exact hK.out | exact hK.out.drew) (h' := hk1)); clear hk1) | (go_at_call 37; refine (HO6.out _).mono ?_; rintro e w1 ⟨rfl, rfl⟩) | (go_at_call 36; refine (HJ.out _ _ (by exact Blk.new _ _ _)).mono ?_; rintro e w1 ⟨rfl, hk1⟩; have hc := (Blk.kept (hk := hk1) (h := by exact hB.out.alloc _) (hg := by simp)).cell; have hK := Lib.hid (Kept.trans (h := by exact hK.out.alloc _) (h' := hk1)); clear hk1))
  all_goals
    go_wp2_with fail
    go_ret
    exact ⟨by rw [HF.out]; rfl, hK.out⟩

set_option maxHeartbeats 1600000 in
theorem eline_bad (s c k t : Int) (g : Nat) (o d : Int) (n : Nat) (w : World) (hg : goodE ⟨s, c, k, t, g, o, d, n⟩ = false) :
    Calls Tryd.prog 18 #[.agg (eC s c k t g o d n)] w fun e w' => e = .returned (strV (lineE ⟨s, c, k, t, g, o, d, n⟩)) ∧ Kept [] w w' := by
  have HG : Hid (∀ w, Calls Tryd.prog 20 #[.agg (eC s c k t g o d n)] w fun e w' => e = .returned (.bool false) ∧ Kept [] w w') := fun w => by have := egood_any s c k t g o d n w; rw [hg] at this; exact this
  have HF : Hid (lineE ⟨s, c, k, t, g, o, d, n⟩ = [63]) := by rw [Hid, lineE, if_neg (by simp [hg])]
  clear hg
  go_enter Tryd.func18, Tryd.ntmps18
  go_wp2_with fail
  refine (HG.out _).mono ?_
  rintro e w1 ⟨rfl, hk1⟩
  go_wp2_with fail
  go_ret
  exact ⟨by rw [HF.out]; rfl, ((Kept.refl [] w).alloc _).trans hk1⟩

theorem eline_any (s c k t : Int) (g : Nat) (o d : Int) (n : Nat) (w : World) (hs : s ≤ 9223372036854775807) (hgn : g < 4294967296) (hn : n < 18446744073709551616) (hP : HasPow w) :
    Calls Tryd.prog 18 #[.agg (eC s c k t g o d n)] w fun e w' => e = .returned (strV (lineE ⟨s, c, k, t, g, o, d, n⟩)) ∧ Kept [] w w' := by
  by_cases hg : goodE ⟨s, c, k, t, g, o, d, n⟩ = true
  · have hr := hg
    simp only [goodE, decide_eq_true_eq] at hr
    obtain ⟨s, rfl⟩ := Int.eq_ofNat_of_zero_le hr.1
    obtain ⟨c, rfl⟩ := Int.eq_ofNat_of_zero_le hr.2.1
    obtain ⟨t, rfl⟩ := Int.eq_ofNat_of_zero_le hr.2.2.2.2.2.1
    obtain ⟨d, rfl⟩ := Int.eq_ofNat_of_zero_le hr.2.2.2.2.2.2.2.2.2.1
    exact eline_good s c t d k o g n w hg (by omega) (by omega) (by omega) (by omega) hgn hn hP
  · exact eline_bad s c k t g o d n w (by simpa using hg)

end Go.Proofs.YtohkgdgdblnbfaaDoor
