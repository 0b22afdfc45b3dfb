/- Package gift: filled and due, walked. -/
import Derived.Test.YtfoeijiejpenpaaDoorLkGf
namespace Go.Proofs.YtfoeijiejpenpaaDoor
open Go.RowKit

theorem Tryd.infoInt : (Tryd.prog.info? 3).map (fun i => (i.zero, i.size, i.bytes)) = some (some (.int .i64 0), 1, 8) := by kernel_rfl
/-- A copy that is made as far as i. -/
def fillL (eff : List Int) (i : Nat) : List Int := eff.take i ++ List.replicate (eff.length - i) 0
theorem fillL_len (eff : List Int) (i : Nat) (h : i ≤ eff.length) : (fillL eff i).length = eff.length := by simp [fillL]; omega
theorem fillL_set (eff : List Int) (i : Nat) (h : i < eff.length) (x : Int) : ((fillL eff i).set i x).set i eff[i] = fillL eff (i + 1) := by
  rw [List.set_set]
  unfold fillL
  rw [List.set_append_right _ _ (by simp; omega)]
  simp only [List.length_take, Nat.min_eq_left (Nat.le_of_lt h), Nat.sub_self]
  rw [show eff.length - i = (eff.length - (i + 1)) + 1 by omega, List.replicate_succ, List.set_cons_zero, List.take_succ_eq_append_getElem h, List.append_assoc]
  rfl
theorem blk_setL {w : World} {g : Nat} {t : TypeId} {xs : List Int} (h : Blk w g t (xs.map I64).toArray) (i : Nat) (x : Int) : Blk (w.setCell ⟨g, i, none⟩ (.int .i64 x)) g t ((xs.set i x).map I64).toArray := by
  have := h.set i (.int .i64 x)
  rw [List.setIfInBounds_toArray] at this
  rw [List.map_set]
  exact this
theorem blk_getL {w : World} {g : Nat} {t : TypeId} {xs : List Int} (h : Blk w g t (xs.map I64).toArray) (i : Nat) (hi : i < xs.length) : w.cell? ⟨g, i, none⟩ = some (.int .i64 xs[i]) := by
  rw [h.cell, List.getElem?_toArray, List.getElem?_map, List.getElem?_eq_getElem hi]; rfl

set_option maxHeartbeats 3200000 in
theorem gffilled_any (AV AW AO : Option Addr) (cV m cW q cO : Nat) (eff : List Int) (AE : Option Addr) (cE : Nat) (w : World) (hE : Reads w 1 AE eff.length (eff.map I64)) (hn : eff.length ≤ 64) (hx : ∀ x ∈ eff, 0 ≤ x ∧ x ≤ 8) :
    Calls Tryd.prog 79 #[.agg #[.slice AV eff.length cV, .slice AW m cW, .slice AO q cO], .slice AE eff.length cE] w fun e w' => ∃ b, e = .returned (.slice (some ⟨b, 0, none⟩) eff.length eff.length) ∧ Blk w' b 3 (eff.map I64).toArray ∧ w.heap.size ≤ b ∧ Kept [] w w' := by
  have HC := Lib.hid (fun w => gfthreads_any AV AW AO eff.length cV m cW q cO w hn)
  have hmk := run_make_n (P := Tryd.prog) 29 3 (.int .i64 0) 8 Tryd.underlying29 Tryd.infoInt rfl (eff.length : Int) eff.length rfl (by omega) (by omega)
  have HE := Lib.hid hE
  have HX := Lib.hid hx
  have HN := Lib.hid hn
  clear hE hx hn
  go_enter Tryd.func79, Tryd.ntmps79
  go_wp2_with fail
  refine (HC.out _).mono ?_
  rintro e w1 ⟨rfl, hk1⟩
  have HK1 : Hid (Kept [] w w1) := (show Kept [] w _ by (repeat (first | (with_reducible exact Kept.refl _ _) | (with_reducible assumption) | (with_reducible refine Kept.alloc ?_ _) | (with_reducible refine Kept.drew ?_) | (with_reducible refine Kept.drewN ?_ _) | (with_reducible refine Kept.setCell ?_ ?_ _) | (exact .inr (Nat.le_refl _)) | (exact .inr (by simp only; omega)) | (exact .inr (by omega))))).trans hk1
  have HB0 : Hid (Blk (w1.alloc (.cells (zeros (.int .i64 0) eff.length) 3)) w1.heap.size 3 ((fillL eff 0).map I64).toArray) := by
    have h := Blk.new w1 3 (zeros (.int .i64 0) eff.length)
    have he : ((fillL eff 0).map I64).toArray = zeros (.int .i64 0) eff.length := by simp [fillL, zeros, I64]
    rw [he]; exact h
  have hws := HK1.out.size
  clear hk1
  go_wp2_with fail
  go_loopw [12] (fun iv wr => ∃ i : Nat, i ≤ eff.length ∧ iv = .int .i64 i ∧ Hid (Blk wr w1.heap.size 3 ((fillL eff i).map I64).toArray) ∧ Hid (Kept [] w wr)) (fun iv _ => eff.length - (intOf iv).toNat)
  case atStart => exact ⟨0, by omega, rfl, HB0.out, HK1.out.alloc _⟩
  case round =>
    clear HB0
    obtain ⟨i, hi, rfl, HB, HK⟩ := hrel
    have hbf := HB.out.frozen
    have hbl := HB.out.lt
    have hn64 := HN.out
    by_cases hlt : i < eff.length
    · have hfl := fillL_len eff i hi
      have hci := blk_getL HB.out i (by omega)
      obtain ⟨b, o, rfl, hb, hcell⟩ := HE.out.addr (by omega) (by omega)
      have hce : wr.cell? ⟨b, o + i, none⟩ = some (.int .i64 eff[i]) := HK.out.cell_some (hcell i (I64 eff[i]) (by rw [List.getElem?_map, List.getElem?_eq_getElem hlt]; rfl)) (by simp)
      have hbr := World.block_lt_of_cell? wr _ hce
      simp only at hbr
      have hne : b ≠ w1.heap.size := by omega
      have hne2 : w1.heap.size ≠ b := by omega
      have hxv := HX.out eff[i] (List.getElem_mem hlt)
      have HB2 : Hid (Blk ((wr.setCell ⟨w1.heap.size, i, none⟩ (.int .i64 8)).setCell ⟨w1.heap.size, i, none⟩ (.int .i64 eff[i])) w1.heap.size 3 ((fillL eff (i + 1)).map I64).toArray) := by
        have h := blk_setL (blk_setL HB.out i 8) i eff[i]
        rw [fillL_set eff i hlt] at h
        exact h
      have hi0 : (0 : Int) ≤ (i : Int) := by omega
      have hi1 : (i : Int) < (eff.length : Int) := by omega
      generalize (fillL eff i)[i] = y at *
      generalize eff[i] = x at *
      have hmx : (if x < 0 then 0 else x) = x := if_neg (by omega)
      have hmn : (if 8 < x then 8 else x) = x := if_neg (by omega)
      clear hcell hfl
      go_wp2_with fail
      go_roundw
      case rel => exact ⟨i + 1, by omega, by go_num, HB2.out, (HK.out.setCell (p := ⟨w1.heap.size, i, none⟩) (.inr hws) (.int .i64 8)).setCell (p := ⟨w1.heap.size, i, none⟩) (.inr hws) (.int .i64 x)⟩
      case measure => simp [intOf]; omega
    · obtain rfl : i = eff.length := by omega
      have he : fillL eff eff.length = eff := by simp [fillL]
      rw [he] at HB
      clear he hlt
      go_wp2_with fail
      go_ret
      exact ⟨w1.heap.size, rfl, HB.out, hws, HK.out⟩

/-- What a thread must have. -/
def dueF (owner level : List Int) (waits : List (Int × Int)) (eff : List Int) (t : Int) : Nat → Nat → Int → Int
  | 0, _, best => best
  | f + 1, i, best => dueF owner level waits eff t f (i + 1) (if nextG owner waits i = t then (if eff.getD i 0 < best then eff.getD i 0 else best) else best)
def dueM (owner level : List Int) (waits : List (Int × Int)) (eff : List Int) (t : Nat) : Int := dueF owner level waits eff t waits.length 0 (level.getD t 0)
set_option maxHeartbeats 3200000 in
theorem gfdue_any {w : World} {AV : Option Addr} {cV : Nat} {AW : Option Addr} {cW : Nat} {AO : Option Addr} {cO : Nat} {owner level : List Int} {waits : List (Int × Int)} (h : GrR w AV cV AW cW AO cO owner level waits) (eff : List Int) (AE : Option Addr) (cE : Nat) (hE : Reads w 1 AE eff.length (eff.map I64)) (hel : eff.length = waits.length) (t : Nat) (ht : t < waits.length) :
    Calls Tryd.prog 82 #[.agg #[.slice AV level.length cV, .slice AW waits.length cW, .slice AO owner.length cO], .slice AE eff.length cE, .int .i64 t] w fun e w' => e = .returned (.int .i64 (dueM owner level waits eff t)) ∧ Kept [] w w' := by
  have hlen := h.len
  have HT := Lib.hid (fun w => (gfthreads_any AV AW AO level.length cV waits.length cW owner.length cO w (by have := h.nt; omega)).mono (R' := fun e w' => e = .returned (.int .i64 waits.length) ∧ Kept [] w w') (fun e w' h' => ⟨by rw [h'.1, hlen], h'.2⟩))
  have HX := Lib.hid (fun W (hk : Kept [] w W) k hk' => gfnext_any (h.old hk) k hk')
  have HE := Lib.hid hE
  have hlv : level.getD t 0 = level[t]'(by omega) := by rw [List.getD_eq_getElem?_getD, List.getElem?_eq_getElem (by omega)]; rfl
  have HL : Hid (∀ W, Kept [] w W → Calls Tryd.prog 94 #[.agg #[.slice AV level.length cV, .slice AW waits.length cW, .slice AO owner.length cO], .int .i64 t] W fun e w' => e = .returned (.int .i64 (level.getD t 0)) ∧ Kept [] W w') := fun W hk => by
    have := gflevel_any (h.old hk) t (by omega)
    rw [← hlv] at this
    exact this
  have hnt := h.nt
  obtain ⟨R, hR⟩ : ∃ R, dueM owner level waits eff t = R := ⟨_, rfl⟩
  rw [hR]
  unfold dueM at hR
  have HR := Lib.hid hR
  have HB := Lib.hid (Blk.new w 56 #[.slice AV level.length cV, .slice AW waits.length cW, .slice AO owner.length cO])
  have HLEN := Lib.hid hlen
  have HEL := Lib.hid hel
  clear hR hlv h hE hlen hel
  obtain ⟨lv, hlv2⟩ : ∃ lv, level.getD t 0 = lv := ⟨_, rfl⟩
  rw [hlv2] at HL HR
  clear hlv2
  go_enter Tryd.func82, Tryd.ntmps82
  go_wp2_with fail
  refine (HL.out _ (by (repeat (first | (with_reducible exact Kept.refl _ _) | (with_reducible assumption) | (with_reducible refine Kept.alloc ?_ _) | (with_reducible refine Kept.drew ?_) | (with_reducible refine Kept.drewN ?_ _) | (with_reducible refine Kept.setCell ?_ ?_ _) | (exact .inr (Nat.le_refl _)) | (exact .inr (by simp only; omega)) | (exact .inr (by omega)))))).mono ?_
  rintro e w1 ⟨rfl, hk1⟩
  have HK1 : Hid (Kept [] w w1) := (show Kept [] w _ by (repeat (first | (with_reducible exact Kept.refl _ _) | (with_reducible assumption) | (with_reducible refine Kept.alloc ?_ _) | (with_reducible refine Kept.drew ?_) | (with_reducible refine Kept.drewN ?_ _) | (with_reducible refine Kept.setCell ?_ ?_ _) | (exact .inr (Nat.le_refl _)) | (exact .inr (by simp only; omega)) | (exact .inr (by omega))))).trans hk1
  have HB1 := Lib.hid (HB.out.kept hk1 (by simp))
  have hb1c := HB1.out.cell
  have hb1l := HB1.out.lt
  clear hk1
  go_wp2_with fail
  refine (HT.out _).mono ?_
  rintro e w2 ⟨rfl, hk2⟩
  have HK2 := Lib.hid (HK1.out.trans hk2)
  have HB2 := Lib.hid (HB1.out.kept hk2 (by simp))
  clear hk2 hb1c hb1l
  go_wp2_with fail
  go_loopw [7, 14] (fun bv iv wr => ∃ (i : Nat) (best : Int), i ≤ waits.length ∧ iv = .int .i64 i ∧ bv = .int .i64 best ∧ Hid (dueF owner level waits eff t (waits.length - i) i best = R) ∧ Hid (Kept [] w2 wr)) (fun _ iv _ => waits.length - (intOf iv).toNat)
  case atStart => exact ⟨0, lv, by omega, rfl, rfl, HR.out, Kept.refl _ _⟩
  case round =>
    clear HR
    obtain ⟨i, best, hi, rfl, rfl, HD, HK⟩ := hrel
    have HBR := Lib.hid (HB2.out.kept HK.out (by simp))
    have hbc := HBR.out.cell
    have hbl := HBR.out.lt
    by_cases hlt : i < waits.length
    · have hlen := HLEN.out
      have hel := HEL.out
      have hd := HD.out
      rw [show waits.length - i = (waits.length - (i + 1)) + 1 by omega, dueF] at hd
      obtain ⟨b, o, rfl, hb, hcell⟩ := HE.out.addr (by omega) (by omega)
      have HCE : Hid (w.cell? ⟨b, o + i, none⟩ = some (.int .i64 (eff[i]'(by omega)))) := hcell i (I64 (eff[i]'(by omega))) (by rw [List.getElem?_map, List.getElem?_eq_getElem (by omega)]; rfl)
      have hge : eff.getD i 0 = eff[i]'(by omega) := by rw [List.getD_eq_getElem?_getD, List.getElem?_eq_getElem (by omega)]; rfl
      rw [← hge] at HCE
      have HN := Lib.hid (HX.out _ (HK2.out.trans HK.out) i hlt)
      have hi0 : (0 : Int) ≤ (i : Int) := by omega
      have hi1 : (i : Int) < (level.length : Int) := by omega
      have hi2 : (i : Int) < (eff.length : Int) := by omega
      clear hcell hge HD hlen hel
      obtain ⟨nx, hnx2⟩ : ∃ nx, nextG owner waits (i : Int) = nx := ⟨_, rfl⟩
      rw [hnx2] at HN hd
      clear hnx2
      obtain ⟨x, hx2⟩ : ∃ x, eff.getD i 0 = x := ⟨_, rfl⟩
      rw [hx2] at HCE hd
      clear hx2
      by_cases hnx : nx = (t : Int)
      · rw [if_pos hnx] at hd
        have HDD := Lib.hid hd
        have hbn : (nx == (t : Int)) = true := by rw [hnx]; simp
        clear hd hnx
        go_wp2_with fail
        refine (HN.out).mono ?_
        rintro e w3 ⟨rfl, hk3⟩
        have HK3 := Lib.hid (HK.out.trans hk3)
        have hce : w3.cell? ⟨b, o + i, none⟩ = some (.int .i64 x) := (HK2.out.trans HK3.out).cell_some HCE.out (by simp)
        clear hk3
        go_wp2_with fail
        go_roundw
        case rel => exact ⟨i + 1, _, by omega, by go_num, rfl, HDD.out, HK3.out⟩
        case measure => simp [intOf]; omega
      · rw [if_neg hnx] at hd
        have HDD := Lib.hid hd
        have hbn : (nx == (t : Int)) = false := beq_eq_false_iff_ne.2 hnx
        clear hd hnx
        go_wp2_with fail
        refine (HN.out).mono ?_
        rintro e w3 ⟨rfl, hk3⟩
        have HK3 := Lib.hid (HK.out.trans hk3)
        clear hk3
        go_wp2_with fail
        go_roundw
        case rel => exact ⟨i + 1, best, by omega, by go_num, rfl, HDD.out, HK3.out⟩
        case measure => simp [intOf]; omega
    · obtain rfl : i = waits.length := by omega
      have hd := HD.out
      rw [Nat.sub_self, dueF] at hd
      subst hd
      go_wp2_with fail
      go_ret
      exact ⟨rfl, HK2.out.trans HK.out⟩

end Go.Proofs.YtfoeijiejpenpaaDoor
