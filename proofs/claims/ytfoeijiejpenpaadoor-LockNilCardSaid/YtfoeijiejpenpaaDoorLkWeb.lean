/- Package web: who owns, who waits: read and written, walked. -/
import Derived.Test.YtfoeijiejpenpaaDoorLkM
namespace Go.Proofs.YtfoeijiejpenpaaDoor
open Go.RowKit

/-- An element of a list, or -1. -/
def getO (xs : List Int) (i : Int) : Int := if 0 ≤ i then xs.getD i.toNat (-1) else -1
theorem getO_in {xs : List Int} {k : Nat} (h : k < xs.length) : getO xs k = xs[k] := by simp [getO, List.getElem?_eq_getElem h]
theorem getO_out {xs : List Int} {i : Int} (h : i < 0 ∨ xs.length ≤ i) : getO xs i = -1 := by
  unfold getO
  split
  · rw [List.getD_eq_getElem?_getD, List.getElem?_eq_none (by omega)]; rfl
  · rfl
/-- An element of a list of pairs, or a pair of -1. -/
def getW (xs : List (Int × Int)) (i : Int) : Int × Int := if 0 ≤ i then xs.getD i.toNat (-1, -1) else (-1, -1)
theorem getW_in {xs : List (Int × Int)} {k : Nat} (h : k < xs.length) : getW xs k = xs[k] := by simp [getW, List.getElem?_eq_getElem h]
theorem getW_out {xs : List (Int × Int)} {i : Int} (h : i < 0 ∨ xs.length ≤ i) : getW xs i = (-1, -1) := by
  unfold getW
  split
  · rw [List.getD_eq_getElem?_getD, List.getElem?_eq_none (by omega)]; rfl
  · rfl
/-- A web, read. -/
structure WebR (w : World) (gw : Nat) (Ao : Option Addr) (co : Nat) (Aw : Option Addr) (cw : Nat) (owner : List Int) (waits : List (Int × Int)) : Prop where
  blk : Blk w gw 76 #[.slice Ao owner.length co, .slice Aw waits.length cw]
  rowO : Reads w 1 Ao owner.length (owner.map I64)
  rowW : Reads w 2 Aw waits.length (waits.flatMap wL)
  nt : waits.length ≤ 64
  nl : owner.length ≤ 64
theorem WebR.old {w w' : World} {gw : Nat} {Ao : Option Addr} {co : Nat} {Aw : Option Addr} {cw : Nat} {owner : List Int} {waits : List (Int × Int)} (h : WebR w gw Ao co Aw cw owner waits) (hk : Kept [] w w') : WebR w' gw Ao co Aw cw owner waits :=
  ⟨h.blk.kept hk (by simp), h.rowO.old hk, h.rowW.old hk, h.nt, h.nl⟩

set_option maxHeartbeats 1600000 in
theorem wbthread_any {w : World} {gw : Nat} {Ao : Option Addr} {co : Nat} {Aw : Option Addr} {cw : Nat} {owner : List Int} {waits : List (Int × Int)} (h : WebR w gw Ao co Aw cw owner waits) (t : Int) :
    Calls Tryd.prog 57 #[.pointer (some ⟨gw, 0, none⟩), .int .i64 t] w fun e w' => e = .returned (.bool (decide (0 ≤ t ∧ t < waits.length))) ∧ w = w' := by
  have hc : w.cell? ⟨gw, 1, none⟩ = some (.slice Aw waits.length cw) := h.blk.cell 1
  have hl := h.blk.lt
  have HN := Lib.hid h.nt
  clear h
  generalize waits.length = n at *
  rcases (by omega : t < 0 ∨ (0 ≤ t ∧ t < (n : Int)) ∨ (0 ≤ t ∧ ¬ t < (n : Int))) with h1 | ⟨h1, h2⟩ | ⟨h1, h2⟩
  · have hd : decide (0 ≤ t ∧ t < (n : Int)) = false := by simp; omega
    rw [hd]
    have h3 : ¬ 0 ≤ t := by omega
    clear hd
    go_enter Tryd.func57, Tryd.ntmps57
    go_wp2
    go_ret
    exact ⟨rfl, rfl⟩
  · have hd : decide (0 ≤ t ∧ t < (n : Int)) = true := by simp; omega
    rw [hd]
    clear hd
    go_enter Tryd.func57, Tryd.ntmps57
    go_wp2
    go_ret
    exact ⟨rfl, rfl⟩
  · have hd : decide (0 ≤ t ∧ t < (n : Int)) = false := by simp; omega
    rw [hd]
    clear hd
    go_enter Tryd.func57, Tryd.ntmps57
    go_wp2
    go_ret
    exact ⟨rfl, rfl⟩
set_option maxHeartbeats 1600000 in
theorem wblock_any {w : World} {gw : Nat} {Ao : Option Addr} {co : Nat} {Aw : Option Addr} {cw : Nat} {owner : List Int} {waits : List (Int × Int)} (h : WebR w gw Ao co Aw cw owner waits) (t : Int) :
    Calls Tryd.prog 54 #[.pointer (some ⟨gw, 0, none⟩), .int .i64 t] w fun e w' => e = .returned (.bool (decide (0 ≤ t ∧ t < owner.length))) ∧ w = w' := by
  have hc : w.cell? ⟨gw, 0, none⟩ = some (.slice Ao owner.length co) := h.blk.cell 0
  have hl := h.blk.lt
  have HN := Lib.hid h.nl
  clear h
  generalize owner.length = n at *
  rcases (by omega : t < 0 ∨ (0 ≤ t ∧ t < (n : Int)) ∨ (0 ≤ t ∧ ¬ t < (n : Int))) with h1 | ⟨h1, h2⟩ | ⟨h1, h2⟩
  · have hd : decide (0 ≤ t ∧ t < (n : Int)) = false := by simp; omega
    rw [hd]
    have h3 : ¬ 0 ≤ t := by omega
    clear hd
    go_enter Tryd.func54, Tryd.ntmps54
    go_wp2
    go_ret
    exact ⟨rfl, rfl⟩
  · have hd : decide (0 ≤ t ∧ t < (n : Int)) = true := by simp; omega
    rw [hd]
    clear hd
    go_enter Tryd.func54, Tryd.ntmps54
    go_wp2
    go_ret
    exact ⟨rfl, rfl⟩
  · have hd : decide (0 ≤ t ∧ t < (n : Int)) = false := by simp; omega
    rw [hd]
    clear hd
    go_enter Tryd.func54, Tryd.ntmps54
    go_wp2
    go_ret
    exact ⟨rfl, rfl⟩

set_option maxHeartbeats 1600000 in
theorem wbOwner_any {w : World} {gw : Nat} {Ao : Option Addr} {co : Nat} {Aw : Option Addr} {cw : Nat} {owner : List Int} {waits : List (Int × Int)} (h : WebR w gw Ao co Aw cw owner waits) (l : Int) :
    Calls Tryd.prog 34 #[.pointer (some ⟨gw, 0, none⟩), .int .i64 l] w fun e w' => e = .returned (.int .i64 (getO owner l)) ∧ w = w' := by
  have HC := Lib.hid (wblock_any h l)
  have hc : w.cell? ⟨gw, 0, none⟩ = some (.slice Ao owner.length co) := h.blk.cell 0
  have hl := h.blk.lt
  by_cases hin : 0 ≤ l ∧ l < owner.length
  · have hd : decide (0 ≤ l ∧ l < (owner.length : Int)) = true := by simp; omega
    rw [hd] at HC
    obtain ⟨k, rfl⟩ : ∃ k : Nat, l = k := ⟨l.toNat, by omega⟩
    have hk : k < owner.length := by omega
    rw [getO_in hk]
    obtain ⟨b, o, rfl, hb, hcell⟩ := h.rowO.addr (by omega) (by omega)
    have hck : w.cell? ⟨b, o + k, none⟩ = some (.int .i64 owner[k]) := hcell k (I64 owner[k]) (by rw [List.getElem?_map, List.getElem?_eq_getElem hk]; rfl)
    have hi0 : (0 : Int) ≤ (k : Int) := by omega
    have hi1 : (k : Int) < (owner.length : Int) := by omega
    generalize owner[k] = x at *
    clear h hcell hd hin
    generalize owner.length = n at *
    go_enter Tryd.func34, Tryd.ntmps34
    go_wp2_with fail
    refine (HC.out).mono ?_
    rintro e w1 ⟨rfl, rfl⟩
    go_wp2_with fail
    go_ret
    exact ⟨rfl, rfl⟩
  · have hd : decide (0 ≤ l ∧ l < (owner.length : Int)) = false := by simp; omega
    rw [hd] at HC
    rw [getO_out (by omega)]
    clear h hd hin
    go_enter Tryd.func34, Tryd.ntmps34
    go_wp2_with fail
    refine (HC.out).mono ?_
    rintro e w1 ⟨rfl, rfl⟩
    go_wp2_with fail
    go_ret
    exact ⟨rfl, rfl⟩

set_option maxHeartbeats 3200000 in
theorem wbWaits_any {w : World} {gw : Nat} {Ao : Option Addr} {co : Nat} {Aw : Option Addr} {cw : Nat} {owner : List Int} {waits : List (Int × Int)} (h : WebR w gw Ao co Aw cw owner waits) (t : Int) :
    Calls Tryd.prog 38 #[.pointer (some ⟨gw, 0, none⟩), .int .i64 t] w fun e w' => e = .returned (.tuple #[.int .i64 (getW waits t).1, .int .i64 (getW waits t).2]) ∧ Kept [] w w' := by
  have HC := Lib.hid (wbthread_any h t)
  have hc : w.cell? ⟨gw, 1, none⟩ = some (.slice Aw waits.length cw) := h.blk.cell 1
  have hl := h.blk.lt
  by_cases hin : 0 ≤ t ∧ t < waits.length
  · have hd : decide (0 ≤ t ∧ t < (waits.length : Int)) = true := by simp; omega
    rw [hd] at HC
    obtain ⟨k, rfl⟩ : ∃ k : Nat, t = k := ⟨t.toNat, by omega⟩
    have hk : k < waits.length := by omega
    rw [getW_in hk]
    obtain ⟨b, o, rfl, hb, hcell⟩ := Reads.cellsK wL 2 wL_len h.rowW (by omega) (by omega)
    have hck : w.cell? ⟨b, o + k * 2, none⟩ = some (.int .i64 waits[k].1) := hcell k _ (List.getElem?_eq_getElem hk) 0 (by omega)
    have hck1 : w.cell? ⟨b, o + k * 2 + 1, none⟩ = some (.int .i64 waits[k].2) := by have := hcell k _ (List.getElem?_eq_getElem hk) 1 (by omega); rw [← Nat.add_assoc] at this; exact this
    have hi0 : (0 : Int) ≤ (k : Int) := by omega
    have hi1 : (k : Int) < (waits.length : Int) := by omega
    generalize waits[k] = x at *
    obtain ⟨x1, x2⟩ := x
    simp only at hck hck1 ⊢
    clear h hcell hd hin
    generalize waits.length = n at *
    go_enter Tryd.func38, Tryd.ntmps38
    go_wp2_with fail
    refine (HC.out).mono ?_
    rintro e w1 ⟨rfl, rfl⟩
    go_wp2_with fail
    go_big_region
    all_goals
      go_wp2_with fail
      go_ret2
      exact ⟨rfl, by (repeat (first | (with_reducible exact Kept.refl _ _) | (with_reducible assumption) | (with_reducible refine Kept.alloc ?_ _) | (with_reducible refine Kept.drew ?_) | (with_reducible refine Kept.drewN ?_ _) | (with_reducible refine Kept.setCell ?_ ?_ _) | (exact .inr (Nat.le_refl _)) | (exact .inr (by simp only; omega)) | (exact .inr (by omega))))⟩
  · have hd : decide (0 ≤ t ∧ t < (waits.length : Int)) = false := by simp; omega
    rw [hd] at HC
    rw [getW_out (by omega)]
    clear h hd hin
    go_enter Tryd.func38, Tryd.ntmps38
    go_wp2_with fail
    refine (HC.out).mono ?_
    rintro e w1 ⟨rfl, rfl⟩
    go_wp2_with fail
    go_ret2
    exact ⟨rfl, Kept.refl _ _⟩

/-- Whom a thread waits for. -/
def nextW (owner : List Int) (waits : List (Int × Int)) (t : Int) : Int := if (getW waits t).1 = -1 then (getW waits t).2 else getO owner (getW waits t).1
set_option maxHeartbeats 1600000 in
theorem wbNext_any {w : World} {gw : Nat} {Ao : Option Addr} {co : Nat} {Aw : Option Addr} {cw : Nat} {owner : List Int} {waits : List (Int × Int)} (h : WebR w gw Ao co Aw cw owner waits) (t : Int) :
    Calls Tryd.prog 87 #[.pointer (some ⟨gw, 0, none⟩), .int .i64 t] w fun e w' => e = .returned (.int .i64 (nextW owner waits t)) ∧ Kept [] w w' := by
  have HC := Lib.hid (wbWaits_any h t)
  have HO := Lib.hid (fun w' (hk : Kept [] w w') l => wbOwner_any (h.old hk) l)
  unfold nextW
  generalize getW waits t = x at *
  obtain ⟨x1, x2⟩ := x
  simp only at HC ⊢
  clear h
  by_cases hx : x1 = -1
  · subst hx
    rw [if_pos rfl]
    go_enter Tryd.func87, Tryd.ntmps87
    go_wp2_with fail
    refine (HC.out).mono ?_
    rintro e w1 ⟨rfl, hk⟩
    have HK := Lib.hid hk
    clear hk
    go_wp2_with fail
    go_ret
    exact ⟨rfl, HK.out⟩
  · rw [if_neg hx]
    have hb : (x1 == -1) = false := beq_eq_false_iff_ne.2 hx
    clear hx
    go_enter Tryd.func87, Tryd.ntmps87
    go_wp2_with fail
    refine (HC.out).mono ?_
    rintro e w1 ⟨rfl, hk⟩
    have HK := Lib.hid hk
    clear hk
    go_wp2_with fail
    refine (HO.out _ HK.out _).mono ?_
    rintro e w2 ⟨rfl, rfl⟩
    go_wp2_with fail
    go_ret
    exact ⟨rfl, HK.out⟩

end Go.Proofs.YtfoeijiejpenpaaDoor
