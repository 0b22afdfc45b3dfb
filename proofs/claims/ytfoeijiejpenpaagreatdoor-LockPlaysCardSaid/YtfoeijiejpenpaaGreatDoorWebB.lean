/- Package web: who owns, who waits: read and written, walked; Package web: would there be a ring? walked; Package web: written, walked. -/
import Derived.Test.YtfoeijiejpenpaaGreatDoorLkM
import Derived.Test.YtfoeijiejpenpaaGreatDoorSets1
import Derived.Deep.LoopGhost
import Derived.WalkMore
import Derived.Deep.RegionHeld3

/- Package web: who owns, who waits: read and written, walked. -/
namespace Go.Proofs.YtfoeijiejpenpaaGreatDoor
open Go.RowKit

/-- An element of a list, or -1. -/
def getO (xs : List Int) (i : Int) : Int := if 0 ≤ i then xs.getD i.toNat (-1) else -1
theorem getO_in {xs : List Int} {k : Nat} (h : k < xs.length) : getO xs k = xs[k] := by simp [getO, List.getElem?_eq_getElem h]
theorem getO_out {xs : List Int} {i : Int} (h : i < 0 ∨ xs.length ≤ i) : getO xs i = -1 := by
  unfold getO
  split
  · rw [List.getD_eq_getElem?_getD, List.getElem?_eq_none (by omega)]; rfl
  · rfl
/-- An element of a list of pairs, or a pair of -1. -/
def getW (xs : List (Int × Int)) (i : Int) : Int × Int := if 0 ≤ i then xs.getD i.toNat (-1, -1) else (-1, -1)
theorem getW_in {xs : List (Int × Int)} {k : Nat} (h : k < xs.length) : getW xs k = xs[k] := by simp [getW, List.getElem?_eq_getElem h]
theorem getW_out {xs : List (Int × Int)} {i : Int} (h : i < 0 ∨ xs.length ≤ i) : getW xs i = (-1, -1) := by
  unfold getW
  split
  · rw [List.getD_eq_getElem?_getD, List.getElem?_eq_none (by omega)]; rfl
  · rfl
/-- A web, read. -/
structure WebR (w : World) (gw : Nat) (Ao : Option Addr) (co : Nat) (Aw : Option Addr) (cw : Nat) (owner : List Int) (waits : List (Int × Int)) : Prop where
  blk : Blk w gw 83 #[.slice Ao owner.length co, .slice Aw waits.length cw]
  rowO : Reads w 1 Ao owner.length (owner.map I64)
  rowW : Reads w 2 Aw waits.length (waits.flatMap wL)
  nt : waits.length ≤ 64
  nl : owner.length ≤ 64
theorem WebR.old {w w' : World} {gw : Nat} {Ao : Option Addr} {co : Nat} {Aw : Option Addr} {cw : Nat} {owner : List Int} {waits : List (Int × Int)} (h : WebR w gw Ao co Aw cw owner waits) (hk : Kept [] w w') : WebR w' gw Ao co Aw cw owner waits :=
  ⟨h.blk.kept hk (by simp), h.rowO.old hk, h.rowW.old hk, h.nt, h.nl⟩

set_option maxHeartbeats 1600000 in
theorem wbthread_any {w : World} {gw : Nat} {Ao : Option Addr} {co : Nat} {Aw : Option Addr} {cw : Nat} {owner : List Int} {waits : List (Int × Int)} (h : WebR w gw Ao co Aw cw owner waits) (t : Int) :
    Calls Tryz.prog 83 #[.pointer (some ⟨gw, 0, none⟩), .int .i64 t] w fun e w' => e = .returned (.bool (decide (0 ≤ t ∧ t < waits.length))) ∧ w = w' := by
  have hc : w.cell? ⟨gw, 1, none⟩ = some (.slice Aw waits.length cw) := h.blk.cell 1
  have hl := h.blk.lt
  have HN := Lib.hid h.nt
  clear h
  generalize waits.length = n at *
  rcases (by omega : t < 0 ∨ (0 ≤ t ∧ t < (n : Int)) ∨ (0 ≤ t ∧ ¬ t < (n : Int))) with h1 | ⟨h1, h2⟩ | ⟨h1, h2⟩
  · have hd : decide (0 ≤ t ∧ t < (n : Int)) = false := by simp; omega
    rw [hd]
    have h3 : ¬ 0 ≤ t := by omega
    clear hd
    go_enter Tryz.func83, Tryz.ntmps83
    go_wp2
    go_ret
    exact ⟨rfl, rfl⟩
  · have hd : decide (0 ≤ t ∧ t < (n : Int)) = true := by simp; omega
    rw [hd]
    clear hd
    go_enter Tryz.func83, Tryz.ntmps83
    go_wp2
    go_ret
    exact ⟨rfl, rfl⟩
  · have hd : decide (0 ≤ t ∧ t < (n : Int)) = false := by simp; omega
    rw [hd]
    clear hd
    go_enter Tryz.func83, Tryz.ntmps83
    go_wp2
    go_ret
    exact ⟨rfl, rfl⟩
set_option maxHeartbeats 1600000 in
theorem wblock_any {w : World} {gw : Nat} {Ao : Option Addr} {co : Nat} {Aw : Option Addr} {cw : Nat} {owner : List Int} {waits : List (Int × Int)} (h : WebR w gw Ao co Aw cw owner waits) (t : Int) :
    Calls Tryz.prog 75 #[.pointer (some ⟨gw, 0, none⟩), .int .i64 t] w fun e w' => e = .returned (.bool (decide (0 ≤ t ∧ t < owner.length))) ∧ w = w' := by
  have hc : w.cell? ⟨gw, 0, none⟩ = some (.slice Ao owner.length co) := h.blk.cell 0
  have hl := h.blk.lt
  have HN := Lib.hid h.nl
  clear h
  generalize owner.length = n at *
  rcases (by omega : t < 0 ∨ (0 ≤ t ∧ t < (n : Int)) ∨ (0 ≤ t ∧ ¬ t < (n : Int))) with h1 | ⟨h1, h2⟩ | ⟨h1, h2⟩
  · have hd : decide (0 ≤ t ∧ t < (n : Int)) = false := by simp; omega
    rw [hd]
    have h3 : ¬ 0 ≤ t := by omega
    clear hd
    go_enter Tryz.func75, Tryz.ntmps75
    go_wp2
    go_ret
    exact ⟨rfl, rfl⟩
  · have hd : decide (0 ≤ t ∧ t < (n : Int)) = true := by simp; omega
    rw [hd]
    clear hd
    go_enter Tryz.func75, Tryz.ntmps75
    go_wp2
    go_ret
    exact ⟨rfl, rfl⟩
  · have hd : decide (0 ≤ t ∧ t < (n : Int)) = false := by simp; omega
    rw [hd]
    clear hd
    go_enter Tryz.func75, Tryz.ntmps75
    go_wp2
    go_ret
    exact ⟨rfl, rfl⟩

set_option maxHeartbeats 1600000 in
theorem wbOwner_any {w : World} {gw : Nat} {Ao : Option Addr} {co : Nat} {Aw : Option Addr} {cw : Nat} {owner : List Int} {waits : List (Int × Int)} (h : WebR w gw Ao co Aw cw owner waits) (l : Int) :
    Calls Tryz.prog 44 #[.pointer (some ⟨gw, 0, none⟩), .int .i64 l] w fun e w' => e = .returned (.int .i64 (getO owner l)) ∧ w = w' := by
  have HC := Lib.hid (wblock_any h l)
  have hc : w.cell? ⟨gw, 0, none⟩ = some (.slice Ao owner.length co) := h.blk.cell 0
  have hl := h.blk.lt
  by_cases hin : 0 ≤ l ∧ l < owner.length
  · have hd : decide (0 ≤ l ∧ l < (owner.length : Int)) = true := by simp; omega
    rw [hd] at HC
    obtain ⟨k, rfl⟩ : ∃ k : Nat, l = k := ⟨l.toNat, by omega⟩
    have hk : k < owner.length := by omega
    rw [getO_in hk]
    obtain ⟨b, o, rfl, hb, hcell⟩ := h.rowO.addr (by omega) (by omega)
    have hck : w.cell? ⟨b, o + k, none⟩ = some (.int .i64 owner[k]) := hcell k (I64 owner[k]) (by rw [List.getElem?_map, List.getElem?_eq_getElem hk]; rfl)
    have hi0 : (0 : Int) ≤ (k : Int) := by omega
    have hi1 : (k : Int) < (owner.length : Int) := by omega
    generalize owner[k] = x at *
    clear h hcell hd hin
    generalize owner.length = n at *
    go_enter Tryz.func44, Tryz.ntmps44
    go_wp2_with fail
    refine (HC.out).mono ?_
    rintro e w1 ⟨rfl, rfl⟩
    go_wp2_with fail
    go_ret
    exact ⟨rfl, rfl⟩
  · have hd : decide (0 ≤ l ∧ l < (owner.length : Int)) = false := by simp; omega
    rw [hd] at HC
    rw [getO_out (by omega)]
    clear h hd hin
    go_enter Tryz.func44, Tryz.ntmps44
    go_wp2_with fail
    refine (HC.out).mono ?_
    rintro e w1 ⟨rfl, rfl⟩
    go_wp2_with fail
    go_ret
    exact ⟨rfl, rfl⟩

set_option maxHeartbeats 3200000 in
theorem wbWaits_any {w : World} {gw : Nat} {Ao : Option Addr} {co : Nat} {Aw : Option Addr} {cw : Nat} {owner : List Int} {waits : List (Int × Int)} (h : WebR w gw Ao co Aw cw owner waits) (t : Int) :
    Calls Tryz.prog 57 #[.pointer (some ⟨gw, 0, none⟩), .int .i64 t] w fun e w' => e = .returned (.tuple #[.int .i64 (getW waits t).1, .int .i64 (getW waits t).2]) ∧ Kept [] w w' := by
  have HC := Lib.hid (wbthread_any h t)
  have hc : w.cell? ⟨gw, 1, none⟩ = some (.slice Aw waits.length cw) := h.blk.cell 1
  have hl := h.blk.lt
  by_cases hin : 0 ≤ t ∧ t < waits.length
  · have hd : decide (0 ≤ t ∧ t < (waits.length : Int)) = true := by simp; omega
    rw [hd] at HC
    obtain ⟨k, rfl⟩ : ∃ k : Nat, t = k := ⟨t.toNat, by omega⟩
    have hk : k < waits.length := by omega
    rw [getW_in hk]
    obtain ⟨b, o, rfl, hb, hcell⟩ := Reads.cellsK wL 2 wL_len h.rowW (by omega) (by omega)
    have hck : w.cell? ⟨b, o + k * 2, none⟩ = some (.int .i64 waits[k].1) := hcell k _ (List.getElem?_eq_getElem hk) 0 (by omega)
    have hck1 : w.cell? ⟨b, o + k * 2 + 1, none⟩ = some (.int .i64 waits[k].2) := by have := hcell k _ (List.getElem?_eq_getElem hk) 1 (by omega); rw [← Nat.add_assoc] at this; exact this
    have hi0 : (0 : Int) ≤ (k : Int) := by omega
    have hi1 : (k : Int) < (waits.length : Int) := by omega
    generalize waits[k] = x at *
    obtain ⟨x1, x2⟩ := x
    simp only at hck hck1 ⊢
    clear h hcell hd hin
    generalize waits.length = n at *
    go_enter Tryz.func57, Tryz.ntmps57
    go_wp2_with fail
    refine (HC.out).mono ?_
    rintro e w1 ⟨rfl, rfl⟩
    go_wp2_with fail
    go_big_region
    all_goals
      go_wp2_with fail
      go_ret2
      exact ⟨rfl, by (repeat (first | (with_reducible exact Kept.refl _ _) | (with_reducible assumption) | (with_reducible refine Kept.alloc ?_ _) | (with_reducible refine Kept.drew ?_) | (with_reducible refine Kept.drewN ?_ _) | (with_reducible refine Kept.setCell ?_ ?_ _) | (exact .inr (Nat.le_refl _)) | (exact .inr (by simp only; omega)) | (exact .inr (by omega))))⟩
  · have hd : decide (0 ≤ t ∧ t < (waits.length : Int)) = false := by simp; omega
    rw [hd] at HC
    rw [getW_out (by omega)]
    clear h hd hin
    go_enter Tryz.func57, Tryz.ntmps57
    go_wp2_with fail
    refine (HC.out).mono ?_
    rintro e w1 ⟨rfl, rfl⟩
    go_wp2_with fail
    go_ret2
    exact ⟨rfl, Kept.refl _ _⟩

/-- Whom a thread waits for. -/
def nextW (owner : List Int) (waits : List (Int × Int)) (t : Int) : Int := if (getW waits t).1 = -1 then (getW waits t).2 else getO owner (getW waits t).1
set_option maxHeartbeats 1600000 in
theorem wbNext_any {w : World} {gw : Nat} {Ao : Option Addr} {co : Nat} {Aw : Option Addr} {cw : Nat} {owner : List Int} {waits : List (Int × Int)} (h : WebR w gw Ao co Aw cw owner waits) (t : Int) :
    Calls Tryz.prog 110 #[.pointer (some ⟨gw, 0, none⟩), .int .i64 t] w fun e w' => e = .returned (.int .i64 (nextW owner waits t)) ∧ Kept [] w w' := by
  have HC := Lib.hid (wbWaits_any h t)
  have HO := Lib.hid (fun w' (hk : Kept [] w w') l => wbOwner_any (h.old hk) l)
  unfold nextW
  generalize getW waits t = x at *
  obtain ⟨x1, x2⟩ := x
  simp only at HC ⊢
  clear h
  by_cases hx : x1 = -1
  · subst hx
    rw [if_pos rfl]
    go_enter Tryz.func110, Tryz.ntmps110
    go_wp2_with fail
    refine (HC.out).mono ?_
    rintro e w1 ⟨rfl, hk⟩
    have HK := Lib.hid hk
    clear hk
    go_wp2_with fail
    go_ret
    exact ⟨rfl, HK.out⟩
  · rw [if_neg hx]
    have hb : (x1 == -1) = false := beq_eq_false_iff_ne.2 hx
    clear hx
    go_enter Tryz.func110, Tryz.ntmps110
    go_wp2_with fail
    refine (HC.out).mono ?_
    rintro e w1 ⟨rfl, hk⟩
    have HK := Lib.hid hk
    clear hk
    go_wp2_with fail
    refine (HO.out _ HK.out _).mono ?_
    rintro e w2 ⟨rfl, rfl⟩
    go_wp2_with fail
    go_ret
    exact ⟨rfl, HK.out⟩

end Go.Proofs.YtfoeijiejpenpaaGreatDoor

/- Package web: would there be a ring? walked. -/
namespace Go.Proofs.YtfoeijiejpenpaaGreatDoor
open Go.RowKit

/-- A thread's chain, up to whom it is gone along: is another one met? -/
def walkF (owner : List Int) (waits : List (Int × Int)) (t u : Int) : Nat → List Bool → Int → Bool → Bool
  | 0, _, _, fd => fd
  | f + 1, met, n, fd => if n = -1 then fd else if n = u then fd else if met.getD n.toNat false then fd else if (fd || n == t) then true else walkF owner waits t u f (met.set n.toNat true) (nextW owner waits n) false
/-- Would there be a ring? -/
def closesF (owner : List Int) (waits : List (Int × Int)) (t u : Int) : Bool := walkF owner waits t u 65 (List.replicate 64 false) (nextW owner waits u) (t == u)
theorem nextW_in {owner : List Int} {waits : List (Int × Int)} {n : Int} (h0 : 0 ≤ n) (h1 : ∀ x ∈ owner, -1 ≤ x ∧ x < n) (h2 : ∀ x ∈ waits, -1 ≤ x.2 ∧ x.2 < n) (t : Int) : -1 ≤ nextW owner waits t ∧ nextW owner waits t < n := by
  unfold nextW
  have hw : -1 ≤ (getW waits t).2 ∧ (getW waits t).2 < n := by
    unfold getW
    split
    · rw [List.getD_eq_getElem?_getD]
      cases h : waits[t.toNat]? with
      | none => simp; omega
      | some x => exact h2 x (List.mem_of_getElem? h)
    · simp; omega
  split
  · exact hw
  · generalize (getW waits t).1 = l
    unfold getO
    split
    · rw [List.getD_eq_getElem?_getD]
      cases h : owner[l.toNat]? with
      | none => simp; omega
      | some x => exact h1 x (List.mem_of_getElem? h)
    · omega

set_option maxHeartbeats 1600000 in
theorem wbCloses1_any (n t : Int) (fd : Bool) (bf bt : Nat) (w : World) (hf : Blk w bf 4 #[.bool fd]) (ht : Blk w bt 3 #[.int .i64 t]) :
    Calls Tryz.prog 89 #[.int .i64 n, .pointer (some ⟨bf, 0, none⟩), .pointer (some ⟨bt, 0, none⟩)] w fun e w' => e = .returned (.bool (!(fd || n == t))) ∧ w' = w.setCell ⟨bf, 0, none⟩ (.bool (fd || n == t)) := by
  have hc : w.cell? ⟨bf, 0, none⟩ = some (.bool fd) := hf.cell 0
  have hfr := hf.frozen
  have hl := hf.lt
  have hct : w.cell? ⟨bt, 0, none⟩ = some (.int .i64 t) := ht.cell 0
  have hlt := ht.lt
  have hne : bf ≠ bt := hf.ne ht (by decide)
  clear hf ht
  cases fd
  · go_enter Tryz.func89, Tryz.ntmps89
    go_wp2
    go_ret
    exact ⟨rfl, rfl⟩
  · go_enter Tryz.func89, Tryz.ntmps89
    go_wp2
    go_ret
    exact ⟨rfl, rfl⟩

set_option maxHeartbeats 3200000 in
set_option maxRecDepth 100000 in
theorem wbwalk_cl {w : World} {gw : Nat} {Ao : Option Addr} {co : Nat} {Aw : Option Addr} {cw : Nat} {owner : List Int} {waits : List (Int × Int)} (h : WebR w gw Ao co Aw cw owner waits) (h1 : ∀ x ∈ owner, -1 ≤ x ∧ x < waits.length) (h2 : ∀ x ∈ waits, -1 ≤ x.2 ∧ x.2 < waits.length)
    (t u : Int) (fd : Bool) (bf bt : Nat) (hf : Blk w bf 4 #[.bool fd]) (ht : Blk w bt 3 #[.int .i64 t]) (hA : ∀ ad, Ao = some ad → ad.block ≠ bf) (hW : ∀ ad, Aw = some ad → ad.block ≠ bf) :
    Calls Tryz.prog 88 #[.pointer (some ⟨gw, 0, none⟩), .int .i64 u, .func (.func 89) #[] #[.pointer (some ⟨bf, 0, none⟩), .pointer (some ⟨bt, 0, none⟩)]] w fun e w' => ∃ b, e = .returned (.bool b) ∧ Blk w' bf 4 #[.bool (walkF owner waits t u 65 (List.replicate 64 false) (nextW owner waits u) fd)] ∧ Kept [bf] w w' := by
  have HN := Lib.hid (fun w' (hk : Kept [bf] w w') n => wbNext_any (w := w') ⟨h.blk.kept hk (by intro hm; exact absurd (List.mem_singleton.1 hm) (h.blk.ne hf (by decide))), h.rowO.kept hk (fun ad e => by simpa using hA ad e), h.rowW.kept hk (fun ad e => by simpa using hW ad e), h.nt, h.nl⟩ n)
  have HR := Lib.hid (fun n => nextW_in (owner := owner) (waits := waits) (n := waits.length) (by omega) h1 h2 n)
  have hnt := h.nt
  obtain ⟨R, hR⟩ : ∃ R, walkF owner waits t u 65 (List.replicate 64 false) (nextW owner waits u) fd = R := ⟨_, rfl⟩
  rw [hR]
  have HRR := Lib.hid hR
  have HF := Lib.hid hf
  have HT := Lib.hid ht
  clear h h1 h2 hf ht hA hW hR
  go_enter Tryz.func88, Tryz.ntmps88
  go_wp2_with fail
  go_step3
  go_wp2_with fail
  go_step3
  go_wp2_with fail
  refine (HN.out _ (by (repeat (first | (with_reducible exact Kept.refl _ _) | (with_reducible assumption) | (with_reducible refine Kept.alloc ?_ _) | (with_reducible refine Kept.drew ?_) | (with_reducible refine Kept.drewN ?_ _) | (with_reducible refine Kept.setCell ?_ ?_ _) | (exact .inr (Nat.le_refl _)) | (exact .inr (by simp only; omega)) | (exact .inr (by omega))))) _).mono ?_
  rintro e w1 ⟨rfl, hk1⟩
  have HB0 : Hid (Blk w1 w.heap.size 125 (bC (List.replicate 64 false))) := (Blk.new w 125 (bC (List.replicate 64 false))).kept hk1 (by simp)
  have HK0 := Lib.hid ((((Kept.refl [] w).alloc (.cells (bC (List.replicate 64 false)) 125)).trans hk1).mono (G' := [bf]) (by simp))
  have HF0 := Lib.hid ((HF.out.alloc (.cells (bC (List.replicate 64 false)) 125)).kept hk1 (by simp))
  clear hk1
  go_wp2_with fail
  go_loopg [8] 65 (fun g nv wr => ∃ (n : Int) (met : List Bool) (fd : Bool), nv = .int .i64 n ∧ met.length = 64 ∧ g = met.count false + 1 ∧ -1 ≤ n ∧ n < waits.length ∧ Hid (walkF owner waits t u g met n fd = R) ∧ Hid (Blk wr w.heap.size 125 (bC met)) ∧ Hid (Blk wr bf 4 #[.bool fd]) ∧ Hid (Kept [bf] w wr))
  case atStart => exact ⟨_, List.replicate 64 false, fd, rfl, rfl, rfl, (HR.out u).1, (HR.out u).2, HRR.out, HB0.out, HF0.out, HK0.out⟩
  case round =>
    clear HRR HB0 HK0 HF0
    obtain ⟨n, met, fd, rfl, hml, rfl, hn0, hn1, HD, HB, HF2, HK⟩ := hrel
    have HT2 := Lib.hid (HT.out.kept HK.out (fun hm => HF.out.ne HT.out (by decide) (List.mem_singleton.1 hm).symm))
    have hd := HD.out
    rw [walkF] at hd
    have HML := Lib.hid hml
    by_cases c1 : n = -1
    · subst c1
      rw [if_pos rfl] at hd
      subst hd
      go_wp2_with fail
      (try simp only [Exit.noGoto_ret])
      go_ret
      exact ⟨false, rfl, HF2.out, HK.out⟩
    · rw [if_neg c1] at hd
      obtain ⟨k, rfl⟩ : ∃ k : Nat, n = k := ⟨n.toNat, by omega⟩
      have hb1 : ((k : Int) == -1) = false := beq_eq_false_iff_ne.2 c1
      by_cases c2 : (k : Int) = u
      · rw [if_pos c2] at hd
        subst hd
        have hb2 : ((k : Int) == u) = true := by rw [c2]; simp
        clear c1 c2
        go_wp2_with fail
        (try simp only [Exit.noGoto_ret])
        go_ret
        exact ⟨true, rfl, HF2.out, HK.out⟩
      · rw [if_neg c2] at hd
        have hb2 : ((k : Int) == u) = false := beq_eq_false_iff_ne.2 c2
        have hk64 : k < 64 := by omega
        simp only [Int.toNat_natCast] at hd
        have hcm : wr.cell? ⟨w.heap.size, k, none⟩ = some (.bool (met.getD k false)) := by rw [HB.out.cell, bC_get _ _ (by rw [HML.out]; exact hk64)]
        have hfm := HB.out.frozen
        have hlm := HB.out.lt
        have hi0 : (0 : Int) ≤ (k : Int) := by omega
        have hi1 : (k : Int) < 64 := by omega
        clear c1 c2 hml
        by_cases c3 : met.getD k false = true
        · rw [if_pos c3] at hd
          subst hd
          rw [c3] at hcm
          go_wp2_with fail
          (try simp only [Exit.noGoto_ret])
          go_ret
          exact ⟨false, rfl, HF2.out, HK.out⟩
        · rw [if_neg c3] at hd
          have c3' : met.getD k false = false := by simpa using c3
          rw [c3'] at hcm
          have HC := Lib.hid (wbCloses1_any k t fd bf bt wr HF2.out HT2.out)
          have HC3 := Lib.hid c3'
          clear c3 c3'
          generalize (fd || (k : Int) == t) = fd2 at *
          have hset : Kept [bf] wr (wr.setCell ⟨bf, 0, none⟩ (.bool fd2)) := (Kept.refl [bf] wr).setCell (.inl (by simp)) _
          have hbm : w.heap.size ∉ [bf] := by intro hm; have := HF.out.lt; have := List.mem_singleton.1 hm; omega
          have HBS := Lib.hid (HB.out.kept hset hbm)
          have HFS : Hid (Blk (wr.setCell ⟨bf, 0, none⟩ (.bool fd2)) bf 4 #[.bool fd2]) := HF2.out.set 0 _
          have HKS := Lib.hid (HK.out.trans hset)
          clear hset hbm
          go_wp2_with fail
          refine (HC.out).mono ?_
          rintro e w2 ⟨rfl, rfl⟩
          clear hcm hfm hlm
          generalize wr.setCell ⟨bf, 0, none⟩ (.bool fd2) = w2 at *
          by_cases c4 : fd2 = true
          · subst c4
            rw [if_pos rfl] at hd
            subst hd
            go_wp2_with fail
            (try simp only [Exit.noGoto_ret])
            go_ret
            exact ⟨false, rfl, HFS.out, HKS.out⟩
          · have c4' : fd2 = false := by simpa using c4
            subst c4'
            rw [if_neg (by simp)] at hd
            have HDD := Lib.hid hd
            have hcm : w2.cell? ⟨w.heap.size, k, none⟩ = some (.bool false) := by rw [HBS.out.cell, bC_get _ _ (by rw [HML.out]; exact hk64), HC3.out]
            have hfm := HBS.out.frozen
            have hlm := HBS.out.lt
            clear hd c4 HC
            have hset : Kept [w.heap.size] w2 (w2.setCell ⟨w.heap.size, k, none⟩ (.bool true)) := (Kept.refl [w.heap.size] w2).setCell (.inl (by simp)) _
            have HB3 : Hid (Blk (w2.setCell ⟨w.heap.size, k, none⟩ (.bool true)) w.heap.size 125 (bC (met.set k true))) := by
              show Blk _ _ _ _
              rw [← bC_set]
              exact HBS.out.set _ _
            have HF3 := Lib.hid (HFS.out.kept hset (by intro hm; have := HF.out.lt; have := List.mem_singleton.1 hm; omega))
            have HK3 := Lib.hid (HKS.out.setCell (p := ⟨w.heap.size, k, none⟩) (.inr (Nat.le_refl _)) (.bool true))
            clear hset
            go_wp2_with fail
            refine (HN.out _ HK3.out _).mono ?_
            rintro e w3 ⟨rfl, hk3⟩
            have HB4 := Lib.hid (HB3.out.kept hk3 (by simp))
            have HF4 := Lib.hid (HF3.out.kept hk3 (by simp))
            have HK4 := Lib.hid (HK3.out.trans (hk3.mono (by simp)))
            clear hk3 hcm hfm hlm
            go_wp2_with fail
            have hcount : (met.set k true).count false + 1 = met.count false := by
              have hlt : k < met.length := by rw [HML.out]; exact hk64
              have hke : met[k] = false := by have := HC3.out; rw [List.getD_eq_getElem?_getD, List.getElem?_eq_getElem hlt] at this; simpa using this
              have := List.count_set (l := met) (i := k) (a := true) (b := false) hlt
              have hpos : 0 < met.count false := List.count_pos_iff.2 (hke ▸ List.getElem_mem hlt)
              simp [hke] at this
              omega
            go_roundg ((met.set k true).count false + 1)
            case measure => omega
            case rel => exact ⟨_, met.set k true, false, rfl, by rw [List.length_set]; exact HML.out, rfl, (HR.out _).1, (HR.out _).2, by rw [hcount]; exact HDD.out, HB4.out, HF4.out, HK4.out⟩

/-- Would there be a ring? For any numbers. -/
def closesM (owner : List Int) (waits : List (Int × Int)) (t u : Int) : Bool := if (0 ≤ t ∧ t < waits.length) ∧ (0 ≤ u ∧ u < waits.length) then closesF owner waits t u else false
set_option maxHeartbeats 3200000 in
theorem wbCloses_any {w : World} {gw : Nat} {Ao : Option Addr} {co : Nat} {Aw : Option Addr} {cw : Nat} {owner : List Int} {waits : List (Int × Int)} (h : WebR w gw Ao co Aw cw owner waits) (h1 : ∀ x ∈ owner, -1 ≤ x ∧ x < waits.length) (h2 : ∀ x ∈ waits, -1 ≤ x.2 ∧ x.2 < waits.length)
    (hA : ∀ ad, Ao = some ad → ad.block < w.heap.size) (hW : ∀ ad, Aw = some ad → ad.block < w.heap.size) (t u : Int) :
    Calls Tryz.prog 60 #[.pointer (some ⟨gw, 0, none⟩), .int .i64 t, .int .i64 u] w fun e w' => e = .returned (.bool (closesM owner waits t u)) ∧ Kept [] w w' := by
  have HT := Lib.hid (fun W (hk : Kept [] w W) t => wbthread_any (h.old hk) t)
  have HW := Lib.hid (fun W (hk : Kept [] w W) t u fd bf bt hf ht (hge : w.heap.size ≤ bf) => wbwalk_cl (h.old hk) h1 h2 t u fd bf bt hf ht (fun ad e => by have := hA ad e; omega) (fun ad e => by have := hW ad e; omega))
  unfold closesM
  clear h h1 h2 hA hW
  by_cases ct : 0 ≤ t ∧ t < waits.length
  · have hd : decide (0 ≤ t ∧ t < (waits.length : Int)) = true := by simp; omega
    by_cases cu : 0 ≤ u ∧ u < waits.length
    · have hd2 : decide (0 ≤ u ∧ u < (waits.length : Int)) = true := by simp; omega
      rw [if_pos ⟨ct, cu⟩]
      have HT1 := Lib.hid (fun W hk => hd ▸ HT.out W hk t)
      have HT2 := Lib.hid (fun W hk => hd2 ▸ HT.out W hk u)
      clear HT hd hd2 ct cu
      unfold closesF
      generalize hR : walkF owner waits t u 65 (List.replicate 64 false) (nextW owner waits u) (t == u) = R
      have HRR := Lib.hid hR
      clear hR
      go_enter Tryz.func60, Tryz.ntmps60
      go_wp2_with fail
      refine (HT1.out _ (by (repeat (first | (with_reducible exact Kept.refl _ _) | (with_reducible assumption) | (with_reducible refine Kept.alloc ?_ _) | (with_reducible refine Kept.drew ?_) | (with_reducible refine Kept.drewN ?_ _) | (with_reducible refine Kept.setCell ?_ ?_ _) | (exact .inr (Nat.le_refl _)) | (exact .inr (by simp only; omega)) | (exact .inr (by omega)))))).mono ?_
      rintro e w1 ⟨rfl, rfl⟩
      go_wp2_with fail
      refine (HT2.out _ (by (repeat (first | (with_reducible exact Kept.refl _ _) | (with_reducible assumption) | (with_reducible refine Kept.alloc ?_ _) | (with_reducible refine Kept.drew ?_) | (with_reducible refine Kept.drewN ?_ _) | (with_reducible refine Kept.setCell ?_ ?_ _) | (exact .inr (Nat.le_refl _)) | (exact .inr (by simp only; omega)) | (exact .inr (by omega)))))).mono ?_
      rintro e w1 ⟨rfl, rfl⟩
      have HB1 := Lib.hid ((Blk.new w 3 #[.int .i64 t]).alloc (.cells #[.bool (t == u)] 4))
      have HB2 : Hid (Blk ((w.alloc (.cells #[.int .i64 t] 3)).alloc (.cells #[.bool (t == u)] 4)) (w.heap.size + 1) 4 #[.bool (t == u)]) := Blk.newAt (by simp) _ _
      go_wp2_with fail
      refine (HW.out _ (show Kept [] w _ by (repeat (first | (with_reducible exact Kept.refl _ _) | (with_reducible assumption) | (with_reducible refine Kept.alloc ?_ _) | (with_reducible refine Kept.drew ?_) | (with_reducible refine Kept.drewN ?_ _) | (with_reducible refine Kept.setCell ?_ ?_ _) | (exact .inr (Nat.le_refl _)) | (exact .inr (by simp only; omega)) | (exact .inr (by omega))))) t u (t == u) (w.heap.size + 1) w.heap.size HB2.out HB1.out (by omega)).mono ?_
      rintro e w2 ⟨b, rfl, hb, hk⟩
      rw [HRR.out] at hb
      have hc := hb.cell
      have hl := hb.lt
      have HK : Hid (Kept [] w w2) := Kept.trans' (show Kept [] w _ by (repeat (first | (with_reducible exact Kept.refl _ _) | (with_reducible assumption) | (with_reducible refine Kept.alloc ?_ _) | (with_reducible refine Kept.drew ?_) | (with_reducible refine Kept.drewN ?_ _) | (with_reducible refine Kept.setCell ?_ ?_ _) | (exact .inr (Nat.le_refl _)) | (exact .inr (by simp only; omega)) | (exact .inr (by omega))))) hk (fun q hq => .inr (by simp at hq; omega))
      clear hb hk
      go_wp2_with fail
      go_ret
      exact ⟨rfl, HK.out⟩
    · have hd2 : decide (0 ≤ u ∧ u < (waits.length : Int)) = false := by simp; omega
      rw [if_neg (fun h => cu h.2)]
      have HT1 := Lib.hid (fun W hk => hd ▸ HT.out W hk t)
      have HT2 := Lib.hid (fun W hk => hd2 ▸ HT.out W hk u)
      clear HT HW hd hd2 ct cu
      go_enter Tryz.func60, Tryz.ntmps60
      go_wp2_with fail
      refine (HT1.out _ (by (repeat (first | (with_reducible exact Kept.refl _ _) | (with_reducible assumption) | (with_reducible refine Kept.alloc ?_ _) | (with_reducible refine Kept.drew ?_) | (with_reducible refine Kept.drewN ?_ _) | (with_reducible refine Kept.setCell ?_ ?_ _) | (exact .inr (Nat.le_refl _)) | (exact .inr (by simp only; omega)) | (exact .inr (by omega)))))).mono ?_
      rintro e w1 ⟨rfl, rfl⟩
      go_wp2_with fail
      refine (HT2.out _ (by (repeat (first | (with_reducible exact Kept.refl _ _) | (with_reducible assumption) | (with_reducible refine Kept.alloc ?_ _) | (with_reducible refine Kept.drew ?_) | (with_reducible refine Kept.drewN ?_ _) | (with_reducible refine Kept.setCell ?_ ?_ _) | (exact .inr (Nat.le_refl _)) | (exact .inr (by simp only; omega)) | (exact .inr (by omega)))))).mono ?_
      rintro e w1 ⟨rfl, rfl⟩
      go_wp2_with fail
      go_ret
      exact ⟨rfl, by (repeat (first | (with_reducible exact Kept.refl _ _) | (with_reducible assumption) | (with_reducible refine Kept.alloc ?_ _) | (with_reducible refine Kept.drew ?_) | (with_reducible refine Kept.drewN ?_ _) | (with_reducible refine Kept.setCell ?_ ?_ _) | (exact .inr (Nat.le_refl _)) | (exact .inr (by simp only; omega)) | (exact .inr (by omega))))⟩
  · have hd : decide (0 ≤ t ∧ t < (waits.length : Int)) = false := by simp; omega
    rw [if_neg (fun h => ct h.1)]
    have HT1 := Lib.hid (fun W hk => hd ▸ HT.out W hk t)
    clear HT HW hd ct
    go_enter Tryz.func60, Tryz.ntmps60
    go_wp2_with fail
    refine (HT1.out _ (by (repeat (first | (with_reducible exact Kept.refl _ _) | (with_reducible assumption) | (with_reducible refine Kept.alloc ?_ _) | (with_reducible refine Kept.drew ?_) | (with_reducible refine Kept.drewN ?_ _) | (with_reducible refine Kept.setCell ?_ ?_ _) | (exact .inr (Nat.le_refl _)) | (exact .inr (by simp only; omega)) | (exact .inr (by omega)))))).mono ?_
    rintro e w1 ⟨rfl, rfl⟩
    go_wp2_with fail
    go_ret
    exact ⟨rfl, by (repeat (first | (with_reducible exact Kept.refl _ _) | (with_reducible assumption) | (with_reducible refine Kept.alloc ?_ _) | (with_reducible refine Kept.drew ?_) | (with_reducible refine Kept.drewN ?_ _) | (with_reducible refine Kept.setCell ?_ ?_ _) | (exact .inr (Nat.le_refl _)) | (exact .inr (by simp only; omega)) | (exact .inr (by omega))))⟩

end Go.Proofs.YtfoeijiejpenpaaGreatDoor

/- Package web: written, walked. -/
namespace Go.Proofs.YtfoeijiejpenpaaGreatDoor
open Go.RowKit

set_option maxHeartbeats 1600000 in
theorem wbOwn_ok {w : World} {gw bo : Nat} {co : Nat} {Aw : Option Addr} {cw : Nat} {owner : List Int} {waits : List (Int × Int)} (h : WebR w gw (some ⟨bo, 0, none⟩) co Aw cw owner waits) (hf : ∀ k, w.frozen? ⟨bo, k, none⟩ = false) (k : Nat) (hk : k < owner.length) (t : Int) (ht : t = -1 ∨ (0 ≤ t ∧ t < waits.length)) :
    Calls Tryz.prog 76 #[.pointer (some ⟨gw, 0, none⟩), .int .i64 k, .int .i64 t] w fun e w' => e = .returned (.bool true) ∧ w' = w.setCell ⟨bo, k, none⟩ (.int .i64 t) := by
  have HC := Lib.hid (wblock_any h k)
  have HT := Lib.hid (wbthread_any h t)
  have hd : decide (0 ≤ (k : Int) ∧ (k : Int) < (owner.length : Int)) = true := by simp; omega
  rw [hd] at HC
  have hc : w.cell? ⟨gw, 0, none⟩ = some (.slice (some ⟨bo, 0, none⟩) owner.length co) := h.blk.cell 0
  have hl := h.blk.lt
  obtain ⟨b, o, hbo, hb, hcell⟩ := h.rowO.addr (by omega) (by omega)
  injection hbo with hbo
  injection hbo with e1 e2
  subst e1 e2
  have hck : w.cell? ⟨bo, k, none⟩ = some (.int .i64 owner[k]) := by have := hcell k (I64 owner[k]) (by rw [List.getElem?_map, List.getElem?_eq_getElem hk]; rfl); rw [Nat.zero_add] at this; exact this
  have hfk := hf k
  have hi0 : (0 : Int) ≤ (k : Int) := by omega
  have hi1 : (k : Int) < (owner.length : Int) := by omega
  generalize owner[k] = x at *
  clear hcell hd hf
  rcases ht with rfl | ⟨h1, h2⟩
  · clear h HT
    generalize owner.length = n at *
    go_enter Tryz.func76, Tryz.ntmps76
    go_wp2_with fail
    refine (HC.out).mono ?_
    rintro e w1 ⟨rfl, rfl⟩
    go_wp2_with fail
    go_ret
    exact ⟨rfl, rfl⟩
  · have hd : decide (0 ≤ t ∧ t < (waits.length : Int)) = true := by simp; omega
    rw [hd] at HT
    have hb1 : (t == -1) = false := beq_eq_false_iff_ne.2 (by omega)
    clear h hd
    generalize owner.length = n at *
    go_enter Tryz.func76, Tryz.ntmps76
    go_wp2_with fail
    refine (HC.out).mono ?_
    rintro e w1 ⟨rfl, rfl⟩
    go_wp2_with fail
    refine (HT.out).mono ?_
    rintro e w1 ⟨rfl, rfl⟩
    go_wp2_with fail
    go_ret
    exact ⟨rfl, rfl⟩

set_option maxHeartbeats 3200000 in
theorem wbwait_ok {w : World} {gw bw : Nat} {Ao : Option Addr} {co cw : Nat} {owner : List Int} {waits : List (Int × Int)} (h : WebR w gw Ao co (some ⟨bw, 0, none⟩) cw owner waits) (hf : ∀ k, w.frozen? ⟨bw, k, none⟩ = false) (hne : gw ≠ bw) (k : Nat) (hk : k < waits.length) (a b : Int) :
    Calls Tryz.prog 90 #[.pointer (some ⟨gw, 0, none⟩), .int .i64 k, .agg #[.int .i64 a, .int .i64 b], .bool true] w fun e w' => e = .returned (.bool true) ∧ ∃ W, Kept [] w W ∧ Kept [] ((W.setCell ⟨bw, k * 2, none⟩ (.int .i64 a)).setCell ⟨bw, k * 2 + 1, none⟩ (.int .i64 b)) w' := by
  have HT := Lib.hid (fun W (hk : Kept [] w W) => wbthread_any (h.old hk) k)
  have hd : decide (0 ≤ (k : Int) ∧ (k : Int) < (waits.length : Int)) = true := by simp; omega
  rw [hd] at HT
  have hc : w.cell? ⟨gw, 1, none⟩ = some (.slice (some ⟨bw, 0, none⟩) waits.length cw) := h.blk.cell 1
  have hl := h.blk.lt
  obtain ⟨b0, o, hbo, hb, hcell⟩ := Reads.cellsK wL 2 wL_len h.rowW (by omega) (by omega)
  injection hbo with hbo
  injection hbo with e1 e2
  subst e1 e2
  have hck : w.cell? ⟨bw, k * 2, none⟩ = some (.int .i64 waits[k].1) := by have := hcell k _ (List.getElem?_eq_getElem hk) 0 (by omega); rw [Nat.zero_add] at this; exact this
  have hck1 : w.cell? ⟨bw, k * 2 + 1, none⟩ = some (.int .i64 waits[k].2) := by have := hcell k _ (List.getElem?_eq_getElem hk) 1 (by omega); rw [Nat.zero_add] at this; exact this
  have hf0 := hf (k * 2)
  have hf1 := hf (k * 2 + 1)
  have hi0 : (0 : Int) ≤ (k : Int) := by omega
  have hi1 : (k : Int) < (waits.length : Int) := by omega
  have hne2 : bw ≠ gw := fun h => hne h.symm
  have hn1 : gw ≠ w.heap.size := by omega
  have hn2 : w.heap.size ≠ gw := by omega
  have hn3 : bw ≠ w.heap.size := by omega
  have hn4 : w.heap.size ≠ bw := by omega
  generalize waits[k] = x at *
  clear hcell hd hf h
  generalize waits.length = n at *
  go_enter Tryz.func90, Tryz.ntmps90
  go_wp2_with fail
  refine (HT.out _ (by (repeat (first | (with_reducible exact Kept.refl _ _) | (with_reducible assumption) | (with_reducible refine Kept.alloc ?_ _) | (with_reducible refine Kept.drew ?_) | (with_reducible refine Kept.drewN ?_ _) | (with_reducible refine Kept.setCell ?_ ?_ _) | (exact .inr (Nat.le_refl _)) | (exact .inr (by simp only; omega)) | (exact .inr (by omega)))))).mono ?_
  rintro e w1 ⟨rfl, rfl⟩
  have hx := (Blk.new w 85 #[.int .i64 a, .int .i64 b])
  have hkW : Kept [] w (w.alloc (.cells #[.int .i64 a, .int .i64 b] 85)) := (Kept.refl _ _).alloc _
  have hx0 : (w.alloc (.cells #[.int .i64 a, .int .i64 b] 85)).cell? ⟨w.heap.size, 0, none⟩ = some (.int .i64 a) := hx.cell 0
  have hx1 : (w.alloc (.cells #[.int .i64 a, .int .i64 b] 85)).cell? ⟨w.heap.size, 1, none⟩ = some (.int .i64 b) := hx.cell 1
  have hxf := hx.frozen
  have hxl := hx.lt
  have hc2 := hkW.cell_some hc (by simp)
  have hck2 := hkW.cell_some hck (by simp)
  have hck12 := hkW.cell_some hck1 (by simp)
  have hf02 := (hkW.frozen (p := ⟨bw, k * 2, none⟩) hb (by simp)).trans hf0
  have hf12 := (hkW.frozen (p := ⟨bw, k * 2 + 1, none⟩) hb (by simp)).trans hf1
  have hl2 : gw < (w.alloc (.cells #[.int .i64 a, .int .i64 b] 85)).heap.size := Nat.lt_of_lt_of_le hl hkW.size
  have hb2 : bw < (w.alloc (.cells #[.int .i64 a, .int .i64 b] 85)).heap.size := Nat.lt_of_lt_of_le hb hkW.size
  have HKW := Lib.hid hkW
  clear hx hkW hc hck hck1 hf0 hf1 HT
  go_upto_region 3 with fail
  generalize w.alloc (.cells #[.int .i64 a, .int .i64 b] 85) = W at *
  go_region_held3 (fun w' => w'.cell? ⟨gw, 1, none⟩ = some (.slice (some ⟨bw, 0, none⟩) n cw) ∧ w'.cell? ⟨w.heap.size, 0, none⟩ = some (.int .i64 a) ∧ w'.cell? ⟨w.heap.size, 1, none⟩ = some (.int .i64 b)) (go_keep) (fail)
  all_goals
    go_wp2_with fail
    go_ret
    exact ⟨rfl, W, HKW.out, by first | exact Kept.refl _ _ | exact (Kept.refl _ _).drew⟩

/-- What a thread waits for is stored. -/
theorem waits_stored {w w' : World} {bw n c : Nat} {waits : List (Int × Int)} (hr : w.ownsRow 0 85 2 (.slice (some ⟨bw, 0, none⟩) n c) n (waits.flatMap wL)) (k : Nat) (hk : k < waits.length) (a b : Int)
    (h : ∃ W, Kept [] w W ∧ Kept [] ((W.setCell ⟨bw, k * 2, none⟩ (.int .i64 a)).setCell ⟨bw, k * 2 + 1, none⟩ (.int .i64 b)) w') : w'.ownsRow 0 85 2 (.slice (some ⟨bw, 0, none⟩) n c) n ((waits.set k (a, b)).flatMap wL) ∧ Kept [bw] w w' := by
  obtain ⟨W, h1, h2⟩ := h
  have hr1 := own_kept hr h1 (by simp)
  have hr2 := (hr1.stored (k * 2) (.int .i64 a)).1
  have hr3 := (hr2.stored (k * 2 + 1) (.int .i64 b)).1
  have he : ((waits.flatMap wL).set (k * 2) (.int .i64 a)).set (k * 2 + 1) (.int .i64 b) = (waits.set k (a, b)).flatMap wL := by
    clear hr hr1 hr2 hr3 h1 h2
    induction waits generalizing k with
    | nil => simp at hk
    | cons x t ih =>
      cases k with
      | zero => simp [wL, I64]
      | succ k =>
        have := ih k (by simpa using hk)
        rw [show (k + 1) * 2 = k * 2 + 1 + 1 by omega, List.flatMap_cons, List.set_cons_succ, List.flatMap_cons, ← this]
        simp [wL]
  rw [he] at hr3
  refine ⟨own_kept hr3 h2 (by simp), ?_⟩
  exact (((h1.mono (by simp)).setCell (.inl (by simp)) _).setCell (.inl (by simp)) _).trans (h2.mono (by simp))

end Go.Proofs.YtfoeijiejpenpaaGreatDoor

