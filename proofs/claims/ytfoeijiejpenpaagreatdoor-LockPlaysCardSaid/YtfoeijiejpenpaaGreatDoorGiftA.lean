/- Package gift: a graph's numbers, walked; Package gift: filled and due, walked; Package gift: Worse's function, road and Worse, walked; Package gift: road with Worse's function, and Worse, walked. -/
import Derived.Test.YtfoeijiejpenpaaGreatDoorLkT
import Derived.Test.YtfoeijiejpenpaaGreatDoorRegion
import Derived.Test.YtfoeijiejpenpaaGreatDoorSets1
import Derived.Deep.LoopGhost
import Derived.WalkMore

/- Package gift: a graph's numbers, walked. -/
namespace Go.Proofs.YtfoeijiejpenpaaGreatDoor
open Go.RowKit

/-- A graph, read. -/
structure GrR (w : World) (AV : Option Addr) (cV : Nat) (AW : Option Addr) (cW : Nat) (AO : Option Addr) (cO : Nat) (owner level : List Int) (waits : List (Int × Int)) : Prop where
  rowV : Reads w 1 AV level.length (level.map I64)
  rowW : Reads w 1 AW waits.length (waits.map fun x : Int × Int => I64 x.1)
  rowO : Reads w 1 AO owner.length (owner.map I64)
  len : level.length = waits.length
  nt : waits.length ≤ 64
  nl : owner.length ≤ 64
  owners : ∀ x ∈ owner, -1 ≤ x ∧ x < waits.length
  wls : ∀ x ∈ waits, -1 ≤ x.1 ∧ x.1 < owner.length
  levels : ∀ x ∈ level, 0 ≤ x ∧ x ≤ 7
theorem GrR.kept {w w' : World} {G : List Nat} {AV : Option Addr} {cV : Nat} {AW : Option Addr} {cW : Nat} {AO : Option Addr} {cO : Nat} {owner level : List Int} {waits : List (Int × Int)} (h : GrR w AV cV AW cW AO cO owner level waits) (hk : Kept G w w') (hV : ∀ ad, AV = some ad → ad.block ∉ G) (hW : ∀ ad, AW = some ad → ad.block ∉ G) (hO : ∀ ad, AO = some ad → ad.block ∉ G) : GrR w' AV cV AW cW AO cO owner level waits :=
  ⟨h.rowV.kept hk hV, h.rowW.kept hk hW, h.rowO.kept hk hO, h.len, h.nt, h.nl, h.owners, h.wls, h.levels⟩
theorem GrR.old {w w' : World} {AV : Option Addr} {cV : Nat} {AW : Option Addr} {cW : Nat} {AO : Option Addr} {cO : Nat} {owner level : List Int} {waits : List (Int × Int)} (h : GrR w AV cV AW cW AO cO owner level waits) (hk : Kept [] w w') : GrR w' AV cV AW cW AO cO owner level waits := h.kept hk (by simp) (by simp) (by simp)

set_option maxHeartbeats 1600000 in
theorem gfthreads_any (AV AW AO : Option Addr) (n cV m cW q cO : Nat) (w : World) (hn : n ≤ 64) : Calls Tryz.prog 116 #[.agg #[.slice AV n cV, .slice AW m cW, .slice AO q cO]] w fun e w' => e = .returned (.int .i64 n) ∧ Kept [] w w' := by
  have hm : min (n : Int) 64 = (n : Int) := by omega
  go_enter Tryz.func116, Tryz.ntmps116
  go_wp2
  go_ret
  exact ⟨by simp [hm], by (repeat (first | (with_reducible exact Kept.refl _ _) | (with_reducible assumption) | (with_reducible refine Kept.alloc ?_ _) | (with_reducible refine Kept.drew ?_) | (with_reducible refine Kept.drewN ?_ _) | (with_reducible refine Kept.setCell ?_ ?_ _) | (exact .inr (Nat.le_refl _)) | (exact .inr (by simp only; omega)) | (exact .inr (by omega))))⟩
set_option maxHeartbeats 1600000 in
theorem gfthread_any (AV AW AO : Option Addr) (n cV m cW q cO : Nat) (t : Int) (w : World) (hn : n ≤ 64) : Calls Tryz.prog 117 #[.agg #[.slice AV n cV, .slice AW m cW, .slice AO q cO], .int .i64 t] w fun e w' => e = .returned (.bool (decide (0 ≤ t ∧ t < n))) ∧ Kept [] w w' := by
  have HC := Lib.hid (fun w => gfthreads_any AV AW AO n cV m cW q cO w hn)
  rcases (by omega : t < 0 ∨ (0 ≤ t ∧ t < (n : Int)) ∨ (0 ≤ t ∧ ¬ t < (n : Int))) with h1 | ⟨h1, h2⟩ | ⟨h1, h2⟩
  · have hd : decide (0 ≤ t ∧ t < (n : Int)) = false := by simp; omega
    rw [hd]
    have h3 : ¬ 0 ≤ t := by omega
    clear hd
    go_enter Tryz.func117, Tryz.ntmps117
    go_wp2
    go_ret
    exact ⟨rfl, by (repeat (first | (with_reducible exact Kept.refl _ _) | (with_reducible assumption) | (with_reducible refine Kept.alloc ?_ _) | (with_reducible refine Kept.drew ?_) | (with_reducible refine Kept.drewN ?_ _) | (with_reducible refine Kept.setCell ?_ ?_ _) | (exact .inr (Nat.le_refl _)) | (exact .inr (by simp only; omega)) | (exact .inr (by omega))))⟩
  · have hd : decide (0 ≤ t ∧ t < (n : Int)) = true := by simp; omega
    rw [hd]
    clear hd
    go_enter Tryz.func117, Tryz.ntmps117
    go_wp2_with fail
    refine (HC.out _).mono ?_
    rintro e w1 ⟨rfl, hk⟩
    have HK : Hid (Kept [] w w1) := (show Kept [] w _ by (repeat (first | (with_reducible exact Kept.refl _ _) | (with_reducible assumption) | (with_reducible refine Kept.alloc ?_ _) | (with_reducible refine Kept.drew ?_) | (with_reducible refine Kept.drewN ?_ _) | (with_reducible refine Kept.setCell ?_ ?_ _) | (exact .inr (Nat.le_refl _)) | (exact .inr (by simp only; omega)) | (exact .inr (by omega))))).trans hk
    clear hk
    go_wp2_with fail
    go_ret
    exact ⟨rfl, HK.out⟩
  · have hd : decide (0 ≤ t ∧ t < (n : Int)) = false := by simp; omega
    rw [hd]
    clear hd
    go_enter Tryz.func117, Tryz.ntmps117
    go_wp2_with fail
    refine (HC.out _).mono ?_
    rintro e w1 ⟨rfl, hk⟩
    have HK : Hid (Kept [] w w1) := (show Kept [] w _ by (repeat (first | (with_reducible exact Kept.refl _ _) | (with_reducible assumption) | (with_reducible refine Kept.alloc ?_ _) | (with_reducible refine Kept.drew ?_) | (with_reducible refine Kept.drewN ?_ _) | (with_reducible refine Kept.setCell ?_ ?_ _) | (exact .inr (Nat.le_refl _)) | (exact .inr (by simp only; omega)) | (exact .inr (by omega))))).trans hk
    clear hk
    go_wp2_with fail
    go_ret
    exact ⟨by show Ending.returned (.bool (decide (t < (n : Int)))) = _; rw [decide_eq_false (show ¬ t < (n : Int) by omega)], HK.out⟩
set_option maxHeartbeats 1600000 in
theorem gflevel_any {w : World} {AV : Option Addr} {cV : Nat} {AW : Option Addr} {cW : Nat} {AO : Option Addr} {cO : Nat} {owner level : List Int} {waits : List (Int × Int)} (h : GrR w AV cV AW cW AO cO owner level waits) (k : Nat) (hk : k < level.length) :
    Calls Tryz.prog 119 #[.agg #[.slice AV level.length cV, .slice AW waits.length cW, .slice AO owner.length cO], .int .i64 k] w fun e w' => e = .returned (.int .i64 (level[k])) ∧ Kept [] w w' := by
  have HC := Lib.hid (fun l w => hold_any l w)
  obtain ⟨b, o, rfl, hb, hcell⟩ := h.rowV.addr (by omega) (by omega)
  have hck : w.cell? ⟨b, o + k, none⟩ = some (.int .i64 level[k]) := hcell k (I64 level[k]) (by rw [List.getElem?_map, List.getElem?_eq_getElem hk]; rfl)
  have hlv := h.levels level[k] (List.getElem_mem hk)
  have hi0 : (0 : Int) ≤ (k : Int) := by omega
  have hi1 : (k : Int) < (level.length : Int) := by omega
  have hh : holdL level[k] = level[k] := by unfold holdL; rw [if_neg (by omega), if_neg (by omega)]
  have HHL := Lib.hid hh
  generalize level[k] = x at *
  clear h hcell hh
  generalize level.length = n at *
  go_enter Tryz.func119, Tryz.ntmps119
  go_wp2_with fail
  refine (HC.out _ _).mono ?_
  rintro e w1 ⟨rfl, rfl⟩
  go_wp2_with fail
  go_ret
  exact ⟨by rw [HHL.out]; rfl, by (repeat (first | (with_reducible exact Kept.refl _ _) | (with_reducible assumption) | (with_reducible refine Kept.alloc ?_ _) | (with_reducible refine Kept.drew ?_) | (with_reducible refine Kept.drewN ?_ _) | (with_reducible refine Kept.setCell ?_ ?_ _) | (exact .inr (Nat.le_refl _)) | (exact .inr (by simp only; omega)) | (exact .inr (by omega))))⟩

/-- Whose lock a thread waits for. -/
def nextG (owner : List Int) (waits : List (Int × Int)) (t : Int) : Int := if (getW waits t).1 = -1 then -1 else getO owner (getW waits t).1
attribute [local go_sem] undef
set_option maxHeartbeats 3200000 in
theorem gfnext_any {w : World} {AV : Option Addr} {cV : Nat} {AW : Option Addr} {cW : Nat} {AO : Option Addr} {cO : Nat} {owner level : List Int} {waits : List (Int × Int)} (h : GrR w AV cV AW cW AO cO owner level waits) (k : Nat) (hk : k < waits.length) :
    Calls Tryz.prog 118 #[.agg #[.slice AV level.length cV, .slice AW waits.length cW, .slice AO owner.length cO], .int .i64 k] w fun e w' => e = .returned (.int .i64 (nextG owner waits k)) ∧ Kept [] w w' := by
  have HC := Lib.hid (fun t w => gfthread_any AV AW AO level.length cV waits.length cW owner.length cO t w (by have := h.len; have := h.nt; omega))
  have hlen := h.len
  have hnl := h.nl
  obtain ⟨b, o, rfl, hb, hcell⟩ := h.rowW.addr (by omega) (by omega)
  have hck : w.cell? ⟨b, o + k, none⟩ = some (.int .i64 waits[k].1) := hcell k (I64 waits[k].1) (by rw [List.getElem?_map, List.getElem?_eq_getElem hk]; rfl)
  have hwl := h.wls waits[k] (List.getElem_mem hk)
  have hi0 : (0 : Int) ≤ (k : Int) := by omega
  have hi1 : (k : Int) < (waits.length : Int) := by omega
  have hi2 : ¬ (waits.length : Int) ≤ (k : Int) := by omega
  unfold nextG
  rw [getW_in hk]
  generalize waits[k].1 = l at *
  clear hcell
  by_cases h1 : l = -1
  · subst h1
    rw [if_pos rfl]
    clear h HC
    generalize waits.length = n at *
    go_enter Tryz.func118, Tryz.ntmps118
    go_wp2_with fail
    refine wp_region_held_drew (S := fun _ => True) (by kernel_rfl) trivial (fun hHeld => ?_)
    (refine rtake_0 (v := ?_) (by kernel_rfl) (by kernel_rfl) (by kernel_rfl) (fun _ _ _ h => h) (Or.inl ⟨by rfl, ?_⟩) (by assumption) ?_; rotate_left; focus ((intro w hSw; (try dsimp only at hSw); go_simp); try (with_reducible rfl)); (try simp only [Act.put, List.setIfInBounds_toArray, List.set_cons_zero, List.set_cons_succ]))
    (try simp only [Act.put, List.setIfInBounds_toArray, List.set_cons_zero, List.set_cons_succ])
    (refine rtake_1 (v := ?_) (by kernel_rfl) (by kernel_rfl) (by kernel_rfl) (fun _ _ _ h => h) (Or.inl ⟨by rfl, ?_⟩) (by assumption) ?_; rotate_left; focus ((intro w hSw; (try dsimp only at hSw); go_simp); try (with_reducible rfl)); (try simp only [Act.put, List.setIfInBounds_toArray, List.set_cons_zero, List.set_cons_succ]))
    (try simp only [Act.put, List.setIfInBounds_toArray, List.set_cons_zero, List.set_cons_succ])
    (refine rtake_2 (v := ?_) (by kernel_rfl) (by kernel_rfl) (by kernel_rfl) (fun _ _ _ h => h) (Or.inl ⟨by rfl, ?_⟩) (by assumption) ?_; rotate_left; focus ((intro w hSw; (try dsimp only at hSw); go_simp); try (with_reducible rfl)); (try simp only [Act.put, List.setIfInBounds_toArray, List.set_cons_zero, List.set_cons_succ]))
    (try simp only [Act.put, List.setIfInBounds_toArray, List.set_cons_zero, List.set_cons_succ])
    (refine rtake_3 (v := undef) (by kernel_rfl) (by kernel_rfl) (by kernel_rfl) (fun _ _ _ h => h) (Or.inr ⟨by rfl, rfl⟩) (by assumption) ?_; (try simp only [Act.put, List.setIfInBounds_toArray, List.set_cons_zero, List.set_cons_succ]))
    (refine rtake_4 (v := undef) (by kernel_rfl) (by kernel_rfl) (by kernel_rfl) (fun _ _ _ h => h) (Or.inr ⟨by rfl, rfl⟩) (by assumption) ?_; (try simp only [Act.put, List.setIfInBounds_toArray, List.set_cons_zero, List.set_cons_succ]))
    (refine rtake_5 (v := undef) (by kernel_rfl) (by kernel_rfl) (by kernel_rfl) (fun _ _ _ h => h) (Or.inr ⟨by rfl, rfl⟩) (by assumption) ?_; (try simp only [Act.put, List.setIfInBounds_toArray, List.set_cons_zero, List.set_cons_succ]))
    (refine rtake_6 (v := undef) (by kernel_rfl) (by kernel_rfl) (by kernel_rfl) (fun _ _ _ h => h) (Or.inr ⟨by rfl, rfl⟩) (by assumption) ?_; (try simp only [Act.put, List.setIfInBounds_toArray, List.set_cons_zero, List.set_cons_succ]))
    (refine rtake_7 (v := undef) (by kernel_rfl) (by kernel_rfl) (by kernel_rfl) (fun _ _ _ h => h) (Or.inr ⟨by rfl, rfl⟩) (by assumption) ?_; (try simp only [Act.put, List.setIfInBounds_toArray, List.set_cons_zero, List.set_cons_succ]))
    (refine rtake_8 (v := undef) (by kernel_rfl) (by kernel_rfl) (by kernel_rfl) (fun _ _ _ h => h) (Or.inr ⟨by rfl, rfl⟩) (by assumption) ?_; (try simp only [Act.put, List.setIfInBounds_toArray, List.set_cons_zero, List.set_cons_succ]))
    (refine rtake_9 (v := ?_) (by kernel_rfl) (by kernel_rfl) (by kernel_rfl) (fun _ _ _ h => h) (Or.inl ⟨by rfl, ?_⟩) (by assumption) ?_; rotate_left; focus ((intro w hSw; (try dsimp only at hSw); go_simp); try (with_reducible rfl)); (try simp only [Act.put, List.setIfInBounds_toArray, List.set_cons_zero, List.set_cons_succ]))
    (try simp only [Act.put, List.setIfInBounds_toArray, List.set_cons_zero, List.set_cons_succ])
    (refine rtake_10 (v := ?_) (by kernel_rfl) (by kernel_rfl) (by kernel_rfl) (fun _ _ _ h => h) (Or.inl ⟨by rfl, ?_⟩) (by assumption) ?_; rotate_left; focus ((intro w hSw; (try dsimp only at hSw); go_simp); try (with_reducible rfl)); (try simp only [Act.put, List.setIfInBounds_toArray, List.set_cons_zero, List.set_cons_succ]))
    (try simp only [Act.put, List.setIfInBounds_toArray, List.set_cons_zero, List.set_cons_succ])
    (refine rtake_11 (v := undef) (by kernel_rfl) (by kernel_rfl) (by kernel_rfl) (fun _ _ _ h => h) (Or.inr ⟨by rfl, rfl⟩) (by assumption) ?_; (try simp only [Act.put, List.setIfInBounds_toArray, List.set_cons_zero, List.set_cons_succ]))
    (refine rtake_12 (v := undef) (by kernel_rfl) (by kernel_rfl) (by kernel_rfl) (fun _ _ _ h => h) (Or.inr ⟨by rfl, rfl⟩) (by assumption) ?_; (try simp only [Act.put, List.setIfInBounds_toArray, List.set_cons_zero, List.set_cons_succ]))
    (refine rtake_13 (v := undef) (by kernel_rfl) (by kernel_rfl) (by kernel_rfl) (fun _ _ _ h => h) (Or.inr ⟨by rfl, rfl⟩) (by assumption) ?_; (try simp only [Act.put, List.setIfInBounds_toArray, List.set_cons_zero, List.set_cons_succ]))
    (refine rtake_14 (v := undef) (by kernel_rfl) (by kernel_rfl) (by kernel_rfl) (fun _ _ _ h => h) (Or.inr ⟨by rfl, rfl⟩) (by assumption) ?_; (try simp only [Act.put, List.setIfInBounds_toArray, List.set_cons_zero, List.set_cons_succ]))
    (refine rtake_15 (v := undef) (by kernel_rfl) (by kernel_rfl) (by kernel_rfl) (fun _ _ _ h => h) (Or.inr ⟨by rfl, rfl⟩) (by assumption) ?_; (try simp only [Act.put, List.setIfInBounds_toArray, List.set_cons_zero, List.set_cons_succ]))
    (refine rtake_16 (v := undef) (by kernel_rfl) (by kernel_rfl) (by kernel_rfl) (fun _ _ _ h => h) (Or.inr ⟨by rfl, rfl⟩) (by assumption) ?_; (try simp only [Act.put, List.setIfInBounds_toArray, List.set_cons_zero, List.set_cons_succ]))
    (refine rtake_17 (v := undef) (by kernel_rfl) (by kernel_rfl) (by kernel_rfl) (fun _ _ _ h => h) (Or.inr ⟨by rfl, rfl⟩) (by assumption) ?_; (try simp only [Act.put, List.setIfInBounds_toArray, List.set_cons_zero, List.set_cons_succ]))
    (refine rtake_18 (v := undef) (by kernel_rfl) (by kernel_rfl) (by kernel_rfl) (fun _ _ _ h => h) (Or.inr ⟨by rfl, rfl⟩) (by assumption) ?_; (try simp only [Act.put, List.setIfInBounds_toArray, List.set_cons_zero, List.set_cons_succ]))
    (refine rtake_19 (v := ?_) (by kernel_rfl) (by kernel_rfl) (by kernel_rfl) (fun _ _ _ h => h) (Or.inl ⟨by rfl, ?_⟩) (by assumption) ?_; rotate_left; focus ((intro w hSw; (try dsimp only at hSw); go_simp); try (with_reducible rfl)); (try simp only [Act.put, List.setIfInBounds_toArray, List.set_cons_zero, List.set_cons_succ]))
    (try simp only [Act.put, List.setIfInBounds_toArray, List.set_cons_zero, List.set_cons_succ])
    refine wpAnyH_done (by kernel_rfl) ?_ _
    go_wp2_with fail
    go_ret
    exact ⟨rfl, by (repeat (first | (with_reducible exact Kept.refl _ _) | (with_reducible assumption) | (with_reducible refine Kept.alloc ?_ _) | (with_reducible refine Kept.drew ?_) | (with_reducible refine Kept.drewN ?_ _) | (with_reducible refine Kept.setCell ?_ ?_ _) | (exact .inr (Nat.le_refl _)) | (exact .inr (by simp only; omega)) | (exact .inr (by omega))))⟩
  · rw [if_neg h1]
    obtain ⟨q, rfl⟩ : ∃ q : Nat, l = q := ⟨l.toNat, by omega⟩
    have hq : q < owner.length := by omega
    rw [getO_in hq]
    obtain ⟨bo, oo, rfl, hbo, hcello⟩ := h.rowO.addr (by omega) (by omega)
    have hcq : w.cell? ⟨bo, oo + q, none⟩ = some (.int .i64 owner[q]) := hcello q (I64 owner[q]) (by rw [List.getElem?_map, List.getElem?_eq_getElem hq]; rfl)
    have hov := h.owners owner[q] (List.getElem_mem hq)
    generalize owner[q] = u at *
    have hq0 : (0 : Int) ≤ (q : Int) := by omega
    have hq1 : (q : Int) < (owner.length : Int) := by omega
    have hq2 : ¬ (q : Int) < 0 := by omega
    have hm64 : ¬ (64 : Int) < (owner.length : Int) := by omega
    have hqd : decide ((q : Int) < 0) = false := by simp
    have hdec : decide ((owner.length : Int) ≤ (q : Int)) = false := by simp; omega
    have hq3 : ¬ (owner.length : Int) ≤ (q : Int) := by omega
    have HCU := Lib.hid (fun w => HC.out u w)
    have HBX := Lib.hid (Blk.new w 45 #[.slice AV level.length cV, .slice (some ⟨b, o, none⟩) waits.length cW, .slice (some ⟨bo, oo, none⟩) owner.length cO])
    have HCQ := Lib.hid hcq
    clear h hcello h1 HC
    rw [hlen] at HCU HBX ⊢
    generalize waits.length = n at *
    generalize owner.length = m at *
    by_cases hu : u = -1
    · subst hu
      have hd : decide (0 ≤ (-1 : Int) ∧ (-1 : Int) < (n : Int)) = false := by simp
      rw [hd] at HCU
      clear hd hlen
      go_enter Tryz.func118, Tryz.ntmps118
      go_wp2_with fail
      have hmix : Tryz.prog.follows .mixedOrders = true := by kernel_rfl
      refine wp_region_held_drew (S := fun w' => (∀ i, w'.cell? ⟨w.heap.size, i, none⟩ = #[.slice AV n cV, .slice (some ⟨b, o, none⟩) n cW, .slice (some ⟨bo, oo, none⟩) m cO][i]?) ∧ w'.cell? ⟨bo, oo + q, none⟩ = some (.int .i64 (-1))) hmix ⟨HBX.out.drew.cell, (show Kept [] w _ by (repeat (first | (with_reducible exact Kept.refl _ _) | (with_reducible assumption) | (with_reducible refine Kept.alloc ?_ _) | (with_reducible refine Kept.drew ?_) | (with_reducible refine Kept.drewN ?_ _) | (with_reducible refine Kept.setCell ?_ ?_ _) | (exact .inr (Nat.le_refl _)) | (exact .inr (by simp only; omega)) | (exact .inr (by omega))))).cell_some HCQ.out (by simp)⟩ (fun hHeld => ?_)
      (refine rtake_0 (v := ?_) (by kernel_rfl) (by kernel_rfl) (by kernel_rfl) (fun _ _ _ h => h) (Or.inl ⟨by rfl, ?_⟩) (by assumption) ?_; rotate_left; focus ((intro w hSw; (try dsimp only at hSw); go_simp); try (with_reducible rfl)); (try simp only [Act.put, List.setIfInBounds_toArray, List.set_cons_zero, List.set_cons_succ]))
      (try simp only [Act.put, List.setIfInBounds_toArray, List.set_cons_zero, List.set_cons_succ])
      (refine rtake_1 (v := ?_) (by kernel_rfl) (by kernel_rfl) (by kernel_rfl) (fun _ _ _ h => h) (Or.inl ⟨by rfl, ?_⟩) (by assumption) ?_; rotate_left; focus ((intro w hSw; (try dsimp only at hSw); go_simp); try (with_reducible rfl)); (try simp only [Act.put, List.setIfInBounds_toArray, List.set_cons_zero, List.set_cons_succ]))
      (try simp only [Act.put, List.setIfInBounds_toArray, List.set_cons_zero, List.set_cons_succ])
      (refine rtake_2 (v := ?_) (by kernel_rfl) (by kernel_rfl) (by kernel_rfl) (fun _ _ _ h => h) (Or.inl ⟨by rfl, ?_⟩) (by assumption) ?_; rotate_left; focus ((intro w hSw; (try dsimp only at hSw); go_simp); try (with_reducible rfl)); (try simp only [Act.put, List.setIfInBounds_toArray, List.set_cons_zero, List.set_cons_succ]))
      (try simp only [show ((q : Int) < 0) = False from eq_false (by omega), decide_false])
      (try simp only [Act.put, List.setIfInBounds_toArray, List.set_cons_zero, List.set_cons_succ])
      (refine rtake_3 (v := ?_) (by kernel_rfl) (by kernel_rfl) (by kernel_rfl) (fun _ _ _ h => h) (Or.inl ⟨by rfl, ?_⟩) (by assumption) ?_; rotate_left; focus ((intro w hSw; (try dsimp only at hSw); go_simp); try (with_reducible rfl)); (try simp only [Act.put, List.setIfInBounds_toArray, List.set_cons_zero, List.set_cons_succ]))
      (try simp only [Act.put, List.setIfInBounds_toArray, List.set_cons_zero, List.set_cons_succ])
      (refine rtake_4 (v := ?_) (by kernel_rfl) (by kernel_rfl) (by kernel_rfl) (fun _ _ _ h => h) (Or.inl ⟨by rfl, ?_⟩) (by assumption) ?_; rotate_left; focus ((intro w hSw; (try dsimp only at hSw); go_simp); try (with_reducible rfl)); (try simp only [Act.put, List.setIfInBounds_toArray, List.set_cons_zero, List.set_cons_succ]))
      (try simp only [Act.put, List.setIfInBounds_toArray, List.set_cons_zero, List.set_cons_succ])
      (refine rtake_5 (v := ?_) (by kernel_rfl) (by kernel_rfl) (by kernel_rfl) (fun _ _ _ h => h) (Or.inl ⟨by rfl, ?_⟩) (by assumption) ?_; rotate_left; focus ((intro w hSw; (try dsimp only at hSw); go_simp); try (with_reducible rfl)); (try simp only [Act.put, List.setIfInBounds_toArray, List.set_cons_zero, List.set_cons_succ]))
      (try simp only [Act.put, List.setIfInBounds_toArray, List.set_cons_zero, List.set_cons_succ])
      (refine rtake_6 (v := ?_) (by kernel_rfl) (by kernel_rfl) (by kernel_rfl) (fun _ _ _ h => h) (Or.inl ⟨by rfl, ?_⟩) (by assumption) ?_; rotate_left; focus ((intro w hSw; (try dsimp only at hSw); go_simp); try (with_reducible rfl)); (try simp only [Act.put, List.setIfInBounds_toArray, List.set_cons_zero, List.set_cons_succ]))
      (try simp only [Act.put, List.setIfInBounds_toArray, List.set_cons_zero, List.set_cons_succ])
      (refine rtake_7 (v := ?_) (by kernel_rfl) (by kernel_rfl) (by kernel_rfl) (fun _ _ _ h => h) (Or.inl ⟨by rfl, ?_⟩) (by assumption) ?_; rotate_left; focus ((intro w hSw; (try dsimp only at hSw); go_simp); try (with_reducible rfl)); (try simp only [Act.put, List.setIfInBounds_toArray, List.set_cons_zero, List.set_cons_succ]))
      (try simp only [Act.put, List.setIfInBounds_toArray, List.set_cons_zero, List.set_cons_succ])
      simp only [if_neg (show ¬ (64 : Int) < (m : Int) by omega)]
      (refine rtake_8 (v := ?_) (by kernel_rfl) (by kernel_rfl) (by kernel_rfl) (fun _ _ _ h => h) (Or.inl ⟨by rfl, ?_⟩) (by assumption) ?_; rotate_left; focus ((intro w hSw; (try dsimp only at hSw); go_simp); try (with_reducible rfl)); (try simp only [Act.put, List.setIfInBounds_toArray, List.set_cons_zero, List.set_cons_succ]))
      (try simp only [decide_eq_false (show ¬ (m : Int) ≤ (q : Int) by omega)])
      (try simp only [decide_eq_false (show ¬ m ≤ q by omega)])
      (try simp only [Act.put, List.setIfInBounds_toArray, List.set_cons_zero, List.set_cons_succ])
      (refine rtake_9 (v := ?_) (by kernel_rfl) (by kernel_rfl) (by kernel_rfl) (fun _ _ _ h => h) (Or.inl ⟨by rfl, ?_⟩) (by assumption) ?_; rotate_left; focus ((intro w hSw; (try dsimp only at hSw); go_simp); try (with_reducible rfl)); (try simp only [Act.put, List.setIfInBounds_toArray, List.set_cons_zero, List.set_cons_succ]))
      (try simp only [Act.put, List.setIfInBounds_toArray, List.set_cons_zero, List.set_cons_succ])
      (refine rtake_10 (v := ?_) (by kernel_rfl) (by kernel_rfl) (by kernel_rfl) (fun _ _ _ h => h) (Or.inl ⟨by rfl, ?_⟩) (by assumption) ?_; rotate_left; focus ((intro w hSw; (try dsimp only at hSw); go_simp); try (with_reducible rfl)); (try simp only [Act.put, List.setIfInBounds_toArray, List.set_cons_zero, List.set_cons_succ]))
      (try simp only [Act.put, List.setIfInBounds_toArray, List.set_cons_zero, List.set_cons_succ])
      (refine rtake_11 (v := ?_) (by kernel_rfl) (by kernel_rfl) (by kernel_rfl) (fun _ _ _ h => h) (Or.inl ⟨by rfl, ?_⟩) (by assumption) ?_; rotate_left; focus ((intro w hSw; (try dsimp only at hSw); go_simp); try (with_reducible rfl)); (try simp only [Act.put, List.setIfInBounds_toArray, List.set_cons_zero, List.set_cons_succ]))
      (try simp only [Act.put, List.setIfInBounds_toArray, List.set_cons_zero, List.set_cons_succ])
      (refine rtake_12 (v := ?_) (by kernel_rfl) (by kernel_rfl) (by kernel_rfl) (fun _ _ _ h => h) (Or.inl ⟨by rfl, ?_⟩) (by assumption) ?_; rotate_left; focus ((intro w hSw; (try dsimp only at hSw); go_simp); try (with_reducible rfl)); (try simp only [Act.put, List.setIfInBounds_toArray, List.set_cons_zero, List.set_cons_succ]))
      (try simp only [Act.put, List.setIfInBounds_toArray, List.set_cons_zero, List.set_cons_succ])
      (refine rtake_13 (v := ?_) (by kernel_rfl) (by kernel_rfl) (by kernel_rfl) (fun _ _ _ h => h) (Or.inl ⟨by rfl, ?_⟩) (by assumption) ?_; rotate_left; focus ((intro w hSw; (try dsimp only at hSw); go_simp); try (with_reducible rfl)); (try simp only [Act.put, List.setIfInBounds_toArray, List.set_cons_zero, List.set_cons_succ]))
      (try simp only [Act.put, List.setIfInBounds_toArray, List.set_cons_zero, List.set_cons_succ])
      (refine rtake_14 (v := ?_) (by kernel_rfl) (by kernel_rfl) (by kernel_rfl) (fun _ _ _ h => h) (Or.inl ⟨by rfl, ?_⟩) (by assumption) ?_; rotate_left; focus ((intro w hSw; (try dsimp only at hSw); go_simp); try (with_reducible rfl)); (try simp only [Act.put, List.setIfInBounds_toArray, List.set_cons_zero, List.set_cons_succ]))
      (try simp only [Act.put, List.setIfInBounds_toArray, List.set_cons_zero, List.set_cons_succ])
      (refine rtake_15 (v := ?_) (by kernel_rfl) (by kernel_rfl) (by kernel_rfl) (fun _ _ _ h => h) (Or.inl ⟨by rfl, ?_⟩) (by assumption) ?_; rotate_left; focus ((intro w hSw; (try dsimp only at hSw); go_simp); try (with_reducible rfl)); (try simp only [Act.put, List.setIfInBounds_toArray, List.set_cons_zero, List.set_cons_succ]))
      (try simp only [Act.put, List.setIfInBounds_toArray, List.set_cons_zero, List.set_cons_succ])
      (refine rtake_16 (v := ?_) (by kernel_rfl) (by kernel_rfl) (by kernel_rfl) (fun _ _ _ h => h) (Or.inl ⟨by rfl, ?_⟩) (by assumption) ?_; rotate_left; focus ((intro w hSw; (try dsimp only at hSw); go_simp); try (with_reducible rfl)); (try simp only [Act.put, List.setIfInBounds_toArray, List.set_cons_zero, List.set_cons_succ]))
      (try simp only [Act.put, List.setIfInBounds_toArray, List.set_cons_zero, List.set_cons_succ])
      (refine wpAnyH_ready (rs := [17]) (by kernel_rfl) (by simp) ?_; refine rcons_17 (fun K hK => ?_) (AllReadyH.nil))
      go_simp
      (with_reducible refine (HCU.out _).mono ?_)
      rintro e w1 ⟨rfl, hk1⟩
      have HK1 : Hid (Kept [] w w1) := (show Kept [] w _ by (repeat (first | (with_reducible exact Kept.refl _ _) | (with_reducible assumption) | (with_reducible refine Kept.alloc ?_ _) | (with_reducible refine Kept.drew ?_) | (with_reducible refine Kept.drewN ?_ _) | (with_reducible refine Kept.setCell ?_ ?_ _) | (exact .inr (Nat.le_refl _)) | (exact .inr (by simp only; omega)) | (exact .inr (by omega))))).trans hk1
      have HBX1 := Lib.hid (HBX.out.drew.kept hk1 (by simp))
      have hcq1 : w1.cell? ⟨bo, oo + q, none⟩ = some (.int .i64 (-1)) := HK1.out.cell_some HCQ.out (by simp)
      clear hk1
      try go_simp
      refine hK.out _ _ ⟨HBX1.out.cell, hcq1⟩ (fun hHeld => ?_)
      clear hK K
      (try simp only [Act.put, List.setIfInBounds_toArray, List.set_cons_zero, List.set_cons_succ])
      (refine rtake_18 (v := ?_) (by kernel_rfl) (by kernel_rfl) (by kernel_rfl) (fun _ _ _ h => h) (Or.inl ⟨by rfl, ?_⟩) (by assumption) ?_; rotate_left; focus ((intro w hSw; (try dsimp only at hSw); go_simp); try (with_reducible rfl)); (try simp only [Act.put, List.setIfInBounds_toArray, List.set_cons_zero, List.set_cons_succ]))
      (try simp only [Act.put, List.setIfInBounds_toArray, List.set_cons_zero, List.set_cons_succ])
      (refine rtake_19 (v := ?_) (by kernel_rfl) (by kernel_rfl) (by kernel_rfl) (fun _ _ _ h => h) (Or.inl ⟨by rfl, ?_⟩) (by assumption) ?_; rotate_left; focus ((intro w hSw; (try dsimp only at hSw); go_simp); try (with_reducible rfl)); (try simp only [Act.put, List.setIfInBounds_toArray, List.set_cons_zero, List.set_cons_succ]))
      (try simp only [Act.put, List.setIfInBounds_toArray, List.set_cons_zero, List.set_cons_succ])
      refine wpAnyH_done (by kernel_rfl) ?_ _
      have hbx1 := HBX1.out.cell
      have hbl1 := HBX1.out.lt
      clear hHeld
      go_wp2_with fail
      go_ret
      exact ⟨rfl, HK1.out⟩
    · have hd : decide (0 ≤ u ∧ u < (n : Int)) = true := by simp; omega
      rw [hd] at HCU
      clear hd hlen hu
      go_enter Tryz.func118, Tryz.ntmps118
      go_wp2_with fail
      have hmix : Tryz.prog.follows .mixedOrders = true := by kernel_rfl
      refine wp_region_held_drew (S := fun w' => (∀ i, w'.cell? ⟨w.heap.size, i, none⟩ = #[.slice AV n cV, .slice (some ⟨b, o, none⟩) n cW, .slice (some ⟨bo, oo, none⟩) m cO][i]?) ∧ w'.cell? ⟨bo, oo + q, none⟩ = some (.int .i64 u)) hmix ⟨HBX.out.drew.cell, (show Kept [] w _ by (repeat (first | (with_reducible exact Kept.refl _ _) | (with_reducible assumption) | (with_reducible refine Kept.alloc ?_ _) | (with_reducible refine Kept.drew ?_) | (with_reducible refine Kept.drewN ?_ _) | (with_reducible refine Kept.setCell ?_ ?_ _) | (exact .inr (Nat.le_refl _)) | (exact .inr (by simp only; omega)) | (exact .inr (by omega))))).cell_some HCQ.out (by simp)⟩ (fun hHeld => ?_)
      (refine rtake_0 (v := ?_) (by kernel_rfl) (by kernel_rfl) (by kernel_rfl) (fun _ _ _ h => h) (Or.inl ⟨by rfl, ?_⟩) (by assumption) ?_; rotate_left; focus ((intro w hSw; (try dsimp only at hSw); go_simp); try (with_reducible rfl)); (try simp only [Act.put, List.setIfInBounds_toArray, List.set_cons_zero, List.set_cons_succ]))
      (try simp only [Act.put, List.setIfInBounds_toArray, List.set_cons_zero, List.set_cons_succ])
      (refine rtake_1 (v := ?_) (by kernel_rfl) (by kernel_rfl) (by kernel_rfl) (fun _ _ _ h => h) (Or.inl ⟨by rfl, ?_⟩) (by assumption) ?_; rotate_left; focus ((intro w hSw; (try dsimp only at hSw); go_simp); try (with_reducible rfl)); (try simp only [Act.put, List.setIfInBounds_toArray, List.set_cons_zero, List.set_cons_succ]))
      (try simp only [Act.put, List.setIfInBounds_toArray, List.set_cons_zero, List.set_cons_succ])
      (refine rtake_2 (v := ?_) (by kernel_rfl) (by kernel_rfl) (by kernel_rfl) (fun _ _ _ h => h) (Or.inl ⟨by rfl, ?_⟩) (by assumption) ?_; rotate_left; focus ((intro w hSw; (try dsimp only at hSw); go_simp); try (with_reducible rfl)); (try simp only [Act.put, List.setIfInBounds_toArray, List.set_cons_zero, List.set_cons_succ]))
      (try simp only [show ((q : Int) < 0) = False from eq_false (by omega), decide_false])
      (try simp only [Act.put, List.setIfInBounds_toArray, List.set_cons_zero, List.set_cons_succ])
      (refine rtake_3 (v := ?_) (by kernel_rfl) (by kernel_rfl) (by kernel_rfl) (fun _ _ _ h => h) (Or.inl ⟨by rfl, ?_⟩) (by assumption) ?_; rotate_left; focus ((intro w hSw; (try dsimp only at hSw); go_simp); try (with_reducible rfl)); (try simp only [Act.put, List.setIfInBounds_toArray, List.set_cons_zero, List.set_cons_succ]))
      (try simp only [Act.put, List.setIfInBounds_toArray, List.set_cons_zero, List.set_cons_succ])
      (refine rtake_4 (v := ?_) (by kernel_rfl) (by kernel_rfl) (by kernel_rfl) (fun _ _ _ h => h) (Or.inl ⟨by rfl, ?_⟩) (by assumption) ?_; rotate_left; focus ((intro w hSw; (try dsimp only at hSw); go_simp); try (with_reducible rfl)); (try simp only [Act.put, List.setIfInBounds_toArray, List.set_cons_zero, List.set_cons_succ]))
      (try simp only [Act.put, List.setIfInBounds_toArray, List.set_cons_zero, List.set_cons_succ])
      (refine rtake_5 (v := ?_) (by kernel_rfl) (by kernel_rfl) (by kernel_rfl) (fun _ _ _ h => h) (Or.inl ⟨by rfl, ?_⟩) (by assumption) ?_; rotate_left; focus ((intro w hSw; (try dsimp only at hSw); go_simp); try (with_reducible rfl)); (try simp only [Act.put, List.setIfInBounds_toArray, List.set_cons_zero, List.set_cons_succ]))
      (try simp only [Act.put, List.setIfInBounds_toArray, List.set_cons_zero, List.set_cons_succ])
      (refine rtake_6 (v := ?_) (by kernel_rfl) (by kernel_rfl) (by kernel_rfl) (fun _ _ _ h => h) (Or.inl ⟨by rfl, ?_⟩) (by assumption) ?_; rotate_left; focus ((intro w hSw; (try dsimp only at hSw); go_simp); try (with_reducible rfl)); (try simp only [Act.put, List.setIfInBounds_toArray, List.set_cons_zero, List.set_cons_succ]))
      (try simp only [Act.put, List.setIfInBounds_toArray, List.set_cons_zero, List.set_cons_succ])
      (refine rtake_7 (v := ?_) (by kernel_rfl) (by kernel_rfl) (by kernel_rfl) (fun _ _ _ h => h) (Or.inl ⟨by rfl, ?_⟩) (by assumption) ?_; rotate_left; focus ((intro w hSw; (try dsimp only at hSw); go_simp); try (with_reducible rfl)); (try simp only [Act.put, List.setIfInBounds_toArray, List.set_cons_zero, List.set_cons_succ]))
      (try simp only [Act.put, List.setIfInBounds_toArray, List.set_cons_zero, List.set_cons_succ])
      simp only [if_neg (show ¬ (64 : Int) < (m : Int) by omega)]
      (refine rtake_8 (v := ?_) (by kernel_rfl) (by kernel_rfl) (by kernel_rfl) (fun _ _ _ h => h) (Or.inl ⟨by rfl, ?_⟩) (by assumption) ?_; rotate_left; focus ((intro w hSw; (try dsimp only at hSw); go_simp); try (with_reducible rfl)); (try simp only [Act.put, List.setIfInBounds_toArray, List.set_cons_zero, List.set_cons_succ]))
      (try simp only [decide_eq_false (show ¬ (m : Int) ≤ (q : Int) by omega)])
      (try simp only [decide_eq_false (show ¬ m ≤ q by omega)])
      (try simp only [Act.put, List.setIfInBounds_toArray, List.set_cons_zero, List.set_cons_succ])
      (refine rtake_9 (v := ?_) (by kernel_rfl) (by kernel_rfl) (by kernel_rfl) (fun _ _ _ h => h) (Or.inl ⟨by rfl, ?_⟩) (by assumption) ?_; rotate_left; focus ((intro w hSw; (try dsimp only at hSw); go_simp); try (with_reducible rfl)); (try simp only [Act.put, List.setIfInBounds_toArray, List.set_cons_zero, List.set_cons_succ]))
      (try simp only [Act.put, List.setIfInBounds_toArray, List.set_cons_zero, List.set_cons_succ])
      (refine rtake_10 (v := ?_) (by kernel_rfl) (by kernel_rfl) (by kernel_rfl) (fun _ _ _ h => h) (Or.inl ⟨by rfl, ?_⟩) (by assumption) ?_; rotate_left; focus ((intro w hSw; (try dsimp only at hSw); go_simp); try (with_reducible rfl)); (try simp only [Act.put, List.setIfInBounds_toArray, List.set_cons_zero, List.set_cons_succ]))
      (try simp only [Act.put, List.setIfInBounds_toArray, List.set_cons_zero, List.set_cons_succ])
      (refine rtake_11 (v := ?_) (by kernel_rfl) (by kernel_rfl) (by kernel_rfl) (fun _ _ _ h => h) (Or.inl ⟨by rfl, ?_⟩) (by assumption) ?_; rotate_left; focus ((intro w hSw; (try dsimp only at hSw); go_simp); try (with_reducible rfl)); (try simp only [Act.put, List.setIfInBounds_toArray, List.set_cons_zero, List.set_cons_succ]))
      (try simp only [Act.put, List.setIfInBounds_toArray, List.set_cons_zero, List.set_cons_succ])
      (refine rtake_12 (v := ?_) (by kernel_rfl) (by kernel_rfl) (by kernel_rfl) (fun _ _ _ h => h) (Or.inl ⟨by rfl, ?_⟩) (by assumption) ?_; rotate_left; focus ((intro w hSw; (try dsimp only at hSw); go_simp); try (with_reducible rfl)); (try simp only [Act.put, List.setIfInBounds_toArray, List.set_cons_zero, List.set_cons_succ]))
      (try simp only [Act.put, List.setIfInBounds_toArray, List.set_cons_zero, List.set_cons_succ])
      (refine rtake_13 (v := ?_) (by kernel_rfl) (by kernel_rfl) (by kernel_rfl) (fun _ _ _ h => h) (Or.inl ⟨by rfl, ?_⟩) (by assumption) ?_; rotate_left; focus ((intro w hSw; (try dsimp only at hSw); go_simp); try (with_reducible rfl)); (try simp only [Act.put, List.setIfInBounds_toArray, List.set_cons_zero, List.set_cons_succ]))
      (try simp only [Act.put, List.setIfInBounds_toArray, List.set_cons_zero, List.set_cons_succ])
      (refine rtake_14 (v := ?_) (by kernel_rfl) (by kernel_rfl) (by kernel_rfl) (fun _ _ _ h => h) (Or.inl ⟨by rfl, ?_⟩) (by assumption) ?_; rotate_left; focus ((intro w hSw; (try dsimp only at hSw); go_simp); try (with_reducible rfl)); (try simp only [Act.put, List.setIfInBounds_toArray, List.set_cons_zero, List.set_cons_succ]))
      (try simp only [Act.put, List.setIfInBounds_toArray, List.set_cons_zero, List.set_cons_succ])
      (refine rtake_15 (v := ?_) (by kernel_rfl) (by kernel_rfl) (by kernel_rfl) (fun _ _ _ h => h) (Or.inl ⟨by rfl, ?_⟩) (by assumption) ?_; rotate_left; focus ((intro w hSw; (try dsimp only at hSw); go_simp); try (with_reducible rfl)); (try simp only [Act.put, List.setIfInBounds_toArray, List.set_cons_zero, List.set_cons_succ]))
      (try simp only [Act.put, List.setIfInBounds_toArray, List.set_cons_zero, List.set_cons_succ])
      (refine rtake_16 (v := ?_) (by kernel_rfl) (by kernel_rfl) (by kernel_rfl) (fun _ _ _ h => h) (Or.inl ⟨by rfl, ?_⟩) (by assumption) ?_; rotate_left; focus ((intro w hSw; (try dsimp only at hSw); go_simp); try (with_reducible rfl)); (try simp only [Act.put, List.setIfInBounds_toArray, List.set_cons_zero, List.set_cons_succ]))
      (try simp only [Act.put, List.setIfInBounds_toArray, List.set_cons_zero, List.set_cons_succ])
      (refine wpAnyH_ready (rs := [17]) (by kernel_rfl) (by simp) ?_; refine rcons_17 (fun K hK => ?_) (AllReadyH.nil))
      go_simp
      (with_reducible refine (HCU.out _).mono ?_)
      rintro e w1 ⟨rfl, hk1⟩
      have HK1 : Hid (Kept [] w w1) := (show Kept [] w _ by (repeat (first | (with_reducible exact Kept.refl _ _) | (with_reducible assumption) | (with_reducible refine Kept.alloc ?_ _) | (with_reducible refine Kept.drew ?_) | (with_reducible refine Kept.drewN ?_ _) | (with_reducible refine Kept.setCell ?_ ?_ _) | (exact .inr (Nat.le_refl _)) | (exact .inr (by simp only; omega)) | (exact .inr (by omega))))).trans hk1
      have HBX1 := Lib.hid (HBX.out.drew.kept hk1 (by simp))
      have hcq1 : w1.cell? ⟨bo, oo + q, none⟩ = some (.int .i64 u) := HK1.out.cell_some HCQ.out (by simp)
      clear hk1
      try go_simp
      refine hK.out _ _ ⟨HBX1.out.cell, hcq1⟩ (fun hHeld => ?_)
      clear hK K
      (try simp only [Act.put, List.setIfInBounds_toArray, List.set_cons_zero, List.set_cons_succ])
      (refine rtake_18 (v := ?_) (by kernel_rfl) (by kernel_rfl) (by kernel_rfl) (fun _ _ _ h => h) (Or.inl ⟨by rfl, ?_⟩) (by assumption) ?_; rotate_left; focus ((intro w hSw; (try dsimp only at hSw); go_simp); try (with_reducible rfl)); (try simp only [Act.put, List.setIfInBounds_toArray, List.set_cons_zero, List.set_cons_succ]))
      (try simp only [Act.put, List.setIfInBounds_toArray, List.set_cons_zero, List.set_cons_succ])
      (refine rtake_19 (v := ?_) (by kernel_rfl) (by kernel_rfl) (by kernel_rfl) (fun _ _ _ h => h) (Or.inl ⟨by rfl, ?_⟩) (by assumption) ?_; rotate_left; focus ((intro w hSw; (try dsimp only at hSw); go_simp); try (with_reducible rfl)); (try simp only [Act.put, List.setIfInBounds_toArray, List.set_cons_zero, List.set_cons_succ]))
      (try simp only [Act.put, List.setIfInBounds_toArray, List.set_cons_zero, List.set_cons_succ])
      refine wpAnyH_done (by kernel_rfl) ?_ _
      have hbx1 := HBX1.out.cell
      have hbl1 := HBX1.out.lt
      clear hHeld
      go_wp2_with fail
      go_ret
      exact ⟨rfl, HK1.out⟩

end Go.Proofs.YtfoeijiejpenpaaGreatDoor

/- Package gift: filled and due, walked. -/
namespace Go.Proofs.YtfoeijiejpenpaaGreatDoor
open Go.RowKit

theorem Tryz.infoInt : (Tryz.prog.info? 3).map (fun i => (i.zero, i.size, i.bytes)) = some (some (.int .i64 0), 1, 8) := by kernel_rfl
/-- A copy that is made as far as i. -/
def fillL (eff : List Int) (i : Nat) : List Int := eff.take i ++ List.replicate (eff.length - i) 0
theorem fillL_len (eff : List Int) (i : Nat) (h : i ≤ eff.length) : (fillL eff i).length = eff.length := by simp [fillL]; omega
theorem fillL_set (eff : List Int) (i : Nat) (h : i < eff.length) (x : Int) : ((fillL eff i).set i x).set i eff[i] = fillL eff (i + 1) := by
  rw [List.set_set]
  unfold fillL
  rw [List.set_append_right _ _ (by simp; omega)]
  simp only [List.length_take, Nat.min_eq_left (Nat.le_of_lt h), Nat.sub_self]
  rw [show eff.length - i = (eff.length - (i + 1)) + 1 by omega, List.replicate_succ, List.set_cons_zero, List.take_succ_eq_append_getElem h, List.append_assoc]
  rfl
theorem blk_setL {w : World} {g : Nat} {t : TypeId} {xs : List Int} (h : Blk w g t (xs.map I64).toArray) (i : Nat) (x : Int) : Blk (w.setCell ⟨g, i, none⟩ (.int .i64 x)) g t ((xs.set i x).map I64).toArray := by
  have := h.set i (.int .i64 x)
  rw [List.setIfInBounds_toArray] at this
  rw [List.map_set]
  exact this
theorem blk_getL {w : World} {g : Nat} {t : TypeId} {xs : List Int} (h : Blk w g t (xs.map I64).toArray) (i : Nat) (hi : i < xs.length) : w.cell? ⟨g, i, none⟩ = some (.int .i64 xs[i]) := by
  rw [h.cell, List.getElem?_toArray, List.getElem?_map, List.getElem?_eq_getElem hi]; rfl

set_option maxHeartbeats 3200000 in
theorem gffilled_any (AV AW AO : Option Addr) (cV m cW q cO : Nat) (eff : List Int) (AE : Option Addr) (cE : Nat) (w : World) (hE : Reads w 1 AE eff.length (eff.map I64)) (hn : eff.length ≤ 64) (hx : ∀ x ∈ eff, 0 ≤ x ∧ x ≤ 8) :
    Calls Tryz.prog 103 #[.agg #[.slice AV eff.length cV, .slice AW m cW, .slice AO q cO], .slice AE eff.length cE] w fun e w' => ∃ b, e = .returned (.slice (some ⟨b, 0, none⟩) eff.length eff.length) ∧ Blk w' b 3 (eff.map I64).toArray ∧ w.heap.size ≤ b ∧ Kept [] w w' := by
  have HC := Lib.hid (fun w => gfthreads_any AV AW AO eff.length cV m cW q cO w hn)
  have hmk := run_make_n (P := Tryz.prog) 27 3 (.int .i64 0) 8 Tryz.underlying27 Tryz.infoInt rfl (eff.length : Int) eff.length rfl (by omega) (by omega)
  have HE := Lib.hid hE
  have HX := Lib.hid hx
  have HN := Lib.hid hn
  clear hE hx hn
  go_enter Tryz.func103, Tryz.ntmps103
  go_wp2_with fail
  refine (HC.out _).mono ?_
  rintro e w1 ⟨rfl, hk1⟩
  have HK1 : Hid (Kept [] w w1) := (show Kept [] w _ by (repeat (first | (with_reducible exact Kept.refl _ _) | (with_reducible assumption) | (with_reducible refine Kept.alloc ?_ _) | (with_reducible refine Kept.drew ?_) | (with_reducible refine Kept.drewN ?_ _) | (with_reducible refine Kept.setCell ?_ ?_ _) | (exact .inr (Nat.le_refl _)) | (exact .inr (by simp only; omega)) | (exact .inr (by omega))))).trans hk1
  have HB0 : Hid (Blk (w1.alloc (.cells (zeros (.int .i64 0) eff.length) 3)) w1.heap.size 3 ((fillL eff 0).map I64).toArray) := by
    have h := Blk.new w1 3 (zeros (.int .i64 0) eff.length)
    have he : ((fillL eff 0).map I64).toArray = zeros (.int .i64 0) eff.length := by simp [fillL, zeros, I64]
    rw [he]; exact h
  have hws := HK1.out.size
  clear hk1
  go_wp2_with fail
  go_loopw [12] (fun iv wr => ∃ i : Nat, i ≤ eff.length ∧ iv = .int .i64 i ∧ Hid (Blk wr w1.heap.size 3 ((fillL eff i).map I64).toArray) ∧ Hid (Kept [] w wr)) (fun iv _ => eff.length - (intOf iv).toNat)
  case atStart => exact ⟨0, by omega, rfl, HB0.out, HK1.out.alloc _⟩
  case round =>
    clear HB0
    obtain ⟨i, hi, rfl, HB, HK⟩ := hrel
    have hbf := HB.out.frozen
    have hbl := HB.out.lt
    have hn64 := HN.out
    by_cases hlt : i < eff.length
    · have hfl := fillL_len eff i hi
      have hci := blk_getL HB.out i (by omega)
      obtain ⟨b, o, rfl, hb, hcell⟩ := HE.out.addr (by omega) (by omega)
      have hce : wr.cell? ⟨b, o + i, none⟩ = some (.int .i64 eff[i]) := HK.out.cell_some (hcell i (I64 eff[i]) (by rw [List.getElem?_map, List.getElem?_eq_getElem hlt]; rfl)) (by simp)
      have hbr := World.block_lt_of_cell? wr _ hce
      simp only at hbr
      have hne : b ≠ w1.heap.size := by omega
      have hne2 : w1.heap.size ≠ b := by omega
      have hxv := HX.out eff[i] (List.getElem_mem hlt)
      have HB2 : Hid (Blk ((wr.setCell ⟨w1.heap.size, i, none⟩ (.int .i64 8)).setCell ⟨w1.heap.size, i, none⟩ (.int .i64 eff[i])) w1.heap.size 3 ((fillL eff (i + 1)).map I64).toArray) := by
        have h := blk_setL (blk_setL HB.out i 8) i eff[i]
        rw [fillL_set eff i hlt] at h
        exact h
      have hi0 : (0 : Int) ≤ (i : Int) := by omega
      have hi1 : (i : Int) < (eff.length : Int) := by omega
      generalize (fillL eff i)[i] = y at *
      generalize eff[i] = x at *
      have hmx : (if x < 0 then 0 else x) = x := if_neg (by omega)
      have hmn : (if 8 < x then 8 else x) = x := if_neg (by omega)
      clear hcell hfl
      go_wp2_with fail
      go_roundw
      case rel => exact ⟨i + 1, by omega, by go_num, HB2.out, (HK.out.setCell (p := ⟨w1.heap.size, i, none⟩) (.inr hws) (.int .i64 8)).setCell (p := ⟨w1.heap.size, i, none⟩) (.inr hws) (.int .i64 x)⟩
      case measure => simp [intOf]; omega
    · obtain rfl : i = eff.length := by omega
      have he : fillL eff eff.length = eff := by simp [fillL]
      rw [he] at HB
      clear he hlt
      go_wp2_with fail
      go_ret
      exact ⟨w1.heap.size, rfl, HB.out, hws, HK.out⟩

/-- What a thread must have. -/
def dueF (owner level : List Int) (waits : List (Int × Int)) (eff : List Int) (t : Int) : Nat → Nat → Int → Int
  | 0, _, best => best
  | f + 1, i, best => dueF owner level waits eff t f (i + 1) (if nextG owner waits i = t then (if eff.getD i 0 < best then eff.getD i 0 else best) else best)
def dueM (owner level : List Int) (waits : List (Int × Int)) (eff : List Int) (t : Nat) : Int := dueF owner level waits eff t waits.length 0 (level.getD t 0)
set_option maxHeartbeats 3200000 in
theorem gfdue_any {w : World} {AV : Option Addr} {cV : Nat} {AW : Option Addr} {cW : Nat} {AO : Option Addr} {cO : Nat} {owner level : List Int} {waits : List (Int × Int)} (h : GrR w AV cV AW cW AO cO owner level waits) (eff : List Int) (AE : Option Addr) (cE : Nat) (hE : Reads w 1 AE eff.length (eff.map I64)) (hel : eff.length = waits.length) (t : Nat) (ht : t < waits.length) :
    Calls Tryz.prog 106 #[.agg #[.slice AV level.length cV, .slice AW waits.length cW, .slice AO owner.length cO], .slice AE eff.length cE, .int .i64 t] w fun e w' => e = .returned (.int .i64 (dueM owner level waits eff t)) ∧ Kept [] w w' := by
  have hlen := h.len
  have HT := Lib.hid (fun w => (gfthreads_any AV AW AO level.length cV waits.length cW owner.length cO w (by have := h.nt; omega)).mono (R' := fun e w' => e = .returned (.int .i64 waits.length) ∧ Kept [] w w') (fun e w' h' => ⟨by rw [h'.1, hlen], h'.2⟩))
  have HX := Lib.hid (fun W (hk : Kept [] w W) k hk' => gfnext_any (h.old hk) k hk')
  have HE := Lib.hid hE
  have hlv : level.getD t 0 = level[t]'(by omega) := by rw [List.getD_eq_getElem?_getD, List.getElem?_eq_getElem (by omega)]; rfl
  have HL : Hid (∀ W, Kept [] w W → Calls Tryz.prog 119 #[.agg #[.slice AV level.length cV, .slice AW waits.length cW, .slice AO owner.length cO], .int .i64 t] W fun e w' => e = .returned (.int .i64 (level.getD t 0)) ∧ Kept [] W w') := fun W hk => by
    have := gflevel_any (h.old hk) t (by omega)
    rw [← hlv] at this
    exact this
  have hnt := h.nt
  obtain ⟨R, hR⟩ : ∃ R, dueM owner level waits eff t = R := ⟨_, rfl⟩
  rw [hR]
  unfold dueM at hR
  have HR := Lib.hid hR
  have HB := Lib.hid (Blk.new w 45 #[.slice AV level.length cV, .slice AW waits.length cW, .slice AO owner.length cO])
  have HLEN := Lib.hid hlen
  have HEL := Lib.hid hel
  clear hR hlv h hE hlen hel
  obtain ⟨lv, hlv2⟩ : ∃ lv, level.getD t 0 = lv := ⟨_, rfl⟩
  rw [hlv2] at HL HR
  clear hlv2
  go_enter Tryz.func106, Tryz.ntmps106
  go_wp2_with fail
  refine (HL.out _ (by (repeat (first | (with_reducible exact Kept.refl _ _) | (with_reducible assumption) | (with_reducible refine Kept.alloc ?_ _) | (with_reducible refine Kept.drew ?_) | (with_reducible refine Kept.drewN ?_ _) | (with_reducible refine Kept.setCell ?_ ?_ _) | (exact .inr (Nat.le_refl _)) | (exact .inr (by simp only; omega)) | (exact .inr (by omega)))))).mono ?_
  rintro e w1 ⟨rfl, hk1⟩
  have HK1 : Hid (Kept [] w w1) := (show Kept [] w _ by (repeat (first | (with_reducible exact Kept.refl _ _) | (with_reducible assumption) | (with_reducible refine Kept.alloc ?_ _) | (with_reducible refine Kept.drew ?_) | (with_reducible refine Kept.drewN ?_ _) | (with_reducible refine Kept.setCell ?_ ?_ _) | (exact .inr (Nat.le_refl _)) | (exact .inr (by simp only; omega)) | (exact .inr (by omega))))).trans hk1
  have HB1 := Lib.hid (HB.out.kept hk1 (by simp))
  have hb1c := HB1.out.cell
  have hb1l := HB1.out.lt
  clear hk1
  go_wp2_with fail
  refine (HT.out _).mono ?_
  rintro e w2 ⟨rfl, hk2⟩
  have HK2 := Lib.hid (HK1.out.trans hk2)
  have HB2 := Lib.hid (HB1.out.kept hk2 (by simp))
  clear hk2 hb1c hb1l
  go_wp2_with fail
  go_loopw [7, 14] (fun bv iv wr => ∃ (i : Nat) (best : Int), i ≤ waits.length ∧ iv = .int .i64 i ∧ bv = .int .i64 best ∧ Hid (dueF owner level waits eff t (waits.length - i) i best = R) ∧ Hid (Kept [] w2 wr)) (fun _ iv _ => waits.length - (intOf iv).toNat)
  case atStart => exact ⟨0, lv, by omega, rfl, rfl, HR.out, Kept.refl _ _⟩
  case round =>
    clear HR
    obtain ⟨i, best, hi, rfl, rfl, HD, HK⟩ := hrel
    have HBR := Lib.hid (HB2.out.kept HK.out (by simp))
    have hbc := HBR.out.cell
    have hbl := HBR.out.lt
    by_cases hlt : i < waits.length
    · have hlen := HLEN.out
      have hel := HEL.out
      have hd := HD.out
      rw [show waits.length - i = (waits.length - (i + 1)) + 1 by omega, dueF] at hd
      obtain ⟨b, o, rfl, hb, hcell⟩ := HE.out.addr (by omega) (by omega)
      have HCE : Hid (w.cell? ⟨b, o + i, none⟩ = some (.int .i64 (eff[i]'(by omega)))) := hcell i (I64 (eff[i]'(by omega))) (by rw [List.getElem?_map, List.getElem?_eq_getElem (by omega)]; rfl)
      have hge : eff.getD i 0 = eff[i]'(by omega) := by rw [List.getD_eq_getElem?_getD, List.getElem?_eq_getElem (by omega)]; rfl
      rw [← hge] at HCE
      have HN := Lib.hid (HX.out _ (HK2.out.trans HK.out) i hlt)
      have hi0 : (0 : Int) ≤ (i : Int) := by omega
      have hi1 : (i : Int) < (level.length : Int) := by omega
      have hi2 : (i : Int) < (eff.length : Int) := by omega
      clear hcell hge HD hlen hel
      obtain ⟨nx, hnx2⟩ : ∃ nx, nextG owner waits (i : Int) = nx := ⟨_, rfl⟩
      rw [hnx2] at HN hd
      clear hnx2
      obtain ⟨x, hx2⟩ : ∃ x, eff.getD i 0 = x := ⟨_, rfl⟩
      rw [hx2] at HCE hd
      clear hx2
      by_cases hnx : nx = (t : Int)
      · rw [if_pos hnx] at hd
        have HDD := Lib.hid hd
        have hbn : (nx == (t : Int)) = true := by rw [hnx]; simp
        clear hd hnx
        go_wp2_with fail
        refine (HN.out).mono ?_
        rintro e w3 ⟨rfl, hk3⟩
        have HK3 := Lib.hid (HK.out.trans hk3)
        have hce : w3.cell? ⟨b, o + i, none⟩ = some (.int .i64 x) := (HK2.out.trans HK3.out).cell_some HCE.out (by simp)
        clear hk3
        go_wp2_with fail
        go_roundw
        case rel => exact ⟨i + 1, _, by omega, by go_num, rfl, HDD.out, HK3.out⟩
        case measure => simp [intOf]; omega
      · rw [if_neg hnx] at hd
        have HDD := Lib.hid hd
        have hbn : (nx == (t : Int)) = false := beq_eq_false_iff_ne.2 hnx
        clear hd hnx
        go_wp2_with fail
        refine (HN.out).mono ?_
        rintro e w3 ⟨rfl, hk3⟩
        have HK3 := Lib.hid (HK.out.trans hk3)
        clear hk3
        go_wp2_with fail
        go_roundw
        case rel => exact ⟨i + 1, best, by omega, by go_num, rfl, HDD.out, HK3.out⟩
        case measure => simp [intOf]; omega
    · obtain rfl : i = waits.length := by omega
      have hd := HD.out
      rw [Nat.sub_self, dueF] at hd
      subst hd
      go_wp2_with fail
      go_ret
      exact ⟨rfl, HK2.out.trans HK.out⟩

end Go.Proofs.YtfoeijiejpenpaaGreatDoor

/- Package gift: Worse's function, road and Worse, walked. -/
namespace Go.Proofs.YtfoeijiejpenpaaGreatDoor
open Go.RowKit

/-- What Worse works on: its graph, its levels' slice, its slice of those met, the levels, those met. -/
def wP (bg bo bm b : Nat) (gv : Array Value) (n : Nat) (Am : Option Addr) (cm : Nat) (out met : List Int) : List Piece :=
  [.blk bg 45 gv, .blk bo 27 #[.slice (some ⟨b, 0, none⟩) n n], .blk bm 27 #[.slice Am met.length cm], .blk b 3 (out.map I64).toArray, .row 3 1 (.slice Am met.length cm) met.length (met.map I64)]
/-- Worse's pieces hold. -/
structure WorseAt (w0 w : World) (bg bo bm b : Nat) (gv : Array Value) (n : Nat) (Am : Option Addr) (cm : Nat) (out met : List Int) : Prop where
  holds : Holds w (wP bg bo bm b gv n Am cm out met)
  new : Newer w0 (wP bg bo bm b gv n Am cm out met)
  kept : Kept [] w0 w
theorem WorseAt.old {w0 w w' : World} {bg bo bm b : Nat} {gv : Array Value} {n : Nat} {Am : Option Addr} {cm : Nat} {out met : List Int} (h : WorseAt w0 w bg bo bm b gv n Am cm out met) (hk : Kept [] w w') : WorseAt w0 w' bg bo bm b gv n Am cm out met := ⟨h.holds.old hk, h.new, h.kept.trans hk⟩
theorem reads_blkL {w : World} {b : Nat} {t : TypeId} {xs : List Int} (h : Blk w b t (xs.map I64).toArray) : Reads w 1 (some ⟨b, 0, none⟩) xs.length (xs.map I64) :=
  ⟨by simp, fun _ => ⟨_, rfl, fun j u hu => by rw [add_mk, Nat.zero_add, h.cell, List.getElem?_toArray]; exact hu⟩⟩

set_option maxHeartbeats 6400000 in
theorem gfWorse1_any {w0 w : World} {AV : Option Addr} {cV : Nat} {AW : Option Addr} {cW : Nat} {AO : Option Addr} {cO : Nat} {owner level : List Int} {waits : List (Int × Int)} (h : GrR w0 AV cV AW cW AO cO owner level waits) (bg bo bm b : Nat) (Am : Option Addr) (cm : Nat) (out met : List Int)
    (hW : WorseAt w0 w bg bo bm b #[.slice AV level.length cV, .slice AW waits.length cW, .slice AO owner.length cO] out.length Am cm out met) (hol : out.length = waits.length) (hml : met.length ≤ 1000) (k : Nat) (hk : k < waits.length) :
    Calls Tryz.prog 105 #[.int .i64 k, .pointer (some ⟨bg, 0, none⟩), .pointer (some ⟨bo, 0, none⟩), .pointer (some ⟨bm, 0, none⟩)] w fun e w' => (dueM owner level waits out k = out.getD k 0 → e = .returned (.bool false) ∧ WorseAt w0 w' bg bo bm b #[.slice AV level.length cV, .slice AW waits.length cW, .slice AO owner.length cO] out.length Am cm out met) ∧
      (dueM owner level waits out k ≠ out.getD k 0 → e = .returned (.bool true) ∧ ∃ Am' cm', WorseAt w0 w' bg bo bm b #[.slice AV level.length cV, .slice AW waits.length cW, .slice AO owner.length cO] out.length Am' cm' (out.set k (dueM owner level waits out k)) (met ++ [(k : Int)])) ∧ Kept (bm :: b :: fp (.slice Am met.length cm)) w w' := by
  have hB3 : Blk w b 3 (out.map I64).toArray := hW.holds.get (i := 3) rfl
  have hB0 : Blk w bg 45 _ := hW.holds.get (i := 0) rfl
  have hB1 : Blk w bo 27 _ := hW.holds.get (i := 1) rfl
  have HD := Lib.hid (gfdue_any (h.old hW.kept) out (some ⟨b, 0, none⟩) out.length (reads_blkL hB3) hol k hk)
  have hko : k < out.length := by omega
  have hge : out.getD k 0 = out[k] := by rw [List.getD_eq_getElem?_getD, List.getElem?_eq_getElem hko]; rfl
  have HWW := Lib.hid hW
  have HGE := Lib.hid hge
  have hc0 := hB0.cell
  have hl0 := hB0.lt
  have hc1 : w.cell? ⟨bo, 0, none⟩ = some (.slice (some ⟨b, 0, none⟩) out.length out.length) := hB1.cell 0
  have hl1 := hB1.lt
  have hi0 : (0 : Int) ≤ (k : Int) := by omega
  have hi1 : (k : Int) < (out.length : Int) := by omega
  have HKO := Lib.hid hko
  have HML := Lib.hid hml
  clear hW hB0 hB1 hB3 hge h hol hk hml
  obtain ⟨due, hdue⟩ : ∃ x, dueM owner level waits out k = x := ⟨_, rfl⟩
  rw [hdue] at HD ⊢
  clear hdue
  by_cases heq : due = out.getD k 0
  · have hx : ∀ (P Q R : Prop), P → R → ((due = out.getD k 0 → P) ∧ (due ≠ out.getD k 0 → Q) ∧ R) := fun P Q R hp hr => ⟨fun _ => hp, fun hn => absurd heq hn, hr⟩
    have HX := Lib.hid hx
    clear hx
    go_enter Tryz.func105, Tryz.ntmps105
    go_wp2_with fail
    refine (HD.out).mono ?_
    rintro e w1 ⟨rfl, hk1⟩
    have HW1 := Lib.hid (HWW.out.old hk1)
    have HKK := Lib.hid (hk1.mono (G' := bm :: b :: fp (.slice Am met.length cm)) (by simp))
    have hB3 : Blk w1 b 3 (out.map I64).toArray := HW1.out.holds.get (i := 3) rfl
    have hB1 : Blk w1 bo 27 _ := HW1.out.holds.get (i := 1) rfl
    have hc1 : w1.cell? ⟨bo, 0, none⟩ = some (.slice (some ⟨b, 0, none⟩) out.length out.length) := hB1.cell 0
    have hl1 := hB1.lt
    have hc3 := blk_getL hB3 k HKO.out
    rw [← HGE.out, ← heq] at hc3
    have hl3 := hB3.lt
    clear hk1 hB3 hB1
    go_wp2_with fail
    go_ret
    exact HX.out _ _ _ ⟨rfl, HW1.out⟩ HKK.out
  · have hx : ∀ (P Q R : Prop), Q → R → ((due = out.getD k 0 → P) ∧ (due ≠ out.getD k 0 → Q) ∧ R) := fun P Q R hp hr => ⟨fun h => absurd h heq, fun _ => hp, hr⟩
    have HX := Lib.hid hx
    rw [HGE.out] at heq
    have hbe : (due == out[k]) = false := beq_eq_false_iff_ne.2 heq
    clear hx heq
    go_enter Tryz.func105, Tryz.ntmps105
    go_wp2_with fail
    refine (HD.out).mono ?_
    rintro e w1 ⟨rfl, hk1⟩
    have HW1 := Lib.hid (HWW.out.old hk1)
    have HKK := Lib.hid (hk1.mono (G' := bm :: b :: fp (.slice Am met.length cm)) (by simp))
    have hB3 : Blk w1 b 3 (out.map I64).toArray := HW1.out.holds.get (i := 3) rfl
    have hB1 : Blk w1 bo 27 _ := HW1.out.holds.get (i := 1) rfl
    have hc1 : w1.cell? ⟨bo, 0, none⟩ = some (.slice (some ⟨b, 0, none⟩) out.length out.length) := hB1.cell 0
    have hl1 := hB1.lt
    have hc3 := blk_getL hB3 k hko
    have hf3 := hB3.frozen
    have hl3 := hB3.lt
    have hset : Kept [b] w1 (w1.setCell ⟨b, k, none⟩ (.int .i64 due)) := (Kept.refl [b] w1).setCell (.inl (by simp)) _
    have h2 := HW1.out.holds.turn (i := 3) rfl hset (p' := .blk b 3 ((out.set k due).map I64).toArray) (blk_setL hB3 k due) (fun q hq => .inl hq)
    have h2n := HW1.out.new.turn (i := 3) rfl HW1.out.kept.size (p' := .blk b 3 ((out.set k due).map I64).toArray) (fun q hq => .inl hq)
    have HW2 : Hid (WorseAt w0 (w1.setCell ⟨b, k, none⟩ (.int .i64 due)) bg bo bm b #[.slice AV level.length cV, .slice AW waits.length cW, .slice AO owner.length cO] out.length Am cm (out.set k due) met) := ⟨h2, h2n, HW1.out.new.kept (i := 3) rfl HW1.out.kept hset⟩
    have hM2 : Blk (w1.setCell ⟨b, k, none⟩ (.int .i64 due)) bm 27 _ := HW2.out.holds.get (i := 2) rfl
    have hcm : (w1.setCell ⟨b, k, none⟩ (.int .i64 due)).cell? ⟨bm, 0, none⟩ = some (.slice Am met.length cm) := hM2.cell 0
    have hlm := hM2.lt
    have HO : Hid (∀ W, Kept [] (w1.setCell ⟨b, k, none⟩ (.int .i64 due)) W → W.ownsRow 0 3 1 (.slice Am met.length cm) met.length (met.map I64)) := fun W hk => (HW2.out.old hk).holds.get (i := 4) rfl
    have hmlx := HML.out
    generalize out[k] = y at *
    clear h2 h2n hset hM2 hB3 hB1 hk1
    go_upto_region 5 with fail
    clear hc3 hf3 hl3 hc1 hl1 hc0 hl0
    have HKB : Hid (Kept (bm :: b :: fp (.slice Am met.length cm)) w (w1.setCell ⟨b, k, none⟩ (.int .i64 due))) := HKK.out.setCell (.inl (by simp)) _
    generalize w1.setCell ⟨b, k, none⟩ (.int .i64 due) = w2 at *
    go_wp2_with (at_builtin; refine wpList_append_any _ rfl _ _ 27 rfl 3 (.int .i64 0) 1 8 Tryz.underlying27 Tryz.infoInt rfl (by decide) (.slice Am met.length cm) met.length (met.map I64) rfl (HO.out _ (by (repeat (first | (with_reducible exact Kept.refl _ _) | (with_reducible assumption) | (with_reducible refine Kept.alloc ?_ _) | (with_reducible refine Kept.drew ?_) | (with_reducible refine Kept.drewN ?_ _) | (with_reducible refine Kept.setCell ?_ ?_ _) | (exact .inr (Nat.le_refl _)) | (exact .inr (by simp only; omega)) | (exact .inr (by omega)))))) _ 1 1 [.int .i64 k] rfl (reads_one _ _ _) (by simp; rfl) (by simp only [maxLen]; omega) (by omega) ?_; rintro A2 c2 w3 happ; have HA := Lib.hid happ; have HW3 := Lib.hid ((HW2.out.old (show Kept [] w2 _ by (repeat (first | (with_reducible exact Kept.refl _ _) | (with_reducible assumption) | (with_reducible refine Kept.alloc ?_ _) | (with_reducible refine Kept.drew ?_) | (with_reducible refine Kept.drewN ?_ _) | (with_reducible refine Kept.setCell ?_ ?_ _) | (exact .inr (Nat.le_refl _)) | (exact .inr (by simp only; omega)) | (exact .inr (by omega)))))).holds.turn (i := 4) rfl happ.2.1 (p' := .row 3 1 (.slice A2 (met.length + 1) c2) (met.length + 1) (met.map I64 ++ [I64 (k : Int)])) happ.1 happ.2.2); have hM3 : Blk w3 bm 27 _ := HW3.out.get (i := 2) rfl; have hcm3 : w3.cell? ⟨bm, 0, none⟩ = some (.slice Am met.length cm) := hM3.cell 0; have hfm3 := hM3.frozen; have hlm3 := hM3.lt; clear happ hM3)
    have hw2 := HW2.out.old ((Kept.refl [] w2).alloc (.cells #[.int .i64 (k : Int)] 3))
    have hn3 := hw2.new.turn (i := 4) rfl hw2.kept.size (p' := .row 3 1 (.slice A2 (met.length + 1) c2) (met.length + 1) (met.map I64 ++ [I64 (k : Int)])) HA.out.2.2
    have hk3 := hw2.new.kept (i := 4) rfl hw2.kept HA.out.2.1
    have hset4 : Kept [bm] w3 (w3.setCell ⟨bm, 0, none⟩ (.slice A2 (met.length + 1) c2)) := (Kept.refl [bm] w3).setCell (.inl (by simp)) _
    have hM3 : Blk w3 bm 27 #[.slice Am met.length cm] := HW3.out.get (i := 2) rfl
    have h4 := HW3.out.turn (i := 2) rfl hset4 (p' := .blk bm 27 #[.slice A2 (met.length + 1) c2]) (hM3.set 0 _) (fun q hq => .inl hq)
    have hn4 := hn3.turn (i := 2) rfl hk3.size (p' := .blk bm 27 #[.slice A2 (met.length + 1) c2]) (fun q hq => .inl hq)
    have hk4 := hn3.kept (i := 2) rfl hk3 hset4
    have hlen : (met ++ [(k : Int)]).length = met.length + 1 := by simp
    have hmap : (met ++ [(k : Int)]).map I64 = met.map I64 ++ [I64 (k : Int)] := by simp [I64]
    have HF : Hid (WorseAt w0 (w3.setCell ⟨bm, 0, none⟩ (.slice A2 (met.length + 1) c2)) bg bo bm b #[.slice AV level.length cV, .slice AW waits.length cW, .slice AO owner.length cO] out.length A2 c2 (out.set k due) (met ++ [(k : Int)])) := by
      refine ⟨?_, ?_, hk4⟩
      · unfold wP; rw [hlen, hmap]; exact h4
      · unfold wP; rw [hlen, hmap]; exact hn4
    have HKF : Hid (Kept (bm :: b :: fp (.slice Am met.length cm)) w (w3.setCell ⟨bm, 0, none⟩ (.slice A2 (met.length + 1) c2))) := ((HKB.out.trans (((Kept.refl [] w2).alloc (.cells #[.int .i64 (k : Int)] 3)).mono (by simp))).trans (HA.out.2.1.mono (fun q hq => by simp [hq]))).trans (hset4.mono (fun q hq => by simp at hq; simp [hq]))
    clear h4 hn4 hk4 hn3 hk3 hset4 hM3 hw2 hlen hmap
    go_wp2_with fail
    go_ret
    exact HX.out _ _ _ ⟨rfl, A2, c2, HF.out⟩ HKF.out

end Go.Proofs.YtfoeijiejpenpaaGreatDoor

/- Package gift: road with Worse's function, and Worse, walked. -/
namespace Go.Proofs.YtfoeijiejpenpaaGreatDoor
open Go.RowKit

/-- The walk that makes worse. -/
def roadF (owner level : List Int) (waits : List (Int × Int)) : Nat → List Bool → Int → List Int → List Int → List Int × List Int
  | 0, _, _, out, met => (out, met)
  | f + 1, vis, t, out, met => if ¬ (0 ≤ t ∧ t < waits.length) then (out, met) else if vis.getD t.toNat false then (out, met) else
    if dueM owner level waits out t.toNat = out.getD t.toNat 0 then (out, met)
    else roadF owner level waits f (vis.set t.toNat true) (nextG owner waits t) (out.set t.toNat (dueM owner level waits out t.toNat)) (met ++ [t])
/-- The levels behind a walk that makes worse, and those met. -/
def worseF (owner level : List Int) (waits : List (Int × Int)) (eff : List Int) (t : Int) : List Int × List Int := roadF owner level waits 65 (List.replicate 64 false) t eff []

theorem WorseAt.free {w0 w : World} {bg bo bm b : Nat} {gv : Array Value} {n : Nat} {Am : Option Addr} {cm : Nat} {out met : List Int} (h : WorseAt w0 w bg bo bm b gv n Am cm out met) {g : Nat} {t : TypeId} {cs : Array Value} (hb : Blk w g t cs) (h1 : 27 ≠ t) (h2 : 3 ≠ t) : g ∉ bm :: b :: fp (.slice Am met.length cm) := by
  have hm : Blk w bm 27 _ := h.holds.get (i := 2) rfl
  have hB : Blk w b 3 _ := h.holds.get (i := 3) rfl
  have hr : w.ownsRow 0 3 1 (.slice Am met.length cm) met.length (met.map I64) := h.holds.get (i := 4) rfl
  intro hmem
  rcases List.mem_cons.1 hmem with rfl | hmem
  · exact hm.ne hb h1 rfl
  · rcases List.mem_cons.1 hmem with rfl | hmem
    · exact hB.ne hb h2 rfl
    · exact own_blk_ne hr hb h2 (mem_fp.1 hmem)
theorem WorseAt.block {w0 w w' : World} {bg bo bm b : Nat} {gv : Array Value} {n : Nat} {Am : Option Addr} {cm : Nat} {out met : List Int} (h : WorseAt w0 w bg bo bm b gv n Am cm out met) {g : Nat} {t : TypeId} {cs : Array Value} (hb : Blk w g t cs) (h1 : 27 ≠ t) (h2 : 3 ≠ t) (h3 : 45 ≠ t) (hg : w0.heap.size ≤ g) (hk : Kept [g] w w') : WorseAt w0 w' bg bo bm b gv n Am cm out met := by
  have hf := h.free hb h1 h2
  have h0 : Blk w bg 45 _ := h.holds.get (i := 0) rfl
  have h1' : Blk w bo 27 _ := h.holds.get (i := 1) rfl
  refine ⟨⟨fun p hp => Piece.kept (h.holds.1 p hp) hk (fun q hq hm => ?_), h.holds.2⟩, h.new, h.kept.trans' hk (fun q hq => .inr (by simp at hq; omega))⟩
  obtain rfl := List.mem_singleton.1 hm
  simp only [wP, List.mem_cons, List.not_mem_nil, or_false] at hp
  rcases hp with rfl | rfl | rfl | rfl | rfl
  · simp only [Piece.fp, List.mem_singleton] at hq; subst hq; exact h0.ne hb h3 rfl
  · simp only [Piece.fp, List.mem_singleton] at hq; subst hq; exact h1'.ne hb h1 rfl
  · simp only [Piece.fp, List.mem_singleton] at hq; subst hq; exact hf (by simp)
  · simp only [Piece.fp, List.mem_singleton] at hq; subst hq; exact hf (by simp)
  · exact hf (by simp only [Piece.fp] at hq; simp [hq])

set_option maxHeartbeats 6400000 in
set_option maxRecDepth 100000 in
theorem gfroad_w {w0 w : World} {AV : Option Addr} {cV : Nat} {AW : Option Addr} {cW : Nat} {AO : Option Addr} {cO : Nat} {owner level : List Int} {waits : List (Int × Int)} (h : GrR w0 AV cV AW cW AO cO owner level waits) (bg bo bm b : Nat) (Am : Option Addr) (cm : Nat) (out : List Int)
    (hW : WorseAt w0 w bg bo bm b #[.slice AV level.length cV, .slice AW waits.length cW, .slice AO owner.length cO] waits.length Am cm out []) (hol : out.length = waits.length) (t : Int) :
    Calls Tryz.prog 104 #[.agg #[.slice AV level.length cV, .slice AW waits.length cW, .slice AO owner.length cO], .int .i64 t, .func (.func 105) #[] #[.pointer (some ⟨bg, 0, none⟩), .pointer (some ⟨bo, 0, none⟩), .pointer (some ⟨bm, 0, none⟩)]] w fun e w' => e = .returned (.tuple #[]) ∧
      ∃ Am' cm', WorseAt w0 w' bg bo bm b #[.slice AV level.length cV, .slice AW waits.length cW, .slice AO owner.length cO] waits.length Am' cm' (worseF owner level waits out t).1 (worseF owner level waits out t).2 := by
  have hlen := h.len
  have hnt := h.nt
  have HT := Lib.hid (fun u w => (gfthread_any AV AW AO level.length cV waits.length cW owner.length cO u w (by omega)).mono (R' := fun e w' => e = .returned (.bool (decide (0 ≤ u ∧ u < waits.length))) ∧ Kept [] w w') (fun e w' h' => ⟨by rw [h'.1, hlen], h'.2⟩))
  have HX := Lib.hid (fun W (hk : Kept [] w0 W) k hk' => gfnext_any (h.old hk) k hk')
  have HC := Lib.hid (fun W Am cm out met (hW : WorseAt w0 W bg bo bm b #[.slice AV level.length cV, .slice AW waits.length cW, .slice AO owner.length cO] waits.length Am cm out met) (hol : out.length = waits.length) hml k hk => gfWorse1_any h bg bo bm b Am cm out met (by rw [hol]; exact hW) hol hml k hk)
  obtain ⟨R, hR⟩ : ∃ R, worseF owner level waits out t = R := ⟨_, rfl⟩
  rw [hR]
  have HR := Lib.hid hR
  have HW := Lib.hid hW
  have HOL := Lib.hid hol
  have HB := Lib.hid ((Blk.new w 45 #[.slice AV level.length cV, .slice AW waits.length cW, .slice AO owner.length cO]).alloc (.cells (bC (List.replicate 64 false)) 125))
  have HV : Hid (Blk ((w.alloc (.cells #[.slice AV level.length cV, .slice AW waits.length cW, .slice AO owner.length cO] 45)).alloc (.cells (bC (List.replicate 64 false)) 125)) (w.heap.size + 1) 125 (bC (List.replicate 64 false))) := Blk.newAt (by simp) _ _
  clear hR hlen h hW hol
  go_enter Tryz.func104, Tryz.ntmps104
  go_wp2_with fail
  go_step3
  go_wp2_with fail
  go_step3
  go_wp2_with fail
  go_loopg [1] 65 (fun g tv wr => ∃ (u : Int) (vis : List Bool) (out met : List Int) (Am : Option Addr) (cm : Nat), tv = .int .i64 u ∧ vis.length = 64 ∧ g = vis.count false + 1 ∧ met.length + vis.count false = 64 ∧ Hid (out.length = waits.length) ∧ Hid (roadF owner level waits g vis u out met = R) ∧ Hid (Blk wr w.heap.size 45 #[.slice AV level.length cV, .slice AW waits.length cW, .slice AO owner.length cO]) ∧ Hid (Blk wr (w.heap.size + 1) 125 (bC vis)) ∧ Hid (WorseAt w0 wr bg bo bm b #[.slice AV level.length cV, .slice AW waits.length cW, .slice AO owner.length cO] waits.length Am cm out met))
  case atStart => exact ⟨t, List.replicate 64 false, out, [], Am, cm, rfl, rfl, rfl, rfl, HOL.out, HR.out, HB.out, HV.out, HW.out.old (show Kept [] w _ by (repeat (first | (with_reducible exact Kept.refl _ _) | (with_reducible assumption) | (with_reducible refine Kept.alloc ?_ _) | (with_reducible refine Kept.drew ?_) | (with_reducible refine Kept.drewN ?_ _) | (with_reducible refine Kept.setCell ?_ ?_ _) | (exact .inr (Nat.le_refl _)) | (exact .inr (by simp only; omega)) | (exact .inr (by omega)))))⟩
  case round =>
    have HWS := Lib.hid HW.out.kept.size
    clear HR HB HV HW HOL
    obtain ⟨u, vis, out, met, Am, cm, rfl, hvl, rfl, hmv, HOL, HD, HB, HV, HW⟩ := hrel
    have hbc := HB.out.cell
    have hbl := HB.out.lt
    have HVL := Lib.hid hvl
    have hd := HD.out
    rw [roadF] at hd
    by_cases c1 : 0 ≤ u ∧ u < waits.length
    · rw [if_neg (fun hn => hn c1)] at hd
      obtain ⟨k, rfl⟩ : ∃ k : Nat, u = k := ⟨u.toNat, by omega⟩
      have hku : k < waits.length := by omega
      have hk64 : k < 64 := by omega
      have hdt : decide (0 ≤ (k : Int) ∧ (k : Int) < (waits.length : Int)) = true := by simp; omega
      have HTK := Lib.hid (fun w => hdt ▸ HT.out (k : Int) w)
      simp only [Int.toNat_natCast] at hd
      have hi0 : (0 : Int) ≤ (k : Int) := by omega
      have hi1 : (k : Int) < 64 := by omega
      clear hdt c1 hvl
      by_cases c3 : vis.getD k false = true
      · rw [if_pos c3] at hd
        subst hd
        go_wp2_with fail
        refine (HTK.out _).mono ?_
        rintro e w1 ⟨rfl, hk1⟩
        have HV1 := Lib.hid (HV.out.kept hk1 (by simp))
        have HW1 := Lib.hid (HW.out.old hk1)
        have hcm : w1.cell? ⟨w.heap.size + 1, k, none⟩ = some (.bool true) := by rw [HV1.out.cell, bC_get _ _ (by rw [HVL.out]; exact hk64), c3]
        have hlm := HV1.out.lt
        clear hk1
        go_wp2_with fail
        (try simp only [Exit.noGoto_normal])
        go_end0
        exact ⟨rfl, Am, cm, HW1.out⟩
      · rw [if_neg c3] at hd
        have c3' : vis.getD k false = false := by simpa using c3
        have HC3 := Lib.hid c3'
        have HDD := Lib.hid hd
        clear hd c3 c3' HD
        go_wp2_with fail
        refine (HTK.out _).mono ?_
        rintro e w1 ⟨rfl, hk1⟩
        have HV1 := Lib.hid (HV.out.kept hk1 (by simp))
        have HB1 := Lib.hid (HB.out.kept hk1 (by simp))
        have HW1 := Lib.hid (HW.out.old hk1)
        have hcm : w1.cell? ⟨w.heap.size + 1, k, none⟩ = some (.bool false) := by rw [HV1.out.cell, bC_get _ _ (by rw [HVL.out]; exact hk64), HC3.out]
        have hfm := HV1.out.frozen
        have hlm := HV1.out.lt
        have hset : Kept [w.heap.size + 1] w1 (w1.setCell ⟨w.heap.size + 1, k, none⟩ (.bool true)) := (Kept.refl [w.heap.size + 1] w1).setCell (.inl (by simp)) _
        have HV2 : Hid (Blk (w1.setCell ⟨w.heap.size + 1, k, none⟩ (.bool true)) (w.heap.size + 1) 125 (bC (vis.set k true))) := by
          show Blk _ _ _ _
          rw [← bC_set]
          exact HV1.out.set _ _
        have HB2 := Lib.hid (HB1.out.kept hset (by simp))
        have HW2 := Lib.hid (HW1.out.block HV1.out (by decide) (by decide) (by decide) (by have := HWS.out; omega) hset)
        clear hk1 hset hbc hbl
        go_upto_region 4 with fail
        clear hcm hfm hlm
        generalize w1.setCell ⟨w.heap.size + 1, k, none⟩ (.bool true) = w2 at *
        go_wp2_with fail
        refine (HC.out w2 Am cm out met HW2.out HOL.out (by omega) k hku).mono ?_
        rintro e w3 ⟨hA, hB, hkk⟩
        have HV3 := Lib.hid (HV2.out.kept hkk (HW2.out.free HV2.out (by decide) (by decide)))
        have HB3 := Lib.hid (HB2.out.kept hkk (HW2.out.free HB2.out (by decide) (by decide)))
        clear hkk
        obtain ⟨due, hdue⟩ : ∃ x, dueM owner level waits out k = x := ⟨_, rfl⟩
        have hdd := HDD.out
        rw [hdue] at hA hB hdd
        by_cases heq : due = out.getD k 0
        · obtain ⟨rfl, hw3⟩ := hA heq
          rw [if_pos heq] at hdd
          subst hdd
          have hol := HOL.out
          rw [hol] at hw3
          have HW1 := Lib.hid hw3
          clear hol
          clear hA hB hw3 heq hdue
          go_wp2_with fail
          (try simp only [Exit.noGoto_normal])
          go_end0
          exact ⟨rfl, Am, cm, HW1.out⟩
        · obtain ⟨rfl, Am2, cm2, hw3⟩ := hB heq
          rw [if_neg heq] at hdd
          have HDF := Lib.hid hdd
          have hol := HOL.out
          rw [hol] at hw3
          have HW3 := Lib.hid hw3
          clear hol
          have hbc := HB3.out.cell
          have hbl := HB3.out.lt
          clear hA hB hw3 heq hdue hdd HDD
          go_wp2_with fail
          refine (HX.out _ HW3.out.kept k hku).mono ?_
          rintro e w4 ⟨rfl, hk4⟩
          have HV4 := Lib.hid (HV3.out.kept hk4 (by simp))
          have HB4 := Lib.hid (HB3.out.kept hk4 (by simp))
          have HW4 := Lib.hid (HW3.out.old hk4)
          clear hk4 hbc hbl
          go_wp2_with fail
          have hcount : (vis.set k true).count false + 1 = vis.count false := by
            have hlt : k < vis.length := by rw [HVL.out]; exact hk64
            have hke : vis[k] = false := by have := HC3.out; rw [List.getD_eq_getElem?_getD, List.getElem?_eq_getElem hlt] at this; simpa using this
            have := List.count_set (l := vis) (i := k) (a := true) (b := false) hlt
            have hpos : 0 < vis.count false := List.count_pos_iff.2 (hke ▸ List.getElem_mem hlt)
            simp [hke] at this
            omega
          go_roundg ((vis.set k true).count false + 1)
          case measure => omega
          case rel => exact ⟨_, vis.set k true, out.set k due, met ++ [(k : Int)], Am2, cm2, rfl, by rw [List.length_set]; exact HVL.out, rfl, by simp; omega, by show (out.set k due).length = _; rw [List.length_set]; exact HOL.out, by rw [hcount]; exact HDF.out, HB4.out, HV4.out, HW4.out⟩
    · rw [if_pos c1] at hd
      subst hd
      have hdt : decide (0 ≤ u ∧ u < (waits.length : Int)) = false := by simp; omega
      have HTK := Lib.hid (fun w => hdt ▸ HT.out u w)
      clear hdt
      go_wp2_with fail
      refine (HTK.out _).mono ?_
      rintro e w1 ⟨rfl, hk1⟩
      have HW1 := Lib.hid (HW.out.old hk1)
      clear hk1
      go_wp2_with fail
      (try simp only [Exit.noGoto_normal])
      go_end0
      exact ⟨rfl, Am, cm, HW1.out⟩

theorem worse_init {w w1 : World} {b n : Nat} {gv : Array Value} {out : List Int} (hb : Blk w1 b 3 (out.map I64).toArray) (hg : Blk w1 w.heap.size 45 gv) (h1 : w.heap.size < b) (hk : Kept [] w w1) :
    WorseAt w ((w1.alloc (.cells #[.slice (some ⟨b, 0, none⟩) n n] 27)).alloc (.cells #[.slice none 0 0] 27)) w.heap.size w1.heap.size (w1.heap.size + 1) b gv n none 0 out [] := by
  have hbl := hb.lt
  have hgl := hg.lt
  have hks := hk.size
  have hka : Kept [] w1 ((w1.alloc (.cells #[.slice (some ⟨b, 0, none⟩) n n] 27)).alloc (.cells #[.slice none 0 0] 27)) := ((Kept.refl _ _).alloc _).alloc _
  refine ⟨⟨fun p hp => ?_, fun i j p q hij hp hq k hk1 hk2 => ?_⟩, fun p hp k hk' => ?_, hk.trans hka⟩
  · simp only [wP, List.mem_cons, List.not_mem_nil, or_false] at hp
    rcases hp with rfl | rfl | rfl | rfl | rfl
    · exact hg.kept hka (by simp)
    · exact (Blk.new w1 _ _).alloc _
    · exact Blk.newAt (by simp) _ _
    · exact hb.kept hka (by simp)
    · exact World.ownsRow_nil _ _ _ _
  · have hj : j < 5 := (List.getElem?_eq_some_iff.1 hq).1
    rcases (by omega : (i = 0 ∧ j = 1) ∨ (i = 0 ∧ j = 2) ∨ (i = 0 ∧ j = 3) ∨ (i = 0 ∧ j = 4) ∨ (i = 1 ∧ j = 2) ∨ (i = 1 ∧ j = 3) ∨ (i = 1 ∧ j = 4) ∨ (i = 2 ∧ j = 3) ∨ (i = 2 ∧ j = 4) ∨ (i = 3 ∧ j = 4)) with ⟨rfl, rfl⟩ | ⟨rfl, rfl⟩ | ⟨rfl, rfl⟩ | ⟨rfl, rfl⟩ | ⟨rfl, rfl⟩ | ⟨rfl, rfl⟩ | ⟨rfl, rfl⟩ | ⟨rfl, rfl⟩ | ⟨rfl, rfl⟩ | ⟨rfl, rfl⟩
    all_goals
      simp [wP] at hp hq
      subst hp hq
      simp [Piece.fp, fp, Value.ownBlock] at hk1 hk2
      try omega
  · simp only [wP, List.mem_cons, List.not_mem_nil, or_false] at hp
    rcases hp with rfl | rfl | rfl | rfl | rfl
    all_goals
      simp [Piece.fp, fp, Value.ownBlock] at hk'
      try omega

set_option maxHeartbeats 3200000 in
set_option maxRecDepth 100000 in
theorem gfWorse_any {w : World} {AV : Option Addr} {cV : Nat} {AW : Option Addr} {cW : Nat} {AO : Option Addr} {cO : Nat} {owner level : List Int} {waits : List (Int × Int)} (h : GrR w AV cV AW cW AO cO owner level waits) (eff : List Int) (AE : Option Addr) (cE : Nat) (hE : Reads w 1 AE eff.length (eff.map I64)) (hel : eff.length = waits.length) (hx : ∀ x ∈ eff, 0 ≤ x ∧ x ≤ 8) (t : Int) :
    Calls Tryz.prog 81 #[.agg #[.slice AV level.length cV, .slice AW waits.length cW, .slice AO owner.length cO], .slice AE eff.length cE, .int .i64 t] w fun e w' => ∃ b Am cm, e = .returned (.tuple #[.slice (some ⟨b, 0, none⟩) waits.length waits.length, .slice Am (worseF owner level waits eff t).2.length cm]) ∧
      Blk w' b 3 ((worseF owner level waits eff t).1.map I64).toArray ∧ w.heap.size ≤ b ∧ w'.ownsRow 0 3 1 (.slice Am (worseF owner level waits eff t).2.length cm) (worseF owner level waits eff t).2.length ((worseF owner level waits eff t).2.map I64) ∧ (∀ q, q ∈ fp (.slice Am (worseF owner level waits eff t).2.length cm) → w.heap.size ≤ q) ∧ b ∉ fp (.slice Am (worseF owner level waits eff t).2.length cm) ∧ Kept [] w w' := by
  have HFL : Hid (∀ W, Kept [] w W → Calls Tryz.prog 103 #[.agg #[.slice AV level.length cV, .slice AW waits.length cW, .slice AO owner.length cO], .slice AE eff.length cE] W fun e w' => ∃ b, e = .returned (.slice (some ⟨b, 0, none⟩) waits.length waits.length) ∧ Blk w' b 3 (eff.map I64).toArray ∧ W.heap.size ≤ b ∧ Kept [] W w') := fun W hk => by
    have hf := gffilled_any AV AW AO cV waits.length cW owner.length cO eff AE cE W (hE.old hk) (by rw [hel]; exact h.nt) hx
    rw [hel] at hf
    rw [h.len, hel]
    exact hf
  have HRD := Lib.hid (fun w1 bg bo bm b (hW : WorseAt w w1 bg bo bm b #[.slice AV level.length cV, .slice AW waits.length cW, .slice AO owner.length cO] waits.length none 0 eff []) => gfroad_w h bg bo bm b none 0 eff hW hel t)
  have HBG := Lib.hid (Blk.new w 45 #[.slice AV level.length cV, .slice AW waits.length cW, .slice AO owner.length cO])
  obtain ⟨R, hR⟩ : ∃ R, worseF owner level waits eff t = R := ⟨_, rfl⟩
  rw [hR] at HRD ⊢
  obtain ⟨out, met⟩ := R
  simp only at HRD ⊢
  clear h hE hel hx hR
  go_enter Tryz.func81, Tryz.ntmps81
  go_wp2_with fail
  refine (HFL.out _ (by (repeat (first | (with_reducible exact Kept.refl _ _) | (with_reducible assumption) | (with_reducible refine Kept.alloc ?_ _) | (with_reducible refine Kept.drew ?_) | (with_reducible refine Kept.drewN ?_ _) | (with_reducible refine Kept.setCell ?_ ?_ _) | (exact .inr (Nat.le_refl _)) | (exact .inr (by simp only; omega)) | (exact .inr (by omega)))))).mono ?_
  rintro e w1 ⟨b, rfl, hb, hbg, hk1⟩
  have hg1 := HBG.out.kept hk1 (by simp)
  simp only [World.size_alloc] at hbg
  have HW := Lib.hid (worse_init (n := waits.length) hb hg1 (by omega) (((Kept.refl [] w).alloc _).trans hk1))
  have hgc := hg1.cell
  have hgl := hg1.lt
  have HBG2 := Lib.hid hbg
  clear hb hk1 hg1 hbg
  go_wp2_with fail
  refine (HRD.out _ _ _ _ _ HW.out).mono ?_
  rintro e w2 ⟨rfl, Am, cm, hw2⟩
  have HW2 := Lib.hid hw2
  have hB1 : Blk w2 w1.heap.size 27 _ := hw2.holds.get (i := 1) rfl
  have hB2 : Blk w2 (w1.heap.size + 1) 27 _ := hw2.holds.get (i := 2) rfl
  have hc1 := hB1.cell
  have hc2 := hB2.cell
  have hl1 := hB1.lt
  have hl2 := hB2.lt
  clear hw2 hB1 hB2 hgc hgl
  go_wp2_with fail
  go_big_region
  all_goals
    go_wp2_with fail
    go_ret2
    have hk3 : Kept [] w2 _ := (Kept.refl [] w2).drew
    have hw3 := HW2.out.old hk3
    exact ⟨b, Am, cm, rfl, hw3.holds.get (i := 3) rfl, by have := HBG2.out; omega, hw3.holds.get (i := 4) rfl, fun q hq => hw3.new _ (List.mem_of_getElem? (i := 4) rfl) q hq, hw3.holds.apart (i := 3) (j := 4) (by omega) rfl rfl b (by simp [Piece.fp]), hw3.kept⟩

end Go.Proofs.YtfoeijiejpenpaaGreatDoor

