/- Package web: written, walked. -/
import Derived.Test.YtfoeijiejpenpaaDoorLkWeb
import Derived.Deep.RegionHeld3
namespace Go.Proofs.YtfoeijiejpenpaaDoor
open Go.RowKit

set_option maxHeartbeats 1600000 in
theorem wbOwn_ok {w : World} {gw bo : Nat} {co : Nat} {Aw : Option Addr} {cw : Nat} {owner : List Int} {waits : List (Int × Int)} (h : WebR w gw (some ⟨bo, 0, none⟩) co Aw cw owner waits) (hf : ∀ k, w.frozen? ⟨bo, k, none⟩ = false) (k : Nat) (hk : k < owner.length) (t : Int) (ht : t = -1 ∨ (0 ≤ t ∧ t < waits.length)) :
    Calls Tryd.prog 58 #[.pointer (some ⟨gw, 0, none⟩), .int .i64 k, .int .i64 t] w fun e w' => e = .returned (.bool true) ∧ w' = w.setCell ⟨bo, k, none⟩ (.int .i64 t) := by
  have HC := Lib.hid (wblock_any h k)
  have HT := Lib.hid (wbthread_any h t)
  have hd : decide (0 ≤ (k : Int) ∧ (k : Int) < (owner.length : Int)) = true := by simp; omega
  rw [hd] at HC
  have hc : w.cell? ⟨gw, 0, none⟩ = some (.slice (some ⟨bo, 0, none⟩) owner.length co) := h.blk.cell 0
  have hl := h.blk.lt
  obtain ⟨b, o, hbo, hb, hcell⟩ := h.rowO.addr (by omega) (by omega)
  injection hbo with hbo
  injection hbo with e1 e2
  subst e1 e2
  have hck : w.cell? ⟨bo, k, none⟩ = some (.int .i64 owner[k]) := by have := hcell k (I64 owner[k]) (by rw [List.getElem?_map, List.getElem?_eq_getElem hk]; rfl); rw [Nat.zero_add] at this; exact this
  have hfk := hf k
  have hi0 : (0 : Int) ≤ (k : Int) := by omega
  have hi1 : (k : Int) < (owner.length : Int) := by omega
  generalize owner[k] = x at *
  clear hcell hd hf
  rcases ht with rfl | ⟨h1, h2⟩
  · clear h HT
    generalize owner.length = n at *
    go_enter Tryd.func58, Tryd.ntmps58
    go_wp2_with fail
    refine (HC.out).mono ?_
    rintro e w1 ⟨rfl, rfl⟩
    go_wp2_with fail
    go_ret
    exact ⟨rfl, rfl⟩
  · have hd : decide (0 ≤ t ∧ t < (waits.length : Int)) = true := by simp; omega
    rw [hd] at HT
    have hb1 : (t == -1) = false := beq_eq_false_iff_ne.2 (by omega)
    clear h hd
    generalize owner.length = n at *
    go_enter Tryd.func58, Tryd.ntmps58
    go_wp2_with fail
    refine (HC.out).mono ?_
    rintro e w1 ⟨rfl, rfl⟩
    go_wp2_with fail
    refine (HT.out).mono ?_
    rintro e w1 ⟨rfl, rfl⟩
    go_wp2_with fail
    go_ret
    exact ⟨rfl, rfl⟩

set_option maxHeartbeats 3200000 in
theorem wbwait_ok {w : World} {gw bw : Nat} {Ao : Option Addr} {co cw : Nat} {owner : List Int} {waits : List (Int × Int)} (h : WebR w gw Ao co (some ⟨bw, 0, none⟩) cw owner waits) (hf : ∀ k, w.frozen? ⟨bw, k, none⟩ = false) (hne : gw ≠ bw) (k : Nat) (hk : k < waits.length) (a b : Int) :
    Calls Tryd.prog 73 #[.pointer (some ⟨gw, 0, none⟩), .int .i64 k, .agg #[.int .i64 a, .int .i64 b], .bool true] w fun e w' => e = .returned (.bool true) ∧ ∃ W, Kept [] w W ∧ Kept [] ((W.setCell ⟨bw, k * 2, none⟩ (.int .i64 a)).setCell ⟨bw, k * 2 + 1, none⟩ (.int .i64 b)) w' := by
  have HT := Lib.hid (fun W (hk : Kept [] w W) => wbthread_any (h.old hk) k)
  have hd : decide (0 ≤ (k : Int) ∧ (k : Int) < (waits.length : Int)) = true := by simp; omega
  rw [hd] at HT
  have hc : w.cell? ⟨gw, 1, none⟩ = some (.slice (some ⟨bw, 0, none⟩) waits.length cw) := h.blk.cell 1
  have hl := h.blk.lt
  obtain ⟨b0, o, hbo, hb, hcell⟩ := Reads.cellsK wL 2 wL_len h.rowW (by omega) (by omega)
  injection hbo with hbo
  injection hbo with e1 e2
  subst e1 e2
  have hck : w.cell? ⟨bw, k * 2, none⟩ = some (.int .i64 waits[k].1) := by have := hcell k _ (List.getElem?_eq_getElem hk) 0 (by omega); rw [Nat.zero_add] at this; exact this
  have hck1 : w.cell? ⟨bw, k * 2 + 1, none⟩ = some (.int .i64 waits[k].2) := by have := hcell k _ (List.getElem?_eq_getElem hk) 1 (by omega); rw [Nat.zero_add] at this; exact this
  have hf0 := hf (k * 2)
  have hf1 := hf (k * 2 + 1)
  have hi0 : (0 : Int) ≤ (k : Int) := by omega
  have hi1 : (k : Int) < (waits.length : Int) := by omega
  have hne2 : bw ≠ gw := fun h => hne h.symm
  have hn1 : gw ≠ w.heap.size := by omega
  have hn2 : w.heap.size ≠ gw := by omega
  have hn3 : bw ≠ w.heap.size := by omega
  have hn4 : w.heap.size ≠ bw := by omega
  generalize waits[k] = x at *
  clear hcell hd hf h
  generalize waits.length = n at *
  go_enter Tryd.func73, Tryd.ntmps73
  go_wp2_with fail
  refine (HT.out _ (by (repeat (first | (with_reducible exact Kept.refl _ _) | (with_reducible assumption) | (with_reducible refine Kept.alloc ?_ _) | (with_reducible refine Kept.drew ?_) | (with_reducible refine Kept.drewN ?_ _) | (with_reducible refine Kept.setCell ?_ ?_ _) | (exact .inr (Nat.le_refl _)) | (exact .inr (by simp only; omega)) | (exact .inr (by omega)))))).mono ?_
  rintro e w1 ⟨rfl, rfl⟩
  have hx := (Blk.new w 78 #[.int .i64 a, .int .i64 b])
  have hkW : Kept [] w (w.alloc (.cells #[.int .i64 a, .int .i64 b] 78)) := (Kept.refl _ _).alloc _
  have hx0 : (w.alloc (.cells #[.int .i64 a, .int .i64 b] 78)).cell? ⟨w.heap.size, 0, none⟩ = some (.int .i64 a) := hx.cell 0
  have hx1 : (w.alloc (.cells #[.int .i64 a, .int .i64 b] 78)).cell? ⟨w.heap.size, 1, none⟩ = some (.int .i64 b) := hx.cell 1
  have hxf := hx.frozen
  have hxl := hx.lt
  have hc2 := hkW.cell_some hc (by simp)
  have hck2 := hkW.cell_some hck (by simp)
  have hck12 := hkW.cell_some hck1 (by simp)
  have hf02 := (hkW.frozen (p := ⟨bw, k * 2, none⟩) hb (by simp)).trans hf0
  have hf12 := (hkW.frozen (p := ⟨bw, k * 2 + 1, none⟩) hb (by simp)).trans hf1
  have hl2 : gw < (w.alloc (.cells #[.int .i64 a, .int .i64 b] 78)).heap.size := Nat.lt_of_lt_of_le hl hkW.size
  have hb2 : bw < (w.alloc (.cells #[.int .i64 a, .int .i64 b] 78)).heap.size := Nat.lt_of_lt_of_le hb hkW.size
  have HKW := Lib.hid hkW
  clear hx hkW hc hck hck1 hf0 hf1 HT
  go_upto_region 3 with fail
  generalize w.alloc (.cells #[.int .i64 a, .int .i64 b] 78) = W at *
  go_region_held3 (fun w' => w'.cell? ⟨gw, 1, none⟩ = some (.slice (some ⟨bw, 0, none⟩) n cw) ∧ w'.cell? ⟨w.heap.size, 0, none⟩ = some (.int .i64 a) ∧ w'.cell? ⟨w.heap.size, 1, none⟩ = some (.int .i64 b)) (go_keep) (fail)
  all_goals
    go_wp2_with fail
    go_ret
    exact ⟨rfl, W, HKW.out, by first | exact Kept.refl _ _ | exact (Kept.refl _ _).drew⟩

/-- What a thread waits for is stored. -/
theorem waits_stored {w w' : World} {bw n c : Nat} {waits : List (Int × Int)} (hr : w.ownsRow 0 78 2 (.slice (some ⟨bw, 0, none⟩) n c) n (waits.flatMap wL)) (k : Nat) (hk : k < waits.length) (a b : Int)
    (h : ∃ W, Kept [] w W ∧ Kept [] ((W.setCell ⟨bw, k * 2, none⟩ (.int .i64 a)).setCell ⟨bw, k * 2 + 1, none⟩ (.int .i64 b)) w') : w'.ownsRow 0 78 2 (.slice (some ⟨bw, 0, none⟩) n c) n ((waits.set k (a, b)).flatMap wL) ∧ Kept [bw] w w' := by
  obtain ⟨W, h1, h2⟩ := h
  have hr1 := own_kept hr h1 (by simp)
  have hr2 := (hr1.stored (k * 2) (.int .i64 a)).1
  have hr3 := (hr2.stored (k * 2 + 1) (.int .i64 b)).1
  have he : ((waits.flatMap wL).set (k * 2) (.int .i64 a)).set (k * 2 + 1) (.int .i64 b) = (waits.set k (a, b)).flatMap wL := by
    clear hr hr1 hr2 hr3 h1 h2
    induction waits generalizing k with
    | nil => simp at hk
    | cons x t ih =>
      cases k with
      | zero => simp [wL, I64]
      | succ k =>
        have := ih k (by simpa using hk)
        rw [show (k + 1) * 2 = k * 2 + 1 + 1 by omega, List.flatMap_cons, List.set_cons_succ, List.flatMap_cons, ← this]
        simp [wL]
  rw [he] at hr3
  refine ⟨own_kept hr3 h2 (by simp), ?_⟩
  exact (((h1.mono (by simp)).setCell (.inl (by simp)) _).setCell (.inl (by simp)) _).trans (h2.mono (by simp))

end Go.Proofs.YtfoeijiejpenpaaDoor
