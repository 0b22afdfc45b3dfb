/- Package lock: what is read, walked. -/
import Derived.Test.YtfoeijiejpenpaaGreatDoorWebB
namespace Go.Proofs.YtfoeijiejpenpaaGreatDoor
open Go.RowKit

/-- The pieces of locks hold. -/
def LkAt (w : World) (a : LkA) (s : Lk) : Prop := a.gls.length = s.lines.length ∧ Holds w (lkP a s)
theorem LkAt.old {w w' : World} {a : LkA} {s : Lk} (h : LkAt w a s) (hk : Kept [] w w') : LkAt w' a s := ⟨h.1, h.2.old hk⟩
theorem LkAt.blk {w : World} {a : LkA} {s : Lk} (h : LkAt w a s) : Blk w a.g 47 #[.pointer (some ⟨a.gw, 0, none⟩), .slice a.AL s.lines.length a.cL, .slice a.AV s.eff.length a.cV, .slice a.AW s.eff.length a.cW, .slice a.AO s.lines.length a.cO, .slice a.AE s.eff.length a.cE, a.J] := h.2.get (i := 0) rfl
theorem LkAt.web {w : World} {a : LkA} {s : Lk} {K : Nat} (h : LkAt w a s) (hw : s.Whole K) : WebR w a.gw a.Ao a.co a.Aw a.cw s.owner s.waits := by
  have h1 : Blk w a.gw 83 #[.slice a.Ao s.lines.length a.co, .slice a.Aw s.eff.length a.cw] := h.2.get (i := 1) rfl
  have h2 : w.ownsRow 0 3 1 (.slice a.Ao s.lines.length a.co) s.lines.length (s.owner.map I64) := h.2.get (i := 2) rfl
  have h3 : w.ownsRow 0 85 2 (.slice a.Aw s.eff.length a.cw) s.eff.length (s.waits.flatMap wL) := h.2.get (i := 3) rfl
  rw [← hw.owner, ← hw.waits] at h1
  rw [← hw.owner] at h2
  rw [← hw.waits] at h3
  exact ⟨h1, Reads.of_own h2, Reads.of_own h3, by rw [hw.waits]; exact hw.nt, by rw [hw.owner]; exact hw.nl⟩

set_option maxHeartbeats 1600000 in
theorem lkthread_any {w : World} {a : LkA} {s : Lk} (h : LkAt w a s) (t : Int) : Calls Tryz.prog 47 #[.pointer (some ⟨a.g, 0, none⟩), .int .i64 t] w fun e w' => e = .returned (.bool (decide (0 ≤ t ∧ t < s.eff.length))) ∧ w = w' := by
  have hc : w.cell? ⟨a.g, 5, none⟩ = some (.slice a.AE s.eff.length a.cE) := h.blk.cell 5
  have hl := h.blk.lt
  clear h
  generalize s.eff.length = n at *
  rcases (by omega : t < 0 ∨ (0 ≤ t ∧ t < (n : Int)) ∨ (0 ≤ t ∧ ¬ t < (n : Int))) with h1 | ⟨h1, h2⟩ | ⟨h1, h2⟩
  · have hd : decide (0 ≤ t ∧ t < (n : Int)) = false := by simp; omega
    rw [hd]
    have h3 : ¬ 0 ≤ t := by omega
    clear hd
    go_enter Tryz.func47, Tryz.ntmps47
    go_wp2
    go_ret
    exact ⟨rfl, rfl⟩
  · have hd : decide (0 ≤ t ∧ t < (n : Int)) = true := by simp; omega
    rw [hd]
    clear hd
    go_enter Tryz.func47, Tryz.ntmps47
    go_wp2
    go_ret
    exact ⟨rfl, rfl⟩
  · have hd : decide (0 ≤ t ∧ t < (n : Int)) = false := by simp; omega
    rw [hd]
    clear hd
    go_enter Tryz.func47, Tryz.ntmps47
    go_wp2
    go_ret
    exact ⟨rfl, rfl⟩
set_option maxHeartbeats 1600000 in
theorem lklock_any {w : World} {a : LkA} {s : Lk} (h : LkAt w a s) (t : Int) : Calls Tryz.prog 48 #[.pointer (some ⟨a.g, 0, none⟩), .int .i64 t] w fun e w' => e = .returned (.bool (decide (0 ≤ t ∧ t < s.lines.length))) ∧ w = w' := by
  have hc : w.cell? ⟨a.g, 1, none⟩ = some (.slice a.AL s.lines.length a.cL) := h.blk.cell 1
  have hl := h.blk.lt
  clear h
  generalize s.lines.length = n at *
  rcases (by omega : t < 0 ∨ (0 ≤ t ∧ t < (n : Int)) ∨ (0 ≤ t ∧ ¬ t < (n : Int))) with h1 | ⟨h1, h2⟩ | ⟨h1, h2⟩
  · have hd : decide (0 ≤ t ∧ t < (n : Int)) = false := by simp; omega
    rw [hd]
    have h3 : ¬ 0 ≤ t := by omega
    clear hd
    go_enter Tryz.func48, Tryz.ntmps48
    go_wp2
    go_ret
    exact ⟨rfl, rfl⟩
  · have hd : decide (0 ≤ t ∧ t < (n : Int)) = true := by simp; omega
    rw [hd]
    clear hd
    go_enter Tryz.func48, Tryz.ntmps48
    go_wp2
    go_ret
    exact ⟨rfl, rfl⟩
  · have hd : decide (0 ≤ t ∧ t < (n : Int)) = false := by simp; omega
    rw [hd]
    clear hd
    go_enter Tryz.func48, Tryz.ntmps48
    go_wp2
    go_ret
    exact ⟨rfl, rfl⟩

/-- Does a thread wait? -/
def waitsB (s : Lk) (t : Int) : Bool := (getW s.waits t).1 != -1 || (getW s.waits t).2 != -1
set_option maxHeartbeats 1600000 in
theorem lkwaits_any {w : World} {a : LkA} {s : Lk} {K : Nat} (h : LkAt w a s) (hw : s.Whole K) (t : Int) : Calls Tryz.prog 49 #[.pointer (some ⟨a.g, 0, none⟩), .int .i64 t] w fun e w' => e = .returned (.bool (waitsB s t)) ∧ Kept [] w w' := by
  have HC := Lib.hid (wbWaits_any (h.web hw) t)
  have hc : w.cell? ⟨a.g, 0, none⟩ = some (.pointer (some ⟨a.gw, 0, none⟩)) := h.blk.cell 0
  have hl := h.blk.lt
  unfold waitsB
  generalize getW s.waits t = x at *
  obtain ⟨x1, x2⟩ := x
  simp only at HC ⊢
  clear h hw
  by_cases h1 : x1 = -1
  · subst h1
    by_cases h2 : x2 = -1
    · subst h2
      go_enter Tryz.func49, Tryz.ntmps49
      go_wp2_with fail
      refine (HC.out).mono ?_
      rintro e w1 ⟨rfl, hk⟩
      have HK := Lib.hid hk
      clear hk
      go_wp2_with fail
      go_ret
      exact ⟨rfl, HK.out⟩
    · have hb2 : (x2 == -1) = false := beq_eq_false_iff_ne.2 h2
      have hr : ((-1 : Int) != -1 || x2 != -1) = (x2 != -1) := by simp
      rw [hr]
      clear hr h2
      go_enter Tryz.func49, Tryz.ntmps49
      go_wp2_with fail
      refine (HC.out).mono ?_
      rintro e w1 ⟨rfl, hk⟩
      have HK := Lib.hid hk
      clear hk
      go_wp2_with fail
      go_ret
      exact ⟨rfl, HK.out⟩
  · have hb1 : (x1 == -1) = false := beq_eq_false_iff_ne.2 h1
    have hb3 : (x1 != -1) = true := by rw [bne_iff_ne]; exact h1
    have hr : (x1 != -1 || x2 != -1) = true := by simp [h1]
    rw [hr]
    have h1' := h1
    clear hr
    go_enter Tryz.func49, Tryz.ntmps49
    go_wp2_with fail
    refine (HC.out).mono ?_
    rintro e w1 ⟨rfl, hk⟩
    have HK := Lib.hid hk
    clear hk
    go_wp2_with fail
    go_ret
    exact ⟨rfl, HK.out⟩

/-- What is wrong with a wait for a lock. -/
def mayM (s : Lk) (t l : Int) : Int := if ¬ (0 ≤ t ∧ t < s.eff.length) then 5 else if ¬ (0 ≤ l ∧ l < s.lines.length) then 5 else if waitsB s t then 14 else if closesM s.owner s.waits t (getO s.owner l) then 12 else 0
set_option maxHeartbeats 3200000 in
theorem lkmay_any {w : World} {a : LkA} {s : Lk} {K : Nat} (h : LkAt w a s) (hw : s.Whole K) (t l : Int) : Calls Tryz.prog 43 #[.pointer (some ⟨a.g, 0, none⟩), .int .i64 t, .int .i64 l] w fun e w' => e = .returned (.int .i64 (mayM s t l)) ∧ Kept [] w w' := by
  have HT := Lib.hid (lkthread_any h t)
  have HL := Lib.hid (lklock_any h l)
  have HWT := Lib.hid (lkwaits_any h hw t)
  have HO := Lib.hid (fun W (hk : Kept [] w W) => wbOwner_any ((h.old hk).web hw) l)
  have hlt : ∀ (A : Option Addr) (e : TypeId) (sz n c : Nat) xs, w.ownsRow 0 e sz (.slice A n c) n xs → ∀ ad, A = some ad → ad.block < w.heap.size := fun A e sz n c xs ho ad he => own_lt ho ad.block (by subst he; rw [fp_slice]; simp)
  have HC := Lib.hid (fun W (hk : Kept [] w W) u => wbCloses_any ((h.old hk).web hw) (by rw [hw.waits]; exact hw.owners) (by rw [hw.waits]; exact hw.wts) (fun ad e => Nat.lt_of_lt_of_le (hlt _ _ _ _ _ _ (h.2.get (i := 2) rfl) ad e) hk.size) (fun ad e => Nat.lt_of_lt_of_le (hlt _ _ _ _ _ _ (h.2.get (i := 3) rfl) ad e) hk.size) t u)
  have hc : w.cell? ⟨a.g, 0, none⟩ = some (.pointer (some ⟨a.gw, 0, none⟩)) := h.blk.cell 0
  have hl := h.blk.lt
  have HB := Lib.hid h.blk
  unfold mayM
  clear h hw hlt
  by_cases ct : 0 ≤ t ∧ t < s.eff.length
  · rw [if_neg (fun h => h ct)]
    have hd : decide (0 ≤ t ∧ t < (s.eff.length : Int)) = true := by simp; omega
    rw [hd] at HT
    by_cases cl : 0 ≤ l ∧ l < s.lines.length
    · rw [if_neg (fun h => h cl)]
      have hd2 : decide (0 ≤ l ∧ l < (s.lines.length : Int)) = true := by simp; omega
      rw [hd2] at HL
      clear hd hd2 ct cl
      generalize waitsB s t = wb at *
      generalize getO s.owner l = o at *
      have HC2 := Lib.hid (fun W hk => HC.out W hk o)
      clear HC
      generalize closesM s.owner s.waits t o = cb at *
      cases wb
      · cases cb
        all_goals
          simp only [Bool.false_eq_true, if_false, if_true]
        · skip
          go_enter Tryz.func43, Tryz.ntmps43
          go_wp2_with fail
          refine (HT.out).mono ?_
          rintro e w1 ⟨rfl, rfl⟩
          go_wp2_with fail
          refine (HL.out).mono ?_
          rintro e w1 ⟨rfl, rfl⟩
          go_wp2_with fail
          refine (HWT.out).mono ?_
          rintro e w1 ⟨rfl, hk⟩
          have HK := Lib.hid hk
          have HB1 := Lib.hid (HB.out.kept hk (by simp))
          have hc1 : w1.cell? ⟨a.g, 0, none⟩ = some (.pointer (some ⟨a.gw, 0, none⟩)) := HB1.out.cell 0
          have hl1 := HB1.out.lt
          clear hk
          go_wp2_with fail
          go_region_held3 (fun w' => w'.cell? ⟨a.g, 0, none⟩ = some (.pointer (some ⟨a.gw, 0, none⟩))) (go_keep) (first | (go_at_call 44; refine (HO.out _ (HK.out.trans (by (repeat (first | (with_reducible exact Kept.refl _ _) | (with_reducible assumption) | (with_reducible refine Kept.alloc ?_ _) | (with_reducible refine Kept.drew ?_) | (with_reducible refine Kept.drewN ?_ _) | (with_reducible refine Kept.setCell ?_ ?_ _) | (exact .inr (Nat.le_refl _)) | (exact .inr (by simp only; omega)) | (exact .inr (by omega))))))).mono ?_; rintro e w4 ⟨rfl, rfl⟩) | (go_at_call 60; refine (HC2.out _ (HK.out.trans (by (repeat (first | (with_reducible exact Kept.refl _ _) | (with_reducible assumption) | (with_reducible refine Kept.alloc ?_ _) | (with_reducible refine Kept.drew ?_) | (with_reducible refine Kept.drewN ?_ _) | (with_reducible refine Kept.setCell ?_ ?_ _) | (exact .inr (Nat.le_refl _)) | (exact .inr (by simp only; omega)) | (exact .inr (by omega))))))).mono ?_; rintro e w4 ⟨rfl, hk4⟩; have HK4 := Lib.hid ((show Kept [] w1 _ by (repeat (first | (with_reducible exact Kept.refl _ _) | (with_reducible assumption) | (with_reducible refine Kept.alloc ?_ _) | (with_reducible refine Kept.drew ?_) | (with_reducible refine Kept.drewN ?_ _) | (with_reducible refine Kept.setCell ?_ ?_ _) | (exact .inr (Nat.le_refl _)) | (exact .inr (by simp only; omega)) | (exact .inr (by omega))))).trans hk4); have hc4 : w4.cell? ⟨a.g, 0, none⟩ = some (.pointer (some ⟨a.gw, 0, none⟩)) := HK4.out.cell_some hc1 (by simp); clear hk4))
          all_goals
            go_wp2_with fail
            go_ret
            exact ⟨rfl, HK.out.trans HK4.out⟩
        · skip
          go_enter Tryz.func43, Tryz.ntmps43
          go_wp2_with fail
          refine (HT.out).mono ?_
          rintro e w1 ⟨rfl, rfl⟩
          go_wp2_with fail
          refine (HL.out).mono ?_
          rintro e w1 ⟨rfl, rfl⟩
          go_wp2_with fail
          refine (HWT.out).mono ?_
          rintro e w1 ⟨rfl, hk⟩
          have HK := Lib.hid hk
          have HB1 := Lib.hid (HB.out.kept hk (by simp))
          have hc1 : w1.cell? ⟨a.g, 0, none⟩ = some (.pointer (some ⟨a.gw, 0, none⟩)) := HB1.out.cell 0
          have hl1 := HB1.out.lt
          clear hk
          go_wp2_with fail
          go_region_held3 (fun w' => w'.cell? ⟨a.g, 0, none⟩ = some (.pointer (some ⟨a.gw, 0, none⟩))) (go_keep) (first | (go_at_call 44; refine (HO.out _ (HK.out.trans (by (repeat (first | (with_reducible exact Kept.refl _ _) | (with_reducible assumption) | (with_reducible refine Kept.alloc ?_ _) | (with_reducible refine Kept.drew ?_) | (with_reducible refine Kept.drewN ?_ _) | (with_reducible refine Kept.setCell ?_ ?_ _) | (exact .inr (Nat.le_refl _)) | (exact .inr (by simp only; omega)) | (exact .inr (by omega))))))).mono ?_; rintro e w4 ⟨rfl, rfl⟩) | (go_at_call 60; refine (HC2.out _ (HK.out.trans (by (repeat (first | (with_reducible exact Kept.refl _ _) | (with_reducible assumption) | (with_reducible refine Kept.alloc ?_ _) | (with_reducible refine Kept.drew ?_) | (with_reducible refine Kept.drewN ?_ _) | (with_reducible refine Kept.setCell ?_ ?_ _) | (exact .inr (Nat.le_refl _)) | (exact .inr (by simp only; omega)) | (exact .inr (by omega))))))).mono ?_; rintro e w4 ⟨rfl, hk4⟩; have HK4 := Lib.hid ((show Kept [] w1 _ by (repeat (first | (with_reducible exact Kept.refl _ _) | (with_reducible assumption) | (with_reducible refine Kept.alloc ?_ _) | (with_reducible refine Kept.drew ?_) | (with_reducible refine Kept.drewN ?_ _) | (with_reducible refine Kept.setCell ?_ ?_ _) | (exact .inr (Nat.le_refl _)) | (exact .inr (by simp only; omega)) | (exact .inr (by omega))))).trans hk4); have hc4 : w4.cell? ⟨a.g, 0, none⟩ = some (.pointer (some ⟨a.gw, 0, none⟩)) := HK4.out.cell_some hc1 (by simp); clear hk4))
          all_goals
            go_wp2_with fail
            go_ret
            exact ⟨rfl, HK.out.trans HK4.out⟩
      · rw [if_pos rfl]
        go_enter Tryz.func43, Tryz.ntmps43
        go_wp2_with fail
        refine (HT.out).mono ?_
        rintro e w1 ⟨rfl, rfl⟩
        go_wp2_with fail
        refine (HL.out).mono ?_
        rintro e w1 ⟨rfl, rfl⟩
        go_wp2_with fail
        refine (HWT.out).mono ?_
        rintro e w1 ⟨rfl, hk⟩
        have HK := Lib.hid hk
        clear hk
        go_wp2_with fail
        go_ret
        exact ⟨rfl, HK.out⟩
    · rw [if_pos cl]
      have hd2 : decide (0 ≤ l ∧ l < (s.lines.length : Int)) = false := by simp; omega
      rw [hd2] at HL
      clear hd hd2 ct cl
      go_enter Tryz.func43, Tryz.ntmps43
      go_wp2_with fail
      refine (HT.out).mono ?_
      rintro e w1 ⟨rfl, rfl⟩
      go_wp2_with fail
      refine (HL.out).mono ?_
      rintro e w1 ⟨rfl, rfl⟩
      go_wp2_with fail
      go_ret
      exact ⟨rfl, Kept.refl _ _⟩
  · rw [if_pos ct]
    have hd : decide (0 ≤ t ∧ t < (s.eff.length : Int)) = false := by simp; omega
    rw [hd] at HT
    clear hd ct
    go_enter Tryz.func43, Tryz.ntmps43
    go_wp2_with fail
    refine (HT.out).mono ?_
    rintro e w1 ⟨rfl, rfl⟩
    go_wp2_with fail
    go_ret
    exact ⟨rfl, Kept.refl _ _⟩

end Go.Proofs.YtfoeijiejpenpaaGreatDoor
