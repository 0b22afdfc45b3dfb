/- Package bosunref26: SetLevel waits may come Lock Try, walked; Package bosunref26: come Lock Try Join Cancel, walked; Package bosunref24, On; package bosunref26, Owned; walked. -/
import Derived.Test.YtfoeijiejpenpaaGreatDoorRefA
import Derived.Test.YtfoeijiejpenpaaGreatDoorLkBit
import Derived.Test.YtfoeijiejpenpaaGreatDoorSets1

/- Package bosunref26: SetLevel waits may come Lock Try, walked. -/
namespace Go.Proofs.YtfoeijiejpenpaaGreatDoor
open Go.RowKit

/-- A thread's level is another one. -/
def setLevelR (f : Rf) (t lev : Int) : Rf := if 0 ≤ t ∧ t < f.level.length then { f with level := f.level.set t.toNat (holdL lev) } else f
set_option maxHeartbeats 3200000 in
set_option maxRecDepth 100000 in
theorem refSetLevel {w0 : Base} {w : World} {b : RfA} {f : Rf} (h : RfIs w0 w b f) (t lev : Int) : Calls Tryz.prog 27 #[.pointer (some ⟨b.r, 0, none⟩), .int .i64 t, .int .i64 lev] w fun e w' => e = .returned (.bool (decide (0 ≤ t ∧ t < f.level.length))) ∧ RfIs w0 w' b (setLevelR f t lev) := by
  have hmix : Tryz.prog.follows .mixedOrders = true := by kernel_rfl
  have HT := Lib.hid (refThread h.at_ t)
  have HHO := Lib.hid (fun W => refHold_any lev W)
  have hr0 : w.cell? ⟨b.r, 0, none⟩ = some (.slice b.AL f.level.length b.cL) := h.at_.blk.cell 0
  have hr1 : w.cell? ⟨b.r, 1, none⟩ = some (.pointer (some ⟨b.rw, 0, none⟩)) := h.at_.blk.cell 1
  have hrl := h.at_.blk.lt
  have HH := Lib.hid h
  unfold setLevelR
  by_cases ct : 0 ≤ t ∧ t < f.level.length
  · rw [if_pos ct]
    have hd : decide (0 ≤ t ∧ t < (f.level.length : Int)) = true := by simp; omega
    rw [hd] at HT ⊢
    obtain ⟨k, rfl⟩ : ∃ k : Nat, t = k := ⟨t.toNat, by omega⟩
    simp only [Int.toNat_natCast]
    obtain ⟨gl, hgl, hcl, hfl, hll⟩ := h.at_.level k (by omega)
    have h2 := (h.setLevel k (by omega) (holdL lev) hgl).old ((Kept.refl [] _).drew)
    have hs2 : (w.setCell ⟨gl, k, none⟩ (.int .i64 (holdL lev))).drew.cell? ⟨b.r, 0, none⟩ = some (.slice b.AL f.level.length b.cL) := by
      have := h2.at_.blk.cell 0
      rw [show ({ f with level := f.level.set k (holdL lev) } : Rf).level.length = f.level.length by simp] at this
      exact this
    have H2 := Lib.hid h2
    rw [hgl] at hr0 hs2
    have HS2 := Lib.hid hs2
    have hfk := hfl k
    have hi0 : (0 : Int) ≤ (k : Int) := by omega
    have hi1 : (k : Int) < (f.level.length : Int) := by omega
    generalize f.level.getD k 0 = x at *
    generalize holdL lev = hv at *
    generalize hN : f.level.length = n at *
    clear hd ct h hfl hgl HH hN h2 hs2
    go_enter Tryz.func27, Tryz.ntmps27
    go_wp2_with fail
    refine (HT.out).mono ?_
    rintro e w1 ⟨rfl, rfl⟩
    go_wp2_with fail
    refine wp_region_held_drew (S := fun w' => w'.cell? ⟨b.r, 0, none⟩ = some (.slice (some ⟨gl, 0, none⟩) n b.cL)) hmix hr0 (fun hHeld => ?_)
    (refine rtake_0 (v := ?_) (by kernel_rfl) (by kernel_rfl) (by kernel_rfl) (fun _ _ _ h => h) (Or.inl ⟨by rfl, ?_⟩) (by assumption) ?_; rotate_left; focus ((intro w hSw; (try dsimp only at hSw); go_simp); try (with_reducible rfl)); (try simp only [Act.put, List.setIfInBounds_toArray, List.set_cons_zero, List.set_cons_succ]))
    (refine rtake_1 (v := ?_) (by kernel_rfl) (by kernel_rfl) (by kernel_rfl) (fun _ _ _ h => h) (Or.inl ⟨by rfl, ?_⟩) (by assumption) ?_; rotate_left; focus ((intro w hSw; (try dsimp only at hSw); go_simp); try (with_reducible rfl)); (try simp only [Act.put, List.setIfInBounds_toArray, List.set_cons_zero, List.set_cons_succ]))
    (refine rtake_2 (v := ?_) (by kernel_rfl) (by kernel_rfl) (by kernel_rfl) (fun _ _ _ h => h) (Or.inl ⟨by rfl, ?_⟩) (by assumption) ?_; rotate_left; focus ((intro w hSw; (try dsimp only at hSw); go_simp); try (with_reducible rfl)); (try simp only [Act.put, List.setIfInBounds_toArray, List.set_cons_zero, List.set_cons_succ]))
    (refine rtake_3 (v := ?_) (by kernel_rfl) (by kernel_rfl) (by kernel_rfl) (fun _ _ _ h => h) (Or.inl ⟨by rfl, ?_⟩) (by assumption) ?_; rotate_left; focus ((intro w hSw; (try dsimp only at hSw); go_simp); try (with_reducible rfl)); (try simp only [Act.put, List.setIfInBounds_toArray, List.set_cons_zero, List.set_cons_succ]))
    (refine rtake_4 (v := ?_) (by kernel_rfl) (by kernel_rfl) (by kernel_rfl) (fun _ _ _ h => h) (Or.inl ⟨by rfl, ?_⟩) (by assumption) ?_; rotate_left; focus ((intro w hSw; (try dsimp only at hSw); go_simp); try (with_reducible rfl)); (try simp only [Act.put, List.setIfInBounds_toArray, List.set_cons_zero, List.set_cons_succ]))
    (refine rtake_5 (v := ?_) (by kernel_rfl) (by kernel_rfl) (by kernel_rfl) (fun _ _ _ h => h) (Or.inl ⟨by rfl, ?_⟩) (by assumption) ?_; rotate_left; focus ((intro w hSw; (try dsimp only at hSw); go_simp); try (with_reducible rfl)); (try simp only [Act.put, List.setIfInBounds_toArray, List.set_cons_zero, List.set_cons_succ]))
    (refine wpAnyH_ready (rs := [6]) (by kernel_rfl) (by simp) ?_; refine rcons_6 (fun K hK => ?_) (AllReadyH.nil))
    go_simp
    (with_reducible refine (HHO.out _).mono ?_)
    rintro r w3 ⟨rfl, rfl⟩
    try go_simp
    refine hK.out _ _ hr0 (fun hHeld => ?_)
    clear hK K
    (try simp only [Act.put, List.setIfInBounds_toArray, List.set_cons_zero, List.set_cons_succ])
    (refine rtake_7 (v := ?_) (by kernel_rfl) (by kernel_rfl) (by kernel_rfl) (fun _ _ _ h => h) (Or.inl ⟨by rfl, ?_⟩) (by assumption) ?_; rotate_left; focus ((intro w hSw; (try dsimp only at hSw); go_simp); try (with_reducible rfl)); (try simp only [Act.put, List.setIfInBounds_toArray, List.set_cons_zero, List.set_cons_succ]))
    (refine wpAnyH_ready (rs := [8]) (by kernel_rfl) (by simp) ?_; refine rcons_8 (fun K hK => ?_) (AllReadyH.nil))
    go_simp
    refine hK.out _ _ HS2.out (fun hHeld => ?_)
    clear hK K
    (try simp only [Act.put, List.setIfInBounds_toArray, List.set_cons_zero, List.set_cons_succ])
    refine wpAnyH_done (by kernel_rfl) ?_ _
    go_wp2_with fail
    go_ret
    exact ⟨rfl, H2.out⟩
  · rw [if_neg ct]
    have hd : decide (0 ≤ t ∧ t < (f.level.length : Int)) = false := by simp; omega
    rw [hd] at HT ⊢
    clear hd ct h
    go_enter Tryz.func27, Tryz.ntmps27
    go_wp2_with fail
    refine (HT.out).mono ?_
    rintro e w1 ⟨rfl, rfl⟩
    go_wp2_with fail
    go_ret
    exact ⟨rfl, HH.out⟩

/-- Does a thread wait? -/
def waitsR (f : Rf) (t : Nat) : Bool := decide (0 ≤ f.lock.getD t 0) || decide (0 ≤ f.join.getD t 0)
set_option maxHeartbeats 1600000 in
theorem refWaits {w : World} {b : RfA} {f : Rf} (h : RfAt w b f) (hw : f.Whole) (k : Nat) (hk : k < f.level.length) : Calls Tryz.prog 51 #[.pointer (some ⟨b.r, 0, none⟩), .int .i64 k] w fun e w' => e = .returned (.bool (waitsR f k)) ∧ w = w' := by
  have hr1 : w.cell? ⟨b.r, 1, none⟩ = some (.pointer (some ⟨b.rw, 0, none⟩)) := h.blk.cell 1
  have hrl := h.blk.lt
  have hb1 : w.cell? ⟨b.rw, 1, none⟩ = some (.slice b.AK f.level.length b.cK) := h.web.cell 1
  have hb2 : w.cell? ⟨b.rw, 2, none⟩ = some (.slice b.AJ f.level.length b.cJ) := h.web.cell 2
  have hbl := h.web.lt
  obtain ⟨gk, hgk, hck, _, _⟩ := h.lock hw k hk
  obtain ⟨gj, hgj, hcj, _, _⟩ := h.join hw k hk
  rw [hgk] at hb1
  rw [hgj] at hb2
  have hi0 : (0 : Int) ≤ (k : Int) := by omega
  have hi1 : (k : Int) < (f.level.length : Int) := by omega
  unfold waitsR
  generalize f.lock.getD k 0 = x at *
  generalize f.join.getD k 0 = y at *
  generalize f.level.length = n at *
  clear h hw hgk hgj
  by_cases hx : 0 ≤ x
  · have hr : (decide (0 ≤ x) || decide (0 ≤ y)) = true := by simp [hx]
    rw [hr]
    clear hr
    go_enter Tryz.func51, Tryz.ntmps51
    go_wp2_with fail
    go_ret
    exact ⟨rfl, rfl⟩
  · have hx2 : x < 0 := by omega
    clear hx
    go_enter Tryz.func51, Tryz.ntmps51
    go_wp2_with fail
    go_ret
    exact ⟨rfl, rfl⟩

theorem closesR_neg (f : Rf) (t : Int) {u : Int} (h : u < 0) : closesR f t u = false := by
  unfold closesR
  rw [show decide (0 ≤ u ∧ u < (f.level.length : Int)) = false by simp; omega]
  simp
/-- What is wrong with a wait for a lock. -/
def mayR (f : Rf) (t l : Int) : Int := if ¬ (0 ≤ t ∧ t < f.level.length) then 5 else if ¬ (0 ≤ l ∧ l < f.owner.length) then 5 else cond (waitsR f t.toNat) 14 (cond (closesR f t (f.owner.getD l.toNat 0)) 12 0)
set_option maxHeartbeats 6400000 in
set_option maxRecDepth 100000 in
theorem refMay {w : World} {b : RfA} {f : Rf} (h : RfAt w b f) (hw : f.Whole) (t l : Int) : Calls Tryz.prog 46 #[.pointer (some ⟨b.r, 0, none⟩), .int .i64 t, .int .i64 l] w fun e w' => e = .returned (.int .i64 (mayR f t l)) ∧ Kept [] w w' := by
  have hmix : Tryz.prog.follows .mixedOrders = true := by kernel_rfl
  have HT := Lib.hid (refThread h t)
  have HL := Lib.hid (refIsLock h l)
  have hr1 : w.cell? ⟨b.r, 1, none⟩ = some (.pointer (some ⟨b.rw, 0, none⟩)) := h.blk.cell 1
  have hrl := h.blk.lt
  unfold mayR
  by_cases ct : 0 ≤ t ∧ t < f.level.length
  · rw [if_neg (fun hx => hx ct)]
    have hd : decide (0 ≤ t ∧ t < (f.level.length : Int)) = true := by simp; omega
    rw [hd] at HT
    by_cases cl : 0 ≤ l ∧ l < f.owner.length
    · rw [if_neg (fun hx => hx cl)]
      have hd2 : decide (0 ≤ l ∧ l < (f.owner.length : Int)) = true := by simp; omega
      rw [hd2] at HL
      obtain ⟨k, rfl⟩ : ∃ k : Nat, t = k := ⟨t.toNat, by omega⟩
      obtain ⟨q, rfl⟩ : ∃ q : Nat, l = q := ⟨l.toNat, by omega⟩
      simp only [Int.toNat_natCast]
      have HW := Lib.hid (refWaits h hw k (by omega))
      obtain ⟨go, hgo, hco, _, _⟩ := h.owner q (by omega)
      have hb0 : w.cell? ⟨b.rw, 0, none⟩ = some (.slice b.AO f.owner.length b.cO) := h.web.cell 0
      have hbl := h.web.lt
      rw [hgo] at hb0
      have hq0 : (0 : Int) ≤ (q : Int) := by omega
      have hq1 : (q : Int) < (f.owner.length : Int) := by omega
      have HCL := Lib.hid (fun W (hk : Kept [] w W) u => refCloses (h.old hk) hw k u)
      have HCN : Hid (∀ y : Int, y < 0 → closesR f k y = false) := fun y hy => closesR_neg f k hy
      generalize waitsR f k = wb at *
      generalize f.owner.getD q 0 = y at *
      generalize f.owner.length = m at *
      clear hd hd2 ct cl h hw hgo
      cases wb with
      | true =>
        rw [cond_true]
        go_enter Tryz.func46, Tryz.ntmps46
        go_wp2_with fail
        refine (HT.out).mono ?_
        rintro e w1 ⟨rfl, rfl⟩
        go_wp2_with fail
        refine (HL.out).mono ?_
        rintro e w1 ⟨rfl, rfl⟩
        go_wp2_with fail
        refine (HW.out).mono ?_
        rintro e w1 ⟨rfl, rfl⟩
        go_wp2_with fail
        go_ret
        exact ⟨rfl, Kept.refl _ _⟩
      | false =>
        rw [cond_false]
        have hS := And.intro hr1 (And.intro hb0 hco)
        by_cases hy : 0 ≤ y
        · have HDY : Hid (decide (0 ≤ y) = true) := decide_eq_true hy
          have HC := Lib.hid (fun W hk => HCL.out W hk y)
          generalize closesR f k y = C at *
          have HSS := Lib.hid hS
          clear HCL hS
          go_enter Tryz.func46, Tryz.ntmps46
          go_wp2_with fail
          refine (HT.out).mono ?_
          rintro e w1 ⟨rfl, rfl⟩
          go_wp2_with fail
          refine (HL.out).mono ?_
          rintro e w1 ⟨rfl, rfl⟩
          go_wp2_with fail
          refine (HW.out).mono ?_
          rintro e w1 ⟨rfl, rfl⟩
          go_wp2_with fail
          refine wp_region_held_drew (S := fun w' => w'.cell? ⟨b.r, 1, none⟩ = some (.pointer (some ⟨b.rw, 0, none⟩)) ∧ w'.cell? ⟨b.rw, 0, none⟩ = some (.slice (some ⟨go, 0, none⟩) m b.cO) ∧ w'.cell? ⟨go, q, none⟩ = some (.int .i64 y)) hmix HSS.out (fun hHeld => ?_)
          (refine rtake_0 (v := ?_) (by kernel_rfl) (by kernel_rfl) (by kernel_rfl) (fun _ _ _ h => h) (Or.inl ⟨by rfl, ?_⟩) (by assumption) ?_; rotate_left; (focus ((intro w hSw; (try dsimp only at hSw); go_simp); try (with_reducible rfl))); (try dsimp only [Act.put]); (try simp only [List.setIfInBounds_toArray, List.set_cons_zero, List.set_cons_succ]))
          (refine rtake_1 (v := ?_) (by kernel_rfl) (by kernel_rfl) (by kernel_rfl) (fun _ _ _ h => h) (Or.inl ⟨by rfl, ?_⟩) (by assumption) ?_; rotate_left; (focus ((intro w hSw; (try dsimp only at hSw); go_simp); try (with_reducible rfl))); (try dsimp only [Act.put]); (try simp only [List.setIfInBounds_toArray, List.set_cons_zero, List.set_cons_succ]))
          (refine rtake_2 (v := ?_) (by kernel_rfl) (by kernel_rfl) (by kernel_rfl) (fun _ _ _ h => h) (Or.inl ⟨by rfl, ?_⟩) (by assumption) ?_; rotate_left; (focus ((intro w hSw; (try dsimp only at hSw); go_simp); try (with_reducible rfl))); (try dsimp only [Act.put]); (try simp only [List.setIfInBounds_toArray, List.set_cons_zero, List.set_cons_succ]))
          (refine rtake_3 (v := ?_) (by kernel_rfl) (by kernel_rfl) (by kernel_rfl) (fun _ _ _ h => h) (Or.inl ⟨by rfl, ?_⟩) (by assumption) ?_; rotate_left; (focus ((intro w hSw; (try dsimp only at hSw); go_simp); try (with_reducible rfl))); (try dsimp only [Act.put]); (try simp only [List.setIfInBounds_toArray, List.set_cons_zero, List.set_cons_succ]))
          (refine rtake_4 (v := ?_) (by kernel_rfl) (by kernel_rfl) (by kernel_rfl) (fun _ _ _ h => h) (Or.inl ⟨by rfl, ?_⟩) (by assumption) ?_; rotate_left; (focus ((intro w hSw; (try dsimp only at hSw); go_simp); try (with_reducible rfl))); (try dsimp only [Act.put]); (try simp only [List.setIfInBounds_toArray, List.set_cons_zero, List.set_cons_succ]))
          (refine rtake_5 (v := ?_) (by kernel_rfl) (by kernel_rfl) (by kernel_rfl) (fun _ _ _ h => h) (Or.inl ⟨by rfl, ?_⟩) (by assumption) ?_; rotate_left; (focus ((intro w hSw; (try dsimp only at hSw); go_simp); try (with_reducible rfl))); (try dsimp only [Act.put]); (try simp only [List.setIfInBounds_toArray, List.set_cons_zero, List.set_cons_succ]))
          (refine rtake_6 (v := ?_) (by kernel_rfl) (by kernel_rfl) (by kernel_rfl) (fun _ _ _ h => h) (Or.inl ⟨by rfl, ?_⟩) (by assumption) ?_; rotate_left; (focus ((intro w hSw; (try dsimp only at hSw); go_simp); try (with_reducible rfl))); (try dsimp only [Act.put]); (try simp only [List.setIfInBounds_toArray, List.set_cons_zero, List.set_cons_succ]))
          (refine rtake_7 (v := ?_) (by kernel_rfl) (by kernel_rfl) (by kernel_rfl) (fun _ _ _ h => h) (Or.inl ⟨by rfl, ?_⟩) (by assumption) ?_; rotate_left; (focus ((intro w hSw; (try dsimp only at hSw); go_simp); try (with_reducible rfl))); (try dsimp only [Act.put]); (try simp only [List.setIfInBounds_toArray, List.set_cons_zero, List.set_cons_succ]))
          (refine rtake_8 (v := ?_) (by kernel_rfl) (by kernel_rfl) (by kernel_rfl) (fun _ _ _ h => h) (Or.inl ⟨by rfl, ?_⟩) (by assumption) ?_; rotate_left; (focus ((intro w hSw; (try dsimp only at hSw); go_simp); try (with_reducible rfl))); (try dsimp only [Act.put]); (try simp only [List.setIfInBounds_toArray, List.set_cons_zero, List.set_cons_succ]))
          (refine rtake_9 (v := ?_) (by kernel_rfl) (by kernel_rfl) (by kernel_rfl) (fun _ _ _ h => h) (Or.inl ⟨by rfl, ?_⟩) (by assumption) ?_; rotate_left; (focus ((intro w hSw; (try dsimp only at hSw); go_simp); try (with_reducible rfl))); (try dsimp only [Act.put]); (try simp only [List.setIfInBounds_toArray, List.set_cons_zero, List.set_cons_succ]))
          (refine rtake_10 (v := ?_) (by kernel_rfl) (by kernel_rfl) (by kernel_rfl) (fun _ _ _ h => h) (Or.inl ⟨by rfl, ?_⟩) (by assumption) ?_; rotate_left; (focus ((intro w hSw; (try dsimp only at hSw); go_simp); try (with_reducible rfl))); (try dsimp only [Act.put]); (try simp only [List.setIfInBounds_toArray, List.set_cons_zero, List.set_cons_succ]))
          (refine rtake_11 (v := ?_) (by kernel_rfl) (by kernel_rfl) (by kernel_rfl) (fun _ _ _ h => h) (Or.inl ⟨by rfl, ?_⟩) (by assumption) ?_; rotate_left; (focus ((intro w hSw; (try dsimp only at hSw); go_simp); try (with_reducible rfl))); (try dsimp only [Act.put]); (try simp only [List.setIfInBounds_toArray, List.set_cons_zero, List.set_cons_succ]))
          (try simp only [HDY.out])
          (refine rtake_12 (v := ?_) (by kernel_rfl) (by kernel_rfl) (by kernel_rfl) (fun _ _ _ h => h) (Or.inl ⟨by rfl, ?_⟩) (by assumption) ?_; rotate_left; (focus ((intro w hSw; (try dsimp only at hSw); go_simp); try (with_reducible rfl))); (try dsimp only [Act.put]); (try simp only [List.setIfInBounds_toArray, List.set_cons_zero, List.set_cons_succ]))
          (refine rtake_13 (v := ?_) (by kernel_rfl) (by kernel_rfl) (by kernel_rfl) (fun _ _ _ h => h) (Or.inl ⟨by rfl, ?_⟩) (by assumption) ?_; rotate_left; (focus ((intro w hSw; (try dsimp only at hSw); go_simp); try (with_reducible rfl))); (try dsimp only [Act.put]); (try simp only [List.setIfInBounds_toArray, List.set_cons_zero, List.set_cons_succ]))
          (refine rtake_14 (v := ?_) (by kernel_rfl) (by kernel_rfl) (by kernel_rfl) (fun _ _ _ h => h) (Or.inl ⟨by rfl, ?_⟩) (by assumption) ?_; rotate_left; (focus ((intro w hSw; (try dsimp only at hSw); go_simp); try (with_reducible rfl))); (try dsimp only [Act.put]); (try simp only [List.setIfInBounds_toArray, List.set_cons_zero, List.set_cons_succ]))
          (refine rtake_15 (v := ?_) (by kernel_rfl) (by kernel_rfl) (by kernel_rfl) (fun _ _ _ h => h) (Or.inl ⟨by rfl, ?_⟩) (by assumption) ?_; rotate_left; (focus ((intro w hSw; (try dsimp only at hSw); go_simp); try (with_reducible rfl))); (try dsimp only [Act.put]); (try simp only [List.setIfInBounds_toArray, List.set_cons_zero, List.set_cons_succ]))
          (refine rtake_16 (v := ?_) (by kernel_rfl) (by kernel_rfl) (by kernel_rfl) (fun _ _ _ h => h) (Or.inl ⟨by rfl, ?_⟩) (by assumption) ?_; rotate_left; (focus ((intro w hSw; (try dsimp only at hSw); go_simp); try (with_reducible rfl))); (try dsimp only [Act.put]); (try simp only [List.setIfInBounds_toArray, List.set_cons_zero, List.set_cons_succ]))
          (refine rtake_17 (v := ?_) (by kernel_rfl) (by kernel_rfl) (by kernel_rfl) (fun _ _ _ h => h) (Or.inl ⟨by rfl, ?_⟩) (by assumption) ?_; rotate_left; (focus ((intro w hSw; (try dsimp only at hSw); go_simp); try (with_reducible rfl))); (try dsimp only [Act.put]); (try simp only [List.setIfInBounds_toArray, List.set_cons_zero, List.set_cons_succ]))
          (refine rtake_18 (v := ?_) (by kernel_rfl) (by kernel_rfl) (by kernel_rfl) (fun _ _ _ h => h) (Or.inl ⟨by rfl, ?_⟩) (by assumption) ?_; rotate_left; (focus ((intro w hSw; (try dsimp only at hSw); go_simp); try (with_reducible rfl))); (try dsimp only [Act.put]); (try simp only [List.setIfInBounds_toArray, List.set_cons_zero, List.set_cons_succ]))
          (refine rtake_19 (v := ?_) (by kernel_rfl) (by kernel_rfl) (by kernel_rfl) (fun _ _ _ h => h) (Or.inl ⟨by rfl, ?_⟩) (by assumption) ?_; rotate_left; (focus ((intro w hSw; (try dsimp only at hSw); go_simp); try (with_reducible rfl))); (try dsimp only [Act.put]); (try simp only [List.setIfInBounds_toArray, List.set_cons_zero, List.set_cons_succ]))
          (refine rtake_20 (v := ?_) (by kernel_rfl) (by kernel_rfl) (by kernel_rfl) (fun _ _ _ h => h) (Or.inl ⟨by rfl, ?_⟩) (by assumption) ?_; rotate_left; (focus ((intro w hSw; (try dsimp only at hSw); go_simp); try (with_reducible rfl))); (try dsimp only [Act.put]); (try simp only [List.setIfInBounds_toArray, List.set_cons_zero, List.set_cons_succ]))
          (refine rtake_21 (v := ?_) (by kernel_rfl) (by kernel_rfl) (by kernel_rfl) (fun _ _ _ h => h) (Or.inl ⟨by rfl, ?_⟩) (by assumption) ?_; rotate_left; (focus ((intro w hSw; (try dsimp only at hSw); go_simp); try (with_reducible rfl))); (try dsimp only [Act.put]); (try simp only [List.setIfInBounds_toArray, List.set_cons_zero, List.set_cons_succ]))
          (refine rtake_22 (v := ?_) (by kernel_rfl) (by kernel_rfl) (by kernel_rfl) (fun _ _ _ h => h) (Or.inl ⟨by rfl, ?_⟩) (by assumption) ?_; rotate_left; (focus ((intro w hSw; (try dsimp only at hSw); go_simp); try (with_reducible rfl))); (try dsimp only [Act.put]); (try simp only [List.setIfInBounds_toArray, List.set_cons_zero, List.set_cons_succ]))
          (refine rtake_23 (v := ?_) (by kernel_rfl) (by kernel_rfl) (by kernel_rfl) (fun _ _ _ h => h) (Or.inl ⟨by rfl, ?_⟩) (by assumption) ?_; rotate_left; (focus ((intro w hSw; (try dsimp only at hSw); go_simp); try (with_reducible rfl))); (try dsimp only [Act.put]); (try simp only [List.setIfInBounds_toArray, List.set_cons_zero, List.set_cons_succ]))
          (refine rtake_24 (v := ?_) (by kernel_rfl) (by kernel_rfl) (by kernel_rfl) (fun _ _ _ h => h) (Or.inl ⟨by rfl, ?_⟩) (by assumption) ?_; rotate_left; (focus ((intro w hSw; (try dsimp only at hSw); go_simp); try (with_reducible rfl))); (try dsimp only [Act.put]); (try simp only [List.setIfInBounds_toArray, List.set_cons_zero, List.set_cons_succ]))
          (refine rtake_25 (v := ?_) (by kernel_rfl) (by kernel_rfl) (by kernel_rfl) (fun _ _ _ h => h) (Or.inl ⟨by rfl, ?_⟩) (by assumption) ?_; rotate_left; (focus ((intro w hSw; (try dsimp only at hSw); go_simp); try (with_reducible rfl))); (try dsimp only [Act.put]); (try simp only [List.setIfInBounds_toArray, List.set_cons_zero, List.set_cons_succ]))
          (refine rtake_26 (v := ?_) (by kernel_rfl) (by kernel_rfl) (by kernel_rfl) (fun _ _ _ h => h) (Or.inl ⟨by rfl, ?_⟩) (by assumption) ?_; rotate_left; (focus ((intro w hSw; (try dsimp only at hSw); go_simp); try (with_reducible rfl))); (try dsimp only [Act.put]); (try simp only [List.setIfInBounds_toArray, List.set_cons_zero, List.set_cons_succ]))
          (refine wpAnyH_ready (rs := [27]) (by kernel_rfl) (by simp) ?_; refine rcons_27 (fun K hK => ?_) (AllReadyH.nil))
          go_simp
          (with_reducible refine (HC.out _ (by (repeat (first | (with_reducible exact Kept.refl _ _) | (with_reducible assumption) | (with_reducible refine Kept.alloc ?_ _) | (with_reducible refine Kept.drew ?_) | (with_reducible refine Kept.drewN ?_ _) | (with_reducible refine Kept.setCell ?_ ?_ _) | (exact .inr (Nat.le_refl _)) | (exact .inr (by simp only; omega)) | (exact .inr (by omega)))))).mono ?_)
          rintro r w3 ⟨rfl, hk3⟩
          have HK3 := Lib.hid (((Kept.refl [] w).drew).trans hk3)
          have HS3 : Hid (w3.cell? ⟨b.r, 1, none⟩ = some (.pointer (some ⟨b.rw, 0, none⟩)) ∧ w3.cell? ⟨b.rw, 0, none⟩ = some (.slice (some ⟨go, 0, none⟩) m b.cO) ∧ w3.cell? ⟨go, q, none⟩ = some (.int .i64 y)) := ⟨HK3.out.cell_some hr1 (by simp), HK3.out.cell_some hb0 (by simp), HK3.out.cell_some hco (by simp)⟩
          clear hk3
          try go_simp
          refine hK.out _ _ HS3.out (fun hHeld => ?_)
          clear hK K
          (try simp only [Act.put, List.setIfInBounds_toArray, List.set_cons_zero, List.set_cons_succ])
          (refine rtake_28 (v := ?_) (by kernel_rfl) (by kernel_rfl) (by kernel_rfl) (fun _ _ _ h => h) (Or.inl ⟨by rfl, ?_⟩) (by assumption) ?_; rotate_left; (focus ((intro w hSw; (try dsimp only at hSw); go_simp); try (with_reducible rfl))); (try dsimp only [Act.put]); (try simp only [List.setIfInBounds_toArray, List.set_cons_zero, List.set_cons_succ]))
          refine wpAnyH_done (by kernel_rfl) ?_ _
          cases C
          all_goals
            go_wp2_with fail
            go_ret
            exact ⟨rfl, HK3.out⟩
        · have hy2 : y < 0 := by omega
          rw [HCN.out y hy2, cond_false]
          have HDY : Hid (decide (0 ≤ y) = false) := decide_eq_false hy
          have HSS := Lib.hid hS
          clear HCL hS hy
          go_enter Tryz.func46, Tryz.ntmps46
          go_wp2_with fail
          refine (HT.out).mono ?_
          rintro e w1 ⟨rfl, rfl⟩
          go_wp2_with fail
          refine (HL.out).mono ?_
          rintro e w1 ⟨rfl, rfl⟩
          go_wp2_with fail
          refine (HW.out).mono ?_
          rintro e w1 ⟨rfl, rfl⟩
          go_wp2_with fail
          refine wp_region_held_drew (S := fun w' => w'.cell? ⟨b.r, 1, none⟩ = some (.pointer (some ⟨b.rw, 0, none⟩)) ∧ w'.cell? ⟨b.rw, 0, none⟩ = some (.slice (some ⟨go, 0, none⟩) m b.cO) ∧ w'.cell? ⟨go, q, none⟩ = some (.int .i64 y)) hmix HSS.out (fun hHeld => ?_)
          (refine rtake_0 (v := ?_) (by kernel_rfl) (by kernel_rfl) (by kernel_rfl) (fun _ _ _ h => h) (Or.inl ⟨by rfl, ?_⟩) (by assumption) ?_; rotate_left; (focus ((intro w hSw; (try dsimp only at hSw); go_simp); try (with_reducible rfl))); (try dsimp only [Act.put]); (try simp only [List.setIfInBounds_toArray, List.set_cons_zero, List.set_cons_succ]))
          (refine rtake_1 (v := ?_) (by kernel_rfl) (by kernel_rfl) (by kernel_rfl) (fun _ _ _ h => h) (Or.inl ⟨by rfl, ?_⟩) (by assumption) ?_; rotate_left; (focus ((intro w hSw; (try dsimp only at hSw); go_simp); try (with_reducible rfl))); (try dsimp only [Act.put]); (try simp only [List.setIfInBounds_toArray, List.set_cons_zero, List.set_cons_succ]))
          (refine rtake_2 (v := ?_) (by kernel_rfl) (by kernel_rfl) (by kernel_rfl) (fun _ _ _ h => h) (Or.inl ⟨by rfl, ?_⟩) (by assumption) ?_; rotate_left; (focus ((intro w hSw; (try dsimp only at hSw); go_simp); try (with_reducible rfl))); (try dsimp only [Act.put]); (try simp only [List.setIfInBounds_toArray, List.set_cons_zero, List.set_cons_succ]))
          (refine rtake_3 (v := ?_) (by kernel_rfl) (by kernel_rfl) (by kernel_rfl) (fun _ _ _ h => h) (Or.inl ⟨by rfl, ?_⟩) (by assumption) ?_; rotate_left; (focus ((intro w hSw; (try dsimp only at hSw); go_simp); try (with_reducible rfl))); (try dsimp only [Act.put]); (try simp only [List.setIfInBounds_toArray, List.set_cons_zero, List.set_cons_succ]))
          (refine rtake_4 (v := ?_) (by kernel_rfl) (by kernel_rfl) (by kernel_rfl) (fun _ _ _ h => h) (Or.inl ⟨by rfl, ?_⟩) (by assumption) ?_; rotate_left; (focus ((intro w hSw; (try dsimp only at hSw); go_simp); try (with_reducible rfl))); (try dsimp only [Act.put]); (try simp only [List.setIfInBounds_toArray, List.set_cons_zero, List.set_cons_succ]))
          (refine rtake_5 (v := ?_) (by kernel_rfl) (by kernel_rfl) (by kernel_rfl) (fun _ _ _ h => h) (Or.inl ⟨by rfl, ?_⟩) (by assumption) ?_; rotate_left; (focus ((intro w hSw; (try dsimp only at hSw); go_simp); try (with_reducible rfl))); (try dsimp only [Act.put]); (try simp only [List.setIfInBounds_toArray, List.set_cons_zero, List.set_cons_succ]))
          (refine rtake_6 (v := ?_) (by kernel_rfl) (by kernel_rfl) (by kernel_rfl) (fun _ _ _ h => h) (Or.inl ⟨by rfl, ?_⟩) (by assumption) ?_; rotate_left; (focus ((intro w hSw; (try dsimp only at hSw); go_simp); try (with_reducible rfl))); (try dsimp only [Act.put]); (try simp only [List.setIfInBounds_toArray, List.set_cons_zero, List.set_cons_succ]))
          (refine rtake_7 (v := ?_) (by kernel_rfl) (by kernel_rfl) (by kernel_rfl) (fun _ _ _ h => h) (Or.inl ⟨by rfl, ?_⟩) (by assumption) ?_; rotate_left; (focus ((intro w hSw; (try dsimp only at hSw); go_simp); try (with_reducible rfl))); (try dsimp only [Act.put]); (try simp only [List.setIfInBounds_toArray, List.set_cons_zero, List.set_cons_succ]))
          (refine rtake_8 (v := ?_) (by kernel_rfl) (by kernel_rfl) (by kernel_rfl) (fun _ _ _ h => h) (Or.inl ⟨by rfl, ?_⟩) (by assumption) ?_; rotate_left; (focus ((intro w hSw; (try dsimp only at hSw); go_simp); try (with_reducible rfl))); (try dsimp only [Act.put]); (try simp only [List.setIfInBounds_toArray, List.set_cons_zero, List.set_cons_succ]))
          (refine rtake_9 (v := ?_) (by kernel_rfl) (by kernel_rfl) (by kernel_rfl) (fun _ _ _ h => h) (Or.inl ⟨by rfl, ?_⟩) (by assumption) ?_; rotate_left; (focus ((intro w hSw; (try dsimp only at hSw); go_simp); try (with_reducible rfl))); (try dsimp only [Act.put]); (try simp only [List.setIfInBounds_toArray, List.set_cons_zero, List.set_cons_succ]))
          (refine rtake_10 (v := ?_) (by kernel_rfl) (by kernel_rfl) (by kernel_rfl) (fun _ _ _ h => h) (Or.inl ⟨by rfl, ?_⟩) (by assumption) ?_; rotate_left; (focus ((intro w hSw; (try dsimp only at hSw); go_simp); try (with_reducible rfl))); (try dsimp only [Act.put]); (try simp only [List.setIfInBounds_toArray, List.set_cons_zero, List.set_cons_succ]))
          (refine rtake_11 (v := ?_) (by kernel_rfl) (by kernel_rfl) (by kernel_rfl) (fun _ _ _ h => h) (Or.inl ⟨by rfl, ?_⟩) (by assumption) ?_; rotate_left; (focus ((intro w hSw; (try dsimp only at hSw); go_simp); try (with_reducible rfl))); (try dsimp only [Act.put]); (try simp only [List.setIfInBounds_toArray, List.set_cons_zero, List.set_cons_succ]))
          (try simp only [HDY.out])
          (refine rtake_12 (v := undef) (by kernel_rfl) (by kernel_rfl) (by kernel_rfl) (fun _ _ _ h => h) (Or.inr ⟨by rfl, rfl⟩) (by assumption) ?_; (try dsimp only [Act.put]); (try simp only [List.setIfInBounds_toArray, List.set_cons_zero, List.set_cons_succ]))
          (refine rtake_13 (v := undef) (by kernel_rfl) (by kernel_rfl) (by kernel_rfl) (fun _ _ _ h => h) (Or.inr ⟨by rfl, rfl⟩) (by assumption) ?_; (try dsimp only [Act.put]); (try simp only [List.setIfInBounds_toArray, List.set_cons_zero, List.set_cons_succ]))
          (refine rtake_14 (v := undef) (by kernel_rfl) (by kernel_rfl) (by kernel_rfl) (fun _ _ _ h => h) (Or.inr ⟨by rfl, rfl⟩) (by assumption) ?_; (try dsimp only [Act.put]); (try simp only [List.setIfInBounds_toArray, List.set_cons_zero, List.set_cons_succ]))
          (refine rtake_15 (v := undef) (by kernel_rfl) (by kernel_rfl) (by kernel_rfl) (fun _ _ _ h => h) (Or.inr ⟨by rfl, rfl⟩) (by assumption) ?_; (try dsimp only [Act.put]); (try simp only [List.setIfInBounds_toArray, List.set_cons_zero, List.set_cons_succ]))
          (refine rtake_16 (v := undef) (by kernel_rfl) (by kernel_rfl) (by kernel_rfl) (fun _ _ _ h => h) (Or.inr ⟨by rfl, rfl⟩) (by assumption) ?_; (try dsimp only [Act.put]); (try simp only [List.setIfInBounds_toArray, List.set_cons_zero, List.set_cons_succ]))
          (refine rtake_17 (v := undef) (by kernel_rfl) (by kernel_rfl) (by kernel_rfl) (fun _ _ _ h => h) (Or.inr ⟨by rfl, rfl⟩) (by assumption) ?_; (try dsimp only [Act.put]); (try simp only [List.setIfInBounds_toArray, List.set_cons_zero, List.set_cons_succ]))
          (refine rtake_18 (v := undef) (by kernel_rfl) (by kernel_rfl) (by kernel_rfl) (fun _ _ _ h => h) (Or.inr ⟨by rfl, rfl⟩) (by assumption) ?_; (try dsimp only [Act.put]); (try simp only [List.setIfInBounds_toArray, List.set_cons_zero, List.set_cons_succ]))
          (refine rtake_19 (v := undef) (by kernel_rfl) (by kernel_rfl) (by kernel_rfl) (fun _ _ _ h => h) (Or.inr ⟨by rfl, rfl⟩) (by assumption) ?_; (try dsimp only [Act.put]); (try simp only [List.setIfInBounds_toArray, List.set_cons_zero, List.set_cons_succ]))
          (refine rtake_20 (v := undef) (by kernel_rfl) (by kernel_rfl) (by kernel_rfl) (fun _ _ _ h => h) (Or.inr ⟨by rfl, rfl⟩) (by assumption) ?_; (try dsimp only [Act.put]); (try simp only [List.setIfInBounds_toArray, List.set_cons_zero, List.set_cons_succ]))
          (refine rtake_21 (v := undef) (by kernel_rfl) (by kernel_rfl) (by kernel_rfl) (fun _ _ _ h => h) (Or.inr ⟨by rfl, rfl⟩) (by assumption) ?_; (try dsimp only [Act.put]); (try simp only [List.setIfInBounds_toArray, List.set_cons_zero, List.set_cons_succ]))
          (refine rtake_22 (v := undef) (by kernel_rfl) (by kernel_rfl) (by kernel_rfl) (fun _ _ _ h => h) (Or.inr ⟨by rfl, rfl⟩) (by assumption) ?_; (try dsimp only [Act.put]); (try simp only [List.setIfInBounds_toArray, List.set_cons_zero, List.set_cons_succ]))
          (refine rtake_23 (v := undef) (by kernel_rfl) (by kernel_rfl) (by kernel_rfl) (fun _ _ _ h => h) (Or.inr ⟨by rfl, rfl⟩) (by assumption) ?_; (try dsimp only [Act.put]); (try simp only [List.setIfInBounds_toArray, List.set_cons_zero, List.set_cons_succ]))
          (refine rtake_24 (v := undef) (by kernel_rfl) (by kernel_rfl) (by kernel_rfl) (fun _ _ _ h => h) (Or.inr ⟨by rfl, rfl⟩) (by assumption) ?_; (try dsimp only [Act.put]); (try simp only [List.setIfInBounds_toArray, List.set_cons_zero, List.set_cons_succ]))
          (refine rtake_25 (v := undef) (by kernel_rfl) (by kernel_rfl) (by kernel_rfl) (fun _ _ _ h => h) (Or.inr ⟨by rfl, rfl⟩) (by assumption) ?_; (try dsimp only [Act.put]); (try simp only [List.setIfInBounds_toArray, List.set_cons_zero, List.set_cons_succ]))
          (refine rtake_26 (v := undef) (by kernel_rfl) (by kernel_rfl) (by kernel_rfl) (fun _ _ _ h => h) (Or.inr ⟨by rfl, rfl⟩) (by assumption) ?_; (try dsimp only [Act.put]); (try simp only [List.setIfInBounds_toArray, List.set_cons_zero, List.set_cons_succ]))
          (refine rtake_27 (v := undef) (by kernel_rfl) (by kernel_rfl) (by kernel_rfl) (fun _ _ _ h => h) (Or.inr ⟨by rfl, rfl⟩) (by assumption) ?_; (try dsimp only [Act.put]); (try simp only [List.setIfInBounds_toArray, List.set_cons_zero, List.set_cons_succ]))
          (refine rtake_28 (v := ?_) (by kernel_rfl) (by kernel_rfl) (by kernel_rfl) (fun _ _ _ h => h) (Or.inl ⟨by rfl, ?_⟩) (by assumption) ?_; rotate_left; (focus ((intro w hSw; (try dsimp only at hSw); go_simp); try (with_reducible rfl))); (try dsimp only [Act.put]); (try simp only [List.setIfInBounds_toArray, List.set_cons_zero, List.set_cons_succ]))
          refine wpAnyH_done (by kernel_rfl) ?_ _
          go_wp2_with fail
          go_ret
          exact ⟨rfl, (Kept.refl _ _).drew⟩
    · rw [if_pos cl]
      have hd2 : decide (0 ≤ l ∧ l < (f.owner.length : Int)) = false := by simp; omega
      rw [hd2] at HL
      clear hd hd2 ct cl h hw
      go_enter Tryz.func46, Tryz.ntmps46
      go_wp2_with fail
      refine (HT.out).mono ?_
      rintro e w1 ⟨rfl, rfl⟩
      go_wp2_with fail
      refine (HL.out).mono ?_
      rintro e w1 ⟨rfl, rfl⟩
      go_wp2_with fail
      go_ret
      exact ⟨rfl, Kept.refl _ _⟩
  · rw [if_pos ct]
    have hd : decide (0 ≤ t ∧ t < (f.level.length : Int)) = false := by simp; omega
    rw [hd] at HT
    clear hd ct h hw
    go_enter Tryz.func46, Tryz.ntmps46
    go_wp2_with fail
    refine (HT.out).mono ?_
    rintro e w1 ⟨rfl, rfl⟩
    go_wp2_with fail
    go_ret
    exact ⟨rfl, Kept.refl _ _⟩

end Go.Proofs.YtfoeijiejpenpaaGreatDoor

/- Package bosunref26: come Lock Try Join Cancel, walked. -/
namespace Go.Proofs.YtfoeijiejpenpaaGreatDoor
open Go.RowKit

/-- The state is whole behind stores. -/
theorem Rf.Whole.setOwner {f : Rf} (h : f.Whole) (k : Nat) (x : Int) (hx : -1 ≤ x ∧ x < f.level.length) : ({ f with owner := f.owner.set k x } : Rf).Whole :=
  ⟨h.n64, by simpa using h.m64, h.lock, h.join, h.came, fun y hy => by
    rcases List.mem_or_eq_of_mem_set hy with hy | rfl
    · exact h.owners y hy
    · exact hx, by simpa using h.locks, h.joins⟩
theorem Rf.Whole.wait {f : Rf} (h : f.Whole) (k : Nat) (l u : Int) (hl : -1 ≤ l ∧ l < f.owner.length) (hu : -1 ≤ u ∧ u < f.level.length) : (waitR f k l u).Whole :=
  ⟨h.n64, h.m64, by simpa [waitR] using h.lock, by simpa [waitR] using h.join, h.came, h.owners, fun y hy => by
    rcases List.mem_or_eq_of_mem_set hy with hy | rfl
    · exact h.locks y hy
    · exact hl, fun y hy => by
    rcases List.mem_or_eq_of_mem_set hy with hy | rfl
    · exact h.joins y hy
    · exact hu⟩
/-- A thread comes. -/
def cameR (f : Rf) (t : Nat) : Rf := { f with came := f.came.set t (f.last + 1), last := f.last + 1 }
theorem Rf.Whole.came_ {f : Rf} (h : f.Whole) (k : Nat) : (cameR f k).Whole := ⟨h.n64, h.m64, h.lock, h.join, by simpa [cameR] using h.came, h.owners, h.locks, h.joins⟩
theorem Rf.Whole.level_ {f : Rf} (h : f.Whole) (t lev : Int) : (setLevelR f t lev).Whole := by
  unfold setLevelR
  split
  · exact ⟨by simpa using h.n64, h.m64, by simpa using h.lock, by simpa using h.join, by simpa using h.came, by simpa using h.owners, h.locks, by simpa using h.joins⟩
  · exact h
set_option maxHeartbeats 3200000 in
set_option maxRecDepth 100000 in
theorem refCome {w0 : Base} {w : World} {b : RfA} {f : Rf} (h : RfIs w0 w b f) (hw : f.Whole) (hl0 : 0 ≤ f.last) (hl1 : f.last < 1000000) (k : Nat) (hk : k < f.level.length) (l u : Int) :
    Calls Tryz.prog 63 #[.pointer (some ⟨b.r, 0, none⟩), .int .i64 k, .int .i64 l, .int .i64 u] w fun e w' => e = .returned (.tuple #[]) ∧ RfIs w0 w' b (waitR (cameR f k) k l u) := by
  have hmix : Tryz.prog.follows .mixedOrders = true := by kernel_rfl
  have hr3 : w.cell? ⟨b.r, 3, none⟩ = some (.int .i64 f.last) := h.at_.blk.cell 3
  have hrl := h.at_.blk.lt
  have hrf := h.at_.blk.frozen 3
  have h1 := h.setLast (f.last + 1)
  have hw1 : ({ f with last := f.last + 1 } : Rf).Whole := ⟨hw.n64, hw.m64, hw.lock, hw.join, hw.came, hw.owners, hw.locks, hw.joins⟩
  obtain ⟨gc, hgc, hcc, hfc, hlc⟩ := h1.at_.came hw1 k hk
  have h2 := (h1.setCame hw1 k hk (f.last + 1) hgc).old ((Kept.refl [] _).drew)
  have hq2 : (w.setCell ⟨b.r, 3, none⟩ (.int .i64 (f.last + 1))).cell? ⟨b.r, 2, none⟩ = some (.slice b.AC f.level.length b.cC) := h1.at_.blk.cell 2
  have hq3 : (w.setCell ⟨b.r, 3, none⟩ (.int .i64 (f.last + 1))).cell? ⟨b.r, 3, none⟩ = some (.int .i64 (f.last + 1)) := h1.at_.blk.cell 3
  have hs2 : ((w.setCell ⟨b.r, 3, none⟩ (.int .i64 (f.last + 1))).setCell ⟨gc, k, none⟩ (.int .i64 (f.last + 1))).drew.cell? ⟨b.r, 2, none⟩ = some (.slice b.AC f.level.length b.cC) := h2.at_.blk.cell 2
  have hs3 : ((w.setCell ⟨b.r, 3, none⟩ (.int .i64 (f.last + 1))).setCell ⟨gc, k, none⟩ (.int .i64 (f.last + 1))).drew.cell? ⟨b.r, 3, none⟩ = some (.int .i64 (f.last + 1)) := h2.at_.blk.cell 3
  have hq1 : ((w.setCell ⟨b.r, 3, none⟩ (.int .i64 (f.last + 1))).setCell ⟨gc, k, none⟩ (.int .i64 (f.last + 1))).drew.cell? ⟨b.r, 1, none⟩ = some (.pointer (some ⟨b.rw, 0, none⟩)) := h2.at_.blk.cell 1
  have HWT : Hid (Calls Tryz.prog 56 #[.pointer (some ⟨b.rw, 0, none⟩), .int .i64 k, .int .i64 l, .int .i64 u] ((w.setCell ⟨b.r, 3, none⟩ (.int .i64 (f.last + 1))).setCell ⟨gc, k, none⟩ (.int .i64 (f.last + 1))).drew fun e w' => e = .returned (.tuple #[]) ∧ RfIs w0 w' b (waitR (cameR f k) k l u)) := refWait (f := cameR f k) h2 (hw.came_ k) k hk l u
  rw [hgc] at hq2 hs2
  have hfk := hfc k
  have HS1 := Lib.hid (And.intro hq2 hq3)
  have HS2 := Lib.hid (And.intro hs2 hs3)
  have hi0 : (0 : Int) ≤ (k : Int) := by omega
  have hi1 : (k : Int) < (f.level.length : Int) := by omega
  have hwr : IntKind.i64.wrap (f.last + 1) = f.last + 1 := IntWalk.i64_in _ (by omega)
  generalize f.last = la at *
  generalize f.came.getD k 0 = ca at *
  generalize hN : f.level.length = n at *
  clear h h1 h2 hw hw1 hfc hgc hN hs2 hs3
  go_enter Tryz.func63, Tryz.ntmps63
  go_wp2_with fail
  refine wp_region_held_drew (S := fun w' => w'.cell? ⟨b.r, 2, none⟩ = some (.slice (some ⟨gc, 0, none⟩) n b.cC) ∧ w'.cell? ⟨b.r, 3, none⟩ = some (.int .i64 (la + 1))) hmix HS1.out (fun hHeld => ?_)
  (refine rtake_0 (v := ?_) (by kernel_rfl) (by kernel_rfl) (by kernel_rfl) (fun _ _ _ h => h) (Or.inl ⟨by rfl, ?_⟩) (by assumption) ?_; rotate_left; (focus ((intro w hSw; (try dsimp only at hSw); go_simp); try (with_reducible rfl))); (try dsimp only [Act.put]); (try simp only [List.setIfInBounds_toArray, List.set_cons_zero, List.set_cons_succ]))
  (refine rtake_1 (v := ?_) (by kernel_rfl) (by kernel_rfl) (by kernel_rfl) (fun _ _ _ h => h) (Or.inl ⟨by rfl, ?_⟩) (by assumption) ?_; rotate_left; (focus ((intro w hSw; (try dsimp only at hSw); go_simp); try (with_reducible rfl))); (try dsimp only [Act.put]); (try simp only [List.setIfInBounds_toArray, List.set_cons_zero, List.set_cons_succ]))
  (refine rtake_2 (v := ?_) (by kernel_rfl) (by kernel_rfl) (by kernel_rfl) (fun _ _ _ h => h) (Or.inl ⟨by rfl, ?_⟩) (by assumption) ?_; rotate_left; (focus ((intro w hSw; (try dsimp only at hSw); go_simp); try (with_reducible rfl))); (try dsimp only [Act.put]); (try simp only [List.setIfInBounds_toArray, List.set_cons_zero, List.set_cons_succ]))
  (refine rtake_3 (v := ?_) (by kernel_rfl) (by kernel_rfl) (by kernel_rfl) (fun _ _ _ h => h) (Or.inl ⟨by rfl, ?_⟩) (by assumption) ?_; rotate_left; (focus ((intro w hSw; (try dsimp only at hSw); go_simp); try (with_reducible rfl))); (try dsimp only [Act.put]); (try simp only [List.setIfInBounds_toArray, List.set_cons_zero, List.set_cons_succ]))
  (refine rtake_4 (v := ?_) (by kernel_rfl) (by kernel_rfl) (by kernel_rfl) (fun _ _ _ h => h) (Or.inl ⟨by rfl, ?_⟩) (by assumption) ?_; rotate_left; (focus ((intro w hSw; (try dsimp only at hSw); go_simp); try (with_reducible rfl))); (try dsimp only [Act.put]); (try simp only [List.setIfInBounds_toArray, List.set_cons_zero, List.set_cons_succ]))
  (refine rtake_5 (v := ?_) (by kernel_rfl) (by kernel_rfl) (by kernel_rfl) (fun _ _ _ h => h) (Or.inl ⟨by rfl, ?_⟩) (by assumption) ?_; rotate_left; (focus ((intro w hSw; (try dsimp only at hSw); go_simp); try (with_reducible rfl))); (try dsimp only [Act.put]); (try simp only [List.setIfInBounds_toArray, List.set_cons_zero, List.set_cons_succ]))
  (refine rtake_6 (v := ?_) (by kernel_rfl) (by kernel_rfl) (by kernel_rfl) (fun _ _ _ h => h) (Or.inl ⟨by rfl, ?_⟩) (by assumption) ?_; rotate_left; (focus ((intro w hSw; (try dsimp only at hSw); go_simp); try (with_reducible rfl))); (try dsimp only [Act.put]); (try simp only [List.setIfInBounds_toArray, List.set_cons_zero, List.set_cons_succ]))
  (refine rtake_7 (v := ?_) (by kernel_rfl) (by kernel_rfl) (by kernel_rfl) (fun _ _ _ h => h) (Or.inl ⟨by rfl, ?_⟩) (by assumption) ?_; rotate_left; (focus ((intro w hSw; (try dsimp only at hSw); go_simp); try (with_reducible rfl))); (try dsimp only [Act.put]); (try simp only [List.setIfInBounds_toArray, List.set_cons_zero, List.set_cons_succ]))
  (refine rtake_8 (v := ?_) (by kernel_rfl) (by kernel_rfl) (by kernel_rfl) (fun _ _ _ h => h) (Or.inl ⟨by rfl, ?_⟩) (by assumption) ?_; rotate_left; (focus ((intro w hSw; (try dsimp only at hSw); go_simp); try (with_reducible rfl))); (try dsimp only [Act.put]); (try simp only [List.setIfInBounds_toArray, List.set_cons_zero, List.set_cons_succ]))
  (refine rtake_9 (v := ?_) (by kernel_rfl) (by kernel_rfl) (by kernel_rfl) (fun _ _ _ h => h) (Or.inl ⟨by rfl, ?_⟩) (by assumption) ?_; rotate_left; (focus ((intro w hSw; (try dsimp only at hSw); go_simp); try (with_reducible rfl))); (try dsimp only [Act.put]); (try simp only [List.setIfInBounds_toArray, List.set_cons_zero, List.set_cons_succ]))
  (refine wpAnyH_ready (rs := [10]) (by kernel_rfl) (by simp) ?_; refine rcons_10 (fun K hK => ?_) (AllReadyH.nil))
  go_simp
  refine hK.out _ _ HS2.out (fun hHeld => ?_)
  clear hK K
  (try dsimp only [Act.put]); (try simp only [List.setIfInBounds_toArray, List.set_cons_zero, List.set_cons_succ])
  refine wpAnyH_done (by kernel_rfl) ?_ _
  go_wp2_with fail
  refine (HWT.out).mono ?_
  rintro e w1 ⟨rfl, hl⟩
  have HL := Lib.hid hl
  clear hl
  go_wp2_with fail
  go_end0
  exact ⟨rfl, HL.out⟩

theorem mayR_zero {f : Rf} {t l : Int} (h : mayR f t l = 0) : (0 ≤ t ∧ t < f.level.length) ∧ (0 ≤ l ∧ l < f.owner.length) ∧ waitsR f t.toNat = false ∧ closesR f t (f.owner.getD l.toNat 0) = false := by
  unfold mayR at h
  split at h
  · omega
  split at h
  · omega
  rename_i h1 h2
  cases h3 : waitsR f t.toNat
  · rw [h3, cond_false] at h
    cases h4 : closesR f t (f.owner.getD l.toNat 0)
    · exact ⟨by omega, by omega, rfl, rfl⟩
    · rw [h4, cond_true] at h; omega
  · rw [h3, cond_true] at h; omega
/-- What a lock gives, and leaves. -/
def lockBR (f : Rf) (t l : Int) : Bool := mayR f t l == 0 && decide (f.owner.getD l.toNat 0 < 0)
def lockR (f : Rf) (t l : Int) : Rf := if mayR f t l ≠ 0 then f else if f.owner.getD l.toNat 0 < 0 then { f with owner := f.owner.set l.toNat t } else waitR (cameR f t.toNat) t.toNat l (-1)
set_option maxHeartbeats 3200000 in
theorem refLock {w0 : Base} {w : World} {b : RfA} {f : Rf} (h : RfIs w0 w b f) (hw : f.Whole) (hl0 : 0 ≤ f.last) (hl1 : f.last < 1000000) (t l : Int) :
    Calls Tryz.prog 29 #[.pointer (some ⟨b.r, 0, none⟩), .int .i64 t, .int .i64 l] w fun e w' => e = .returned (.tuple #[.bool (lockBR f t l), .int .i64 (mayR f t l)]) ∧ RfIs w0 w' b (lockR f t l) := by
  have HM := Lib.hid (refMay h.at_ hw t l)
  unfold lockBR lockR
  by_cases hm : mayR f t l ≠ 0
  · rw [if_pos hm]
    have hb : (mayR f t l == 0) = false := beq_eq_false_iff_ne.2 hm
    rw [hb, Bool.false_and]
    have HH := Lib.hid h
    generalize mayR f t l = e0 at *
    clear h hw hm
    go_enter Tryz.func29, Tryz.ntmps29
    go_wp2_with fail
    refine (HM.out).mono ?_
    rintro e w1 ⟨rfl, hk⟩
    have HL := Lib.hid (HH.out.old hk)
    clear hk
    go_wp2_with fail
    go_ret2
    exact ⟨rfl, HL.out⟩
  · have hm0 : mayR f t l = 0 := by omega
    rw [if_neg hm, hm0]
    have hz := mayR_zero hm0
    obtain ⟨k, rfl⟩ : ∃ k : Nat, t = k := ⟨t.toNat, by omega⟩
    obtain ⟨q, rfl⟩ : ∃ q : Nat, l = q := ⟨l.toNat, by omega⟩
    rw [Int.toNat_natCast q, Int.toNat_natCast k]
    have hq : q < f.owner.length := by omega
    have hk : k < f.level.length := by omega
    rw [hm0] at HM
    have HH := Lib.hid (fun W (hk : Kept [] w W) => h.old hk)
    have HCM := Lib.hid (fun W (hkk : Kept [] w W) => refCome (h.old hkk) hw hl0 hl1 k hk q (-1))
    have HOW : Hid (∀ W, Kept [] w W → ∃ go, b.AO = some ⟨go, 0, none⟩ ∧ W.cell? ⟨go, q, none⟩ = some (.int .i64 (f.owner.getD q 0)) ∧ W.frozen? ⟨go, q, none⟩ = false ∧ go < W.heap.size ∧ W.cell? ⟨b.r, 1, none⟩ = some (.pointer (some ⟨b.rw, 0, none⟩)) ∧ b.r < W.heap.size ∧ W.cell? ⟨b.rw, 0, none⟩ = some (.slice b.AO f.owner.length b.cO) ∧ b.rw < W.heap.size ∧ RfIs w0 (W.setCell ⟨go, q, none⟩ (.int .i64 k)) b { f with owner := f.owner.set q k }) := fun W hkk => by
      have hW := h.old hkk
      obtain ⟨go, h1, h2, h3, h4⟩ := hW.at_.owner q hq
      exact ⟨go, h1, h2, h3 q, h4, hW.at_.blk.cell 1, hW.at_.blk.lt, hW.at_.web.cell 0, hW.at_.web.lt, hW.setOwner q hq k h1⟩
    have hq0 : (0 : Int) ≤ (q : Int) := by omega
    have hq1 : (q : Int) < (f.owner.length : Int) := by omega
    generalize f.owner.getD q 0 = y at *
    generalize hM : f.owner.length = m at *
    clear h hw hm hm0 hz hM
    by_cases hy : y < 0
    · rw [if_pos hy]
      have hd : ((0 : Int) == 0 && decide (y < 0)) = true := by simp [hy]
      rw [hd]
      clear hd
      go_enter Tryz.func29, Tryz.ntmps29
      go_wp2_with fail
      refine (HM.out).mono ?_
      rintro e w1 ⟨rfl, hk1⟩
      obtain ⟨go, hgo, hc1, hf1, hl1, hc2, hl2, hc3, hl3, hfin⟩ := HOW.out _ hk1
      rw [hgo] at hc3
      have HF := Lib.hid hfin
      clear hfin hgo hk1
      go_wp2_with fail
      go_ret2
      exact ⟨rfl, HF.out⟩
    · rw [if_neg hy]
      have hd : ((0 : Int) == 0 && decide (y < 0)) = false := by simp; omega
      rw [hd]
      have hy2 : 0 ≤ y := by omega
      clear hd hy
      go_enter Tryz.func29, Tryz.ntmps29
      go_wp2_with fail
      refine (HM.out).mono ?_
      rintro e w1 ⟨rfl, hk1⟩
      obtain ⟨go, hgo, hc1, hf1, hl1, hc2, hl2, hc3, hl3, hfin⟩ := HOW.out _ hk1
      rw [hgo] at hc3
      have HC := Lib.hid (HCM.out _ hk1)
      clear hfin hgo hk1
      go_wp2_with fail
      refine (HC.out).mono ?_
      rintro e w2 ⟨rfl, hl⟩
      have HL := Lib.hid hl
      clear hl
      go_wp2_with fail
      go_ret2
      exact ⟨rfl, HL.out⟩

/-- What a try tells, and leaves. -/
def tryER (f : Rf) (t l : Int) : Int := if mayR f t l ≠ 0 then mayR f t l else if f.owner.getD l.toNat 0 < 0 then 0 else 13
def tryR (f : Rf) (t l : Int) : Rf := if mayR f t l ≠ 0 then f else if f.owner.getD l.toNat 0 < 0 then { f with owner := f.owner.set l.toNat t } else f
set_option maxHeartbeats 3200000 in
theorem refTry {w0 : Base} {w : World} {b : RfA} {f : Rf} (h : RfIs w0 w b f) (hw : f.Whole) (t l : Int) :
    Calls Tryz.prog 14 #[.pointer (some ⟨b.r, 0, none⟩), .int .i64 t, .int .i64 l] w fun e w' => e = .returned (.int .i64 (tryER f t l)) ∧ RfIs w0 w' b (tryR f t l) := by
  have HM := Lib.hid (refMay h.at_ hw t l)
  unfold tryER tryR
  by_cases hm : mayR f t l ≠ 0
  · rw [if_pos hm, if_pos hm]
    have hb : (mayR f t l == 0) = false := beq_eq_false_iff_ne.2 hm
    have HH := Lib.hid h
    generalize mayR f t l = e0 at *
    clear h hw hm
    go_enter Tryz.func14, Tryz.ntmps14
    go_wp2_with fail
    refine (HM.out).mono ?_
    rintro e w1 ⟨rfl, hk⟩
    have HL := Lib.hid (HH.out.old hk)
    clear hk
    go_wp2_with fail
    go_ret
    exact ⟨rfl, HL.out⟩
  · have hm0 : mayR f t l = 0 := by omega
    rw [if_neg hm, if_neg hm]
    have hz := mayR_zero hm0
    obtain ⟨k, rfl⟩ : ∃ k : Nat, t = k := ⟨t.toNat, by omega⟩
    obtain ⟨q, rfl⟩ : ∃ q : Nat, l = q := ⟨l.toNat, by omega⟩
    rw [Int.toNat_natCast q]
    have hq : q < f.owner.length := by omega
    have hk : k < f.level.length := by omega
    rw [hm0] at HM
    have HH := Lib.hid (fun W (hk : Kept [] w W) => h.old hk)
    have HOW : Hid (∀ W, Kept [] w W → ∃ go, b.AO = some ⟨go, 0, none⟩ ∧ W.cell? ⟨go, q, none⟩ = some (.int .i64 (f.owner.getD q 0)) ∧ W.frozen? ⟨go, q, none⟩ = false ∧ go < W.heap.size ∧ W.cell? ⟨b.r, 1, none⟩ = some (.pointer (some ⟨b.rw, 0, none⟩)) ∧ b.r < W.heap.size ∧ W.cell? ⟨b.rw, 0, none⟩ = some (.slice b.AO f.owner.length b.cO) ∧ b.rw < W.heap.size ∧ RfIs w0 (W.setCell ⟨go, q, none⟩ (.int .i64 k)) b { f with owner := f.owner.set q k } ∧ RfIs w0 W b f) := fun W hkk => by
      have hW := h.old hkk
      obtain ⟨go, h1, h2, h3, h4⟩ := hW.at_.owner q hq
      exact ⟨go, h1, h2, h3 q, h4, hW.at_.blk.cell 1, hW.at_.blk.lt, hW.at_.web.cell 0, hW.at_.web.lt, hW.setOwner q hq k h1, hW⟩
    have hq0 : (0 : Int) ≤ (q : Int) := by omega
    have hq1 : (q : Int) < (f.owner.length : Int) := by omega
    generalize f.owner.getD q 0 = y at *
    generalize hM : f.owner.length = m at *
    clear h hw hm hm0 hz hM
    by_cases hy : y < 0
    · rw [if_pos hy, if_pos hy]
      go_enter Tryz.func14, Tryz.ntmps14
      go_wp2_with fail
      refine (HM.out).mono ?_
      rintro e w1 ⟨rfl, hk1⟩
      obtain ⟨go, hgo, hc1, hf1, hl1, hc2, hl2, hc3, hl3, hfin, _⟩ := HOW.out _ hk1
      rw [hgo] at hc3
      have HF := Lib.hid hfin
      clear hfin hgo hk1
      go_wp2_with fail
      go_ret
      exact ⟨rfl, HF.out⟩
    · rw [if_neg hy, if_neg hy]
      have hy2 : 0 ≤ y := by omega
      clear hy
      go_enter Tryz.func14, Tryz.ntmps14
      go_wp2_with fail
      refine (HM.out).mono ?_
      rintro e w1 ⟨rfl, hk1⟩
      obtain ⟨go, hgo, hc1, hf1, hl1, hc2, hl2, hc3, hl3, _, hfin⟩ := HOW.out _ hk1
      rw [hgo] at hc3
      have HF := Lib.hid hfin
      clear hfin hgo hk1
      go_wp2_with fail
      go_ret
      exact ⟨rfl, HF.out⟩

/-- What a join tells, and leaves. -/
def joinER (f : Rf) (t u : Int) : Int := if ¬ (0 ≤ t ∧ t < f.level.length) then 5 else if ¬ (0 ≤ u ∧ u < f.level.length) then 5 else cond (waitsR f t.toNat) 14 (cond (closesR f t u) 12 0)
def joinR (f : Rf) (t u : Int) : Rf := if joinER f t u = 0 then waitR (cameR f t.toNat) t.toNat (-1) u else f
set_option maxHeartbeats 6400000 in
theorem refJoin {w0 : Base} {w : World} {b : RfA} {f : Rf} (h : RfIs w0 w b f) (hw : f.Whole) (hl0 : 0 ≤ f.last) (hl1 : f.last < 1000000) (t u : Int) :
    Calls Tryz.prog 22 #[.pointer (some ⟨b.r, 0, none⟩), .int .i64 t, .int .i64 u] w fun e w' => e = .returned (.int .i64 (joinER f t u)) ∧ RfIs w0 w' b (joinR f t u) := by
  have HT := Lib.hid (refThread h.at_ t)
  have HU := Lib.hid (refThread h.at_ u)
  have hr1 : w.cell? ⟨b.r, 1, none⟩ = some (.pointer (some ⟨b.rw, 0, none⟩)) := h.at_.blk.cell 1
  have hrl := h.at_.blk.lt
  have HH := Lib.hid h
  unfold joinR
  obtain ⟨E, hE⟩ : ∃ E, joinER f t u = E := ⟨_, rfl⟩
  rw [hE]
  unfold joinER at hE
  by_cases ct : 0 ≤ t ∧ t < f.level.length
  · rw [if_neg (fun hx => hx ct)] at hE
    have hd : decide (0 ≤ t ∧ t < (f.level.length : Int)) = true := by simp; omega
    rw [hd] at HT
    by_cases cu : 0 ≤ u ∧ u < f.level.length
    · rw [if_neg (fun hx => hx cu)] at hE
      have hd2 : decide (0 ≤ u ∧ u < (f.level.length : Int)) = true := by simp; omega
      rw [hd2] at HU
      obtain ⟨k, rfl⟩ : ∃ k : Nat, t = k := ⟨t.toNat, by omega⟩
      rw [Int.toNat_natCast] at hE ⊢
      have HW := Lib.hid (refWaits h.at_ hw k (by omega))
      have HC := Lib.hid (refCloses h.at_ hw k u)
      have HCM := Lib.hid (fun W (hkk : Kept [] w W) => refCome (h.old hkk) hw hl0 hl1 k (by omega) (-1) u)
      generalize waitsR f k = wb at *
      generalize closesR f k u = cb at *
      clear hd hd2 ct cu h hw
      cases wb with
      | true =>
        rw [cond_true] at hE
        subst hE
        rw [if_neg (by omega)]
        go_enter Tryz.func22, Tryz.ntmps22
        go_wp2_with fail
        refine (HT.out).mono ?_
        rintro e w1 ⟨rfl, rfl⟩
        go_wp2_with fail
        refine (HU.out).mono ?_
        rintro e w1 ⟨rfl, rfl⟩
        go_wp2_with fail
        refine (HW.out).mono ?_
        rintro e w1 ⟨rfl, rfl⟩
        go_wp2_with fail
        go_ret
        exact ⟨rfl, HH.out⟩
      | false =>
        rw [cond_false] at hE
        cases cb with
        | true =>
          rw [cond_true] at hE
          subst hE
          rw [if_neg (by omega)]
          go_enter Tryz.func22, Tryz.ntmps22
          go_wp2_with fail
          refine (HT.out).mono ?_
          rintro e w1 ⟨rfl, rfl⟩
          go_wp2_with fail
          refine (HU.out).mono ?_
          rintro e w1 ⟨rfl, rfl⟩
          go_wp2_with fail
          refine (HW.out).mono ?_
          rintro e w1 ⟨rfl, rfl⟩
          go_wp2_with fail
          refine (HC.out).mono ?_
          rintro e w1 ⟨rfl, hk⟩
          have HK := Lib.hid (HH.out.old hk)
          clear hk
          go_wp2_with fail
          go_ret
          exact ⟨rfl, HK.out⟩
        | false =>
          rw [cond_false] at hE
          subst hE
          rw [if_pos rfl]
          go_enter Tryz.func22, Tryz.ntmps22
          go_wp2_with fail
          refine (HT.out).mono ?_
          rintro e w1 ⟨rfl, rfl⟩
          go_wp2_with fail
          refine (HU.out).mono ?_
          rintro e w1 ⟨rfl, rfl⟩
          go_wp2_with fail
          refine (HW.out).mono ?_
          rintro e w1 ⟨rfl, rfl⟩
          go_wp2_with fail
          refine (HC.out).mono ?_
          rintro e w1 ⟨rfl, hk⟩
          have HK := Lib.hid (HCM.out _ hk)
          clear hk
          go_wp2_with fail
          refine (HK.out).mono ?_
          rintro e w2 ⟨rfl, hl⟩
          have HL := Lib.hid hl
          clear hl
          go_wp2_with fail
          go_ret
          exact ⟨rfl, HL.out⟩
    · rw [if_pos cu] at hE
      subst hE
      rw [if_neg (by omega)]
      have hd2 : decide (0 ≤ u ∧ u < (f.level.length : Int)) = false := by simp; omega
      rw [hd2] at HU
      clear hd hd2 ct cu h hw
      go_enter Tryz.func22, Tryz.ntmps22
      go_wp2_with fail
      refine (HT.out).mono ?_
      rintro e w1 ⟨rfl, rfl⟩
      go_wp2_with fail
      refine (HU.out).mono ?_
      rintro e w1 ⟨rfl, rfl⟩
      go_wp2_with fail
      go_ret
      exact ⟨rfl, HH.out⟩
  · rw [if_pos ct] at hE
    subst hE
    rw [if_neg (by omega)]
    have hd : decide (0 ≤ t ∧ t < (f.level.length : Int)) = false := by simp; omega
    rw [hd] at HT
    clear hd ct h hw
    go_enter Tryz.func22, Tryz.ntmps22
    go_wp2_with fail
    refine (HT.out).mono ?_
    rintro e w1 ⟨rfl, rfl⟩
    go_wp2_with fail
    go_ret
    exact ⟨rfl, HH.out⟩

/-- A cancel. -/
def cancelBR (f : Rf) (t : Int) : Bool := decide (0 ≤ t ∧ t < f.level.length) && decide (0 ≤ f.lock.getD t.toNat 0)
def cancelR (f : Rf) (t : Int) : Rf := cond (cancelBR f t) (waitR f t.toNat (-1) (-1)) f
set_option maxHeartbeats 3200000 in
theorem refCancel {w0 : Base} {w : World} {b : RfA} {f : Rf} (h : RfIs w0 w b f) (hw : f.Whole) (t : Int) :
    Calls Tryz.prog 18 #[.pointer (some ⟨b.r, 0, none⟩), .int .i64 t] w fun e w' => e = .returned (.bool (cancelBR f t)) ∧ RfIs w0 w' b (cancelR f t) := by
  have HT := Lib.hid (refThread h.at_ t)
  have hr1 : w.cell? ⟨b.r, 1, none⟩ = some (.pointer (some ⟨b.rw, 0, none⟩)) := h.at_.blk.cell 1
  have hrl := h.at_.blk.lt
  have HH := Lib.hid h
  unfold cancelR
  by_cases ct : 0 ≤ t ∧ t < f.level.length
  · have hd : decide (0 ≤ t ∧ t < (f.level.length : Int)) = true := by simp; omega
    rw [hd] at HT
    obtain ⟨k, rfl⟩ : ∃ k : Nat, t = k := ⟨t.toNat, by omega⟩
    obtain ⟨gk, hgk, hck, _, _⟩ := h.at_.lock hw k (by omega)
    have hb1 : w.cell? ⟨b.rw, 1, none⟩ = some (.slice b.AK f.level.length b.cK) := h.at_.web.cell 1
    have hbl := h.at_.web.lt
    rw [hgk] at hb1
    have hcb : cancelBR f k = decide (0 ≤ f.lock.getD k 0) := by unfold cancelBR; rw [hd, Bool.true_and]; rfl
    rw [hcb, Int.toNat_natCast]
    have HWT := Lib.hid (refWait h hw k (by omega) (-1) (-1))
    have hi0 : (0 : Int) ≤ (k : Int) := by omega
    have hi1 : (k : Int) < (f.level.length : Int) := by omega
    generalize f.lock.getD k 0 = x at *
    generalize hN : f.level.length = n at *
    by_cases hx : 0 ≤ x
    · have hdx : decide (0 ≤ x) = true := by simpa using hx
      rw [hdx, cond_true]
      clear hd hdx ct h hw hgk hcb hN
      go_enter Tryz.func18, Tryz.ntmps18
      go_wp2_with fail
      refine (HT.out).mono ?_
      rintro e w1 ⟨rfl, rfl⟩
      go_wp2_with fail
      refine (HWT.out).mono ?_
      rintro e w2 ⟨rfl, hl⟩
      have HL := Lib.hid hl
      clear hl
      go_wp2_with fail
      go_ret
      exact ⟨rfl, HL.out⟩
    · have hdx : decide (0 ≤ x) = false := by simp; omega
      have hx2 : x < 0 := by omega
      rw [hdx, cond_false]
      clear hd hdx ct h hw hgk hcb hN hx
      go_enter Tryz.func18, Tryz.ntmps18
      go_wp2_with fail
      refine (HT.out).mono ?_
      rintro e w1 ⟨rfl, rfl⟩
      go_wp2_with fail
      go_ret
      exact ⟨rfl, HH.out⟩
  · have hd : decide (0 ≤ t ∧ t < (f.level.length : Int)) = false := by simp; omega
    have hcb : cancelBR f t = false := by unfold cancelBR; rw [hd, Bool.false_and]
    rw [hd] at HT
    rw [hcb, cond_false]
    clear hd ct h hw hcb
    go_enter Tryz.func18, Tryz.ntmps18
    go_wp2_with fail
    refine (HT.out).mono ?_
    rintro e w1 ⟨rfl, rfl⟩
    go_wp2_with fail
    go_ret
    exact ⟨rfl, HH.out⟩

end Go.Proofs.YtfoeijiejpenpaaGreatDoor

/- Package bosunref24, On; package bosunref26, Owned; walked. -/
namespace Go.Proofs.YtfoeijiejpenpaaGreatDoor
open Go.RowKit

/-- Who waits for a lock, of the first threads. -/
def onK (f : Rf) (l : Int) (k : Nat) : List Int := ((List.range k).filter fun t : Nat => decide (0 ≤ l ∧ l < f.owner.length) && f.lock.getD t 0 == l).map fun t : Nat => (t : Int)
theorem onK_len (f : Rf) (l : Int) (k : Nat) : (onK f l k).length ≤ k := by
  have := List.length_filter_le (fun t : Nat => decide (0 ≤ l ∧ l < f.owner.length) && f.lock.getD t 0 == l) (List.range k)
  simpa [onK] using this
theorem onK_step (f : Rf) (l : Int) (k : Nat) : onK f l (k + 1) = if (decide (0 ≤ l ∧ l < f.owner.length) && f.lock.getD k 0 == l) = true then onK f l k ++ [(k : Int)] else onK f l k := by
  unfold onK
  rw [List.range_succ, List.filter_append, List.map_append]
  by_cases h : (decide (0 ≤ l ∧ l < f.owner.length) && f.lock.getD k 0 == l) = true
  · rw [if_pos h, List.filter_cons, if_pos h]; rfl
  · rw [if_neg h, List.filter_cons, if_neg h]; simp
set_option maxHeartbeats 3200000 in
set_option maxRecDepth 100000 in
theorem refOn {w : World} {b : RfA} {f : Rf} (h : RfAt w b f) (hw : f.Whole) (l : Int) : Calls Tryz.prog 74 #[.pointer (some ⟨b.rw, 0, none⟩), .int .i64 l] w fun e w' => ∃ A c, e = .returned (.slice A (onK f l f.level.length).length c) ∧ FreshI w w' (onK f l f.level.length) A (onK f l f.level.length).length c := by
  have HN := Lib.hid (fun W (hk : Kept [] w W) => refIsLock (h.old hk) l)
  have HLK : Hid (∀ W, Kept [] w W → ∀ k, k < f.level.length → ∃ g, b.AK = some ⟨g, 0, none⟩ ∧ W.cell? ⟨g, k, none⟩ = some (.int .i64 (f.lock.getD k 0)) ∧ g < W.heap.size) := fun W hk k hk1 => by
    obtain ⟨g, h1, h2, _, h3⟩ := RfAt.lock (Holds.old h hk) hw k hk1
    exact ⟨g, h1, h2, h3⟩
  have hn64 := hw.n64
  have HB := Lib.hid h.web
  have HST := Lib.hid (fun k => onK_step f l k)
  have HLE := Lib.hid (fun k => onK_len f l k)
  have HG0 : Hid (onK f l 0 = []) := by show onK f l 0 = []; simp [onK]
  obtain ⟨D, hD⟩ : ∃ D, decide (0 ≤ l ∧ l < (f.owner.length : Int)) = D := ⟨_, rfl⟩
  rw [hD] at HN HST
  generalize hn : f.level.length = n at *
  generalize f.owner.length = m at *
  clear h hw hn hD
  go_enter Tryz.func74, Tryz.ntmps74
  go_wp2_with fail
  go_loopw [5, 6] (fun ov kv wr => ∃ (k : Nat) (A : Option Addr) (c : Nat) (L : List Int), k ≤ n ∧ ov = .slice A L.length c ∧ kv = .int .i64 k ∧ Hid (onK f l k = L) ∧ Hid (FreshI w wr L A L.length c)) (fun _ k _ => n - (intOf k).toNat)
  case atStart => exact ⟨0, none, 0, [], by omega, rfl, rfl, HG0.out, FreshI.nil w⟩
  case round =>
    obtain ⟨k, A, c, L, hk1, rfl, rfl, HL, HF⟩ := hrel
    have HBR := Lib.hid (HB.out.kept HF.out.2.1 (by simp))
    have hc1 : wr.cell? ⟨b.rw, 1, none⟩ = some (.slice b.AK n b.cK) := HBR.out.cell 1
    have hlb := HBR.out.lt
    by_cases hk : k < n
    · have HNX := Lib.hid (HN.out _ HF.out.2.1)
      have hst := HST.out k
      have hLn := HLE.out k
      rw [HL.out] at hst hLn
      obtain ⟨gk, hgk, hck, hlk⟩ := HLK.out _ HF.out.2.1 k hk
      rw [hgk] at hc1
      have hki : (k : Int) < (n : Int) := by omega
      have hk0 : (0 : Int) ≤ (k : Int) := by omega
      generalize f.lock.getD k 0 = x at *
      cases D with
      | true =>
        rw [Bool.true_and] at hst
        by_cases hx : x = l
        · subst hx
          rw [if_pos (by simp)] at hst
          have HS := Lib.hid hst
          clear hst hgk
          go_wp2_with fail
          refine (HNX.out).mono ?_
          rintro e w1 ⟨rfl, rfl⟩
          go_wp2_with (at_builtin; refine wpList_append_any _ rfl _ _ 27 rfl 3 (.int .i64 0) 1 8 Tryz.underlying27 Tryz.infoInt rfl (by decide) (.slice A L.length c) L.length (L.map I64) rfl (own_kept HF.out.1 ((Kept.refl [] _).alloc _) (by simp)) _ 1 1 [.int .i64 (k : Int)] rfl (reads_one _ _ _) (by simp [Value.oneCell']) (by simp only [maxLen]; omega) (by omega) ?_; rintro A8 c8 w6 happ; have HA := Lib.hid happ; clear happ)
          go_roundw
          case rel => exact ⟨k + 1, A8, c8, L ++ [(k : Int)], by omega, by simp, by go_num, HS.out, HF.out.add ((Kept.refl [] _).alloc _) HA.out⟩
          case measure => simp [intOf]; omega
        · have hb : (x == l) = false := beq_eq_false_iff_ne.2 hx
          rw [if_neg (by simp [hx])] at hst
          have HS := Lib.hid hst
          clear hst hgk hx
          go_wp2_with fail
          refine (HNX.out).mono ?_
          rintro e w1 ⟨rfl, rfl⟩
          go_wp2_with fail
          go_roundw
          case rel => exact ⟨k + 1, A, c, L, by omega, rfl, by go_num, HS.out, HF.out⟩
          case measure => simp [intOf]; omega
      | false =>
        rw [Bool.false_and, if_neg (by simp)] at hst
        have HS := Lib.hid hst
        clear hst hgk
        go_wp2_with fail
        refine (HNX.out).mono ?_
        rintro e w1 ⟨rfl, rfl⟩
        go_wp2_with fail
        go_roundw
        case rel => exact ⟨k + 1, A, c, L, by omega, rfl, by go_num, HS.out, HF.out⟩
        case measure => simp [intOf]; omega
    · obtain rfl : k = n := by omega
      have hL := HL.out
      subst hL
      clear HL
      go_wp2_with fail
      go_ret
      exact ⟨A, c, rfl, HF.out⟩

/-- The set of the locks that a thread owns, of the first ones. -/
def ownR (f : Rf) (t : Int) (k : Nat) : Nat := setN (fun l => decide (0 ≤ t) && f.owner.getD l 0 == t) k
theorem ownR_step (f : Rf) (t : Int) (k : Nat) : ownR f t (k + 1) = if (decide (0 ≤ t) && f.owner.getD k 0 == t) = true then ownR f t k ||| 2 ^ k else ownR f t k := rfl
set_option maxHeartbeats 3200000 in
set_option maxRecDepth 100000 in
theorem refOwned {w : World} {b : RfA} {f : Rf} (h : RfAt w b f) (hw : f.Whole) (t : Int) : Calls Tryz.prog 36 #[.pointer (some ⟨b.r, 0, none⟩), .int .i64 t] w fun e w' => e = .returned (.int .u64 (ownR f t f.owner.length : Nat)) ∧ Kept [] w w' := by
  have HLK : Hid (∀ W, Kept [] w W → ∀ k, k < f.owner.length → ∃ g, b.AO = some ⟨g, 0, none⟩ ∧ W.cell? ⟨g, k, none⟩ = some (.int .i64 (f.owner.getD k 0)) ∧ g < W.heap.size) := fun W hk k hk1 => by
    obtain ⟨g, h1, h2, _, h3⟩ := RfAt.owner (Holds.old h hk) k hk1
    exact ⟨g, h1, h2, h3⟩
  have hm64 := hw.m64
  have HB := Lib.hid h.web
  have HR := Lib.hid h.blk
  have HST := Lib.hid (fun k => ownR_step f t k)
  have HLT : Hid (∀ k, k ≤ 64 → ownR f t k < 18446744073709551616) := fun k hk => setN_lt _ _ hk
  have HG0 : Hid (ownR f t 0 = 0) := rfl
  generalize f.level.length = n at *
  generalize hm : f.owner.length = m at *
  clear h hw hm
  go_enter Tryz.func36, Tryz.ntmps36
  go_wp2_with fail
  go_loopw [5, 6] (fun sv kv wr => ∃ (k S : Nat), k ≤ m ∧ sv = .int .u64 S ∧ kv = .int .i64 k ∧ Hid (ownR f t k = S) ∧ Hid (Kept [] w wr)) (fun _ k _ => m - (intOf k).toNat)
  case atStart => exact ⟨0, 0, by omega, rfl, rfl, HG0.out, Kept.refl _ _⟩
  case round =>
    obtain ⟨k, S, hk1, rfl, rfl, HL, HK⟩ := hrel
    have HBR := Lib.hid (HB.out.kept HK.out (by simp))
    have HRR := Lib.hid (HR.out.kept HK.out (by simp))
    have hc0 : wr.cell? ⟨b.rw, 0, none⟩ = some (.slice b.AO m b.cO) := HBR.out.cell 0
    have hlb := HBR.out.lt
    have hr1 : wr.cell? ⟨b.r, 1, none⟩ = some (.pointer (some ⟨b.rw, 0, none⟩)) := HRR.out.cell 1
    have hlr := HRR.out.lt
    by_cases hk : k < m
    · have hst := HST.out k
      have hS := HLT.out k (by omega)
      rw [HL.out] at hst hS
      obtain ⟨go, hgo, hco, hlo⟩ := HLK.out _ HK.out k hk
      rw [hgo] at hc0
      have hki : (k : Int) < (m : Int) := by omega
      have hk0 : (0 : Int) ≤ (k : Int) := by omega
      have HPT := Lib.hid (fun W => refPut1 S k W hS (by omega))
      generalize f.owner.getD k 0 = x at *
      generalize S ||| 2 ^ k = S2 at *
      by_cases ht : 0 ≤ t
      · by_cases hx : x = t
        · subst hx
          rw [if_pos (by simp [ht])] at hst
          have HS := Lib.hid hst
          clear hst hgo hS
          go_wp2_with fail
          refine (HPT.out _).mono ?_
          rintro e w1 ⟨rfl, hk1⟩
          have HK1 := Lib.hid (HK.out.trans hk1)
          clear hk1
          go_wp2_with fail
          go_roundw
          case rel => exact ⟨k + 1, S2, by omega, rfl, by go_num, HS.out, HK1.out⟩
          case measure => simp [intOf]; omega
        · have hb : (x == t) = false := beq_eq_false_iff_ne.2 hx
          rw [if_neg (by simp [hx])] at hst
          have HS := Lib.hid hst
          clear hst hgo hx hS
          go_wp2_with fail
          go_roundw
          case rel => exact ⟨k + 1, S, by omega, rfl, by go_num, HS.out, HK.out⟩
          case measure => simp [intOf]; omega
      · have ht2 : t < 0 := by omega
        rw [if_neg (by simp; omega)] at hst
        have HS := Lib.hid hst
        clear hst hgo ht hS
        go_wp2_with fail
        go_roundw
        case rel => exact ⟨k + 1, S, by omega, rfl, by go_num, HS.out, HK.out⟩
        case measure => simp [intOf]; omega
    · obtain rfl : k = m := by omega
      have hL := HL.out
      subst hL
      clear HL HST HLT HG0
      go_wp2_with fail
      go_ret
      exact ⟨rfl, HK.out⟩

end Go.Proofs.YtfoeijiejpenpaaGreatDoor

