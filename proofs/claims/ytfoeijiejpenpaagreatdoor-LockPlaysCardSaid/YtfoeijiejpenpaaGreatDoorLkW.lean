/- Package lock: worse and SetLevel, walked. -/
import Derived.Test.YtfoeijiejpenpaaGreatDoorLkK
namespace Go.Proofs.YtfoeijiejpenpaaGreatDoor
open Go.RowKit

theorem roadF_props {owner level : List Int} {waits : List (Int × Int)} (hlv : ∀ x ∈ level, 0 ≤ x ∧ x ≤ 7) : ∀ (f : Nat) (vis : List Bool) (t : Int) (out met : List Int), (∀ x ∈ out, 0 ≤ x ∧ x ≤ 8) →
    (roadF owner level waits f vis t out met).1.length = out.length ∧ (∀ x ∈ (roadF owner level waits f vis t out met).1, 0 ≤ x ∧ x ≤ 8) ∧ (∀ x ∈ (roadF owner level waits f vis t out met).2, x ∈ met ∨ (0 ≤ x ∧ x < waits.length)) ∧ (roadF owner level waits f vis t out met).2.length ≤ met.length + f
  | 0, vis, t, out, met, h => ⟨rfl, h, fun x hx => .inl hx, by simp [roadF]⟩
  | f + 1, vis, t, out, met, h => by
    have hd : ∀ (n i : Nat) (best : Int), 0 ≤ best ∧ best ≤ 8 → 0 ≤ dueF owner level waits out t.toNat n i best ∧ dueF owner level waits out t.toNat n i best ≤ 8 := by
      intro n
      induction n with
      | zero => intro i best hb; exact hb
      | succ n ih =>
        intro i best hb
        rw [dueF]
        refine ih _ _ ?_
        split
        · split
          · have he : 0 ≤ out.getD i 0 ∧ out.getD i 0 ≤ 8 := by
              rw [List.getD_eq_getElem?_getD]
              cases hx : out[i]? with
              | none => simp
              | some y => exact h y (List.mem_of_getElem? hx)
            exact he
          · exact hb
        · exact hb
    have hdm : 0 ≤ dueM owner level waits out t.toNat ∧ dueM owner level waits out t.toNat ≤ 8 := by
      unfold dueM
      refine hd _ _ _ ?_
      rw [List.getD_eq_getElem?_getD]
      cases hx : level[t.toNat]? with
      | none => simp
      | some y => have := hlv y (List.mem_of_getElem? hx); simp; omega
    rw [roadF]
    split
    · exact ⟨rfl, h, fun x hx => .inl hx, by simp⟩
    · rename_i ht
      split
      · exact ⟨rfl, h, fun x hx => .inl hx, by simp⟩
      · split
        · exact ⟨rfl, h, fun x hx => .inl hx, by simp⟩
        · have ih := roadF_props (owner := owner) (waits := waits) hlv f (vis.set t.toNat true) (nextG owner waits t) (out.set t.toNat (dueM owner level waits out t.toNat)) (met ++ [t]) (fun x hx => by
            rcases List.mem_or_eq_of_mem_set hx with hx | rfl
            · exact h x hx
            · exact hdm)
          refine ⟨by rw [ih.1, List.length_set], ih.2.1, fun x hx => ?_, by have := ih.2.2.2; simp at this; omega⟩
          rcases ih.2.2.1 x hx with h1 | h1
          · rcases List.mem_append.1 h1 with h1 | h1
            · exact .inl h1
            · obtain rfl := List.mem_singleton.1 h1; exact .inr (by omega)
          · exact .inr h1
/-- A thread's level is told anew. -/
def worseS (s : Lk) (t : Int) : Lk := { s with eff := (worseF s.owner s.level s.waits s.eff t).1, lines := takeL s.waits (worseF s.owner s.level s.waits s.eff t).1 (worseF s.owner s.level s.waits s.eff t).2 s.lines }
theorem takeL_props (waits : List (Int × Int)) (eff : List Int) {m K : Nat} : ∀ (met : List Int) (L : List (List WO × Nat)), (∀ x ∈ L, x.1.length ≤ m) → (∀ x ∈ L, x.2 ≤ K) → (takeL waits eff met L).length = L.length ∧ (∀ x ∈ takeL waits eff met L, x.1.length ≤ m) ∧ ∀ x ∈ takeL waits eff met L, x.2 ≤ K
  | [], L, h, h2 => ⟨rfl, h, h2⟩
  | t :: r, L, h, h2 => by
    rw [takeL]
    have hK : ∀ q lev, ∀ x ∈ moveM L q t lev, x.2 ≤ K := by
      intro q lev
      unfold moveM
      split
      · exact h2
      · rename_i l hl
        split
        · exact h2
        · intro x hx
          rcases List.mem_or_eq_of_mem_set hx with hx | rfl
          · exact h2 x hx
          · exact h2 l (List.mem_of_getElem? hl)
    split
    · exact takeL_props waits eff r L h h2
    · have := takeL_props waits eff r (moveM L (getW waits t).1.toNat t (eff.getD t.toNat 0)) (moveM_lens h _ _ _) (hK _ _)
      rw [moveM_len] at this
      exact this
theorem worseS_whole {s : Lk} {K : Nat} (h : s.Whole K) (t : Int) : (worseS s t).Whole K := by
  have h1 := roadF_props (owner := s.owner) (waits := s.waits) h.levels 65 (List.replicate 64 false) t s.eff [] h.effs
  have h2 := takeL_props s.waits (worseF s.owner s.level s.waits s.eff t).1 (worseF s.owner s.level s.waits s.eff t).2 s.lines h.lens h.lasts
  have hl : (worseF s.owner s.level s.waits s.eff t).1.length = s.eff.length := h1.1
  exact ⟨by show (worseF _ _ _ _ _).1.length ≤ 64; rw [hl]; exact h.nt, by show (takeL _ _ _ _).length ≤ 64; rw [h2.1]; exact h.nl, by show _ = (takeL _ _ _ _).length; rw [h2.1]; exact h.owner, by show _ = (worseF _ _ _ _ _).1.length; rw [hl]; exact h.waits, by show _ = (worseF _ _ _ _ _).1.length; rw [hl]; exact h.level,
    by show ∀ x ∈ s.owner, -1 ≤ x ∧ x < ((worseF _ _ _ _ _).1.length : Int); rw [hl]; exact h.owners, by show ∀ x ∈ s.waits, -1 ≤ x.1 ∧ x.1 < ((takeL _ _ _ _).length : Int); rw [h2.1]; exact h.wls, by show ∀ x ∈ s.waits, -1 ≤ x.2 ∧ x.2 < ((worseF _ _ _ _ _).1.length : Int); rw [hl]; exact h.wts, h.levels, h1.2.1, h2.2.1, h2.2.2⟩

set_option maxHeartbeats 6400000 in
theorem lkworse_any {w0 : Base} {w : World} {a : LkA} {s : Lk} {K : Nat} (h : LkIs w0 w a s) (hw : s.Whole K) (t : Int) :
    Calls Tryz.prog 55 #[.pointer (some ⟨a.g, 0, none⟩), .int .i64 t] w fun e w' => e = .returned (.tuple #[]) ∧ ∃ a', a'.key = a.key ∧ LkIs w0 w' a' (worseS s t) := by
  have hB : Blk w a.g 47 _ := h.at_.blk
  have hc := hB.cell
  have hl := hB.lt
  have hr4 : w.ownsRow 0 3 1 (.slice a.AV s.eff.length a.cV) s.eff.length (s.level.map I64) := h.at_.2.get (i := 4) rfl
  have hr5 : w.ownsRow 0 3 1 (.slice a.AW s.eff.length a.cW) s.eff.length (s.waits.map fun x : Int × Int => I64 x.1) := h.at_.2.get (i := 5) rfl
  have hr6 : w.ownsRow 0 3 1 (.slice a.AO s.lines.length a.cO) s.lines.length (s.owner.map I64) := h.at_.2.get (i := 6) rfl
  have hr7 : w.ownsRow 0 3 1 (.slice a.AE s.eff.length a.cE) s.eff.length (s.eff.map I64) := h.at_.2.get (i := 7) rfl
  have hG : GrR w a.AV a.cV a.AW a.cW a.AO a.cO s.owner s.level s.waits := ⟨by rw [hw.level]; exact Reads.of_own hr4, by rw [hw.waits]; exact Reads.of_own hr5, by rw [hw.owner]; exact Reads.of_own hr6, by rw [hw.level, hw.waits], by rw [hw.waits]; exact hw.nt, by rw [hw.owner]; exact hw.nl, by rw [hw.waits]; exact hw.owners, by rw [hw.owner]; exact hw.wls, hw.levels⟩
  have HWO : Hid (∀ W, Kept [] w W → Calls Tryz.prog 81 #[.agg #[.slice a.AV s.eff.length a.cV, .slice a.AW s.eff.length a.cW, .slice a.AO s.lines.length a.cO], .slice a.AE s.eff.length a.cE, .int .i64 t] W fun e w' => ∃ b Am cm, e = .returned (.tuple #[.slice (some ⟨b, 0, none⟩) s.eff.length s.eff.length, .slice Am (worseF s.owner s.level s.waits s.eff t).2.length cm]) ∧
      Blk w' b 3 ((worseF s.owner s.level s.waits s.eff t).1.map I64).toArray ∧ W.heap.size ≤ b ∧ w'.ownsRow 0 3 1 (.slice Am (worseF s.owner s.level s.waits s.eff t).2.length cm) (worseF s.owner s.level s.waits s.eff t).2.length ((worseF s.owner s.level s.waits s.eff t).2.map I64) ∧ Kept [] W w') := fun W hk => by
    have hq := gfWorse_any (hG.old hk) s.eff a.AE a.cE ((Reads.of_own hr7).old hk) hw.waits.symm hw.effs t
    rw [hw.level, hw.waits, hw.owner] at hq
    exact hq.mono (fun e w' ⟨b, Am, cm, h1, h2, h3, h4, _, _, h7⟩ => ⟨b, Am, cm, h1, h2, h3, h4, h7⟩)
  have hp := roadF_props (owner := s.owner) (waits := s.waits) hw.levels 65 (List.replicate 64 false) t s.eff [] hw.effs
  have HP := Lib.hid (show (worseF s.owner s.level s.waits s.eff t).1.length = s.eff.length ∧ (∀ x ∈ (worseF s.owner s.level s.waits s.eff t).2, 0 ≤ x ∧ x < s.eff.length) ∧ (worseF s.owner s.level s.waits s.eff t).2.length ≤ 1000 from ⟨hp.1, fun x hx => by
    rcases hp.2.2.1 x hx with h1 | h1
    · simp at h1
    · rw [hw.waits] at h1; exact h1, by have := hp.2.2.2; rw [List.length_nil] at this; unfold worseF; omega⟩)
  have HH := Lib.hid h
  have HW := Lib.hid hw
  clear h hw hr4 hr5 hr6 hr7 hG hp hB
  go_enter Tryz.func55, Tryz.ntmps55
  go_wp2_with fail
  go_region_held3 (fun w' => w'.cell? ⟨a.g, 2, none⟩ = some (.slice a.AV s.eff.length a.cV) ∧ w'.cell? ⟨a.g, 3, none⟩ = some (.slice a.AW s.eff.length a.cW) ∧ w'.cell? ⟨a.g, 4, none⟩ = some (.slice a.AO s.lines.length a.cO) ∧ w'.cell? ⟨a.g, 5, none⟩ = some (.slice a.AE s.eff.length a.cE)) (go_keep) (first | (go_at_call 81; refine (HWO.out _ (by (repeat (first | (with_reducible exact Kept.refl _ _) | (with_reducible assumption) | (with_reducible refine Kept.alloc ?_ _) | (with_reducible refine Kept.drew ?_) | (with_reducible refine Kept.drewN ?_ _) | (with_reducible refine Kept.setCell ?_ ?_ _) | (exact .inr (Nat.le_refl _)) | (exact .inr (by simp only; omega)) | (exact .inr (by omega)))))).mono ?_; rintro e w4 ⟨b, Am, cm, rfl, hb, hbg, hm, hk4⟩; have HK4 : Hid (Kept [] w w4) := (show Kept [] w _ by (repeat (first | (with_reducible exact Kept.refl _ _) | (with_reducible assumption) | (with_reducible refine Kept.alloc ?_ _) | (with_reducible refine Kept.drew ?_) | (with_reducible refine Kept.drewN ?_ _) | (with_reducible refine Kept.setCell ?_ ?_ _) | (exact .inr (Nat.le_refl _)) | (exact .inr (by simp only; omega)) | (exact .inr (by omega))))).trans hk4; have HB4 := Lib.hid hb; have HBG := Lib.hid hbg; have HM4 := Lib.hid hm; have hx2 : w4.cell? ⟨a.g, 2, none⟩ = some (.slice a.AV s.eff.length a.cV) := HK4.out.cell_some (show World.cell? w _ = _ from hc 2) (by simp); have hx3 : w4.cell? ⟨a.g, 3, none⟩ = some (.slice a.AW s.eff.length a.cW) := HK4.out.cell_some (show World.cell? w _ = _ from hc 3) (by simp); have hx4 : w4.cell? ⟨a.g, 4, none⟩ = some (.slice a.AO s.lines.length a.cO) := HK4.out.cell_some (show World.cell? w _ = _ from hc 4) (by simp); have hx5 : w4.cell? ⟨a.g, 5, none⟩ = some (.slice a.AE s.eff.length a.cE) := HK4.out.cell_some (show World.cell? w _ = _ from hc 5) (by simp); clear hb hbg hm hk4))
  all_goals
    have ho : w4.ownsRow 0 3 1 (.slice (some ⟨b, 0, none⟩) s.eff.length s.eff.length) s.eff.length ((worseF s.owner s.level s.waits s.eff t).1.map I64) := by
      have hx := own_of_blk HB4.out (xs := (worseF s.owner s.level s.waits s.eff t).1.map I64) rfl (by have := HP.out.1; have := HW.out.nt; simp [maxLen]; omega)
      rw [List.length_map, HP.out.1] at hx
      exact hx
    have HT := Lib.hid (lktake_any HH.out HW.out b _ _ HP.out.1 HBG.out HK4.out ho Am cm _ HM4.out HP.out.2.1 HP.out.2.2)
    clear ho hx2 hx3 hx4 hx5
    go_wp2_with fail
    refine (HT.out).mono ?_
    rintro e w5 ⟨rfl, gls', hl5⟩
    have HL5 := Lib.hid hl5
    clear hl5
    go_wp2_with fail
    go_end0
    exact ⟨rfl, { a with AE := some ⟨b, 0, none⟩, cE := s.eff.length, gls := gls' }, rfl, HL5.out⟩

/-- A thread's level is another one. -/
def setLevelS (s : Lk) (t : Int) (lev : Int) : Lk := if 0 ≤ t ∧ t < s.eff.length then worseS { s with level := s.level.set t.toNat (holdL lev) } t else s
set_option maxHeartbeats 6400000 in
theorem lkSetLevel_any {w0 : Base} {w : World} {a : LkA} {s : Lk} {K : Nat} (h : LkIs w0 w a s) (hw : s.Whole K) (t lev : Int) :
    Calls Tryz.prog 26 #[.pointer (some ⟨a.g, 0, none⟩), .int .i64 t, .int .i64 lev] w fun e w' => e = .returned (.bool (decide (0 ≤ t ∧ t < s.eff.length))) ∧ ∃ a', a'.key = a.key ∧ LkIs w0 w' a' (setLevelS s t lev) := by
  have HT := Lib.hid (lkthread_any h.at_ t)
  unfold setLevelS
  by_cases ct : 0 ≤ t ∧ t < s.eff.length
  · rw [if_pos ct]
    have hd : decide (0 ≤ t ∧ t < (s.eff.length : Int)) = true := by simp; omega
    rw [hd] at HT ⊢
    obtain ⟨k, rfl⟩ : ∃ k : Nat, t = k := ⟨t.toNat, by omega⟩
    have hk : k < s.eff.length := by omega
    simp only [Int.toNat_natCast]
    have HHD := Lib.hid (fun w => hold_any lev w)
    have hr4 : w.ownsRow 0 3 1 (.slice a.AV s.eff.length a.cV) s.eff.length (s.level.map I64) := h.at_.2.get (i := 4) rfl
    obtain ⟨bV, hbV⟩ := own_at0 hr4 (by omega)
    have hB : Blk w a.g 47 _ := h.at_.blk
    obtain ⟨ag, agw, aAo, aco, aAw, acw, aAL, acL, aAV, acV, aAW, acW, aAO, acO, aAE, acE, aJ, agls, aex⟩ := a
    simp only at hr4 hbV hB ⊢
    subst hbV
    have hc2 : w.cell? ⟨ag, 2, none⟩ = some (.slice (some ⟨bV, 0, none⟩) s.eff.length acV) := hB.cell 2
    have hl := hB.lt
    have hck : w.cell? ⟨bV, k, none⟩ = some (.int .i64 (s.level[k]'(by rw [hw.level]; exact hk))) := by rw [hr4.cellAt k (by omega), List.getElem?_map, List.getElem?_eq_getElem (by rw [hw.level]; exact hk)]; rfl
    have hfk : w.frozen? ⟨bV, k, none⟩ = false := hr4.frozenAt k
    have hlk := World.block_lt_of_cell? w _ hck
    simp only at hlk
    have hset : Kept [bV] w (w.setCell ⟨bV, k, none⟩ (.int .i64 (holdL lev))) := (Kept.refl [bV] w).setCell (.inl (by simp)) _
    have h1 := h.turn (i := 4) rfl hset (p' := .row 3 1 (.slice (some ⟨bV, 0, none⟩) s.eff.length acV) s.eff.length ((s.level.map I64).set k (.int .i64 (holdL lev)))) (hr4.stored k _).1 (fun q hq => .inl hq)
    have he : (s.level.map I64).set k (.int .i64 (holdL lev)) = (s.level.set k (holdL lev)).map I64 := by rw [List.map_set]; rfl
    rw [he] at h1
    have HL : Hid (LkIs w0 (w.setCell ⟨bV, k, none⟩ (.int .i64 (holdL lev))) ⟨ag, agw, aAo, aco, aAw, acw, aAL, acL, some ⟨bV, 0, none⟩, acV, aAW, acW, aAO, acO, aAE, acE, aJ, agls, aex⟩ { s with level := s.level.set k (holdL lev) }) := ⟨⟨h.at_.1, h1.1⟩, h1.2.1, h1.2.2⟩
    have hw2 : ({ s with level := s.level.set k (holdL lev) } : Lk).Whole K := ⟨hw.nt, hw.nl, hw.owner, hw.waits, by show (s.level.set _ _).length = _; rw [List.length_set]; exact hw.level, hw.owners, hw.wls, hw.wts, fun x hx => by
      rcases List.mem_or_eq_of_mem_set hx with hx | rfl
      · exact hw.levels x hx
      · exact ⟨holdL_lo _, holdL_hi _⟩, hw.effs, hw.lens, hw.lasts⟩
    have HWS := Lib.hid (fun W (hk : Kept [] (w.setCell ⟨bV, k, none⟩ (.int .i64 (holdL lev))) W) => lkworse_any (HL.out.old hk) hw2 k)
    have hne : ag ≠ bV := fun he => h.at_.2.apart (i := 0) (j := 4) (by omega) rfl rfl ag (by simp [Piece.fp]) (by simp [Piece.fp, fp_some, he])
    have hne2 : bV ≠ ag := fun he => hne he.symm
    have hi0 : (0 : Int) ≤ (k : Int) := by omega
    have hi1 : (k : Int) < (s.eff.length : Int) := by omega
    generalize s.level[k]'(by rw [hw.level]; exact hk) = y at *
    clear hset h1 he hw2 hr4 hB hd ct h hw
    go_enter Tryz.func26, Tryz.ntmps26
    go_wp2_with fail
    refine (HT.out).mono ?_
    rintro e w1 ⟨rfl, rfl⟩
    go_wp2_with fail
    go_region_held3 (fun w' => w'.cell? ⟨ag, 2, none⟩ = some (.slice (some ⟨bV, 0, none⟩) s.eff.length acV)) (go_keep) (first | (go_at_call 66; refine (HHD.out _).mono ?_; rintro e w4 ⟨rfl, rfl⟩))
    all_goals
      go_wp2_with fail
      refine (HWS.out _ (by first | exact (Kept.refl _ _).drew | exact Kept.refl _ _)).mono ?_
      rintro e w5 ⟨rfl, a', ha', hl5⟩
      have HL5 := Lib.hid hl5
      have HA := Lib.hid ha'
      clear hl5 ha'
      go_wp2_with fail
      go_ret
      exact ⟨rfl, a', HA.out, HL5.out⟩
  · rw [if_neg ct]
    have hd : decide (0 ≤ t ∧ t < (s.eff.length : Int)) = false := by simp; omega
    rw [hd] at HT ⊢
    have HH := Lib.hid h
    clear hd ct h hw
    go_enter Tryz.func26, Tryz.ntmps26
    go_wp2_with fail
    refine (HT.out).mono ?_
    rintro e w1 ⟨rfl, rfl⟩
    go_wp2_with fail
    go_ret
    exact ⟨rfl, a, rfl, HH.out⟩

end Go.Proofs.YtfoeijiejpenpaaGreatDoor
