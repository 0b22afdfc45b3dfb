/- The runner: slice expressions, structs, lengths; all that looks at no memory. -/
import Derived.Test.YthahmfeaekddnaaGreatDoorRuG
namespace Go.Proofs.YthahmfeaekddnaaGreatDoor.Ru
open Go Go.RowKit

section
variable {K : PK} {m : BM} {E : Env} {ρ : Operand → Value} {o : Oper}
theorem bound_some {v : Value} {d c r : Nat} (h : bound (some v) d c = some r) : natOf v = some r ∧ r ≤ c := by
  unfold bound at h
  simp only [] at h
  split at h
  · rename_i n hn
    cases e : Nat.ble n c with
    | false => rw [e] at h; cases h
    | true => rw [e] at h; cases h; exact ⟨hn, Nat.le_of_ble_eq_true e⟩
  · cases h
theorem sliceBound_ok {v v' : Value} {r y : Nat} (hn : natOf v = some r) (hv : VRel m v v') (hy : r ≤ y) (code : BoundsCode) (w : World) : (Instr.sliceBound v' y code).run K.P w = .ok r w := by
  obtain ⟨k, rfl⟩ := natOf_ok hn hv
  have hc : (0 : Int) ≤ (r : Int) ∧ (r : Int) ≤ (y : Int) := by omega
  simp [Instr.sliceBound, asIntOf, hc]
def ORel (m : BM) : Option Value → Option Value → Prop
  | none, none => True
  | some v, some v' => VRel m v v'
  | _, _ => False
theorem ORel.map (hρ : ∀ x, VRel m (rd E x) (ρ x)) (x : Option Operand) : ORel m (x.map (rd E)) (x.map ρ) := by
  cases x with
  | none => trivial
  | some x => exact hρ x
theorem bnds_ok (b : Bool) {n c c' l h t : Nat} {lo hi mx lo' hi' mx' : Option Value} (hc : c ≤ c') (h1 : ORel m lo lo') (h2 : ORel m hi hi') (h3 : ORel m mx mx') (hb : bnds n c lo hi mx = some (l, h, t)) :
    ∃ t', (∀ w, (Instr.sliceBounds b n c' lo' hi' mx').run K.P w = .ok (l, h, t') w) ∧ (mx = none → t = c ∧ t' = c') ∧ (mx ≠ none → t' = t) ∧ l ≤ h ∧ t ≤ c ∧ (n ≤ c → h ≤ t) ∧ mx'.isSome = mx.isSome := by
  have sb : ∀ {v v' : Value} {r y : Nat}, natOf v = some r → VRel m v v' → r ≤ y → ∀ (code : BoundsCode) (w : World), (Instr.sliceBound v' y code).run K.P w = .ok r w := fun a b c => sliceBound_ok a b c
  unfold bnds at hb
  split at hb
  · cases hb
  · rename_i t0 ht
    split at hb
    · cases hb
    · rename_i hne
      split at hb
      · cases hb
      · rename_i hh hH
        split at hb
        · cases hb
        · rename_i ll hL
          cases hb
          have hlo : ∀ w, (match lo' with | some v => Instr.sliceBound v h (if mx'.isSome then .slice3C else .sliceB) | none => pure 0 : Sem Nat).run K.P w = .ok l w ∧ l ≤ h := fun w => by
            match lo, lo', h1 with
            | none, none, _ => simp only [bound] at hL; cases hL; exact ⟨rfl, Nat.zero_le _⟩
            | some v, some v', h1 =>
              obtain ⟨e1, e2⟩ := bound_some hL
              exact ⟨sb e1 h1 e2 _ w, e2⟩
          match mx, mx', h3 with
          | none, none, _ =>
            simp only [bound] at ht
            cases ht
            refine ⟨c', fun w => ?_, fun _ => ⟨rfl, rfl⟩, fun e => absurd rfl e, (hlo default).2, Nat.le_refl _, ?_, rfl⟩
            · match hi, hi', h2 with
              | none, none, _ =>
                simp only [bound] at hH
                cases hH
                have := (hlo w).1
                unfold Instr.sliceBounds
                simp only [Sem.run_bind, Sem.run_pure, Result.andThen_ok]
                cases lo' <;> simp_all
              | some v, some v', h2 =>
                obtain ⟨e1, e2⟩ := bound_some hH
                have h4 := fun code => sb e1 h2 (Nat.le_trans e2 hc) code w
                have := (hlo w).1
                unfold Instr.sliceBounds
                simp only [Sem.run_bind, Sem.run_pure, Result.andThen_ok, h4]
                cases lo' <;> simp_all
            · match hi, hi', h2 with
              | none, none, _ => simp only [bound] at hH; cases hH; exact fun e => e
              | some v, some v', h2 => exact fun _ => (bound_some hH).2
          | some u, some u', h3 =>
            obtain ⟨f1, f2⟩ := bound_some ht
            refine ⟨t, fun w => ?_, (fun e => (by cases e)), fun _ => rfl, (hlo default).2, f2, ?_, rfl⟩
            · match hi, hi', h2 with
              | none, none, _ => exact absurd rfl (hne u rfl)
              | some v, some v', h2 =>
                obtain ⟨e1, e2⟩ := bound_some hH
                have h4 := fun code => sb e1 h2 e2 code w
                have h5 := fun code => sb f1 h3 (Nat.le_trans f2 hc) code w
                have := (hlo w).1
                unfold Instr.sliceBounds
                simp only [Sem.run_bind, Sem.run_pure, Result.andThen_ok, h4, h5]
                cases lo' <;> simp_all
            · match hi, hi', h2 with
              | none, none, _ => exact absurd rfl (hne u rfl)
              | some v, some v', h2 => exact fun _ => (bound_some hH).2
theorem blt_true {a b : Nat} (h : a < b) : Nat.blt a b = true := by rw [Nat.blt_eq]; exact h
theorem blt_of {a b : Nat} (h : Nat.blt a b = true) : a < b := by rwa [Nat.blt_eq] at h
attribute [local irreducible] big
theorem capLow_exact {c : Nat} (h : c < big) : capLow c = c := by unfold capLow; rw [blt_true h]; rfl
theorem blt_false {a b : Nat} (h : b ≤ a) : Nat.blt a b = false := by
  rw [← Bool.not_eq_true, Nat.blt_eq]; omega
theorem capLow_open {c : Nat} (h : big ≤ c) : capLow c = c - big := by
  unfold capLow
  rw [blt_false h, cond_false]
theorem big_pos : 0 < big := by unfold big; omega
theorem slice_ok (k : KOk K) (hρ : ∀ x, VRel m (rd E x) (ρ x)) {t : TypeId} {x : Operand} {lo hi mx : Option Operand} (ho : o.op = .slice t x lo hi mx) {v : Value} (h : q_slice K E t x lo hi mx = .pure v) : Gives K m ρ o v := by
  have h0 := hρ x
  have hL := ORel.map hρ lo
  have hH := ORel.map hρ hi
  have hM := ORel.map hρ mx
  have h := Q.of_pure h
  have hbp := big_pos
  unfold aSlice at h
  split at h
  · rename_i e b off n c hu hx
    rw [hx] at h0
    obtain ⟨_, x1, c', hm, ex, hn, hbig, hcap, hex, hopen⟩ := h0.sliceS
    split at h
    · rename_i i l hh mm hi' hb
      obtain ⟨t', hrun, ht1, ht2, hlh, htc, hht, hmx⟩ := bnds_ok (K := K) true hcap hL hH hM hb
      have hht := hht hn
      cases hz : Nat.beq i.size 0 with
      | true => rw [hz] at h; cases h
      | false =>
        rw [hz] at h
        simp only [cond] at h
        have hne : i.size ≠ 0 := fun e => by rw [e] at hz; cases hz
        have hrun' : ∀ w, (execOp ρ o).run K.P w = .ok (.value (.slice (if t' = l then (some ⟨x1.1, off, none⟩) else (some ⟨x1.1, off + l * i.size, none⟩)) (hh - l) (t' - l))) w := fun w => by
          have hr := hrun w
          simp only [execOp, ho, ex, Instr.sliceAt, Sem.run_bind, run_underlying (k.und _ _ hu), Result.andThen_ok, Instr.slice, hr, sizeOf, typeInfo, run_program, k.info _ _ hi', Sem.run_pure]
          by_cases e : t' = l
          · simp [e]
          · simp [e, add_off]
        cases hml : Nat.beq mm l with
        | true =>
          have e1 : mm = l := Nat.eq_of_beq_eq_true hml
          have e4 : hh - l = 0 := by omega
          rw [hml] at h
          simp only [] at h
          cases hq : (Nat.blt c big || (mx.map (rd E)).isSome) with
          | true =>
            rw [hq] at h
            cases h
            have e2 : t' = l := by
              rw [Bool.or_eq_true] at hq
              by_cases hmn : mx.map (rd E) = none
              · rcases hq with e | e
                · have hcb := blt_of e
                  have := ht1 hmn; have := hex hcb; have := capLow_exact hcb; omega
                · rw [hmn] at e; cases e
              · have := ht2 hmn; omega
            refine ⟨_, ?_, fun w => by rw [hrun' w, if_pos e2]⟩
            rw [show t' - l = 0 by omega, e4]
            exact .slice hm (Nat.zero_le _) (by rw [capLow_exact hbp]; exact hbp) (by rw [capLow_exact hbp]; exact Nat.le_refl _) (fun _ => rfl) (fun h => by omega)
          | false =>
            rw [hq] at h
            cases h
            refine ⟨_, ?_, fun w => hrun' w⟩
            rw [e4]
            exact .empty
        | false =>
          have e1 : mm ≠ l := fun e => by rw [e] at hml; simp at hml
          rw [hml] at h
          cases h
          have e2 : t' ≠ l := by
            by_cases hmn : mx.map (rd E) = none
            · have := ht1 hmn; omega
            · have := ht2 hmn; omega
          refine ⟨_, ?_, fun w => by rw [hrun' w, if_neg e2]⟩
          cases hmx' : mx.map (rd E) with
          | none =>
            obtain ⟨f1, f2⟩ := ht1 hmx'
            simp only []
            have hl0 : off + l * i.size = 0 → l = 0 := fun e => by
              rcases Nat.eq_zero_or_pos l with e5 | e5
              · exact e5
              · have := Nat.mul_pos e5 (Nat.pos_of_ne_zero hne); omega
            rcases Nat.lt_or_ge c big with hcb | hcb
            · have g1 := capLow_exact hcb
              have g2 := hex hcb
              have g3 : c - l < big := by omega
              exact .slice hm (by rw [capLow_exact g3]; omega) (by rw [capLow_exact g3]; exact g3) (by rw [capLow_exact g3]; omega) (fun _ => by omega) (fun h => by omega)
            · have g1 := capLow_open hcb
              have g3 : big ≤ c - l := by omega
              exact .slice hm (by rw [capLow_open g3]; omega) (by rw [capLow_open g3]; omega) (by rw [capLow_open g3]; omega) (fun h => by omega) (fun _ e => by
                have e6 := hl0 e
                have e7 : off = 0 := by omega
                have := hopen hcb e7
                omega)
          | some u =>
            have f1 := ht2 (by rw [hmx']; simp)
            simp only []
            have g3 : mm - l < big := by omega
            exact .slice hm (by rw [capLow_exact g3]; omega) (by rw [capLow_exact g3]; exact g3) (by rw [capLow_exact g3]; omega) (fun _ => by omega) (fun h => by omega)
    · cases h
  · rename_i e hu hx
    rw [hx] at h0
    split at h
    · rename_i i r hi' hb
      cases h
      obtain ⟨l, hh, mm⟩ := r
      obtain ⟨t', hrun, ht1, ht2, hlh, htc, hht, hmx⟩ := bnds_ok (K := K) true (Nat.le_refl 0) hL hH hM hb
      refine ⟨_, .lit rfl, fun w => ?_⟩
      have hr := hrun w
      have h1 : t' = 0 := by
        by_cases hmn : mx.map (rd E) = none
        · have := ht1 hmn; omega
        · have := ht2 hmn; omega
      have h2 := hht (Nat.le_refl 0)
      have h3 : l = 0 := by omega
      have h4 : hh = 0 := by omega
      subst h1 h3 h4
      simp [execOp, ho, h0.slice0, Instr.sliceAt, run_underlying (k.und _ _ hu), Instr.slice, hr, sizeOf, typeInfo, k.info _ _ hi']
    · cases h
  · rename_i n e b off hu hx
    rw [hx] at h0
    obtain ⟨x1, hm, ex⟩ := h0.pointer
    split at h
    · rename_i i l hh mm hi' hb
      obtain ⟨t', hrun, ht1, ht2, hlh, htc, hht, hmx⟩ := bnds_ok (K := K) false (Nat.le_refl n) hL hH hM hb
      have hht := hht (Nat.le_refl n)
      cases hz : Nat.blt n big with
      | false => rw [hz] at h; cases h
      | true =>
        rw [hz] at h
        cases h
        have hnb := blt_of hz
        have e2 : t' = mm := by
          by_cases hmn : mx.map (rd E) = none
          · have := ht1 hmn; omega
          · exact ht2 hmn
        subst e2
        have g3 : t' - l < big := by omega
        refine ⟨.slice (some ⟨x1.1, cond (Nat.beq t' l) off (off + l * i.size), none⟩) (hh - l) (t' - l), .slice hm (by rw [capLow_exact g3]; omega) (by rw [capLow_exact g3]; exact g3) (by rw [capLow_exact g3]; exact Nat.le_refl _) (fun _ => rfl) (fun h => by omega), fun w => ?_⟩
        have hr := hrun w
        simp only [execOp, ho, ex, Instr.sliceAt, Sem.run_bind, run_underlying (k.und _ _ hu), Result.andThen_ok, Instr.sureAddr, hr, sizeOf, typeInfo, run_program, k.info _ _ hi', Sem.run_pure, add_off]
        by_cases e : t' = l
        · rw [if_pos e, show Nat.beq t' l = true by rw [e]; exact Nat.beq_refl l]; rfl
        · rw [if_neg e, show Nat.beq t' l = false by cases e3 : Nat.beq t' l with
            | false => rfl
            | true => exact absurd (Nat.eq_of_beq_eq_true e3) e]; rfl
    · cases h
  · rename_i s hu hx
    rw [hx] at h0
    split at h
    · cases h
    · rename_i hmn
      split at h
      · rename_i l hh mm hb
        cases h
        obtain ⟨t', hrun, ht1, ht2, hlh, htc, hht, hmx⟩ := bnds_ok (K := K) (mx := none) (mx' := none) false (Nat.le_refl s.size) hL hH trivial hb
        have e1 : mx = none := by cases mx with
          | none => rfl
          | some u => cases hmn
        refine ⟨_, .lit rfl, fun w => ?_⟩
        have hr := hrun w
        subst e1
        simp [execOp, ho, h0.str, Instr.sliceAt, run_underlying (k.und _ _ hu), Instr.slice, hr]
      · cases h
  · cases h
end
end Go.Proofs.YthahmfeaekddnaaGreatDoor.Ru
