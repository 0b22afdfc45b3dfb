/- The runner: slice expressions, structs, lengths; all that looks at no memory; The runner: structs and lists built; lengths; all that looks at no memory; The runner: what looks at no memory, what reads, what makes a block; The runner: what reads, what makes a block. -/
import Derived.Test.YtdkebebingchpaaGreatDoorRunB
import Derived.Laws.Cells

/- The runner: slice expressions, structs, lengths; all that looks at no memory. -/
namespace Go.Proofs.YtdkebebingchpaaGreatDoor.Ru
open Go Go.RowKit

section
variable {K : PK} {m : BM} {E : Env} {ρ : Operand → Value} {o : Oper}
theorem bound_some {v : Value} {d c r : Nat} (h : bound (some v) d c = some r) : natOf v = some r ∧ r ≤ c := by
  unfold bound at h
  simp only [] at h
  split at h
  · rename_i n hn
    cases e : Nat.ble n c with
    | false => rw [e] at h; cases h
    | true => rw [e] at h; cases h; exact ⟨hn, Nat.le_of_ble_eq_true e⟩
  · cases h
theorem sliceBound_ok {v v' : Value} {r y : Nat} (hn : natOf v = some r) (hv : VRel m v v') (hy : r ≤ y) (code : BoundsCode) (w : World) : (Instr.sliceBound v' y code).run K.P w = .ok r w := by
  obtain ⟨k, rfl⟩ := natOf_ok hn hv
  have hc : (0 : Int) ≤ (r : Int) ∧ (r : Int) ≤ (y : Int) := by omega
  simp [Instr.sliceBound, asIntOf, hc]
def ORel (m : BM) : Option Value → Option Value → Prop
  | none, none => True
  | some v, some v' => VRel m v v'
  | _, _ => False
theorem ORel.map (hρ : ∀ x, VRel m (rd E x) (ρ x)) (x : Option Operand) : ORel m (x.map (rd E)) (x.map ρ) := by
  cases x with
  | none => trivial
  | some x => exact hρ x
theorem bnds_ok (b : Bool) {n c c' l h t : Nat} {lo hi mx lo' hi' mx' : Option Value} (hc : c ≤ c') (h1 : ORel m lo lo') (h2 : ORel m hi hi') (h3 : ORel m mx mx') (hb : bnds n c lo hi mx = some (l, h, t)) :
    ∃ t', (∀ w, (Instr.sliceBounds b n c' lo' hi' mx').run K.P w = .ok (l, h, t') w) ∧ (mx = none → t = c ∧ t' = c') ∧ (mx ≠ none → t' = t) ∧ l ≤ h ∧ t ≤ c ∧ (n ≤ c → h ≤ t) ∧ mx'.isSome = mx.isSome := by
  have sb : ∀ {v v' : Value} {r y : Nat}, natOf v = some r → VRel m v v' → r ≤ y → ∀ (code : BoundsCode) (w : World), (Instr.sliceBound v' y code).run K.P w = .ok r w := fun a b c => sliceBound_ok a b c
  unfold bnds at hb
  split at hb
  · cases hb
  · rename_i t0 ht
    split at hb
    · cases hb
    · rename_i hne
      split at hb
      · cases hb
      · rename_i hh hH
        split at hb
        · cases hb
        · rename_i ll hL
          cases hb
          have hlo : ∀ w, (match lo' with | some v => Instr.sliceBound v h (if mx'.isSome then .slice3C else .sliceB) | none => pure 0 : Sem Nat).run K.P w = .ok l w ∧ l ≤ h := fun w => by
            match lo, lo', h1 with
            | none, none, _ => simp only [bound] at hL; cases hL; exact ⟨rfl, Nat.zero_le _⟩
            | some v, some v', h1 =>
              obtain ⟨e1, e2⟩ := bound_some hL
              exact ⟨sb e1 h1 e2 _ w, e2⟩
          match mx, mx', h3 with
          | none, none, _ =>
            simp only [bound] at ht
            cases ht
            refine ⟨c', fun w => ?_, fun _ => ⟨rfl, rfl⟩, fun e => absurd rfl e, (hlo default).2, Nat.le_refl _, ?_, rfl⟩
            · match hi, hi', h2 with
              | none, none, _ =>
                simp only [bound] at hH
                cases hH
                have := (hlo w).1
                unfold Instr.sliceBounds
                simp only [Sem.run_bind, Sem.run_pure, Result.andThen_ok]
                cases lo' <;> simp_all
              | some v, some v', h2 =>
                obtain ⟨e1, e2⟩ := bound_some hH
                have h4 := fun code => sb e1 h2 (Nat.le_trans e2 hc) code w
                have := (hlo w).1
                unfold Instr.sliceBounds
                simp only [Sem.run_bind, Sem.run_pure, Result.andThen_ok, h4]
                cases lo' <;> simp_all
            · match hi, hi', h2 with
              | none, none, _ => simp only [bound] at hH; cases hH; exact fun e => e
              | some v, some v', h2 => exact fun _ => (bound_some hH).2
          | some u, some u', h3 =>
            obtain ⟨f1, f2⟩ := bound_some ht
            refine ⟨t, fun w => ?_, (fun e => (by cases e)), fun _ => rfl, (hlo default).2, f2, ?_, rfl⟩
            · match hi, hi', h2 with
              | none, none, _ => exact absurd rfl (hne u rfl)
              | some v, some v', h2 =>
                obtain ⟨e1, e2⟩ := bound_some hH
                have h4 := fun code => sb e1 h2 e2 code w
                have h5 := fun code => sb f1 h3 (Nat.le_trans f2 hc) code w
                have := (hlo w).1
                unfold Instr.sliceBounds
                simp only [Sem.run_bind, Sem.run_pure, Result.andThen_ok, h4, h5]
                cases lo' <;> simp_all
            · match hi, hi', h2 with
              | none, none, _ => exact absurd rfl (hne u rfl)
              | some v, some v', h2 => exact fun _ => (bound_some hH).2
theorem blt_true {a b : Nat} (h : a < b) : Nat.blt a b = true := by rw [Nat.blt_eq]; exact h
theorem blt_of {a b : Nat} (h : Nat.blt a b = true) : a < b := by rwa [Nat.blt_eq] at h
attribute [local irreducible] big
theorem capLow_exact {c : Nat} (h : c < big) : capLow c = c := by unfold capLow; rw [blt_true h]; rfl
theorem blt_false {a b : Nat} (h : b ≤ a) : Nat.blt a b = false := by
  rw [← Bool.not_eq_true, Nat.blt_eq]; omega
theorem capLow_open {c : Nat} (h : big ≤ c) : capLow c = c - big := by
  unfold capLow
  rw [blt_false h, cond_false]
theorem big_pos : 0 < big := by unfold big; omega
theorem slice_ok (k : KOk K) (hρ : ∀ x, VRel m (rd E x) (ρ x)) {t : TypeId} {x : Operand} {lo hi mx : Option Operand} (ho : o.op = .slice t x lo hi mx) {v : Value} (h : q_slice K E t x lo hi mx = .pure v) : Gives K m ρ o v := by
  have h0 := hρ x
  have hL := ORel.map hρ lo
  have hH := ORel.map hρ hi
  have hM := ORel.map hρ mx
  have h := Q.of_pure h
  have hbp := big_pos
  unfold aSlice at h
  split at h
  · rename_i e b off n c hu hx
    rw [hx] at h0
    obtain ⟨_, x1, c', hm, ex, hn, hbig, hcap, hex, hopen⟩ := h0.sliceS
    split at h
    · rename_i i l hh mm hi' hb
      obtain ⟨t', hrun, ht1, ht2, hlh, htc, hht, hmx⟩ := bnds_ok (K := K) true hcap hL hH hM hb
      have hht := hht hn
      cases hz : Nat.beq i.size 0 with
      | true => rw [hz] at h; cases h
      | false =>
        rw [hz] at h
        simp only [cond] at h
        have hne : i.size ≠ 0 := fun e => by rw [e] at hz; cases hz
        have hrun' : ∀ w, (execOp ρ o).run K.P w = .ok (.value (.slice (if t' = l then (some ⟨x1.1, off, none⟩) else (some ⟨x1.1, off + l * i.size, none⟩)) (hh - l) (t' - l))) w := fun w => by
          have hr := hrun w
          simp only [execOp, ho, ex, Instr.sliceAt, Sem.run_bind, run_underlying (k.und _ _ hu), Result.andThen_ok, Instr.slice, hr, sizeOf, typeInfo, run_program, k.info _ _ hi', Sem.run_pure]
          by_cases e : t' = l
          · simp [e]
          · simp [e, add_off]
        cases hml : Nat.beq mm l with
        | true =>
          have e1 : mm = l := Nat.eq_of_beq_eq_true hml
          have e4 : hh - l = 0 := by omega
          rw [hml] at h
          simp only [] at h
          cases hq : (Nat.blt c big || (mx.map (rd E)).isSome) with
          | true =>
            rw [hq] at h
            cases h
            have e2 : t' = l := by
              rw [Bool.or_eq_true] at hq
              by_cases hmn : mx.map (rd E) = none
              · rcases hq with e | e
                · have hcb := blt_of e
                  have := ht1 hmn; have := hex hcb; have := capLow_exact hcb; omega
                · rw [hmn] at e; cases e
              · have := ht2 hmn; omega
            refine ⟨_, ?_, fun w => by rw [hrun' w, if_pos e2]⟩
            rw [show t' - l = 0 by omega, e4]
            exact .slice hm (Nat.zero_le _) (by rw [capLow_exact hbp]; exact hbp) (by rw [capLow_exact hbp]; exact Nat.le_refl _) (fun _ => rfl) (fun h => by omega)
          | false =>
            rw [hq] at h
            cases h
            refine ⟨_, ?_, fun w => hrun' w⟩
            rw [e4]
            exact .empty
        | false =>
          have e1 : mm ≠ l := fun e => by rw [e] at hml; simp at hml
          rw [hml] at h
          cases h
          have e2 : t' ≠ l := by
            by_cases hmn : mx.map (rd E) = none
            · have := ht1 hmn; omega
            · have := ht2 hmn; omega
          refine ⟨_, ?_, fun w => by rw [hrun' w, if_neg e2]⟩
          cases hmx' : mx.map (rd E) with
          | none =>
            obtain ⟨f1, f2⟩ := ht1 hmx'
            simp only []
            have hl0 : off + l * i.size = 0 → l = 0 := fun e => by
              rcases Nat.eq_zero_or_pos l with e5 | e5
              · exact e5
              · have := Nat.mul_pos e5 (Nat.pos_of_ne_zero hne); omega
            rcases Nat.lt_or_ge c big with hcb | hcb
            · have g1 := capLow_exact hcb
              have g2 := hex hcb
              have g3 : c - l < big := by omega
              exact .slice hm (by rw [capLow_exact g3]; omega) (by rw [capLow_exact g3]; exact g3) (by rw [capLow_exact g3]; omega) (fun _ => by omega) (fun h => by omega)
            · have g1 := capLow_open hcb
              have g3 : big ≤ c - l := by omega
              exact .slice hm (by rw [capLow_open g3]; omega) (by rw [capLow_open g3]; omega) (by rw [capLow_open g3]; omega) (fun h => by omega) (fun _ e => by
                have e6 := hl0 e
                have e7 : off = 0 := by omega
                have := hopen hcb e7
                omega)
          | some u =>
            have f1 := ht2 (by rw [hmx']; simp)
            simp only []
            have g3 : mm - l < big := by omega
            exact .slice hm (by rw [capLow_exact g3]; omega) (by rw [capLow_exact g3]; exact g3) (by rw [capLow_exact g3]; omega) (fun _ => by omega) (fun h => by omega)
    · cases h
  · rename_i e hu hx
    rw [hx] at h0
    split at h
    · rename_i i r hi' hb
      cases h
      obtain ⟨l, hh, mm⟩ := r
      obtain ⟨t', hrun, ht1, ht2, hlh, htc, hht, hmx⟩ := bnds_ok (K := K) true (Nat.le_refl 0) hL hH hM hb
      refine ⟨_, .lit rfl, fun w => ?_⟩
      have hr := hrun w
      have h1 : t' = 0 := by
        by_cases hmn : mx.map (rd E) = none
        · have := ht1 hmn; omega
        · have := ht2 hmn; omega
      have h2 := hht (Nat.le_refl 0)
      have h3 : l = 0 := by omega
      have h4 : hh = 0 := by omega
      subst h1 h3 h4
      simp [execOp, ho, h0.slice0, Instr.sliceAt, run_underlying (k.und _ _ hu), Instr.slice, hr, sizeOf, typeInfo, k.info _ _ hi']
    · cases h
  · rename_i n e b off hu hx
    rw [hx] at h0
    obtain ⟨x1, hm, ex⟩ := h0.pointer
    split at h
    · rename_i i l hh mm hi' hb
      obtain ⟨t', hrun, ht1, ht2, hlh, htc, hht, hmx⟩ := bnds_ok (K := K) false (Nat.le_refl n) hL hH hM hb
      have hht := hht (Nat.le_refl n)
      cases hz : Nat.blt n big with
      | false => rw [hz] at h; cases h
      | true =>
        rw [hz] at h
        cases h
        have hnb := blt_of hz
        have e2 : t' = mm := by
          by_cases hmn : mx.map (rd E) = none
          · have := ht1 hmn; omega
          · exact ht2 hmn
        subst e2
        have g3 : t' - l < big := by omega
        refine ⟨.slice (some ⟨x1.1, cond (Nat.beq t' l) off (off + l * i.size), none⟩) (hh - l) (t' - l), .slice hm (by rw [capLow_exact g3]; omega) (by rw [capLow_exact g3]; exact g3) (by rw [capLow_exact g3]; exact Nat.le_refl _) (fun _ => rfl) (fun h => by omega), fun w => ?_⟩
        have hr := hrun w
        simp only [execOp, ho, ex, Instr.sliceAt, Sem.run_bind, run_underlying (k.und _ _ hu), Result.andThen_ok, Instr.sureAddr, hr, sizeOf, typeInfo, run_program, k.info _ _ hi', Sem.run_pure, add_off]
        by_cases e : t' = l
        · rw [if_pos e, show Nat.beq t' l = true by rw [e]; exact Nat.beq_refl l]; rfl
        · rw [if_neg e, show Nat.beq t' l = false by cases e3 : Nat.beq t' l with
            | false => rfl
            | true => exact absurd (Nat.eq_of_beq_eq_true e3) e]; rfl
    · cases h
  · rename_i s hu hx
    rw [hx] at h0
    split at h
    · cases h
    · rename_i hmn
      split at h
      · rename_i l hh mm hb
        cases h
        obtain ⟨t', hrun, ht1, ht2, hlh, htc, hht, hmx⟩ := bnds_ok (K := K) (mx := none) (mx' := none) false (Nat.le_refl s.size) hL hH trivial hb
        have e1 : mx = none := by cases mx with
          | none => rfl
          | some u => cases hmn
        refine ⟨_, .lit rfl, fun w => ?_⟩
        have hr := hrun w
        subst e1
        simp [execOp, ho, h0.str, Instr.sliceAt, run_underlying (k.und _ _ hu), Instr.slice, hr]
      · cases h
  · cases h
end
end Go.Proofs.YtdkebebingchpaaGreatDoor.Ru

/- The runner: structs and lists built; lengths; all that looks at no memory. -/
namespace Go.Proofs.YtdkebebingchpaaGreatDoor.Ru
open Go Go.RowKit

theorem setL_cons : ∀ (cs : List Value) (o : Nat) (v : Value) (vs : List Value), o < cs.length → setL cs o (v :: vs) = setL (cs.set o v) (o + 1) vs
  | [], _, _, _, h => by simp at h
  | c :: cs, 0, v, vs, _ => by
    rw [setL, List.set_cons_zero]
    cases vs with
    | nil => cases cs <;> simp [setL]
    | cons u us => rw [setL.eq_4 _ _ _ _ (by intro h; cases h)]
  | c :: cs, o + 1, v, vs, h => by
    rw [setL.eq_4 _ _ _ _ (by intro h; cases h), List.set_cons_succ, setL_cons cs o v vs (by simpa using h)]
    cases vs with
    | nil => cases cs <;> cases o <;> simp [setL]
    | cons u us => rw [setL.eq_4 _ _ _ _ (by intro h; cases h)]
theorem foldl_setL (off : Nat) : ∀ (vs : List Value) (k : Nat) (cs : Array Value), off + k + vs.length ≤ cs.size →
    ((vs.zipIdx k).foldl (fun cs (x : Value × Nat) => cs.setIfInBounds (off + x.2) x.1) cs).toList = setL cs.toList (off + k) vs
  | [], _, cs, _ => by cases h : cs.toList <;> simp [setL, h]
  | v :: vs, k, cs, h => by
    simp only [List.zipIdx_cons, List.foldl_cons]
    rw [foldl_setL off vs (k + 1) _ (by simp at h ⊢; omega), setL_cons _ _ _ _ (by simp at h ⊢; omega)]
    simp [Array.toList_setIfInBounds, Nat.add_assoc]
section
variable {K : PK} {m : BM} {E : Env} {ρ : Operand → Value} {o : Oper}
theorem fill_ok {place place' : Nat → Option (Nat × Nat)} (hp : ∀ i x, place i = some x → place' i = some x) : ∀ (parts : List (Nat × Operand)) (cells : List Value) (cells' : Array Value) (l : List Value), (∀ x, VRel m (rd E x) (ρ x)) → LRel m cells cells'.toList →
    aFill place cells (parts.map fun p => (p.1, rd E p.2)) = some l → ∃ l' : Array Value, Instr.fill place' cells' (parts.map fun p => (p.1, ρ p.2)) = some l' ∧ LRel m l l'.toList
  | [], cells, cells', l, _, hc, h => by
    simp only [List.map_nil, aFill] at h
    cases h
    exact ⟨cells', rfl, hc⟩
  | (i, x) :: parts, cells, cells', l, hρ, hc, h => by
    simp only [List.map_cons, aFill] at h
    split at h
    · cases h
    · rename_i off size hpl
      cases hk : (notJ (rd E x) && Nat.beq (rd E x).cells.toList.length size && Nat.ble (off + size) cells.length) with
      | false => rw [hk] at h; cases h
      | true =>
        rw [hk] at h
        simp only [cond] at h
        simp only [Bool.and_eq_true] at hk
        have e1 := Nat.eq_of_beq_eq_true hk.1.2
        have e2 := Nat.le_of_ble_eq_true hk.2
        have hv := (hρ x).cells (notJ_ne hk.1.1)
        have hl1 := hv.1
        have hl2 := hc.1
        simp only [Array.length_toList] at hl1 hl2 e1
        have hfit : ¬ ((ρ x).cells.size ≠ size ∨ off + (ρ x).cells.size > cells'.size) := by omega
        obtain ⟨l', h1, h2⟩ := fill_ok hp parts (setL cells off (rd E x).cells.toList) ((ρ x).cells.zipIdx.foldl (fun cs (c : Value × Nat) => cs.setIfInBounds (off + c.2) c.1) cells') l hρ (by
          rw [← Array.foldl_toList, Array.toList_zipIdx, foldl_setL off _ 0 _ (by simp; omega)]
          exact hc.setL hv) h
        refine ⟨l', ?_, h2⟩
        rw [List.map_cons, Instr.fill, hp _ _ hpl]
        simp only [Bool.or_eq_true, decide_eq_true_eq]
        rw [if_neg (by simpa using hfit)]
        exact h1
theorem fieldsL_ok (k : KOk K) : ∀ (fs : List Field) (l : List (Nat × Nat)), fieldsL K fs = some l → fs.mapM (fun f => (K.P.info? f.type).map fun i => (f.offset, i.size)) = some l
  | [], l, h => by cases h; rfl
  | f :: fs, l, h => by
    unfold fieldsL at h
    split at h
    · rename_i i r h1 h2
      cases h
      simp [List.mapM_cons, k.info _ _ h1, fieldsL_ok k fs r h2]
    · cases h
theorem zeroT_ok (k : KOk K) {t : TypeId} {z : Value} (h : zeroT K t = some z) : (∃ i, K.info t = some i ∧ K.P.info? t = some i ∧ i.zero = some z) ∧ LRel m z.cells.toList z.cells.toList := by
  unfold zeroT at h
  split at h
  · rename_i i hi
    split at h
    · rename_i u hu
      cases hq : plain 4 u with
      | false => rw [hq] at h; cases h
      | true =>
        rw [hq] at h
        cases h
        exact ⟨⟨i, hi, k.info _ _ hi, hu⟩, (plain_rel 4 _ hq).cells (fun e => by rw [e] at hq; simp [plain] at hq)⟩
    · cases h
  · cases h
theorem build_ok (k : KOk K) (hρ : ∀ x, VRel m (rd E x) (ρ x)) {t : TypeId} {parts : Array (Nat × Operand)} (ho : o.op = .build t parts) {v : Value} (h : q_build K E t parts = .pure v) : Gives K m ρ o v := by
  unfold q_build at h
  have fin : ∀ (l : List Value) (l' : Array Value), LRel m l l'.toList → K.P.built t (parts.map fun p => (p.1, ρ p.2)).toList = some l' → Gives K m ρ o (.agg l.toArray) := fun l l' hl hb => by
    refine ⟨.agg l', .agg hl.1 hl.2, fun w => ?_⟩
    have := run_build (P := K.P) w t (parts.map fun p => (p.1, ρ p.2)) l' hb
    simp only [execOp, ho, Sem.run_bind]
    rw [show (parts.map fun x => match x with | (i, x) => (i, ρ x)) = parts.map fun p => (p.1, ρ p.2) from rfl, this]
    rfl
  split at h
  · rename_i z fs hz hu
    obtain ⟨⟨i, _, hi, hzz⟩, hzl⟩ := zeroT_ok (m := m) k hz
    split at h
    · rename_i pl hpl
      split at h
      · rename_i l hf
        cases h
        obtain ⟨l', h1, h2⟩ := fill_ok (place' := fun i => pl.toArray[i]?) (by intro i x e; simpa using e) parts.toList z.cells.toList z.cells l hρ hzl hf
        refine fin l l' h2 ?_
        unfold Program.built
        simp only [hi, k.und _ _ hu, hzz, fieldsL_ok k _ _ hpl, Array.toList_map]
        exact h1
      · cases h
    · cases h
  · rename_i z n e hz hu
    obtain ⟨⟨i, _, hi, hzz⟩, hzl⟩ := zeroT_ok (m := m) k hz
    split at h
    · rename_i ie hie
      split at h
      · rename_i l hf
        cases h
        obtain ⟨l', h1, h2⟩ := fill_ok (place' := fun j => some (j * ie.size, ie.size)) (fun _ _ e => e) parts.toList z.cells.toList z.cells l hρ hzl hf
        refine fin l l' h2 ?_
        unfold Program.built
        simp only [hi, k.und _ _ hu, hzz, k.info _ _ hie, Array.toList_map]
        exact h1
      · cases h
    · cases h
  · cases h
end
end Go.Proofs.YtdkebebingchpaaGreatDoor.Ru

/- The runner: what looks at no memory, what reads, what makes a block. -/
namespace Go.Proofs.YtdkebebingchpaaGreatDoor.Ru
open Go Go.RowKit

section
variable {K : PK} {m : BM} {E : Env} {ρ : Operand → Value} {o : Oper}
theorem Q.of_cases (x : Option Value) : (∃ v, Q.of x = .pure v) ∨ Q.of x = .bad := by cases x <;> simp [Q.of]
theorem fallback_cases (K : PK) (E : Env) (o : Oper) : (∃ v, fallback K E o = .pure v) ∨ fallback K E o = .bad := by
  unfold fallback
  cases o.op.operands.toList.all (fun x => plain 4 (rd E x)) with
  | false => exact .inr rfl
  | true =>
    simp only [cond]
    split
    · rename_i v _
      cases plain 4 v
      · exact .inr rfl
      · exact .inl ⟨v, rfl⟩
    · exact .inr rfl
theorem Q.cond_eq {b : Bool} {x y : Q} (h : cond b x .bad = y) (hy : y ≠ .bad) : b = true ∧ x = y := by
  cases b
  · exact absurd h.symm hy
  · exact ⟨rfl, h⟩
theorem toList_nth {α : Type} {a : Array α} {x : α} {l : List α} (h : a.toList = x :: l) : a[0]? = some x := by
  rw [← Array.getElem?_toList, h]; rfl
theorem len_pure (k : KOk K) (hρ : ∀ x, VRel m (rd E x) (ρ x)) {args : Array Operand} {ts : Array TypeId} (ho : o.op = .call ⟨.builtin .len, args, ts⟩) {v : Value} (h : q_len K E o args ts = .pure v) : Gives K m ρ o v := by
  unfold q_len at h
  split at h
  · rename_i t _ x _ ht hx
    have e1 := toList_nth ht
    have e2 := toList_nth hx
    have h0 := hρ x
    split at h
    · rename_i e a n c hu hr
      cases h
      rw [hr] at h0
      obtain ⟨a', c', ex⟩ := h0.sliceL
      exact ⟨_, .lit rfl, fun w => by simp [execOp, ho, resolve, invoke, builtin, Builtin.len_, e1, e2, ex, run_underlying (k.und _ _ hu), goInt]⟩
    · cases h
    · exact fallback_ok hρ (fun cs b => by rw [ho]; simp) h
  · cases h
theorem pure_ok (k : KOk K) (c : Cx) (hρ : ∀ x, VRel m (rd E x) (ρ x)) {v : Value} (h : opK o.op K c E o = .pure v) : Gives K m ρ o v := by
  have fb : (∀ cs b, o.op ≠ .select cs b) → fallback K E o = .pure v → Gives K m ρ o v := fun hs h => fallback_ok hρ hs h
  cases ho : o.op with
  | move x => rw [ho] at h; exact move_ok hρ (.inl ho) h
  | assign x => rw [ho] at h; exact move_ok hρ (.inr ho) h
  | pick x a b => rw [ho] at h; exact pick_ok hρ ho h
  | alloc t =>
    rw [ho] at h
    change q_alloc K t = _ at h
    unfold q_alloc at h
    split at h <;> cases h
  | box t x =>
    rw [ho] at h
    change q_box E t x = _ at h
    unfold q_box at h
    cases hj : notJ (rd E x) <;> rw [hj] at h <;> cases h
  | build t ps => rw [ho] at h; exact build_ok k hρ ho h
  | buildSlice t n ps =>
    rw [ho] at h
    change q_buildSlice K E t n ps = _ at h
    unfold q_buildSlice at h
    split at h
    · split at h
      · split at h
        · have h := (Q.cond_eq h (by simp)).2
          split at h <;> cases h
        · cases h
      · cases h
    · cases h
  | load t a =>
    rw [ho] at h
    change q_load K E t a = _ at h
    unfold q_load at h
    split at h
    · split at h <;> cases h
    · cases h
  | store t a x =>
    rw [ho] at h
    change q_store K E t a x = _ at h
    unfold q_store at h
    split at h
    · cases hj : (notJ (rd E x) && isLen (sizeT K t) (rd E x).cells.toList && (K.info t).isSome) <;> rw [hj] at h <;> cases h
    · cases h
  | nilCheck x => rw [ho] at h; exact nilCheck_ok hρ ho h
  | binOp op t x y u => rw [ho] at h; exact binOp_ok k hρ ho h
  | unOp op t x => rw [ho] at h; exact unOp_ok hρ ho h
  | convert s d x => rw [ho] at h; exact convert_ok k hρ ho h
  | makeFunc fn a b => rw [ho] at h; exact makeFunc_ok hρ ho h
  | makeMap t r =>
    rw [ho] at h
    change q_makeMap r = _ at h
    cases r <;> cases h
  | makeSlice t l c' =>
    rw [ho] at h
    change q_makeSlice K E t l c' = _ at h
    unfold q_makeSlice at h
    split at h
    · split at h
      · split at h
        · cases (Q.cond_eq h (by simp)).2
        · cases h
      · cases h
    · cases h
  | slice t x a b d => rw [ho] at h; exact slice_ok k hρ ho h
  | fieldAddr t x f => rw [ho] at h; exact fieldAddr_ok k hρ ho h
  | sliceToArrayPointer t x => rw [ho] at h; exact arrPtr_ok k hρ ho h
  | field t x f => rw [ho] at h; exact field_ok k hρ ho h
  | indexAddr t x i => rw [ho] at h; exact indexAddr_ok k hρ ho h
  | index t x i => rw [ho] at h; exact index_ok k hρ ho h
  | lookup t x i k' => rw [ho] at h; cases h
  | mapUpdate t mp k' x => rw [ho] at h; cases h
  | insert t mp k' x => rw [ho] at h; cases h
  | range t x =>
    rw [ho] at h
    change q_range K E t x = _ at h
    unfold q_range at h
    split at h <;> cases h
  | next x b =>
    rw [ho] at h
    change q_next E x b = _ at h
    unfold q_next at h
    split at h <;> cases h
  | extract t i => rw [ho] at h; exact extract_ok hρ ho h
  | call cl =>
    rw [ho] at h
    change q_call K c E o cl = _ at h
    have hs : ∀ cs b, o.op ≠ .select cs b := fun cs b => by rw [ho]; simp
    unfold q_call at h
    split at h
    · split at h
      · rename_i f g a b hf
        unfold q_ext at h
        split at h
        · split at h
          · cases h
          · exact fb hs h
        · cases h
      · rename_i v' hv
        unfold q_callv at h
        split at h
        · exact (hv _ _ _ (by assumption)).elim
        · cases h
        · cases h
    · rename_i b hb
      unfold q_builtin at h
      split at h
      · refine len_pure k hρ (args := cl.args) (ts := cl.argTypes) ?_ h
        rw [ho]; cases cl; simp_all
      · unfold q_append at h
        split at h
        · cases (Q.cond_eq h (by simp)).2
        · cases h
      · unfold q_copy at h
        split at h <;> cases h
      · unfold q_delete at h
        split at h <;> cases h
      · exact fb hs h
      · exact fb hs h
      · cases h
    · cases h
  | defer cl =>
    rw [ho] at h
    change q_defer E cl = _ at h
    unfold q_defer at h
    split at h
    · split at h <;> cases h
    · cases h
  | _ => rw [ho] at h; cases h
end
end Go.Proofs.YtdkebebingchpaaGreatDoor.Ru

/- The runner: what reads, what makes a block. -/
namespace Go.Proofs.YtdkebebingchpaaGreatDoor.Ru
open Go Go.RowKit

section
variable {K : PK} {w0 : World} {m : BM} {h : AH} {w : World} {E : Env} {ρ : Operand → Value} {o : Oper}
/-- The operation yields this value in this world and does nothing else. -/
def GivesAt (K : PK) (m : BM) (ρ : Operand → Value) (o : Oper) (v : Value) (w : World) : Prop := ∃ v', VRel m v v' ∧ (execOp ρ o).run K.P w = .ok (.value v') w
theorem load_ok (k : KOk K) (H : HRel K w0 m h w) (hρ : ∀ x, VRel m (rd E x) (ρ x)) {t : TypeId} {a : Operand} (ho : o.op = .load t a) {f : AH → Option Value} (hq : q_load K E t a = .read f) {v : Value} (hf : f h = some v) : GivesAt K m ρ o v w := by
  unfold q_load at hq
  have h0 := hρ a
  split at hq
  · rename_i b off hr
    rw [hr] at h0
    obtain ⟨x, hm, ex⟩ := h0.pointer
    split at hq
    · rename_i n hd
      cases hq
      obtain ⟨⟨i, hi, hn⟩, hag⟩ := tyD_ok k hd
      dsimp only at hf
      split at hf
      · rename_i l hl
        cases hf
        obtain ⟨e1, l', e2, e3⟩ := H.cells hm hl
        have hlen : l'.length = n := by rw [← e2.1]; exact e1
        refine ⟨.agg l'.toArray, .aggL e2, ?_⟩
        have hld := run_loadCells_list (P := K.P) w ⟨x.1, off, none⟩ l' (fun j u hu => by rw [add_off]; exact e3 j u hu)
        rw [hlen, ← hn] at hld
        simp [execOp, ho, ex, Instr.loadAt, Instr.sureAddr, loadVar, hag, sizeOf, typeInfo, hi, hld]
      · cases hf
    · rename_i n hd
      cases hq
      obtain ⟨⟨i, hi, hn⟩, hag⟩ := tyD_ok k hd
      obtain ⟨v', e1, e2⟩ := H.cell hm hf
      exact ⟨v', e2, by simp [execOp, ho, ex, Instr.loadAt, Instr.sureAddr, loadVar, hag, e1]⟩
    · cases hq
  · cases hq
/-- A key, and its type. -/
inductive KeyOk : TypeDesc → Value → Prop
  | int (kk kj : IntKind) (n : Int) : KeyOk (.int kk) (.int kj n)
  | str (s : ByteArray) : KeyOk .string (.string s)
theorem keyTy_ok (k : KOk K) {key : TypeId} {ix : Value} (h : keyTy K key ix = true) : ∃ u, K.P.underlying key = some u ∧ KeyOk u ix := by
  unfold keyTy at h
  split at h
  · rename_i hu; exact ⟨_, k.und _ _ hu, .int ..⟩
  · rename_i hu; exact ⟨_, k.und _ _ hu, .str _⟩
  · cases h
theorem KeyOk.rel {u : TypeDesc} {ix v : Value} (h : KeyOk u ix) (hv : VRel m ix v) : v = ix := by
  cases h with
  | int kk kj n => exact hv.int
  | str s => exact hv.str
theorem bytes_ext {s t : ByteArray} (h : s.data.toList = t.data.toList) : s = t := by
  cases s; cases t
  have := Array.toList_inj.1 h
  simp_all
theorem bytes_self (s : ByteArray) : (s == s) = true := by
  cases s with | mk a =>
    show (a == a) = true
    simp
theorem bytes_ne {s t : ByteArray} (h : ¬ s = t) : (s == t) = false := by
  cases s with | mk a => cases t with | mk b =>
    show (a == b) = false
    exact beq_eq_false_iff_ne.2 (fun e => h (by rw [e]))
theorem keyQ_true {a k : Value} (h : keyQ a k = some true) : a = k := by
  unfold keyQ at h
  split at h
  · rename_i i z j n
    cases hk : Nat.beq (kindNo i) (kindNo j) with
    | false => rw [hk] at h; cases h
    | true =>
      rw [hk] at h
      simp only [cond, Option.some.injEq] at h
      obtain rfl := kindNo_inj (Nat.eq_of_beq_eq_true hk)
      rw [ieq_eq] at h
      have : z = n := by simpa using h
      rw [this]
  · rename_i s t
    simp only [Option.some.injEq] at h
    exact congrArg Value.string (bytes_ext (by simpa using h))
  · cases h
theorem keyQ_same {u : TypeDesc} {a k : Value} {b : Bool} (hk : KeyOk u k) (h : keyQ a k = some b) : Instr.sameNow u k a = some b := by
  cases b with
  | true =>
    have := keyQ_true h
    subst this
    cases hk <;> simp [Instr.sameNow, bytes_self]
  | false =>
    cases hk with
    | int kk kj n =>
      cases a with
      | int i z =>
        have hh : cond (Nat.beq (kindNo i) (kindNo kj)) (some (ieq z n)) none = some false := h
        clear h
        cases hq : Nat.beq (kindNo i) (kindNo kj) with
        | false => rw [hq] at hh; cases hh
        | true =>
          rw [hq] at hh
          simp only [cond, Option.some.injEq] at hh
          obtain rfl := kindNo_inj (Nat.eq_of_beq_eq_true hq)
          rw [ieq_eq] at hh
          have hne : ¬ n = z := fun e => by rw [e] at hh; simp at hh
          have hnb : (n == z) = false := beq_eq_false_iff_ne.2 hne
          simp [Instr.sameNow, hnb]
      | _ => unfold keyQ at h; cases h
    | str s =>
      cases a with
      | string t =>
        have h : some (t.data.toList == s.data.toList) = some false := h
        simp only [Option.some.injEq] at h
        have hne : ¬ s = t := fun e => by subst e; simp at h
        have hnb : (s == t) = false := bytes_ne hne
        simp [Instr.sameNow, hnb]
      | _ => unfold keyQ at h; cases h
/-- What a map's block holds. -/
def MRel (m : BM) (es : List (Value × Value × Nat)) (es' : Array MapEntry) : Prop :=
  es.length = es'.size ∧ ∀ (i : Nat) (e : Value × Value × Nat), es[i]? = some e → ∃ e' : MapEntry, es'[i]? = some e' ∧ e'.key = e.1 ∧ VRel m e.2.1 e'.val ∧ e'.born = e.2.2
theorem findM_ok {u : TypeDesc} {k : Value} (hk : KeyOk u k) : ∀ (es : List (Value × Value × Nat)) (l : List MapEntry) (i : Nat) (r : Option (Nat × Value)), es.length = l.length → (∀ (i : Nat) (e : Value × Value × Nat), es[i]? = some e → ∃ e' : MapEntry, l[i]? = some e' ∧ e'.key = e.1 ∧ VRel m e.2.1 e'.val ∧ e'.born = e.2.2) →
    findM k es i = some r → match r with
      | none => Instr.findNow u k l i = some none
      | some (j, v) => ∃ v', VRel m v v' ∧ Instr.findNow u k l i = some (some (j, v'))
  | [], l, i, r, hl, _, h => by
    cases h
    have : l = [] := List.eq_nil_of_length_eq_zero hl.symm
    subst this
    rfl
  | (key, v, b) :: es, l, i, r, hl, hh, h => by
    match l, hl with
    | [], hl => simp at hl
    | e' :: l, hl =>
      obtain ⟨e2, h1, h2, h3, _⟩ := hh 0 _ rfl
      cases h1
      simp only at h2
      unfold findM at h
      cases hq : keyQ key k with
      | none => rw [hq] at h; cases h
      | some q =>
        rw [hq] at h
        have hs := keyQ_same hk hq
        cases q with
        | true =>
          cases h
          exact ⟨e'.val, h3, by simp [Instr.findNow, h2, hs]⟩
        | false =>
          have ih := findM_ok hk es l (i + 1) r (by simpa using hl) (fun j e hj => hh (j + 1) e (by simpa using hj)) h
          have hstep : Instr.findNow u k (e' :: l) i = Instr.findNow u k l (i + 1) := by
            simp [Instr.findNow, h2, hs]
          cases r with
          | none => exact hstep.trans ih
          | some r => obtain ⟨v', f1, f2⟩ := ih; exact ⟨v', f1, by rw [hstep]; exact f2⟩
theorem entries_ok (H : HRel K w0 m h w) {x x' : Value} {es : List (Value × Value × Nat)} (hx : VRel m x x') (he : entriesOf h x = some es) :
    (x' = .map none ∧ es = []) ∨ ∃ r es' c, x' = .map (some r) ∧ w.heap[r]? = some (.map es' c) ∧ MRel m es es' := by
  unfold entriesOf at he
  split at he
  · cases he; exact .inl ⟨hx.map0, rfl⟩
  · rename_i r
    obtain ⟨y, hm, ex⟩ := hx.mapS
    split at he
    · rename_i es2 c hg
      cases he
      obtain ⟨es', h1, h2, h3⟩ := H.live r y _ hm hg
      exact .inr ⟨y.1, es', c, ex, h1, h2, h3⟩
    · cases he
  · cases he
theorem run_getMap {P : Program} {r c : Nat} {es : Array MapEntry} (hx : w.heap[r]? = some (.map es c)) : (getObj r).run P w = .ok (.map es c) w := by
  simp [getObj, Sem.run, hx]
theorem run_checkKey (P : Program) {key : TypeId} {u : TypeDesc} {ix : Value} (hu : P.underlying key = some u) (hk : KeyOk u ix) (b : Bool) (w : World) : (Instr.checkKey b 10000 key ix).run P w = .ok () w := by
  show (Instr.checkKey b (Nat.succ 9999) key _).run P w = _
  rw [Instr.checkKey.eq_2]
  cases hk <;> simp [run_underlying hu]
theorem run_lookup (P : Program) {t key elem : TypeId} {u : TypeDesc} {ix : Value} {x : Value} {es : Array MapEntry} {ok : Bool} (hu : P.underlying t = some (.map key elem)) (hk : P.underlying key = some u) (hko : KeyOk u ix)
    (hx : (x = .map none ∧ es = #[]) ∨ ∃ r c, x = .map (some r) ∧ w.heap[r]? = some (.map es c)) {q : Option (Nat × Value)} (hf : Instr.findNow u ix es.toList 0 = some q) :
    (Instr.lookup t x ix ok).run P w = (match q with
      | some (_, v) => .ok (if ok then .tuple #[v, .bool true] else v) w
      | none => ((zeroValue elem).run P w).andThen fun z w => .ok (if ok then .tuple #[z, .bool false] else z) w) := by
  have hck := fun b => run_checkKey P hk hko b w
  have hfk : (Instr.findKey key ix es.toList).run P w = .ok q w := by simp [Instr.findKey, run_underlying hk, hf]
  rcases hx with ⟨rfl, rfl⟩ | ⟨r, c, rfl, hg⟩
  · cases q with
    | none => simp [Instr.lookup, run_underlying hu, hck, hfk]
    | some q => obtain ⟨i, v⟩ := q; simp [Instr.lookup, run_underlying hu, hck, hfk]
  · cases q with
    | none => simp [Instr.lookup, run_underlying hu, hck, hfk, run_getMap hg]
    | some q => obtain ⟨i, v⟩ := q; simp [Instr.lookup, run_underlying hu, hck, hfk, run_getMap hg]
theorem zero_rel {t : TypeId} {z : Value} (hz : zeroT K t = some z) : VRel m z z := by
  unfold zeroT at hz
  split at hz
  · split at hz
    · rename_i u _
      cases hq : plain 4 u <;> rw [hq] at hz <;> cases hz
      exact plain_rel 4 _ hq
    · cases hz
  · cases hz
theorem lookup_ok (k : KOk K) (H : HRel K w0 m h w) (hρ : ∀ x, VRel m (rd E x) (ρ x)) {t : TypeId} {x ix : Operand} {ok : Bool} (ho : o.op = .lookup t x ix ok) {v : Value} (hf : aLookup K t (rd E x) (rd E ix) ok h = some v) : GivesAt K m ρ o v w := by
  have h0 := hρ x
  have h1 := hρ ix
  unfold aLookup at hf
  split at hf
  · rename_i key elem hu
    generalize rd E ix = kx at *
    cases hik : keyTy K key kx with
    | false => rw [hik] at hf; cases hf
    | true =>
      rw [hik] at hf
      simp only [cond] at hf
      obtain ⟨kk, hkk, hko⟩ := keyTy_ok k hik
      have h1 := hko.rel h1
      split at hf
      · rename_i es hes
        obtain ⟨es', hM, hX⟩ : ∃ es' : Array MapEntry, MRel m es es' ∧ ((ρ x = .map none ∧ es' = #[]) ∨ ∃ r c, ρ x = .map (some r) ∧ w.heap[r]? = some (.map es' c)) := by
          rcases entries_ok H h0 hes with ⟨e1, e2⟩ | ⟨r, es', c, e1, e2, e3⟩
          · subst e2
            exact ⟨#[], ⟨rfl, fun i e he => by simp at he⟩, .inl ⟨e1, rfl⟩⟩
          · exact ⟨es', e3, .inr ⟨r, c, e1, e2⟩⟩
        have hfind : ∀ r, findM kx es 0 = some r → _ := fun r hr => findM_ok (m := m) hko es es'.toList 0 r (by simpa using hM.1) (fun i e he => by obtain ⟨e', a, b⟩ := hM.2 i e he; exact ⟨e', by rw [Array.getElem?_toList]; exact a, b⟩) hr
        split at hf
        · rename_i i v2 _ hfm
          obtain ⟨v', f1, f2⟩ := hfind _ hfm
          have hr := run_lookup (w := w) K.P (ok := ok) (k.und _ _ hu) hkk hko hX f2
          cases hf
          cases ok
          · exact ⟨v', f1, by simp only [execOp, ho, h1, Sem.run_bind, hr]; rfl⟩
          · exact ⟨.tuple #[v', .bool true], .tupL (.cons f1 (.cons (.lit rfl) .nil)), by simp only [execOp, ho, h1, Sem.run_bind, hr]; rfl⟩
        · rename_i z hfm hz
          have f2 := hfind _ hfm
          have hr := run_lookup (w := w) K.P (ok := ok) (k.und _ _ hu) hkk hko hX f2
          obtain ⟨⟨i, _, hi, hzz⟩, _⟩ := zeroT_ok (m := m) k hz
          have hzv : (zeroValue elem).run K.P w = .ok z w := by simp [zeroValue, typeInfo, hi, hzz]
          cases hf
          cases ok
          · exact ⟨z, zero_rel hz, by simp only [execOp, ho, h1, Sem.run_bind, hr, hzv]; rfl⟩
          · exact ⟨.tuple #[z, .bool false], .tupL (.cons (zero_rel hz) (.cons (.lit rfl) .nil)), by simp only [execOp, ho, h1, Sem.run_bind, hr, hzv]; rfl⟩
        · cases hf
      · cases hf
  · cases hf
theorem mapLen_ok (k : KOk K) (H : HRel K w0 m h w) (hρ : ∀ x, VRel m (rd E x) (ρ x)) {args : Array Operand} {ts : Array TypeId} (ho : o.op = .call ⟨.builtin .len, args, ts⟩) {f : AH → Option Value} (hq : q_len K E o args ts = .read f) {v : Value} (hf : f h = some v) : GivesAt K m ρ o v w := by
  unfold q_len at hq
  split at hq
  · rename_i t _ x _ ht hx
    have e1 := toList_nth ht
    have e2 := toList_nth hx
    have h0 := hρ x
    split at hq
    · cases hq
    · rename_i key el r hu hr
      cases hq
      rw [hr] at h0
      dsimp only at hf
      split at hf
      · rename_i es hes
        cases hf
        rcases entries_ok H h0 hes with ⟨e3, e4⟩ | ⟨b, es', c, e3, e4, e5⟩
        · subst e4
          exact ⟨_, .lit rfl, by simp [execOp, ho, resolve, invoke, builtin, Builtin.len_, e1, e2, e3, run_underlying (k.und _ _ hu), goInt]⟩
        · refine ⟨_, .lit rfl, ?_⟩
          have := e5.1
          simp [execOp, ho, resolve, invoke, builtin, Builtin.len_, e1, e2, e3, run_underlying (k.und _ _ hu), goInt, run_getMap e4, this]
      · cases hf
    · rcases fallback_cases K E o with ⟨u, e⟩ | e <;> rw [e] at hq <;> cases hq
  · cases hq
end
end Go.Proofs.YtdkebebingchpaaGreatDoor.Ru

