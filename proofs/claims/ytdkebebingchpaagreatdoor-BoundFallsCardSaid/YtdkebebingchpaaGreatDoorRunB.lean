/- The runner: blocks are read, turned, given up; The runner: operations that look at no memory; The runner: arithmetic, comparisons, slices, structs. -/
import Derived.Test.YtdkebebingchpaaGreatDoorRunA
import Derived.Laws.Tables
import Derived.Laws.Append
import Derived.Orders

/- The runner: blocks are read, turned, given up. -/
namespace Go.Proofs.YtdkebebingchpaaGreatDoor.Ru
open Go Go.RowKit

section
variable {K : PK} {w0 : World} {m : BM} {h : AH} {w w' : World}
theorem HRel.apart (H : HRel K w0 m h w) {b c : Nat} {x y : Nat × Nat} (hb : N0 ≤ b) (hm : m b = some x) (hg : (getB h.t b).isSome = true) (hc : m c = some y) (hgc : (getB h.t c).isSome = true) (hne : c ≠ b) : y.1 ≠ x.1 := by
  intro e
  by_cases h1 : N0 ≤ c
  · exact hne (H.inj c b y x h1 hb hc hm e hgc hg)
  · have h2 := H.low c (by omega) hgc
    have h3 := (H.dyn b x hb hm).1
    rw [H.stat c (by omega)] at hc
    cases hc
    simp only at e; omega
/-- A block turns. -/
theorem HRel.turn (H : HRel K w0 m h w) {b : Nat} {x : Nat × Nat} (hb : N0 ≤ b) (hm : m b = some x) (hg : (getB h.t b).isSome = true) (blk' : AB) (hs : w'.heap.size = w.heap.size)
    (ho : ∀ k, k ≠ x.1 → w'.heap[k]? = w.heap[k]?) (hr : BRel K m w' b x blk') (hos : w'.os = w.os ∧ w'.tape = w.tape ∧ w'.output = w.output) :
    HRel K w0 m ⟨setB h.t b (some blk'), h.n⟩ w' ∧ Ext m h w m ⟨setB h.t b (some blk'), h.n⟩ w' := by
  have hbn : b < h.n := by
    rcases Nat.lt_or_ge b h.n with h1 | h1
    · exact h1
    · rw [H.fresh b h1] at hm; cases hm
  have hb2 : b < 16000001 := Nat.lt_of_lt_of_le hbn H.nb
  refine ⟨⟨H.n0, H.nb, H.stat, H.fresh, fun c y hc e => by rw [hs]; exact H.dyn c y hc e, fun c d y z hc hd e1 e2 e3 s1 s2 => ?_, fun c y blk e1 e2 => ?_, fun c hc s => ?_, by rw [hs]; exact H.wsz⟩, ⟨.refl m, fun _ _ e => .inl e, fun c hc e => ?_, fun c hc hn => ho c (fun e => hn b x hb hm e.symm), Nat.le_refl _, by rw [hs]; exact Nat.le_refl _, hos.1, hos.2.1, hos.2.2⟩⟩
  · have t1 : (getB h.t c).isSome = true := by
      by_cases e : c = b
      · rw [e]; exact hg
      · simpa only [getB_set _ _ _ _ hb2, if_neg e] using s1
    have t2 : (getB h.t d).isSome = true := by
      by_cases e : d = b
      · rw [e]; exact hg
      · simpa only [getB_set _ _ _ _ hb2, if_neg e] using s2
    exact H.inj c d y z hc hd e1 e2 e3 t1 t2
  · simp only [getB_set _ _ _ _ hb2] at e2
    by_cases e : c = b
    · subst e
      rw [if_pos rfl] at e2; cases e2
      rw [hm] at e1; cases e1
      exact hr
    · rw [if_neg e] at e2
      exact (H.live c y blk e1 e2).keep (.refl m) (ho _ (H.apart hb hm hg e1 (by rw [e2]; rfl) e))
  · have hne : c ≠ b := by omega
    simp only [getB_set _ _ _ _ hb2, if_neg hne] at s
    exact H.low c hc s
  · have hne : c ≠ b := fun e2 => by rw [e2, hm] at e; cases e
    simp only [getB_set _ _ _ _ hb2, if_neg hne]
/-- A block is given up. -/
theorem HRel.kill (H : HRel K w0 m h w) {b : Nat} {x : Nat × Nat} (hb : N0 ≤ b) (hm : m b = some x) :
    HRel K w0 m ⟨setB h.t b none, h.n⟩ w ∧ Ext m h w m ⟨setB h.t b none, h.n⟩ w := by
  have hbn : b < h.n := by
    rcases Nat.lt_or_ge b h.n with h1 | h1
    · exact h1
    · rw [H.fresh b h1] at hm; cases hm
  have hb2 : b < 16000001 := Nat.lt_of_lt_of_le hbn H.nb
  have back : ∀ c, (getB (setB h.t b none) c).isSome = true → c ≠ b ∧ getB (setB h.t b none) c = getB h.t c := fun c s => by
    by_cases e : c = b
    · subst e
      rw [getB_set _ _ _ _ hb2, if_pos rfl] at s; cases s
    · exact ⟨e, by rw [getB_set _ _ _ _ hb2, if_neg e]⟩
  refine ⟨⟨H.n0, H.nb, H.stat, H.fresh, H.dyn, fun c d y z hc hd e1 e2 e3 s1 s2 => ?_, fun c y blk e1 e2 => ?_, fun c hc s => ?_, H.wsz⟩, ⟨.refl m, fun _ _ e => .inl e, fun c hc e => ?_, fun _ _ _ => rfl, Nat.le_refl _, Nat.le_refl _, rfl, rfl, rfl⟩⟩
  · exact H.inj c d y z hc hd e1 e2 e3 (by rw [← (back c s1).2]; exact s1) (by rw [← (back d s2).2]; exact s2)
  · have := (back c (by simp only at e2; rw [e2]; rfl)).2
    simp only at e2
    rw [this] at e2
    exact H.live c y blk e1 e2
  · exact H.low c hc (by rw [← (back c s).2]; exact s)
  · have hne : c ≠ b := fun e2 => by rw [e2, hm] at e; cases e
    simp only [getB_set _ _ _ _ hb2, if_neg hne]
/-- A block goes on under a new number. -/
theorem HRel.move (H : HRel K w0 m h w) {b : Nat} {x : Nat × Nat} (hb : N0 ≤ b) (hm : m b = some x) (hg : (getB h.t b).isSome = true) (blk' : AB) (hn : h.n < 16000000) (hs : w'.heap.size = w.heap.size)
    (ho : ∀ k, k ≠ x.1 → w'.heap[k]? = w.heap[k]?) (hr : BRel K (m.add h.n x) w' h.n x blk') (hos : w'.os = w.os ∧ w'.tape = w.tape ∧ w'.output = w.output) :
    HRel K w0 (m.add h.n x) ⟨setB (setB h.t b none) h.n (some blk'), h.n + 1⟩ w' ∧ Ext m h w (m.add h.n x) ⟨setB (setB h.t b none) h.n (some blk'), h.n + 1⟩ w' := by
  have hbn : b < h.n := by
    rcases Nat.lt_or_ge b h.n with h1 | h1
    · exact h1
    · rw [H.fresh b h1] at hm; cases hm
  have hb2 : b < 16000001 := Nat.lt_of_lt_of_le hbn H.nb
  have hn2 : h.n < 16000001 := by omega
  have hnn := H.fresh h.n (Nat.le_refl _)
  have get : ∀ c, getB (setB (setB h.t b none) h.n (some blk')) c = if c = h.n then some blk' else if c = b then none else getB h.t c := fun c => by
    rw [getB_set _ _ _ _ hn2, getB_set _ _ _ _ hb2]
  have old : ∀ c y, (m.add h.n x) c = some y → c ≠ h.n → m c = some y := fun c y e hc => by unfold BM.add at e; rwa [if_neg hc] at e
  have new : ∀ y, (m.add h.n x) h.n = some y → y = x := fun y e => by rw [BM.add_self] at e; cases e; rfl
  refine ⟨⟨Nat.le_succ_of_le H.n0, by show h.n + 1 ≤ _; omega, fun g hg => by unfold BM.add; rw [if_neg (by have := H.n0; omega)]; exact H.stat g hg, fun c hc => ?_, fun c y hc e => ?_, fun c d y z hc hd e1 e2 e3 s1 s2 => ?_, fun c y blk e1 e2 => ?_, fun c hc s => ?_, by rw [hs]; exact H.wsz⟩, ⟨.add hnn, fun c y e => ?_, fun c hc e => ?_, fun c hc hn' => ho c (fun e => hn' b x hb hm e.symm), Nat.le_succ _, by rw [hs]; exact Nat.le_refl _, hos.1, hos.2.1, hos.2.2⟩⟩
  · have hc' : h.n + 1 ≤ c := hc
    unfold BM.add; rw [if_neg (by omega)]; exact H.fresh c (by omega)
  · rw [hs]
    by_cases e1 : c = h.n
    · subst e1; rw [new y e]; exact H.dyn b x hb hm
    · exact H.dyn c y hc (old c y e e1)
  · simp only [get] at s1 s2
    by_cases c1 : c = h.n
    · by_cases d1 : d = h.n
      · omega
      · rw [if_neg d1] at s2
        by_cases d2 : d = b
        · rw [if_pos d2] at s2; cases s2
        · rw [if_neg d2] at s2
          subst c1
          rw [new y e1] at e3
          exact absurd e3.symm (H.apart hb hm hg (old d z e2 d1) s2 d2)
    · rw [if_neg c1] at s1
      by_cases c2 : c = b
      · rw [if_pos c2] at s1; cases s1
      · rw [if_neg c2] at s1
        by_cases d1 : d = h.n
        · subst d1
          rw [new z e2] at e3
          exact absurd e3 (H.apart hb hm hg (old c y e1 c1) s1 c2)
        · rw [if_neg d1] at s2
          by_cases d2 : d = b
          · rw [if_pos d2] at s2; cases s2
          · rw [if_neg d2] at s2
            exact H.inj c d y z hc hd (old c y e1 c1) (old d z e2 d1) e3 s1 s2
  · simp only [get] at e2
    by_cases c1 : c = h.n
    · subst c1
      rw [if_pos rfl] at e2; cases e2
      rw [new y e1]; exact hr
    · rw [if_neg c1] at e2
      by_cases c2 : c = b
      · rw [if_pos c2] at e2; cases e2
      · rw [if_neg c2] at e2
        have e1' := old c y e1 c1
        exact (H.live c y blk e1' e2).keep (.add hnn) (ho _ (H.apart hb hm hg e1' (by rw [e2]; rfl) c2))
  · simp only [get] at s
    rw [if_neg (by have := H.n0; omega), if_neg (by omega)] at s
    exact H.low c hc s
  · by_cases e1 : c = h.n
    · subst e1; rw [new y e]; exact .inr ⟨Nat.le_refl _, .inr ⟨b, x, hb, hm, rfl⟩⟩
    · exact .inl (old c y e e1)
  · simp only [get]
    rw [if_neg (by omega), if_neg (fun e2 => by rw [e2, hm] at e; cases e)]
/-- Cells are read. -/
theorem HRel.cell (H : HRel K w0 m h w) {b o : Nat} {x : Nat × Nat} {v : Value} (hm : m b = some x) (hr : rdCell h b o = some v) : ∃ v', w.cell? ⟨x.1, o, none⟩ = some v' ∧ VRel m v v' := by
  rw [rdCell_eq] at hr
  split at hr
  · rename_i cs e he
    exact (H.live b x _ hm he).1 o v hr
  · cases hr
theorem HRel.cells (H : HRel K w0 m h w) {b o n : Nat} {x : Nat × Nat} {l : List Value} (hm : m b = some x) (hr : rdCells h b o n = some l) : l.length = n ∧ ∃ l', LRel m l l' ∧ ∀ j u, l'[j]? = some u → w.cell? ⟨x.1, o + j, none⟩ = some u := by
  rw [rdCells_eq] at hr
  split at hr
  · rename_i cs e he
    have hb := (H.live b x _ hm he).1
    cases hc : Nat.beq ((cs.drop o).take n).length n with
    | false => rw [hc] at hr; cases hr
    | true =>
      rw [hc] at hr
      have hl := Nat.eq_of_beq_eq_true hc
      simp only [cond] at hr
      cases hr
      refine ⟨hl, (List.range n).map (fun j => (w.cell? ⟨x.1, o + j, none⟩).getD .nilIface), .of (by simpa using hl) (fun i u hu => ?_), fun j u hu => ?_⟩
      · have hi : i < n := by rw [← hl]; exact (List.getElem?_eq_some_iff.1 hu).1
        rw [List.getElem?_take, if_pos hi, List.getElem?_drop] at hu
        obtain ⟨u', h1, h2⟩ := hb _ u hu
        exact ⟨u', by simp [hi, h1], h2⟩
      · have hj : j < n := by have := (List.getElem?_eq_some_iff.1 hu).1; simpa using this
        have hlt : o + j < cs.length := by simp at hl; omega
        obtain ⟨u', h1, _⟩ := hb (o + j) cs[o + j] (List.getElem?_eq_getElem hlt)
        simp [hj, h1] at hu
        rw [h1, hu]
  · cases hr
theorem oneC_one {v : Value} : oneC v = true → v.oneCell' = true := by cases v <;> simp [oneC, Value.oneCell']
/-- Cells are written. -/
theorem HRel.write (P : Program) (H : HRel K w0 m h w) {b o : Nat} {x : Nat × Nat} {vs vs' : List Value} {h' : AH} (hm : m b = some x) (hw : wrCells h b o vs = some h') (hv : LRel m vs vs') (h1 : ∀ v ∈ vs', v.oneCell' = true) :
    ∃ w', (storeCells ⟨x.1, o, none⟩ vs' 0).run P w = .ok () w' ∧ HRel K w0 m h' w' ∧ Ext m h w m h' w' := by
  rw [wrCells_eq] at hw
  cases hb : Nat.blt b N0 with
  | true => rw [hb] at hw; cases hw
  | false =>
    rw [hb] at hw
    simp only [cond] at hw
    have hN : N0 ≤ b := by
      have : ¬ b < N0 := fun h => by rw [← Nat.blt_eq] at h; rw [h] at hb; cases hb
      omega
    split at hw
    · rename_i cs e he
      split at hw
      · rename_i hc
        simp only [Bool.and_eq_true] at hc
        have hle := Nat.le_of_ble_eq_true hc.1
        cases hw
        obtain ⟨hcs, hC⟩ := H.live b x _ hm he
        obtain ⟨C, hC1, hC2, hC3⟩ := hC hN
        have hl := hv.1
        have hrun := run_storeCells_at P x.1 o e vs' 0 C w hC1 (by omega) h1
        have hsz : (C.toList.take o ++ vs' ++ C.toList.drop (o + vs'.length)).toArray.size = C.size := by simp; omega
        refine ⟨_, hrun, H.turn hN hm (by rw [he]; rfl) _ (setRow_size _ _ _) (fun k hk => setRow_other _ _ _ _ hk) ⟨fun i u hu => ?_, fun _ => ⟨_, setRow_heap _ _ _ _ _ _ hC1, ?_, fun hk => ?_⟩⟩ ⟨rfl, rfl, rfl⟩⟩
        · rw [setL_get _ _ _ _ hle] at hu
          have hcell : ∀ D : Array Value, (w.setRow x.1 D).cell? ⟨x.1, i, none⟩ = D[i]? := fun D => by
            have := setRow_heap w x.1 C D e (0, 0) hC1
            simp [World.cell?, this]
          rw [hcell]
          have hD : ((C.toList.take (o + 0) ++ vs' ++ C.toList.drop (o + 0 + vs'.length)).toArray)[i]? = if o ≤ i ∧ i < o + vs'.length then vs'[i - o]? else C[i]? := by
            have h0 : o + 0 = o := rfl
            rw [h0, List.getElem?_toArray]
            have ht : (C.toList.take o).length = o := by simp; omega
            by_cases c1 : i < o
            · rw [if_neg (by omega), List.append_assoc, List.getElem?_append_left (by omega), List.getElem?_take, if_pos c1, Array.getElem?_toList]
            · rw [List.append_assoc, List.getElem?_append_right (by omega), ht]
              by_cases c2 : i < o + vs'.length
              · rw [if_pos (by omega), List.getElem?_append_left (by omega)]
              · rw [if_neg (by omega), List.getElem?_append_right (by omega), List.getElem?_drop, Array.getElem?_toList]
                congr 1; omega
          rw [hD]
          by_cases c1 : o ≤ i ∧ i < o + vs.length
          · rw [if_pos c1] at hu
            rw [if_pos (by omega)]
            exact hv.get hu
          · rw [if_neg c1] at hu
            rw [if_neg (by omega)]
            obtain ⟨u', e1, e2⟩ := hcs i u hu
            refine ⟨u', ?_, e2⟩
            simpa [World.cell?, hC1] using e1
        · simp only [Nat.add_zero]; rw [hsz, setL_len]; exact hC2
        · simp only [Nat.add_zero]; rw [hsz]; exact hC3 hk
      · cases hw
    · cases hw
end

end Go.Proofs.YtdkebebingchpaaGreatDoor.Ru

/- The runner: operations that look at no memory. -/
namespace Go.Proofs.YtdkebebingchpaaGreatDoor.Ru
open Go Go.RowKit

/-- The tables are the program's. -/
structure KOk (K : PK) : Prop where
  info : ∀ t i, K.info t = some i → K.P.info? t = some i
  und : ∀ t d, K.und t = some d → K.P.underlying t = some d
  fn : ∀ f g, K.fn f = some g → K.P.funcs[f]? = some g ∧ (g.name == "runtime.NumGoroutine") = false
  mix : K.P.follows .mixedOrders = true
theorem pureOf_run {α : Type} (P : Program) : ∀ (s : Sem α) (a : α), pureOf P s = some a → ∀ w, s.run P w = .ok a w := by
  intro s
  induction s with
  | pure a => intro b h w; simp only [pureOf] at h; cases h; rfl
  | program k ih => intro a h w; exact ih P a h w
  | mark _ k ih => intro a h w; exact ih a h w
  | load => intro _ h; cases h
  | store => intro _ h; cases h
  | new => intro _ h; cases h
  | shape => intro _ h; cases h
  | freeze => intro _ h; cases h
  | frozen => intro _ h; cases h
  | getObj => intro _ h; cases h
  | setObj => intro _ h; cases h
  | choose => intro _ h; cases h
  | sys => intro _ h; cases h
  | halt => intro _ h; cases h

section
variable {K : PK} {m : BM} {E : Env} {ρ : Operand → Value} {o : Oper}
/-- The operation yields this value and does nothing else. -/
def Gives (K : PK) (m : BM) (ρ : Operand → Value) (o : Oper) (v : Value) : Prop := ∃ v', VRel m v v' ∧ ∀ w, (execOp ρ o).run K.P w = .ok (.value v') w
theorem Q.of_pure {x : Option Value} {v : Value} (h : Q.of x = .pure v) : x = some v := by
  cases x with
  | none => cases h
  | some u => cases h; rfl
theorem fallback_ok (hρ : ∀ x, VRel m (rd E x) (ρ x)) (hs : ∀ cs b, o.op ≠ .select cs b) {v : Value} (h : fallback K E o = .pure v) : Gives K m ρ o v := by
  unfold fallback at h
  cases hp : o.op.operands.toList.all (fun x => plain 4 (rd E x)) with
  | false => rw [hp] at h; cases h
  | true =>
    rw [hp] at h
    simp only [cond] at h
    have he : execOp (rd E) o = execOp ρ o := execOp_congr o hs fun x hx => plain_eq 4 _ _ (List.all_eq_true.1 hp x (by simpa using hx)) (hρ x)
    split at h
    · rename_i u hu
      cases hq : plain 4 u with
      | false => rw [hq] at h; cases h
      | true =>
        rw [hq] at h
        cases h
        rw [he] at hu
        exact ⟨_, plain_rel 4 _ hq, fun w => pureOf_run K.P _ _ hu w⟩
    · cases h
theorem move_ok (hρ : ∀ x, VRel m (rd E x) (ρ x)) {x : Operand} (ho : o.op = .move x ∨ o.op = .assign x) {v : Value} (h : q_move E x = .pure v) : Gives K m ρ o v := by
  cases h
  refine ⟨_, hρ x, fun w => ?_⟩
  rcases ho with ho | ho <;> simp [execOp, ho]
theorem pick_ok (hρ : ∀ x, VRel m (rd E x) (ρ x)) {x a b : Operand} (ho : o.op = .pick x a b) {v : Value} (h : q_pick E x a b = .pure v) : Gives K m ρ o v := by
  unfold q_pick at h
  have h0 := hρ x
  split at h
  · rename_i t ht
    rw [ht] at h0
    cases h
    have e := h0.bool
    cases t
    · exact ⟨_, hρ b, fun w => by simp [execOp, ho, e, asBool]⟩
    · exact ⟨_, hρ a, fun w => by simp [execOp, ho, e, asBool]⟩
  · cases h
theorem extract_ok (hρ : ∀ x, VRel m (rd E x) (ρ x)) {t : Operand} {i : Nat} (ho : o.op = .extract t i) {v : Value} (h : q_extract E t i = .pure v) : Gives K m ρ o v := by
  unfold q_extract at h
  have h0 := hρ t
  split at h
  · rename_i vs ht
    rw [ht] at h0
    obtain ⟨vs', e, hl⟩ := h0.tupF
    obtain ⟨u', h1, h2⟩ := hl.get (Q.of_pure h)
    refine ⟨u', h2, fun w => ?_⟩
    rw [Array.getElem?_toList] at h1
    simp [execOp, ho, e, Instr.extract, h1]
  · cases h
theorem nilCheck_ok (hρ : ∀ x, VRel m (rd E x) (ρ x)) {x : Operand} (ho : o.op = .nilCheck x) {v : Value} (h : q_nilCheck E x = .pure v) : Gives K m ρ o v := by
  unfold q_nilCheck at h
  have h0 := hρ x
  split at h
  · rename_i a ht
    rw [ht] at h0
    cases h
    obtain ⟨_, x', _, e⟩ := h0.pointer'
    exact ⟨_, h0, fun w => by simp [execOp, ho, e]⟩
  · rename_i f a b ht
    rw [ht] at h0
    cases h
    obtain ⟨a', c', e, _, _⟩ := h0.funcF
    exact ⟨_, h0, fun w => by simp [execOp, ho, e]⟩
  · cases h
theorem makeFunc_ok (hρ : ∀ x, VRel m (rd E x) (ρ x)) {fn : Fn} {a b : Array Operand} (ho : o.op = .makeFunc fn a b) {v : Value} (h : q_makeFunc E fn a b = .pure v) : Gives K m ρ o v := by
  unfold q_makeFunc at h
  split at h
  · cases h
    have h1 := LRel.map (m := m) (l := a.toList) fun x _ => hρ x
    have h2 := LRel.map (m := m) (l := b.toList) fun x _ => hρ x
    exact ⟨.func (.func _) (a.map ρ) (b.map ρ), .func (by simp) (by simpa using h1.2) (by simp) (by simpa using h2.2), fun w => by simp [execOp, ho, Instr.makeFunc]⟩
  · cases h
theorem tyD_ok (k : KOk K) {t : TypeId} {a : Bool} {n : Nat} (h : tyD K t = some (a, n)) : (∃ i, K.P.info? t = some i ∧ i.size = n) ∧ ∀ w, (isAgg t).run K.P w = .ok a w := by
  unfold tyD at h
  split at h
  · rename_i fs i h1 h2
    cases h
    exact ⟨⟨i, k.info _ _ h2, rfl⟩, fun w => by simp [isAgg, run_underlying (k.und _ _ h1)]⟩
  · rename_i n e i h1 h2
    cases h
    exact ⟨⟨i, k.info _ _ h2, rfl⟩, fun w => by simp [isAgg, run_underlying (k.und _ _ h1)]⟩
  · rename_i d i n1 n2 h1 h2
    cases h
    refine ⟨⟨i, k.info _ _ h2, rfl⟩, fun w => ?_⟩
    simp only [isAgg, Sem.run_bind, run_underlying (k.und _ _ h1), Result.andThen_ok]
    cases d <;> first | rfl | (exfalso; exact n1 _ h1 rfl) | (exfalso; exact n2 _ _ h1 rfl) | simp_all
  · cases h
theorem part_ok (k : KOk K) {t : TypeId} {cs cs' : Array Value} {off : Nat} {v : Value} (hl : LRel m cs.toList cs'.toList) (h : partV K t cs.toList off = some v) : ∃ v', VRel m v v' ∧ ∀ w, (part t cs' off).run K.P w = .ok v' w := by
  rw [partV_eq] at h
  split at h
  · rename_i n hd
    obtain ⟨⟨i, hi, hn⟩, ha⟩ := tyD_ok k hd
    cases h
    refine ⟨.agg (cs'.extract off (off + n)), ?_, fun w => by simp [part, ha, sizeOf, typeInfo, hi, hn]⟩
    have h1 := (hl.drop off).take n
    refine .agg ?_ ?_
    · have e1 := h1.1
      simpa [Array.toList_extract, List.extract_eq_take_drop] using e1
    · have := h1.2
      simpa [Array.toList_extract, List.extract_eq_take_drop] using this
  · rename_i n hd
    obtain ⟨⟨i, hi, hn⟩, ha⟩ := tyD_ok k hd
    obtain ⟨u', h1, h2⟩ := hl.get h
    rw [Array.getElem?_toList] at h1
    exact ⟨u', h2, fun w => by simp [part, ha, h1]⟩
  · cases h
theorem field_ok (k : KOk K) (hρ : ∀ x, VRel m (rd E x) (ρ x)) {s : TypeId} {x : Operand} {f : Nat} (ho : o.op = .field s x f) {v : Value} (h : q_field K E s x f = .pure v) : Gives K m ρ o v := by
  unfold q_field at h
  have h0 := hρ x
  split at h
  · rename_i cs fd ht hf
    rw [ht] at h0
    obtain ⟨cs', e, hl⟩ := h0.aggF
    obtain ⟨v', h1, h2⟩ := part_ok k hl (Q.of_pure h)
    unfold field? at hf
    split at hf
    · rename_i fs hu
      exact ⟨v', h1, fun w => by simp [execOp, ho, e, Instr.field, run_underlying (k.und _ _ hu), hf, asAgg, h2]⟩
    · cases hf
  · cases h
theorem natOf_ok {v v' : Value} {n : Nat} (h : natOf v = some n) (hv : VRel m v v') : ∃ k, v' = .int k n := by
  unfold natOf at h
  split at h
  · cases h; exact ⟨_, hv.int⟩
  · cases h
theorem index_ok (k : KOk K) (hρ : ∀ x, VRel m (rd E x) (ρ x)) {t : TypeId} {x i : Operand} (ho : o.op = .index t x i) {v : Value} (h : q_index K E o t x i = .pure v) : Gives K m ρ o v := by
  unfold q_index at h
  have h0 := hρ x
  have h1 := hρ i
  split at h
  · rename_i n e cs j hu ht hj
    rw [ht] at h0
    obtain ⟨cs', ex, hl⟩ := h0.aggF
    obtain ⟨kk, ei⟩ := natOf_ok hj h1
    split at h
    · rename_i d hd
      cases hb : Nat.blt j n with
      | false => rw [hb] at h; cases h
      | true =>
        rw [hb] at h
        simp only [cond] at h
        have hlt : j < n := by rw [← Nat.blt_eq]; exact hb
        obtain ⟨v', e1, e2⟩ := part_ok k hl (Q.of_pure h)
        refine ⟨v', e1, fun w => ?_⟩
        have hc : (0 : Int) ≤ (j : Int) ∧ (j : Int) < (n : Int) := by omega
        simp [execOp, ho, ex, ei, Instr.index, asIntOf, run_underlying (k.und _ _ hu), hc, Nat.not_le.mpr hlt, sizeOf, typeInfo, k.info _ _ hd, e2]
    · cases h
  · exact fallback_ok hρ (fun cs b => by rw [ho]; simp) h
theorem arrPtr_ok (k : KOk K) (hρ : ∀ x, VRel m (rd E x) (ρ x)) {t : TypeId} {x : Operand} (ho : o.op = .sliceToArrayPointer t x) {v : Value} (h : q_arrPtr K E t x = .pure v) : Gives K m ρ o v := by
  unfold q_arrPtr at h
  have h0 := hρ x
  split at h
  · rename_i b off n c m' e hx hu
    rw [hx] at h0
    obtain ⟨_, y, c', hm, e1, _⟩ := h0.sliceS
    cases hc : Nat.ble m' n with
    | false => rw [hc] at h; cases h
    | true =>
      rw [hc] at h
      cases h
      have hle := Nat.le_of_ble_eq_true hc
      refine ⟨.pointer (some ⟨y.1, off, none⟩), .ptr hm, fun w => ?_⟩
      simp [execOp, ho, e1, Instr.arrayAt, run_underlying (k.und _ _ hu), Nat.not_lt.mpr hle]
  · cases h
theorem fieldAddr_ok (k : KOk K) (hρ : ∀ x, VRel m (rd E x) (ρ x)) {s : TypeId} {x : Operand} {f : Nat} (ho : o.op = .fieldAddr s x f) {v : Value} (h : q_fieldAddr K E s x f = .pure v) : Gives K m ρ o v := by
  unfold q_fieldAddr at h
  have h0 := hρ x
  split at h
  · rename_i b off fd ht hf
    rw [ht] at h0
    obtain ⟨x', hm, e⟩ := h0.pointer
    cases hz : Nat.beq (sizeT K fd.type) 0 with
    | true => rw [hz] at h; cases h
    | false =>
      rw [hz] at h
      cases h
      have hne : sizeT K fd.type ≠ 0 := fun e => by rw [e] at hz; cases hz
      unfold sizeT at hne
      split at hne
      · rename_i i hi
        unfold field? at hf
        split at hf
        · rename_i fs hu
          refine ⟨.pointer (some ⟨x'.1, off + fd.offset, none⟩), .ptr hm, fun w => ?_⟩
          have ha : (⟨x'.1, off, none⟩ : Addr).add fd.offset = ⟨x'.1, off + fd.offset, none⟩ := by unfold Addr.add; split <;> simp_all
          simp [execOp, ho, e, Instr.fieldAt, run_underlying (k.und _ _ hu), hf, Instr.sureAddr, fieldPlace, sizeOf, typeInfo, k.info _ _ hi, hne, ha]
        · cases hf
      · exact absurd rfl hne
  · cases h
theorem add_off (b o n : Nat) : (⟨b, o, none⟩ : Addr).add n = ⟨b, o + n, none⟩ := by unfold Addr.add; split <;> simp_all
theorem indexAddr_ok (k : KOk K) (hρ : ∀ x, VRel m (rd E x) (ρ x)) {t : TypeId} {x i : Operand} (ho : o.op = .indexAddr t x i) {v : Value} (h : q_indexAddr K E t x i = .pure v) : Gives K m ρ o v := by
  unfold q_indexAddr at h
  have h0 := hρ x
  have h1 := hρ i
  split at h
  · rename_i e b off n c j hu ht hj
    rw [ht] at h0
    obtain ⟨_, x', c', hm, ex, _⟩ := h0.sliceS
    obtain ⟨kk, ei⟩ := natOf_ok hj h1
    split at h
    · rename_i d hd
      cases hb : Nat.blt j n with
      | false => rw [hb] at h; cases h
      | true =>
        rw [hb] at h
        cases h
        have hlt : j < n := by rw [← Nat.blt_eq]; exact hb
        have hc : (0 : Int) ≤ (j : Int) ∧ (j : Int) < (n : Int) := by omega
        exact ⟨_, .ptr hm, fun w => by simp [execOp, ho, ex, ei, Instr.indexAt, asIntOf, run_underlying (k.und _ _ hu), hc, Nat.not_le.mpr hlt, sizeOf, typeInfo, k.info _ _ hd, add_off]⟩
    · cases h
  · rename_i n e b off j hu ht hj
    rw [ht] at h0
    obtain ⟨x', hm, ex⟩ := h0.pointer
    obtain ⟨kk, ei⟩ := natOf_ok hj h1
    split at h
    · rename_i d hd
      cases hb : Nat.blt j n with
      | false => rw [hb] at h; cases h
      | true =>
        rw [hb] at h
        cases h
        have hlt : j < n := by rw [← Nat.blt_eq]; exact hb
        have hc : (0 : Int) ≤ (j : Int) ∧ (j : Int) < (n : Int) := by omega
        exact ⟨_, .ptr hm, fun w => by simp [execOp, ho, ex, ei, Instr.indexAt, asIntOf, run_underlying (k.und _ _ hu), hc, Nat.not_le.mpr hlt, sizeOf, typeInfo, k.info _ _ hd, add_off, Instr.sureAddr]⟩
    · cases h
  · cases h
end
end Go.Proofs.YtdkebebingchpaaGreatDoor.Ru

/- The runner: arithmetic, comparisons, slices, structs. -/
namespace Go.Proofs.YtdkebebingchpaaGreatDoor.Ru
open Go Go.RowKit

theorem wrapF_eq (k : IntKind) (n : Int) : wrapF k n = k.wrap n := by
  unfold wrapF
  cases n with
  | ofNat m =>
    simp only []
    cases h : Nat.blt m (topOf k) with
    | false => rfl
    | true =>
      have hm : m < topOf k := by rw [← Nat.blt_eq]; exact h
      simp only [cond]
      cases k <;> simp only [topOf] at hm <;> simp only [IntKind.wrap, IntKind.bits, IntKind.signed] <;> simp <;> omega
  | negSucc m =>
    simp only []
    cases h : k.signed && Nat.blt m (topOf k) with
    | false => rfl
    | true =>
      simp only [Bool.and_eq_true] at h
      have hm : m < topOf k := by rw [← Nat.blt_eq]; exact h.2
      have hs := h.1
      simp only [cond]
      cases k <;> simp only [topOf] at hm <;> simp [IntKind.signed] at hs <;> simp only [IntKind.wrap, IntKind.bits, IntKind.signed] <;> simp <;> omega
theorem ieq_eq (a b : Int) : ieq a b = (a == b) := by
  cases a <;> cases b <;> simp [ieq, Bool.beq_eq_decide_eq] <;> rw [Bool.eq_iff_iff] <;> simp [Nat.beq_eq] <;> omega
theorem ilt_eq (a b : Int) : ilt a b = decide (a < b) := by
  cases a <;> cases b <;> simp only [ilt] <;> rw [Bool.eq_iff_iff] <;> simp [Nat.blt_eq] <;> omega
theorem kindNo_inj {k j : IntKind} (h : kindNo k = kindNo j) : k = j := by cases k <;> cases j <;> first | rfl | cases h
theorem sameKind_some {k j : IntKind} {r : Option Value} {v : Value} (h : sameKind k j r = some v) : k = j ∧ r = some v := by
  unfold sameKind at h
  cases e : Nat.beq (kindNo k) (kindNo j) with
  | false => rw [e] at h; cases h
  | true => rw [e] at h; exact ⟨kindNo_inj (Nat.eq_of_beq_eq_true e), h⟩
theorem pl_some {r : Option Value} {v : Value} (h : pl r = some v) : plain 1 v = true ∧ r = some v := by
  unfold pl at h
  split at h
  · rename_i u
    cases e : plain 1 u with
    | false => rw [e] at h; cases h
    | true => rw [e] at h; cases h; exact ⟨e, rfl⟩
  · cases h
theorem plain1_rel {m : BM} {v : Value} (h : plain 1 v = true) : VRel m v v := plain_rel 1 v h
theorem le_not (a b : Int) : decide (a ≤ b) = !decide (b < a) := by rw [Bool.eq_iff_iff]; simp
section
variable {K : PK} {m : BM} {E : Env} {ρ : Operand → Value} {o : Oper}
theorem intBin_ok {op : BinOp} {k j : IntKind} {a b : Int} {v : Value} (h : intBin K op k a j b = some v) (xt : TypeId) (x y : Operand) :
    VRel m v v ∧ ∀ w, ((do eqGuard op xt x y (.int k a) (.int j b); binOp op xt (.int k a) (.int j b)) : Sem Value).run K.P w = .ok v w := by
  have guard : ∀ op, ∀ w, (eqGuard op xt x y (.int k a) (.int j b)).run K.P w = .ok () w := fun op w => by
    unfold eqGuard; simp
  unfold intBin intBinK at h
  cases op <;> simp only [] at h
  case add =>
    obtain ⟨e, h2⟩ := sameKind_some h; subst e; cases h2
    exact ⟨.lit rfl, fun w => by simp [guard, binOp, Op.intArith, wrapF_eq]⟩
  case sub =>
    obtain ⟨e, h2⟩ := sameKind_some h; subst e; cases h2
    exact ⟨.lit rfl, fun w => by simp [guard, binOp, Op.intArith, wrapF_eq]; rfl⟩
  case mul =>
    obtain ⟨e, h2⟩ := sameKind_some h; subst e; cases h2
    exact ⟨.lit rfl, fun w => by simp [guard, binOp, Op.intArith, wrapF_eq]⟩
  case eql =>
    obtain ⟨e, h2⟩ := sameKind_some h; subst e; cases h2
    exact ⟨.lit rfl, fun w => by simp [guard, binOp, Op.intCmp, ieq_eq]⟩
  case neq =>
    obtain ⟨e, h2⟩ := sameKind_some h; subst e; cases h2
    exact ⟨.lit rfl, fun w => by simp [guard, binOp, Op.intCmp, ieq_eq, bne]⟩
  case lss =>
    obtain ⟨e, h2⟩ := sameKind_some h; subst e; cases h2
    exact ⟨.lit rfl, fun w => by simp [guard, binOp, Op.intCmp, ilt_eq]⟩
  case leq =>
    obtain ⟨e, h2⟩ := sameKind_some h; subst e; cases h2
    exact ⟨.lit rfl, fun w => by simp [guard, binOp, Op.intCmp, ilt_eq]; exact le_not a b⟩
  case gtr =>
    obtain ⟨e, h2⟩ := sameKind_some h; subst e; cases h2
    exact ⟨.lit rfl, fun w => by simp [guard, binOp, Op.intCmp, ilt_eq]⟩
  case geq =>
    obtain ⟨e, h2⟩ := sameKind_some h; subst e; cases h2
    exact ⟨.lit rfl, fun w => by simp [guard, binOp, Op.intCmp, ilt_eq]; exact le_not b a⟩
  case shl =>
    obtain ⟨h1, h2⟩ := pl_some h
    exact ⟨plain1_rel h1, fun w => by simp [guard, binOp, pureOf_run K.P _ _ h2]⟩
  case shr =>
    obtain ⟨h1, h2⟩ := pl_some h
    exact ⟨plain1_rel h1, fun w => by simp [guard, binOp, pureOf_run K.P _ _ h2]⟩
  all_goals
    obtain ⟨e, h0⟩ := sameKind_some h
    subst e
    obtain ⟨h1, h2⟩ := pl_some h0
    exact ⟨plain1_rel h1, fun w => by simp [guard, binOp, pureOf_run K.P _ _ h2]⟩
theorem nilEq_run {d : TypeDesc} {t : TypeId} {x y x' y' : Value} {r : Bool} (hx : VRel m x x') (hy : VRel m y y') (hd : K.P.underlying t = some d) (h : nilEq d x y = some r) :
    (∀ (op : BinOp) (X Y : Operand) (w : World), (eqGuard op t X Y x' y').run K.P w = .ok () w) ∧ (∀ w, (binOp .eql t x' y').run K.P w = .ok (.bool r) w) ∧ ∀ w, (binOp .neq t x' y').run K.P w = .ok (.bool (!r)) w := by
  have eq : ∀ (n : Nat) (w : World), (Op.equalIn (n + 1) t x' y').run K.P w = .ok r w := fun n w => by
    unfold nilEq at h
    split at h <;> cases h
    · obtain ⟨_, x1, _, rfl⟩ := hx.pointer'; rw [hy.ptr0]; simp [Op.equalIn, run_underlying hd]
    · obtain ⟨_, x1, _, rfl⟩ := hy.pointer'; rw [hx.ptr0]; simp [Op.equalIn, run_underlying hd]
    · cases hx <;> cases hy <;> first | (simp [Op.equalIn, run_underlying hd]; done) | simp_all [litV]
    · cases hx <;> cases hy <;> first | (simp [Op.equalIn, run_underlying hd]; done) | simp_all [litV]
    · obtain ⟨_, x1, c', _, rfl, _⟩ := hx.sliceS; rw [hy.slice0]; simp [Op.equalIn, run_underlying hd]
    · obtain ⟨x1, _, rfl⟩ := hx.mapS; rw [hy.map0]; simp [Op.equalIn, run_underlying hd]
  have eq' := fun w => eq 9999 w
  unfold nilEq at h
  split at h <;> cases h
  · obtain ⟨_, x1, _, rfl⟩ := hx.pointer'
    rw [hy.ptr0] at eq' ⊢
    exact ⟨fun op X Y w => by unfold eqGuard; simp, fun w => by simp [binOp, Op.equal, Op.maxDepth, eq'], fun w => by simp [binOp, Op.equal, Op.maxDepth, eq']⟩
  · obtain ⟨_, x1, _, rfl⟩ := hy.pointer'
    rw [hx.ptr0] at eq' ⊢
    exact ⟨fun op X Y w => by unfold eqGuard; simp, fun w => by simp [binOp, Op.equal, Op.maxDepth, eq'], fun w => by simp [binOp, Op.equal, Op.maxDepth, eq']⟩
  · have e : y' = .nilFunc := by cases hy; rfl
    subst e
    cases hx <;> first | (exact ⟨fun op X Y w => by unfold eqGuard; simp, fun w => by simp [binOp, Op.equal, Op.maxDepth, eq'], fun w => by simp [binOp, Op.equal, Op.maxDepth, eq']⟩) | simp_all [litV]
  · have e : x' = .nilFunc := by cases hx; rfl
    subst e
    cases hy <;> first | (exact ⟨fun op X Y w => by unfold eqGuard; simp, fun w => by simp [binOp, Op.equal, Op.maxDepth, eq'], fun w => by simp [binOp, Op.equal, Op.maxDepth, eq']⟩) | simp_all [litV]
  · obtain ⟨_, x1, c', _, rfl, _⟩ := hx.sliceS
    rw [hy.slice0] at eq' ⊢
    exact ⟨fun op X Y w => by unfold eqGuard; simp, fun w => by simp [binOp, Op.equal, Op.maxDepth, eq'], fun w => by simp [binOp, Op.equal, Op.maxDepth, eq']⟩
  · obtain ⟨x1, _, rfl⟩ := hx.mapS
    rw [hy.map0] at eq' ⊢
    exact ⟨fun op X Y w => by unfold eqGuard; simp, fun w => by simp [binOp, Op.equal, Op.maxDepth, eq'], fun w => by simp [binOp, Op.equal, Op.maxDepth, eq']⟩
theorem binOp_ok (k : KOk K) (hρ : ∀ x, VRel m (rd E x) (ρ x)) {op : BinOp} {t u : TypeId} {x y : Operand} (ho : o.op = .binOp op t x y u) {v : Value} (h : q_binOp K E o op t x y = .pure v) : Gives K m ρ o v := by
  unfold q_binOp at h
  have h0 := hρ x
  have h1 := hρ y
  split at h
  · rename_i kk a j b hx hy
    rw [hx] at h0
    rw [hy] at h1
    obtain ⟨e1, e2⟩ := intBin_ok (m := m) (Q.of_pure h) t x y
    refine ⟨v, e1, fun w => ?_⟩
    have := e2 w
    simp only [Sem.run_bind] at this
    simp only [execOp, ho, h0.int, h1.int, Sem.run_bind, this, Result.andThen_ok, Sem.run_pure]
  · split at h
    · rename_i v' hn
      cases h
      unfold nilCmp at hn
      split at hn
      · rename_i d hd
        split at hn
        · rename_i r hr
          obtain ⟨g, e1, e2⟩ := nilEq_run h0 h1 (k.und _ _ hd) hr
          split at hn <;> cases hn
          · exact ⟨_, .lit rfl, fun w => by simp [execOp, ho, g, e1]⟩
          · exact ⟨_, .lit rfl, fun w => by simp [execOp, ho, g, e2]⟩
        · cases hn
      · cases hn
    · exact fallback_ok hρ (fun cs b => by rw [ho]; simp) h
theorem unOp_ok (hρ : ∀ x, VRel m (rd E x) (ρ x)) {op : UnOp} {t : TypeId} {x : Operand} (ho : o.op = .unOp op t x) {v : Value} (h : q_unOp K E o op x = .pure v) : Gives K m ρ o v := by
  unfold q_unOp at h
  have h0 := hρ x
  split at h
  · rename_i b ht
    rw [ht] at h0
    cases h
    exact ⟨_, .lit rfl, fun w => by simp [execOp, ho, h0.bool, Op.unary]⟩
  · exact fallback_ok hρ (fun cs b => by rw [ho]; simp) h
theorem convert_ok (k : KOk K) (hρ : ∀ x, VRel m (rd E x) (ρ x)) {s d : TypeId} {x : Operand} (ho : o.op = .convert s d x) {v : Value} (h : q_convert K E o s d x = .pure v) : Gives K m ρ o v := by
  unfold q_convert at h
  have h0 := hρ x
  split at h
  · rename_i sd kk kj n h1 h2 ht
    rw [ht] at h0
    cases h
    refine ⟨_, .lit rfl, fun w => ?_⟩
    simp [execOp, ho, h0.int, convert, run_underlying (k.und _ _ h1), run_underlying (k.und _ _ h2), Conv.intToInt, wrapF_eq]
  · exact fallback_ok hρ (fun cs b => by rw [ho]; simp) h
end
end Go.Proofs.YtdkebebingchpaaGreatDoor.Ru

