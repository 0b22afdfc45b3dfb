/- The runner: blocks are read, turned, given up. -/
import Derived.Test.YthahmfeaekddnaaGreatDoorRuD
namespace Go.Proofs.YthahmfeaekddnaaGreatDoor.Ru
open Go Go.RowKit

section
variable {K : PK} {w0 : World} {m : BM} {h : AH} {w w' : World}
theorem HRel.apart (H : HRel K w0 m h w) {b c : Nat} {x y : Nat × Nat} (hb : N0 ≤ b) (hm : m b = some x) (hg : (getB h.t b).isSome = true) (hc : m c = some y) (hgc : (getB h.t c).isSome = true) (hne : c ≠ b) : y.1 ≠ x.1 := by
  intro e
  by_cases h1 : N0 ≤ c
  · exact hne (H.inj c b y x h1 hb hc hm e hgc hg)
  · have h2 := H.low c (by omega) hgc
    have h3 := (H.dyn b x hb hm).1
    rw [H.stat c (by omega)] at hc
    cases hc
    simp only at e; omega
/-- A block turns. -/
theorem HRel.turn (H : HRel K w0 m h w) {b : Nat} {x : Nat × Nat} (hb : N0 ≤ b) (hm : m b = some x) (hg : (getB h.t b).isSome = true) (blk' : AB) (hs : w'.heap.size = w.heap.size)
    (ho : ∀ k, k ≠ x.1 → w'.heap[k]? = w.heap[k]?) (hr : BRel K m w' b x blk') (hos : w'.os = w.os ∧ w'.tape = w.tape ∧ w'.output = w.output) :
    HRel K w0 m ⟨setB h.t b (some blk'), h.n⟩ w' ∧ Ext m h w m ⟨setB h.t b (some blk'), h.n⟩ w' := by
  have hbn : b < h.n := by
    rcases Nat.lt_or_ge b h.n with h1 | h1
    · exact h1
    · rw [H.fresh b h1] at hm; cases hm
  have hb2 : b < 16000001 := Nat.lt_of_lt_of_le hbn H.nb
  refine ⟨⟨H.n0, H.nb, H.stat, H.fresh, fun c y hc e => by rw [hs]; exact H.dyn c y hc e, fun c d y z hc hd e1 e2 e3 s1 s2 => ?_, fun c y blk e1 e2 => ?_, fun c hc s => ?_, by rw [hs]; exact H.wsz⟩, ⟨.refl m, fun _ _ e => .inl e, fun c hc e => ?_, fun c hc hn => ho c (fun e => hn b x hb hm e.symm), Nat.le_refl _, by rw [hs]; exact Nat.le_refl _, hos.1, hos.2.1, hos.2.2⟩⟩
  · have t1 : (getB h.t c).isSome = true := by
      by_cases e : c = b
      · rw [e]; exact hg
      · simpa only [getB_set _ _ _ _ hb2, if_neg e] using s1
    have t2 : (getB h.t d).isSome = true := by
      by_cases e : d = b
      · rw [e]; exact hg
      · simpa only [getB_set _ _ _ _ hb2, if_neg e] using s2
    exact H.inj c d y z hc hd e1 e2 e3 t1 t2
  · simp only [getB_set _ _ _ _ hb2] at e2
    by_cases e : c = b
    · subst e
      rw [if_pos rfl] at e2; cases e2
      rw [hm] at e1; cases e1
      exact hr
    · rw [if_neg e] at e2
      exact (H.live c y blk e1 e2).keep (.refl m) (ho _ (H.apart hb hm hg e1 (by rw [e2]; rfl) e))
  · have hne : c ≠ b := by omega
    simp only [getB_set _ _ _ _ hb2, if_neg hne] at s
    exact H.low c hc s
  · have hne : c ≠ b := fun e2 => by rw [e2, hm] at e; cases e
    simp only [getB_set _ _ _ _ hb2, if_neg hne]
/-- A block is given up. -/
theorem HRel.kill (H : HRel K w0 m h w) {b : Nat} {x : Nat × Nat} (hb : N0 ≤ b) (hm : m b = some x) :
    HRel K w0 m ⟨setB h.t b none, h.n⟩ w ∧ Ext m h w m ⟨setB h.t b none, h.n⟩ w := by
  have hbn : b < h.n := by
    rcases Nat.lt_or_ge b h.n with h1 | h1
    · exact h1
    · rw [H.fresh b h1] at hm; cases hm
  have hb2 : b < 16000001 := Nat.lt_of_lt_of_le hbn H.nb
  have back : ∀ c, (getB (setB h.t b none) c).isSome = true → c ≠ b ∧ getB (setB h.t b none) c = getB h.t c := fun c s => by
    by_cases e : c = b
    · subst e
      rw [getB_set _ _ _ _ hb2, if_pos rfl] at s; cases s
    · exact ⟨e, by rw [getB_set _ _ _ _ hb2, if_neg e]⟩
  refine ⟨⟨H.n0, H.nb, H.stat, H.fresh, H.dyn, fun c d y z hc hd e1 e2 e3 s1 s2 => ?_, fun c y blk e1 e2 => ?_, fun c hc s => ?_, H.wsz⟩, ⟨.refl m, fun _ _ e => .inl e, fun c hc e => ?_, fun _ _ _ => rfl, Nat.le_refl _, Nat.le_refl _, rfl, rfl, rfl⟩⟩
  · exact H.inj c d y z hc hd e1 e2 e3 (by rw [← (back c s1).2]; exact s1) (by rw [← (back d s2).2]; exact s2)
  · have := (back c (by simp only at e2; rw [e2]; rfl)).2
    simp only at e2
    rw [this] at e2
    exact H.live c y blk e1 e2
  · exact H.low c hc (by rw [← (back c s).2]; exact s)
  · have hne : c ≠ b := fun e2 => by rw [e2, hm] at e; cases e
    simp only [getB_set _ _ _ _ hb2, if_neg hne]
/-- A block goes on under a new number. -/
theorem HRel.move (H : HRel K w0 m h w) {b : Nat} {x : Nat × Nat} (hb : N0 ≤ b) (hm : m b = some x) (hg : (getB h.t b).isSome = true) (blk' : AB) (hn : h.n < 16000000) (hs : w'.heap.size = w.heap.size)
    (ho : ∀ k, k ≠ x.1 → w'.heap[k]? = w.heap[k]?) (hr : BRel K (m.add h.n x) w' h.n x blk') (hos : w'.os = w.os ∧ w'.tape = w.tape ∧ w'.output = w.output) :
    HRel K w0 (m.add h.n x) ⟨setB (setB h.t b none) h.n (some blk'), h.n + 1⟩ w' ∧ Ext m h w (m.add h.n x) ⟨setB (setB h.t b none) h.n (some blk'), h.n + 1⟩ w' := by
  have hbn : b < h.n := by
    rcases Nat.lt_or_ge b h.n with h1 | h1
    · exact h1
    · rw [H.fresh b h1] at hm; cases hm
  have hb2 : b < 16000001 := Nat.lt_of_lt_of_le hbn H.nb
  have hn2 : h.n < 16000001 := by omega
  have hnn := H.fresh h.n (Nat.le_refl _)
  have get : ∀ c, getB (setB (setB h.t b none) h.n (some blk')) c = if c = h.n then some blk' else if c = b then none else getB h.t c := fun c => by
    rw [getB_set _ _ _ _ hn2, getB_set _ _ _ _ hb2]
  have old : ∀ c y, (m.add h.n x) c = some y → c ≠ h.n → m c = some y := fun c y e hc => by unfold BM.add at e; rwa [if_neg hc] at e
  have new : ∀ y, (m.add h.n x) h.n = some y → y = x := fun y e => by rw [BM.add_self] at e; cases e; rfl
  refine ⟨⟨Nat.le_succ_of_le H.n0, by show h.n + 1 ≤ _; omega, fun g hg => by unfold BM.add; rw [if_neg (by have := H.n0; omega)]; exact H.stat g hg, fun c hc => ?_, fun c y hc e => ?_, fun c d y z hc hd e1 e2 e3 s1 s2 => ?_, fun c y blk e1 e2 => ?_, fun c hc s => ?_, by rw [hs]; exact H.wsz⟩, ⟨.add hnn, fun c y e => ?_, fun c hc e => ?_, fun c hc hn' => ho c (fun e => hn' b x hb hm e.symm), Nat.le_succ _, by rw [hs]; exact Nat.le_refl _, hos.1, hos.2.1, hos.2.2⟩⟩
  · have hc' : h.n + 1 ≤ c := hc
    unfold BM.add; rw [if_neg (by omega)]; exact H.fresh c (by omega)
  · rw [hs]
    by_cases e1 : c = h.n
    · subst e1; rw [new y e]; exact H.dyn b x hb hm
    · exact H.dyn c y hc (old c y e e1)
  · simp only [get] at s1 s2
    by_cases c1 : c = h.n
    · by_cases d1 : d = h.n
      · omega
      · rw [if_neg d1] at s2
        by_cases d2 : d = b
        · rw [if_pos d2] at s2; cases s2
        · rw [if_neg d2] at s2
          subst c1
          rw [new y e1] at e3
          exact absurd e3.symm (H.apart hb hm hg (old d z e2 d1) s2 d2)
    · rw [if_neg c1] at s1
      by_cases c2 : c = b
      · rw [if_pos c2] at s1; cases s1
      · rw [if_neg c2] at s1
        by_cases d1 : d = h.n
        · subst d1
          rw [new z e2] at e3
          exact absurd e3 (H.apart hb hm hg (old c y e1 c1) s1 c2)
        · rw [if_neg d1] at s2
          by_cases d2 : d = b
          · rw [if_pos d2] at s2; cases s2
          · rw [if_neg d2] at s2
            exact H.inj c d y z hc hd (old c y e1 c1) (old d z e2 d1) e3 s1 s2
  · simp only [get] at e2
    by_cases c1 : c = h.n
    · subst c1
      rw [if_pos rfl] at e2; cases e2
      rw [new y e1]; exact hr
    · rw [if_neg c1] at e2
      by_cases c2 : c = b
      · rw [if_pos c2] at e2; cases e2
      · rw [if_neg c2] at e2
        have e1' := old c y e1 c1
        exact (H.live c y blk e1' e2).keep (.add hnn) (ho _ (H.apart hb hm hg e1' (by rw [e2]; rfl) c2))
  · simp only [get] at s
    rw [if_neg (by have := H.n0; omega), if_neg (by omega)] at s
    exact H.low c hc s
  · by_cases e1 : c = h.n
    · subst e1; rw [new y e]; exact .inr ⟨Nat.le_refl _, .inr ⟨b, x, hb, hm, rfl⟩⟩
    · exact .inl (old c y e e1)
  · simp only [get]
    rw [if_neg (by omega), if_neg (fun e2 => by rw [e2, hm] at e; cases e)]
/-- Cells are read. -/
theorem HRel.cell (H : HRel K w0 m h w) {b o : Nat} {x : Nat × Nat} {v : Value} (hm : m b = some x) (hr : rdCell h b o = some v) : ∃ v', w.cell? ⟨x.1, o, none⟩ = some v' ∧ VRel m v v' := by
  rw [rdCell_eq] at hr
  split at hr
  · rename_i cs e he
    exact (H.live b x _ hm he).1 o v hr
  · cases hr
theorem HRel.cells (H : HRel K w0 m h w) {b o n : Nat} {x : Nat × Nat} {l : List Value} (hm : m b = some x) (hr : rdCells h b o n = some l) : l.length = n ∧ ∃ l', LRel m l l' ∧ ∀ j u, l'[j]? = some u → w.cell? ⟨x.1, o + j, none⟩ = some u := by
  rw [rdCells_eq] at hr
  split at hr
  · rename_i cs e he
    have hb := (H.live b x _ hm he).1
    cases hc : Nat.beq ((cs.drop o).take n).length n with
    | false => rw [hc] at hr; cases hr
    | true =>
      rw [hc] at hr
      have hl := Nat.eq_of_beq_eq_true hc
      simp only [cond] at hr
      cases hr
      refine ⟨hl, (List.range n).map (fun j => (w.cell? ⟨x.1, o + j, none⟩).getD .nilIface), .of (by simpa using hl) (fun i u hu => ?_), fun j u hu => ?_⟩
      · have hi : i < n := by rw [← hl]; exact (List.getElem?_eq_some_iff.1 hu).1
        rw [List.getElem?_take, if_pos hi, List.getElem?_drop] at hu
        obtain ⟨u', h1, h2⟩ := hb _ u hu
        exact ⟨u', by simp [hi, h1], h2⟩
      · have hj : j < n := by have := (List.getElem?_eq_some_iff.1 hu).1; simpa using this
        have hlt : o + j < cs.length := by simp at hl; omega
        obtain ⟨u', h1, _⟩ := hb (o + j) cs[o + j] (List.getElem?_eq_getElem hlt)
        simp [hj, h1] at hu
        rw [h1, hu]
  · cases hr
theorem oneC_one {v : Value} : oneC v = true → v.oneCell' = true := by cases v <;> simp [oneC, Value.oneCell']
/-- Cells are written. -/
theorem HRel.write (P : Program) (H : HRel K w0 m h w) {b o : Nat} {x : Nat × Nat} {vs vs' : List Value} {h' : AH} (hm : m b = some x) (hw : wrCells h b o vs = some h') (hv : LRel m vs vs') (h1 : ∀ v ∈ vs', v.oneCell' = true) :
    ∃ w', (storeCells ⟨x.1, o, none⟩ vs' 0).run P w = .ok () w' ∧ HRel K w0 m h' w' ∧ Ext m h w m h' w' := by
  rw [wrCells_eq] at hw
  cases hb : Nat.blt b N0 with
  | true => rw [hb] at hw; cases hw
  | false =>
    rw [hb] at hw
    simp only [cond] at hw
    have hN : N0 ≤ b := by
      have : ¬ b < N0 := fun h => by rw [← Nat.blt_eq] at h; rw [h] at hb; cases hb
      omega
    split at hw
    · rename_i cs e he
      split at hw
      · rename_i hc
        simp only [Bool.and_eq_true] at hc
        have hle := Nat.le_of_ble_eq_true hc.1
        cases hw
        obtain ⟨hcs, hC⟩ := H.live b x _ hm he
        obtain ⟨C, hC1, hC2, hC3⟩ := hC hN
        have hl := hv.1
        have hrun := run_storeCells_at P x.1 o e vs' 0 C w hC1 (by omega) h1
        have hsz : (C.toList.take o ++ vs' ++ C.toList.drop (o + vs'.length)).toArray.size = C.size := by simp; omega
        refine ⟨_, hrun, H.turn hN hm (by rw [he]; rfl) _ (setRow_size _ _ _) (fun k hk => setRow_other _ _ _ _ hk) ⟨fun i u hu => ?_, fun _ => ⟨_, setRow_heap _ _ _ _ _ _ hC1, ?_, fun hk => ?_⟩⟩ ⟨rfl, rfl, rfl⟩⟩
        · rw [setL_get _ _ _ _ hle] at hu
          have hcell : ∀ D : Array Value, (w.setRow x.1 D).cell? ⟨x.1, i, none⟩ = D[i]? := fun D => by
            have := setRow_heap w x.1 C D e (0, 0) hC1
            simp [World.cell?, this]
          rw [hcell]
          have hD : ((C.toList.take (o + 0) ++ vs' ++ C.toList.drop (o + 0 + vs'.length)).toArray)[i]? = if o ≤ i ∧ i < o + vs'.length then vs'[i - o]? else C[i]? := by
            have h0 : o + 0 = o := rfl
            rw [h0, List.getElem?_toArray]
            have ht : (C.toList.take o).length = o := by simp; omega
            by_cases c1 : i < o
            · rw [if_neg (by omega), List.append_assoc, List.getElem?_append_left (by omega), List.getElem?_take, if_pos c1, Array.getElem?_toList]
            · rw [List.append_assoc, List.getElem?_append_right (by omega), ht]
              by_cases c2 : i < o + vs'.length
              · rw [if_pos (by omega), List.getElem?_append_left (by omega)]
              · rw [if_neg (by omega), List.getElem?_append_right (by omega), List.getElem?_drop, Array.getElem?_toList]
                congr 1; omega
          rw [hD]
          by_cases c1 : o ≤ i ∧ i < o + vs.length
          · rw [if_pos c1] at hu
            rw [if_pos (by omega)]
            exact hv.get hu
          · rw [if_neg c1] at hu
            rw [if_neg (by omega)]
            obtain ⟨u', e1, e2⟩ := hcs i u hu
            refine ⟨u', ?_, e2⟩
            simpa [World.cell?, hC1] using e1
        · simp only [Nat.add_zero]; rw [hsz, setL_len]; exact hC2
        · simp only [Nat.add_zero]; rw [hsz]; exact hC3 hk
      · cases hw
    · cases hw
end

end Go.Proofs.YthahmfeaekddnaaGreatDoor.Ru
