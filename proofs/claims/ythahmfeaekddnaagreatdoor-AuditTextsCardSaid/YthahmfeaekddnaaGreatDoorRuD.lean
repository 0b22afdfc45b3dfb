/- The runner: memory that stands for the program's. -/
import Derived.Test.YthahmfeaekddnaaGreatDoorRuC
import Derived.Laws.CopyRow
import Derived.RangeFuncRecord
import Derived.Below
namespace Go.Proofs.YthahmfeaekddnaaGreatDoor.Ru
open Go Go.RowKit

theorem setL_get : ∀ (cs : List Value) (o : Nat) (vs : List Value) (i : Nat), o + vs.length ≤ cs.length → (setL cs o vs)[i]? = if o ≤ i ∧ i < o + vs.length then vs[i - o]? else cs[i]?
  | cs, o, [], i, _ => by
    rw [if_neg (fun h => by have h1 := h.1; have h2 : i < o + 0 := h.2; omega)]
    cases cs <;> rfl
  | [], o, v :: vs, i, h => by simp at h
  | c :: cs, 0, v :: vs, i, h => by
    rw [setL]
    cases i with
    | zero => simp
    | succ i =>
      rw [List.getElem?_cons_succ, setL_get cs 0 vs i (by simp at h ⊢; omega)]
      by_cases hi : i < vs.length
      · rw [if_pos (by simp; omega), if_pos (by simp; omega)]; simp
      · rw [if_neg (by simp; omega), if_neg (by simp; omega)]; simp
  | c :: cs, o + 1, v :: vs, i, h => by
    rw [setL]
    · cases i with
      | zero => simp
      | succ i =>
        rw [List.getElem?_cons_succ, setL_get cs o (v :: vs) i (by simp at h ⊢; omega)]
        by_cases hi : o ≤ i ∧ i < o + (v :: vs).length
        · rw [if_pos hi, if_pos (by simp at hi ⊢; omega), show i + 1 - (o + 1) = i - o by omega]
        · rw [if_neg hi, if_neg (by simp at hi ⊢; omega)]; simp
    · intro h; cases h
theorem setL_len : ∀ (cs : List Value) (o : Nat) (vs : List Value), (setL cs o vs).length = cs.length
  | cs, _, [] => by cases cs <;> rfl
  | [], _, _ :: _ => rfl
  | c :: cs, 0, v :: vs => by rw [setL]; simp [setL_len cs 0 vs]
  | c :: cs, o + 1, v :: vs => by
    rw [setL]
    · simp [setL_len cs o (v :: vs)]
    · intro h; cases h

/-- A frame's temporaries. -/
def ERel (m : BM) (n : Nat) (E : Env) (tmps : Array Value) : Prop := (tmps.size = n ∧ ∀ t, n ≤ t → getV E t = undef) ∧ ∀ t, VRel m (getV E t) (tmps.getD t undef)
def BRel (K : PK) (m : BM) (w : World) (b : Nat) (x : Nat × Nat) : AB → Prop
  | .cells cs e => (∀ i u, cs[i]? = some u → ∃ u', w.cell? ⟨x.1, i, none⟩ = some u' ∧ VRel m u u') ∧
      (N0 ≤ b → ∃ C : Array Value, w.heap[x.1]? = some (.cells C e (0, 0)) ∧ cs.length ≤ C.size ∧ (0 < x.2 → C.size = x.2 * sizeT K e))
  | .loop st p fn E ps a bd d n => ∃ (tmps : Array Value) (y : Nat × Nat), w.heap[x.1]? = some (.loop { state := st, pending := p, fn := fn, tmps := tmps, params := ps.toArray, assign := a, body := bd, defers := y.1 }) ∧ m d = some y ∧ ERel m n E tmps
  | .defs => w.heap[x.1]? = some (.deferred (some []))
  | .map es c => ∃ es' : Array MapEntry, w.heap[x.1]? = some (.map es' c) ∧ es.length = es'.size ∧ ∀ (i : Nat) (e : Value × Value × Nat), es[i]? = some e → ∃ e' : MapEntry, es'[i]? = some e' ∧ e'.key = e.1 ∧ VRel m e.2.1 e'.val ∧ e'.born = e.2.2
structure HRel (K : PK) (w0 : World) (m : BM) (h : AH) (w : World) : Prop where
  n0 : N0 ≤ h.n
  nb : h.n ≤ 16000001
  stat : ∀ g, g < N0 → m g = some (g, 0)
  fresh : ∀ b, h.n ≤ b → m b = none
  dyn : ∀ b x, N0 ≤ b → m b = some x → w0.heap.size ≤ x.1 ∧ x.1 < w.heap.size
  inj : ∀ b c x y, N0 ≤ b → N0 ≤ c → m b = some x → m c = some y → x.1 = y.1 → (getB h.t b).isSome = true → (getB h.t c).isSome = true → b = c
  live : ∀ b x blk, m b = some x → getB h.t b = some blk → BRel K m w b x blk
  low : ∀ b, b < N0 → (getB h.t b).isSome = true → b < w0.heap.size
  wsz : w0.heap.size ≤ w.heap.size
/-- What a piece of the program may turn. -/
structure Ext (m : BM) (h : AH) (w : World) (m' : BM) (h' : AH) (w' : World) : Prop where
  le : MLe m m'
  news : ∀ b x, m' b = some x → m b = some x ∨ (h.n ≤ b ∧ (w.heap.size ≤ x.1 ∨ ∃ b0 y, N0 ≤ b0 ∧ m b0 = some y ∧ y.1 = x.1))
  absf : ∀ b, b < h.n → m b = none → getB h'.t b = getB h.t b
  conf : ∀ c, c < w.heap.size → (∀ b x, N0 ≤ b → m b = some x → x.1 ≠ c) → w'.heap[c]? = w.heap[c]?
  hn : h.n ≤ h'.n
  wsz : w.heap.size ≤ w'.heap.size
  os : w'.os = w.os
  tape : w'.tape = w.tape
  output : w'.output = w.output
theorem Ext.refl (m : BM) (h : AH) (w : World) : Ext m h w m h w := ⟨.refl m, fun _ _ e => .inl e, fun _ _ _ => rfl, fun _ _ _ => rfl, Nat.le_refl _, Nat.le_refl _, rfl, rfl, rfl⟩
theorem Ext.trans {m m1 m2 : BM} {h h1 h2 : AH} {w w1 w2 : World} (hN : N0 ≤ h.n) (a : Ext m h w m1 h1 w1) (b : Ext m1 h1 w1 m2 h2 w2) : Ext m h w m2 h2 w2 where
  le := a.le.trans b.le
  news := fun c x e => by
    rcases b.news c x e with e1 | ⟨hc, e1⟩
    · exact a.news c x e1
    · refine .inr ⟨Nat.le_trans a.hn hc, ?_⟩
      rcases e1 with e1 | ⟨b0, y, hb0, e2, e3⟩
      · exact .inl (Nat.le_trans a.wsz e1)
      · rcases a.news b0 y e2 with e4 | ⟨_, e4 | ⟨b1, z, h1, h2, h3⟩⟩
        · exact .inr ⟨b0, y, hb0, e4, e3⟩
        · exact .inl (by rw [← e3]; exact e4)
        · exact .inr ⟨b1, z, h1, h2, by rw [h3, e3]⟩
  absf := fun c hc e => by
    have e1 : m1 c = none := by
      cases hx : m1 c with
      | none => rfl
      | some x =>
        rcases a.news c x hx with h1 | ⟨h1, _⟩
        · rw [e] at h1; cases h1
        · omega
    rw [b.absf c (Nat.lt_of_lt_of_le hc a.hn) e1, a.absf c hc e]
  conf := fun c hc hn => by
    rw [b.conf c (Nat.lt_of_lt_of_le hc a.wsz) ?_, a.conf c hc hn]
    intro d x hd e
    rcases a.news d x e with h1 | ⟨_, h1 | ⟨b0, y, h1, h2, h3⟩⟩
    · exact hn d x hd h1
    · omega
    · rw [← h3]; exact hn b0 y h1 h2
  hn := Nat.le_trans a.hn b.hn
  wsz := Nat.le_trans a.wsz b.wsz
  os := b.os.trans a.os
  tape := b.tape.trans a.tape
  output := b.output.trans a.output
theorem ERel.mono {m m2 : BM} (hm : MLe m m2) {n : Nat} {E : Env} {t : Array Value} (h : ERel m n E t) : ERel m2 n E t := ⟨h.1, fun i => (h.2 i).mono hm⟩
theorem ERel.put {m : BM} {n : Nat} {E : Env} {t : Array Value} (h : ERel m n E t) {d : Nat} {v v' : Value} (hd : d < n) (hn : n ≤ 65536) (hv : VRel m v v') : ERel m n (setFV 24 E d v) (t.setIfInBounds d v') := by
  refine ⟨⟨by simpa using h.1.1, fun i hi => by rw [getV_set _ _ _ _ (by omega), if_neg (by omega)]; exact h.1.2 i hi⟩, fun i => ?_⟩
  rw [getV_set _ _ _ _ (by omega)]
  by_cases e : i = d
  · subst e
    have : i < t.size := by rw [h.1.1]; exact hd
    rw [if_pos rfl]
    simpa [Array.getD, this] using hv
  · rw [if_neg e]
    have h1 := h.2 i
    have e2 : (t.setIfInBounds d v').getD i undef = t.getD i undef := by
      simp only [Array.getD_eq_getD_getElem?]
      rw [Array.getElem?_setIfInBounds_ne (fun h => e h.symm)]
    rw [e2]; exact h1
/-- Nothing of the world that a block leans on has turned. -/
theorem BRel.keep {K : PK} {m m2 : BM} {w w2 : World} {b : Nat} {x : Nat × Nat} {blk : AB} (h : BRel K m w b x blk) (hm : MLe m m2) (hw : w2.heap[x.1]? = w.heap[x.1]?) : BRel K m2 w2 b x blk := by
  cases blk with
  | cells cs e =>
    refine ⟨fun i u hu => ?_, fun hb => ?_⟩
    · obtain ⟨u', h1, h2⟩ := h.1 i u hu
      refine ⟨u', ?_, h2.mono hm⟩
      unfold World.cell? at h1 ⊢
      simp only [hw]; exact h1
    · obtain ⟨C, h1, h2, h3⟩ := h.2 hb
      exact ⟨C, hw.trans h1, h2, h3⟩
  | loop st p fn E ps a bd d n =>
    obtain ⟨t, y, h1, h2, h3⟩ := h
    exact ⟨t, y, hw.trans h1, hm _ _ h2, h3.mono hm⟩
  | defs => exact hw.trans (show w.heap[x.1]? = _ from h)
  | map es c =>
    obtain ⟨es', h1, h2, h3⟩ := h
    refine ⟨es', hw.trans h1, h2, fun i e he => ?_⟩
    obtain ⟨e', a, b, c, d⟩ := h3 i e he
    exact ⟨e', a, b, c.mono hm, d⟩
section
variable {K : PK} {w0 : World} {m : BM} {h : AH} {w : World}
theorem HRel.drew (H : HRel K w0 m h w) : HRel K w0 m h w.drew := ⟨H.n0, H.nb, H.stat, H.fresh, H.dyn, H.inj, fun b x blk e1 e2 => (H.live b x blk e1 e2).keep (.refl m) rfl, H.low, H.wsz⟩
theorem Ext.drew (m : BM) (h : AH) (w : World) : Ext m h w m h w.drew := ⟨.refl m, fun _ _ e => .inl e, fun _ _ _ => rfl, fun _ _ _ => rfl, Nat.le_refl _, Nat.le_refl _, rfl, rfl, rfl⟩
/-- A block is thought of; nothing stands for it yet. -/
theorem HRel.think (H : HRel K w0 m h w) (b : AB) (hb : h.n < 16000000) : HRel K w0 m ⟨setB h.t h.n (some b), h.n + 1⟩ w where
  n0 := Nat.le_succ_of_le H.n0
  nb := by show h.n + 1 ≤ _; omega
  stat := H.stat
  fresh := fun c hc => H.fresh c (by have : h.n + 1 ≤ c := hc; omega)
  dyn := H.dyn
  inj := fun b' c x y hb hc e1 e2 e3 s1 s2 => by
    have f1 : b' ≠ h.n := fun e => by rw [H.fresh b' (by omega)] at e1; cases e1
    have f2 : c ≠ h.n := fun e => by rw [H.fresh c (by omega)] at e2; cases e2
    simp only [getB_set _ _ _ _ (show h.n < 16000001 by omega), if_neg f1] at s1
    simp only [getB_set _ _ _ _ (show h.n < 16000001 by omega), if_neg f2] at s2
    exact H.inj b' c x y hb hc e1 e2 e3 s1 s2
  live := fun c x blk e1 e2 => by
    have f1 : c ≠ h.n := fun e => by rw [H.fresh c (by omega)] at e1; cases e1
    simp only [getB_set _ _ _ _ (show h.n < 16000001 by omega), if_neg f1] at e2
    exact H.live c x blk e1 e2
  low := fun c hc s => by
    have f1 : c ≠ h.n := fun e => by have := H.n0; omega
    simp only [getB_set _ _ _ _ (show h.n < 16000001 by omega), if_neg f1] at s
    exact H.low c hc s
  wsz := H.wsz
/-- Something is made that stands for it. -/
def BM.add (m : BM) (b : Nat) (x : Nat × Nat) : BM := fun c => if c = b then some x else m c
theorem MLe.add {m : BM} {b : Nat} {x : Nat × Nat} (h : m b = none) : MLe m (m.add b x) := fun c y e => by
  unfold BM.add
  rw [if_neg (fun e2 => by rw [e2, h] at e; cases e)]; exact e
theorem BM.add_self (m : BM) (b : Nat) (x : Nat × Nat) : m.add b x b = some x := by simp [BM.add]
theorem heap_alloc_new (w : World) (o : Obj) : (w.alloc o).heap[w.heap.size]? = some o := World.alloc_heap_new w o
theorem HRel.make (H : HRel K w0 m h w) {b : Nat} {blk : AB} {o : Obj} {κ : Nat} (hb0 : N0 ≤ b) (hbn : b < h.n) (hm : m b = none) (hg : getB h.t b = some blk)
    (hr : BRel K (m.add b (w.heap.size, κ)) (w.alloc o) b (w.heap.size, κ) blk) : HRel K w0 (m.add b (w.heap.size, κ)) h (w.alloc o) where
  n0 := H.n0
  nb := H.nb
  stat := fun g hg => by unfold BM.add; rw [if_neg (by omega)]; exact H.stat g hg
  fresh := fun c hc => by unfold BM.add; rw [if_neg (by omega)]; exact H.fresh c hc
  dyn := fun c x hc e => by
    unfold BM.add at e
    split at e
    · cases e; exact ⟨H.wsz, by simp⟩
    · have := H.dyn c x hc e
      exact ⟨this.1, by simp; omega⟩
  inj := fun c d x y hc hd e1 e2 e3 s1 s2 => by
    unfold BM.add at e1 e2
    split at e1
    · split at e2
      · omega
      · cases e1
        have := (H.dyn d y hd e2).2
        simp only at e3; omega
    · split at e2
      · cases e2
        have := (H.dyn c x hc e1).2
        simp only at e3; omega
      · exact H.inj c d x y hc hd e1 e2 e3 s1 s2
  live := fun c x blk' e1 e2 => by
    by_cases hc : c = b
    · subst hc
      rw [hg] at e2; cases e2
      rw [BM.add_self] at e1; cases e1
      exact hr
    · unfold BM.add at e1
      rw [if_neg hc] at e1
      refine (H.live c x blk' e1 e2).keep (.add hm) ?_
      by_cases h1 : N0 ≤ c
      · exact Below.heap_alloc w o x.1 (H.dyn c x h1 e1).2
      · have h2 := H.low c (by omega) (by rw [e2]; rfl)
        rw [H.stat c (by omega)] at e1
        cases e1
        exact Below.heap_alloc w o c (Nat.lt_of_lt_of_le h2 H.wsz)
  low := H.low
  wsz := Nat.le_trans H.wsz (by simp)
theorem Ext.make {b : Nat} {o : Obj} {κ : Nat} (hm : m b = none) (hb : h.n ≤ b) : Ext m h w (m.add b (w.heap.size, κ)) h (w.alloc o) where
  le := .add hm
  news := fun c x e => by
    unfold BM.add at e
    split at e
    · cases e; exact .inr ⟨by omega, .inl (Nat.le_refl _)⟩
    · exact .inl e
  absf := fun _ _ _ => rfl
  conf := fun c hc _ => Below.heap_alloc w o c hc
  hn := Nat.le_refl _
  wsz := by simp
  os := rfl
  tape := rfl
  output := rfl
/-- A block is made. -/
theorem HRel.alloc (H : HRel K w0 m h w) (b : AB) (o : Obj) (κ : Nat) (hb : h.n < 16000000) (hr : BRel K (m.add h.n (w.heap.size, κ)) (w.alloc o) h.n (w.heap.size, κ) b) :
    HRel K w0 (m.add h.n (w.heap.size, κ)) ⟨setB h.t h.n (some b), h.n + 1⟩ (w.alloc o) ∧ Ext m h w (m.add h.n (w.heap.size, κ)) ⟨setB h.t h.n (some b), h.n + 1⟩ (w.alloc o) := by
  have hm := H.fresh h.n (Nat.le_refl _)
  refine ⟨(H.think b hb).make H.n0 (Nat.lt_succ_self _) hm (by rw [getB_set _ _ _ _ (by omega), if_pos rfl]) hr, ?_⟩
  have e := Ext.make (m := m) (h := h) (w := w) (b := h.n) (o := o) (κ := κ) hm (Nat.le_refl _)
  exact ⟨e.le, e.news, fun c hc _ => by simp only; rw [getB_set _ _ _ _ (by omega), if_neg (by omega)], e.conf, Nat.le_succ _, e.wsz, rfl, rfl, rfl⟩
theorem BRel.newCells {cs : List Value} {C : Array Value} {e : TypeId} {κ b : Nat} {w : World} (hl : ∀ (i : Nat) (u : Value), cs[i]? = some u → ∃ u' : Value, C[i]? = some u' ∧ VRel m u u') (hn : cs.length ≤ C.size) (hk : 0 < κ → C.size = κ * sizeT K e) :
    BRel K m (w.alloc (.cells C e)) b (w.heap.size, κ) (.cells cs e) :=
  ⟨fun i u hu => by obtain ⟨u', h1, h2⟩ := hl i u hu; exact ⟨u', by simpa using h1, h2⟩, fun _ => ⟨C, heap_alloc_new w _, hn, hk⟩⟩
end

end Go.Proofs.YthahmfeaekddnaaGreatDoor.Ru
