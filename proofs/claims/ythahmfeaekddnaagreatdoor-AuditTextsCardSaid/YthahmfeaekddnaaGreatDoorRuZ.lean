/- The runner: a region whose order is drawn, walked. -/
import Derived.Test.YthahmfeaekddnaaGreatDoorRuY
namespace Go.Proofs.YthahmfeaekddnaaGreatDoor.Ru
open Go Go.RowKit

section
variable {ops : Array Oper} {n : Nat} {E : Env} {o : Oper} {m : BM} {tmps : Array Value}
theorem reads_op {t : Tmp} (h : Operand.tmp t ∈ o.op.operands) : t ∈ readsOf ops o := by
  unfold readsOf
  refine List.mem_append_left _ ?_
  unfold tmpsOf
  rw [List.mem_filterMap]
  exact ⟨.tmp t, by simpa using h, rfl⟩
theorem reads_guard {g : Nat × Bool} {d : Tmp} (hg : o.guard = some g) (hd : (ops[g.1]?).bind (·.dst) = some d) : d ∈ readsOf ops o := by
  unfold readsOf
  refine List.mem_append_right _ ?_
  obtain ⟨g, b⟩ := g
  simp only at hd
  rw [hg]
  simp [hd]
theorem rd_only (hn : n ≤ 65536) (un : ∀ t, n ≤ t → getV E t = undef) : ∀ x ∈ o.op.operands, rd E x = rd (onlyE n E (readsOf ops o)) x := by
  intro x hx
  cases x with
  | tmp t =>
    show getV E t = getV (onlyE n E (readsOf ops o)) t
    rw [onlyE_get n hn E un, if_pos (reads_op hx)]
  | const v => rfl
  | global g => rfl
  | func f => rfl
theorem want_only (hn : n ≤ 65536) (un : ∀ t, n ≤ t → getV E t = undef) : wantK o.guard ops (onlyE n E (readsOf ops o)) = wantK o.guard ops E := by
  cases hg : o.guard with
  | none => rfl
  | some g =>
    change (match (ops[g.1]?).bind (·.dst) with | some d => wantV g.2 (getV (onlyE n E (readsOf ops o)) d) | none => some false) =
      (match (ops[g.1]?).bind (·.dst) with | some d => wantV g.2 (getV E d) | none => some false)
    cases hd : (ops[g.1]?).bind (·.dst) with
    | none => rfl
    | some d =>
      simp only
      rw [onlyE_get n hn E un, if_pos (reads_guard hg hd)]
theorem only_rel (hn : n ≤ 65536) (un : ∀ t, n ≤ t → getV E t = undef) (hs : tmps.size = n) {l : List Tmp} (hl : ∀ t ∈ l, VRel m (getV E t) (tmps.getD t undef)) : ERel m n (onlyE n E l) tmps := by
  refine ⟨⟨hs, fun t ht => ?_⟩, fun t => ?_⟩
  · rw [onlyE_get n hn E un]
    by_cases h : t ∈ l
    · rw [if_pos h]; exact un t ht
    · rw [if_neg h, if_neg (by omega)]
  · rw [onlyE_get n hn E un]
    by_cases h : t ∈ l
    · rw [if_pos h]; exact hl t h
    · rw [if_neg h]
      by_cases h2 : t < n
      · rw [if_pos h2]; exact .junk _
      · rw [if_neg h2]
        have e : tmps.getD t undef = undef := by
          rw [Array.getD_eq_getD_getElem?, Array.getElem?_eq_none (by omega)]; rfl
        rw [e]; exact .undef m
end
structure EntOk (K : PK) (c : Cx) (n : Nat) (ops : Array Oper) (lo : Nat) (m : BM) (h : AH) (ps : List Pend) (x : Ent) : Prop where
  op : ops[x.i]? = some x.o
  want : wantK x.o.guard ops x.E = some x.w
  un : ∀ t, n ≤ t → getV x.E t = undef
  dst : ∀ t, x.o.dst = some t → t < n
  does : (x.w = false ∧ x.v = undef ∧ x.a = 0) ∨ (x.w = true ∧ ((opK x.o.op K c x.E x.o = .pure x.v ∧ x.a = 0) ∨ (∃ p ∈ ps, p.i = x.i ∧ opK x.o.op K c x.E x.o = .read p.f ∧ p.v = x.v ∧ x.a = 0) ∨
     (∃ b mk, opK x.o.op K c x.E x.o = .alloc b mk ∧ x.v = mk x.a ∧ m x.a = none ∧ getB h.t x.a = some b ∧ lo ≤ x.a ∧ x.a < h.n)))
section
variable {K : PK} {c : Cx} {n : Nat} {ops : Array Oper} {lo : Nat} {m m' : BM} {h h' : AH} {ps ps' : List Pend} {x : Ent}
theorem EntOk.lt (e : EntOk K c n ops lo m h ps x) (ha : x.a ≠ 0) : x.a < h.n ∧ m x.a = none ∧ lo ≤ x.a := by
  rcases e.does with ⟨_, _, h0⟩ | ⟨_, ⟨_, h0⟩ | ⟨_, _, _, _, _, h0⟩ | ⟨b, mk, _, _, h1, _, h2, h3⟩⟩
  · exact absurd h0 ha
  · exact absurd h0 ha
  · exact absurd h0 ha
  · exact ⟨h3, h1, h2⟩
theorem EntOk.mono (e : EntOk K c n ops lo m h ps x) (hlo : 0 < lo) (hm : x.a ≠ 0 → m' x.a = none) (hg : ∀ b, b < h.n → m b = none → getB h'.t b = getB h.t b) (hn : h.n ≤ h'.n) (hp : ∀ p ∈ ps, p.i = x.i → p ∈ ps') : EntOk K c n ops lo m' h' ps' x := by
  refine ⟨e.op, e.want, e.un, e.dst, ?_⟩
  rcases e.does with h0 | ⟨hw, h0 | ⟨p, h1, h2, h3⟩ | ⟨b, mk, h1, h2, h3, h4, h5, h6⟩⟩
  · exact .inl h0
  · exact .inr ⟨hw, .inl h0⟩
  · exact .inr ⟨hw, .inr (.inl ⟨p, hp p h1 h2, h2, h3⟩)⟩
  · exact .inr ⟨hw, .inr (.inr ⟨b, mk, h1, h2, hm (by omega), by rw [hg _ h6 h3]; exact h4, h5, by omega⟩)⟩
end
theorem Ext.think {m1 : BM} {h1 : AH} {w1 : World} {m : BM} {h : AH} {w : World} (X : Ext m1 h1 w1 m h w) (b : AB) (hb : h.n < 16000000) : Ext m1 h1 w1 m ⟨setB h.t h.n (some b), h.n + 1⟩ w :=
  ⟨X.le, X.news, fun c hc e => by
    have := X.hn
    show getB (setB h.t h.n (some b)) c = _
    rw [getB_set _ _ _ _ (by omega), if_neg (by omega)]; exact X.absf c hc e, X.conf, Nat.le_succ_of_le X.hn, X.wsz, X.os, X.tape, X.output⟩
theorem Ext.made {m1 : BM} {h1 : AH} {w1 : World} {m : BM} {h : AH} {w : World} (X : Ext m1 h1 w1 m h w) {b : Nat} (o : Obj) (κ : Nat) (hm : m b = none) (hb : h1.n ≤ b) : Ext m1 h1 w1 (m.add b (w.heap.size, κ)) h (w.alloc o) where
  le := X.le.trans (.add hm)
  news := fun c x e => by
    unfold BM.add at e
    split at e
    · cases e; exact .inr ⟨by omega, .inl X.wsz⟩
    · exact X.news c x e
  absf := X.absf
  conf := fun c hc hx => by
    rw [Below.heap_alloc w o c (Nat.lt_of_lt_of_le hc X.wsz)]; exact X.conf c hc hx
  hn := X.hn
  wsz := Nat.le_trans X.wsz (by simp)
  os := X.os
  tape := X.tape
  output := X.output
structure DInv (K : PK) (c : Cx) (n : Nat) (ops : Array Oper) (B : Nat) (w0 : World) (m1 : BM) (h1 : AH) (w1 : World) (rE : Env) (rD : DL) (rh : AH)
    (listed : Array Bool) (M : Ent → Prop) (R : List (Nat × Oper)) (E : Env) (D : DL) (h : AH) (ps : List Pend) (m : BM) (w : World) (tmps : Array Value) (ds : List Deferred) : Prop where
  H : HRel K w0 m h w
  X : Ext m1 h1 w1 m h w
  size : tmps.size = n
  un : ∀ t, n ≤ t → getV E t = undef
  hD : DRel m D ds
  ent : ∀ x, M x → EntOk K c n ops h1.n m h ps x
  nl : ∀ x, M x → listed.getD x.i true = false
  al : ∀ x y, M x → M y → x.i ≠ y.i → x.a ≠ 0 → x.a ≠ y.a
  flow : Flow ops B M m E tmps
  late : ∀ x, M x → ∀ y ∈ R, x.i ≠ y.1 ∧ bef B x.i y.1 = false
  lo : laterOk B R
  ao : actsOk B R
  real : ∀ y ∈ R, ops[y.1]? = some y.2
  rl : ∀ y ∈ R, listed.getD y.1 true = false
  cov : ∀ i, listed.getD i true = false → (∃ x, M x ∧ x.i = i) ∨ ∃ y ∈ R, y.1 = i
  dn : Down ops (fun i => listed.getD i false = true)
  run : aDrw K c n ops B R E D h ps = .ok rE rD rh
def Stop (ops : Array Oper) (R : List (Nat × Oper)) (E : Env) : Prop := R = [] ∨ ∃ i o r, R = (i, o) :: r ∧ wantK o.guard ops E = some true ∧ isEff o.op = true
section
variable {K : PK} {c : Cx} {n : Nat} {ops : Array Oper} {B : Nat} {w0 : World} {m1 : BM} {h1 : AH} {w1 : World} {rE : Env} {rD : DL} {rh : AH}
  {listed : Array Bool} {M : Ent → Prop} {R : List (Nat × Oper)} {E : Env} {D : DL} {h : AH} {ps : List Pend} {m : BM} {w : World} {tmps : Array Value} {ds : List Deferred}
theorem DInv.add (S : Stat ops B) (hirr : ∀ i, i < ops.size → bef B i i = false) (hn : n ≤ 65536) (h0 : N0 ≤ h1.n) {i : Nat} {o : Oper} {r : List (Nat × Oper)} (I : DInv K c n ops B w0 m1 h1 w1 rE rD rh listed M ((i, o) :: r) E D h ps m w tmps ds)
    {wb : Bool} {v : Value} {a : Nat} {h' : AH} {ps' : List Pend} (hw : wantK o.guard ops E = some wb) (hdst : ∀ t, o.dst = some t → t < n) (run' : aDrw K c n ops B r (putE o.dst E v) D h' ps' = .ok rE rD rh)
    (hh : h' = h ∨ ∃ b, h' = ⟨setB h.t h.n (some b), h.n + 1⟩ ∧ h.n < 16000000) (hps : ∀ p ∈ ps, p ∈ ps') (ha : a = 0 ∨ a = h.n) (hdo : EntOk K c n ops h1.n m h' ps' ⟨i, o, E, wb, v, a⟩) :
    DInv K c n ops B w0 m1 h1 w1 rE rD rh listed (fun y => M y ∨ y = ⟨i, o, E, wb, v, a⟩) r (putE o.dst E v) D h' ps' m w tmps ds := by
  have hlo := I.lo
  have hao := I.ao
  have hN : 0 < h1.n := Nat.lt_of_lt_of_le (by decide : 0 < N0) h0
  have hd : ∀ t, o.dst = some t → t < 16000001 := fun t ht => Nat.lt_of_lt_of_le (hdst t ht) (Nat.le_trans hn (by decide))
  have hi : i < ops.size := (Array.getElem?_eq_some_iff.1 (I.real _ (List.mem_cons_self ..))).1
  have hgb : ∀ b, b < h.n → m b = none → getB h'.t b = getB h.t b := fun b hb _ => by
    rcases hh with rfl | ⟨b', rfl, h2⟩
    · rfl
    · show getB (setB h.t h.n (some b')) b = _
      rw [getB_set _ _ _ _ (by omega), if_neg (by omega)]
  have hhn : h.n ≤ h'.n := by
    rcases hh with rfl | ⟨b', rfl, h2⟩
    · exact Nat.le_refl _
    · exact Nat.le_succ _
  refine ⟨?_, ?_, I.size, fun t ht => ?_, I.hD, ?_, ?_, ?_, ?_, ?_, hlo.2, hao.2, fun y hy => I.real y (List.mem_cons_of_mem _ hy), fun y hy => I.rl y (List.mem_cons_of_mem _ hy), ?_, I.dn, run'⟩
  · rcases hh with rfl | ⟨b', rfl, h2⟩
    · exact I.H
    · exact I.H.think b' h2
  · rcases hh with rfl | ⟨b', rfl, h2⟩
    · exact I.X
    · exact I.X.think b' h2
  · rw [putE_ne hd (fun e => absurd (hdst t e) (Nat.not_lt.2 ht))]; exact I.un t ht
  · rintro x (hx | rfl)
    · exact (I.ent x hx).mono hN (fun hxa => ((I.ent x hx).lt hxa).2.1) hgb hhn fun p hp _ => hps p hp
    · exact hdo
  · rintro x (hx | rfl)
    · exact I.nl x hx
    · exact I.rl _ (List.mem_cons_self ..)
  · rintro x y (hx | rfl) (hy | rfl) hne hxa
    · exact I.al x y hx hy hne hxa
    · have := ((I.ent x hx).lt hxa).1
      show x.a ≠ a
      rcases ha with rfl | rfl
      · exact hxa
      · omega
    · intro e
      have e : a = y.a := e
      have hxa : a ≠ 0 := hxa
      rcases ha with rfl | rfl
      · exact hxa rfl
      · have := ((I.ent y hy).lt (by omega)).1
        omega
    · exact absurd rfl hne
  · exact I.flow.add S (fun y hy => (I.ent y hy).op) (I.real _ (List.mem_cons_self ..)) rfl (fun y hy => I.late y hy _ (List.mem_cons_self ..)) (hirr i hi) hd
  · rintro x (hx | rfl) y hy
    · exact I.late x hx y (List.mem_cons_of_mem _ hy)
    · exact hlo.1 y hy
  · intro j hj
    rcases I.cov j hj with ⟨x, h1, h2⟩ | ⟨y, hy, h2⟩
    · exact .inl ⟨x, .inl h1, h2⟩
    · rcases List.mem_cons.1 hy with rfl | hy
      · exact .inl ⟨_, .inr rfl, h2⟩
      · exact .inr ⟨y, hy, h2⟩
theorem dinv_adv (S : Stat ops B) (hirr : ∀ i, i < ops.size → bef B i i = false) (hn : n ≤ 65536) (h0 : N0 ≤ h1.n) : ∀ (R : List (Nat × Oper)) {M : Ent → Prop} {E : Env} {h : AH} {ps : List Pend}, DInv K c n ops B w0 m1 h1 w1 rE rD rh listed M R E D h ps m w tmps ds →
    ∃ M' R' E' h' ps', DInv K c n ops B w0 m1 h1 w1 rE rD rh listed M' R' E' D h' ps' m w tmps ds ∧ Stop ops R' E' ∧ pendsOk h' ps' = true
  | [], M, E, h, ps, I => by
    refine ⟨M, [], E, h, ps, I, .inl rfl, ?_⟩
    have := I.run
    rw [aDrw_nil] at this
    cases hp : pendsOk h ps with
    | true => rfl
    | false => rw [hp] at this; cases this
  | (i, o) :: r, M, E, h, ps, I => by
    have hrun := I.run
    have hop := I.real _ (List.mem_cons_self ..)
    rw [aDrw_cons] at hrun
    unfold drw1 at hrun
    cases hw : wantK o.guard ops E with
    | none => rw [hw] at hrun; cases hrun
    | some wb =>
      rw [hw] at hrun
      cases wb with
      | false =>
        simp only at hrun
        cases hk : okP o.dst n E undef D h with
        | bad => rw [hk] at hrun; cases hrun
        | ok E1 D1 h2 =>
          rw [hk] at hrun
          obtain ⟨a1, a2, a3, a4, _⟩ := okP_put hk
          have a3 := a3.symm
          subst a3
          subst a2 a4
          exact dinv_adv S hirr hn h0 r (I.add S hirr hn h0 (v := undef) (a := 0) hw a1 hrun (.inl rfl) (fun _ h => h) (.inl rfl) ⟨hop, hw, I.un, a1, .inl ⟨rfl, rfl, rfl⟩⟩)
      | true =>
        simp only at hrun
        cases he : isEff o.op with
        | true =>
          rw [he] at hrun
          simp only at hrun
          refine ⟨M, _, E, h, ps, I, .inr ⟨i, o, r, rfl, hw, he⟩, ?_⟩
          cases hp : pendsOk h ps with
          | true => rfl
          | false => rw [hp] at hrun; cases hrun
        | false =>
          rw [he] at hrun
          simp only at hrun
          cases hq : actsQ (opK o.op K c E o) with
          | true => rw [hq] at hrun; cases hrun
          | false =>
            rw [hq] at hrun
            simp only [cond_false] at hrun
            cases hk : aOneK (opK o.op K c E o) o.dst n E D h with
            | bad => rw [hk] at hrun; cases hrun
            | ok E1 D1 h2 =>
              rw [hk] at hrun
              simp only at hrun
              obtain ⟨v, a1, a2, a3, a4⟩ := aOne_non hq hk
              have a3 := a3.symm
              subst a3
              subst a2
              rcases a4 with ⟨q, rfl⟩ | ⟨f, q, hf, rfl⟩ | ⟨b, mk, q, rfl, rfl, hb⟩
              · rw [q] at hrun
                exact dinv_adv S hirr hn h0 r (I.add S hirr hn h0 (a := 0) hw a1 hrun (.inl rfl) (fun _ h => h) (.inl rfl) ⟨hop, hw, I.un, a1, .inr ⟨rfl, .inl ⟨q, rfl⟩⟩⟩)
              · rw [q] at hrun
                simp only [pendsOf, hf] at hrun
                exact dinv_adv S hirr hn h0 r (I.add S hirr hn h0 (a := 0) hw a1 hrun (.inl rfl) (fun _ h => List.mem_cons_of_mem _ h) (.inl rfl) ⟨hop, hw, I.un, a1, .inr ⟨rfl, .inr (.inl ⟨_, List.mem_cons_self .., rfl, q, rfl, rfl⟩)⟩⟩)
              · rw [q] at hrun
                refine dinv_adv S hirr hn h0 r (I.add S hirr hn h0 (a := h.n) hw a1 hrun (.inr ⟨b, rfl, hb⟩) (fun _ h => h) (.inr rfl) ⟨hop, hw, I.un, a1, .inr ⟨rfl, .inr (.inr ⟨b, mk, q, rfl, I.H.fresh _ (Nat.le_refl _), ?_, I.X.hn, Nat.lt_succ_self _⟩)⟩⟩)
                show getB (setB h.t h.n (some b)) h.n = some b
                rw [getB_set _ _ _ _ (by omega), if_pos rfl]
end
end Go.Proofs.YthahmfeaekddnaaGreatDoor.Ru
