/- The runner: one operation; a region whose order is its text's. -/
import Derived.Test.YthahmfeaekddnaaGreatDoorRuQ
namespace Go.Proofs.YthahmfeaekddnaaGreatDoor.Ru
open Go Go.RowKit

theorem okP_ok {d : Option Tmp} {n : Nat} {E : Env} {v : Value} {D : DL} {h : AH} {E' : Env} {D' : DL} {h' : AH} (hk : okP d n E v D h = .ok E' D' h') : D' = D ∧ h' = h ∧ ((d = none ∧ E' = E) ∨ ∃ t, d = some t ∧ t < n ∧ E' = setFV 24 E t v) := by
  cases d with
  | none => cases hk; exact ⟨rfl, rfl, .inl ⟨rfl, rfl⟩⟩
  | some t =>
    change @Bool.rec (fun _ => SR) .bad (.ok (setFV 24 E t v) D h) (Nat.blt t n) = _ at hk
    cases hb : Nat.blt t n with
    | false => rw [hb] at hk; cases hk
    | true => rw [hb] at hk; cases hk; exact ⟨rfl, rfl, .inr ⟨t, rfl, blt_of hb, rfl⟩⟩
section
variable {K : PK} {w0 : World} {m : BM} {h : AH} {w : World} {E : Env} {o : Oper} {tmps : Array Value} {n : Nat} {ops : Array Oper}
theorem okP_rel {d : Option Tmp} {v v' : Value} {D : DL} {E' : Env} {D' : DL} {h' : AH} (hk : okP d n E v D h = .ok E' D' h') (hn : n ≤ 65536) (hE : ERel m n E tmps) (hv : VRel m v v') : ERel m n E' (putT d tmps v') := by
  obtain ⟨_, _, ⟨rfl, rfl⟩ | ⟨t, rfl, ht, rfl⟩⟩ := okP_ok hk
  · exact hE
  · exact hE.put ht hn hv
theorem wanted_ok (hE : ERel m n E tmps) {b : Bool} (hw : wantK o.guard ops E = some b) : Region.wanted o (yielded ops tmps) = b := by
  unfold Region.wanted
  cases hg : o.guard with
  | none => rw [hg] at hw; cases hw; rfl
  | some g =>
    obtain ⟨j, want⟩ := g
    rw [hg] at hw
    change (match (ops[j]?).bind (·.dst) with | some d => wantV want (getV E d) | none => some false) = some b at hw
    simp only [yielded]
    cases hd : (ops[j]?).bind (·.dst) with
    | none =>
      rw [hd] at hw
      cases hw
      rfl
    | some d =>
      rw [hd] at hw
      simp only at hw
      have hv := hE.2 d
      unfold wantV at hw
      split at hw
      · rename_i u hb
        cases hw
        rw [hb] at hv
        have e := hv.bool
        have hlt : d < tmps.size := by
          rcases Nat.lt_or_ge d tmps.size with h1 | h1
          · exact h1
          · rw [Array.getD_eq_getD_getElem?, Array.getElem?_eq_none h1] at e; cases e
        have e2 : tmps[d]? = some (.bool u) := by
          rw [Array.getD_eq_getD_getElem?, Array.getElem?_eq_getElem hlt] at e
          rw [Array.getElem?_eq_getElem hlt]
          simpa using e
        simp only [Option.bind_some, e2]
        cases u <;> cases want <;> rfl
      · rename_i cs hb
        cases hc : Nat.beq cs.size 0 with
        | false => rw [hc] at hw; cases hw
        | true =>
          rw [hc] at hw
          cases hw
          rw [hb] at hv
          have e : ∃ a', tmps.getD d undef = .tuple a' := by
            generalize tmps.getD d undef = v' at hv
            cases hv
            · exact ⟨_, rfl⟩
            · exact ⟨_, rfl⟩
          obtain ⟨a', e⟩ := e
          rcases Nat.lt_or_ge d tmps.size with hlt | hlt
          · have e2 : tmps[d]? = some (.tuple a') := by
              rw [Array.getD_eq_getD_getElem?, Array.getElem?_eq_getElem hlt] at e
              rw [Array.getElem?_eq_getElem hlt]
              simpa using e
            simp only [Option.bind_some, e2]
            rfl
          · have e2 : tmps[d]? = none := Array.getElem?_eq_none hlt
            simp only [Option.bind_some, e2]
            rfl
      · cases hw
/-- One operation that is carried out. -/
theorem one_ok (k : KOk K) {c : Cx} (C : CxOk K c) (H : HRel K w0 m h w) (hE : ERel m n E tmps) {D : DL} {ds : List Deferred} (hD : DRel m D ds) (hn : n ≤ 65536) {i : Nat} (ho : ops[i]? = some o) {ro : Option Nat} (hro : ro = none ∨ ∀ cl, o.op ≠ .defer cl)
    (hw : Region.wanted o (yielded ops tmps) = true) {E' : Env} {D' : DL} {h' : AH} (ha : aOneK (opK o.op K c E o) o.dst n E D h = .ok E' D' h') {fn : FuncId} {kind : CallKind} {cs : List Frame} {rest : List Nat} {kk : List Item} :
    ∃ m' w' tmps' ds', Steps K.P (lone (mkF fn kind ro tmps ds (.inRegion ops (i :: rest) :: kk)) cs w) (lone (mkF fn kind ro tmps' ds' (.inRegion ops rest :: kk)) cs w') ∧ HRel K w0 m' h' w' ∧ Ext m h w m' h' w' ∧ ERel m' n E' tmps' ∧ DRel m' D' ds' ∧ ∃ v', tmps' = putT o.dst tmps v' := by
  have hρ := rd_rel H hE
  cases hq : opK o.op K c E o with
  | bad => rw [hq] at ha; cases ha
  | pure v =>
    rw [hq] at ha
    obtain ⟨rfl, rfl, _⟩ := okP_ok (show okP o.dst n E v D h = _ from ha)
    obtain ⟨v', hv, hr⟩ := pure_ok k c hρ hq
    exact ⟨m, w, _, ds, .one (st_value ho hw hro (hr w)), H, .refl m _ w, okP_rel (show okP o.dst n E v _ _ = _ from ha) hn hE hv, hD, _, rfl⟩
  | read f =>
    rw [hq] at ha
    change @Option.rec Value (fun _ => SR) .bad (fun v => okP o.dst n E v D h) (f h) = _ at ha
    cases hf : f h with
    | none => rw [hf] at ha; cases ha
    | some v =>
      rw [hf] at ha
      obtain ⟨rfl, rfl, _⟩ := okP_ok (show okP o.dst n E v D h = _ from ha)
      obtain ⟨v', hv, hr⟩ := read_ok k c H hρ hq hf
      exact ⟨m, w, _, ds, .one (st_value ho hw hro hr), H, .refl m _ w, okP_rel (show okP o.dst n E v _ _ = _ from ha) hn hE hv, hD, _, rfl⟩
  | alloc b mk =>
    rw [hq] at ha
    change @Bool.rec (fun _ => SR) .bad (okP o.dst n E (mk h.n) D ⟨setB h.t h.n (some b), h.n + 1⟩) (Nat.blt h.n 16000000) = _ at ha
    cases hb : Nat.blt h.n 16000000 with
    | false => rw [hb] at ha; cases ha
    | true =>
      rw [hb] at ha
      obtain ⟨rfl, e2, _⟩ := okP_ok (show okP o.dst n E (mk h.n) D ⟨setB h.t h.n (some b), h.n + 1⟩ = _ from ha)
      obtain ⟨obj, κ, v', hr, hrel⟩ := makes_ok (w := w) k c hρ hq
      have hmn := H.fresh h.n (Nat.le_refl _)
      obtain ⟨hB, hV⟩ := hrel h.n (m.add h.n (w.heap.size, κ)) (.add hmn) (BM.add_self _ _ _)
      obtain ⟨H2, X2⟩ := H.alloc b obj κ (blt_of hb) hB
      rw [← e2] at H2 X2
      exact ⟨_, _, _, ds, .one (st_value ho hw hro hr), H2, X2, okP_rel (show okP o.dst n E (mk h.n) _ _ = _ from ha) hn (hE.mono X2.le) hV, hD.mono X2.le, _, rfl⟩
  | defer f l =>
    rw [hq] at ha
    obtain ⟨rfl, rfl, _⟩ := okP_ok (show okP o.dst n E undef ((f, l) :: D) h = _ from ha)
    obtain ⟨⟨cl, hcl⟩, d, hd, hr⟩ := defers_ok c hρ hq
    have hron : ro = none := hro.resolve_right (fun h => h cl hcl)
    subst hron
    exact ⟨m, w, _, d :: ds, .one (st_defer ho hw (hr w)), H, .refl m _ w, okP_rel (show okP o.dst n E undef _ _ = _ from ha) hn hE (.undef m), .cons hd hD, _, rfl⟩
  | eff f =>
    rw [hq] at ha
    change @R.rec (fun _ => SR) .bad (fun v h => okP o.dst n E v D h) (f h) = _ at ha
    cases hf : f h with
    | bad => rw [hf] at ha; cases ha
    | ok v h1 =>
      rw [hf] at ha
      obtain ⟨rfl, rfl, _⟩ := okP_ok (show okP o.dst n E v D h1 = _ from ha)
      have ha : okP o.dst n E v _ _ = _ := ha
      rcases acts_ok k c hρ hq with hdo | ⟨g, args, args', rfl, hl, hr⟩ | ⟨l, x, args, args', hm, rfl, hl, hr⟩
      · obtain ⟨m', w', v', H2, X2, hv, hr | ⟨hr, rfl⟩⟩ := hdo H hf
        · exact ⟨m', w', _, ds, .one (st_value ho hw hro hr), H2, X2, okP_rel ha hn (hE.mono X2.le) hv, hD.mono X2.le, _, rfl⟩
        · exact ⟨m', w', _, ds, .one (st_unit ho hw hro hr), H2, X2, okP_rel ha hn (hE.mono X2.le) hv, hD.mono X2.le, _, rfl⟩
      · obtain ⟨m', w', fr', v', hst, e1, e2, e3, e4, ⟨fnn, e5, e6⟩, H2, X2, hv⟩ := C.cf hf H hl (.inl rfl) (mkF fn kind ro tmps ds (.inRegion ops (i :: rest) :: kk) :: cs)
        refine ⟨m', w', putT o.dst tmps v', ds, ?_, H2, X2, okP_rel ha hn (hE.mono X2.le) hv, hD.mono X2.le, _, rfl⟩
        refine .head (st_enter ho hw hro (hr w)) (hst.trans (.one ?_))
        have := step_leave_returned (P := K.P) (fr := fr') (c := mkF fn kind ro tmps ds (.inRegion ops (i :: rest) :: kk)) (cs := cs) (w := w') (v := v') ⟨e1, e2, e4, fnn, by rw [e3]; exact e5, e6⟩
        rw [this, mkF_finish, ho]; rfl
      · obtain ⟨m', w', v', f2, t2, a, b, hy, hst, H2, X2, hv⟩ := C.rf hf H hm hl (mkF fn kind ro tmps ds (.inRegion ops (i :: rest) :: kk)) cs
        refine ⟨m', w', putT o.dst tmps v', ds, ?_, H2, X2, okP_rel ha hn (hE.mono X2.le) hv, hD.mono X2.le, _, rfl⟩
        rw [mkF_finish, ho] at hst
        exact .head (st_round ho hw hro (hr w _ hy)) hst
/-- The operations of a region, one behind the other. -/
theorem seq_ok (k : KOk K) {c : Cx} (C : CxOk K c) (hn : n ≤ 65536) {ro : Option Nat} {fn : FuncId} {kind : CallKind} {cs : List Frame} {kk : List Item} : ∀ (l : List Oper) (s : Nat), (∀ j (o : Oper), l[j]? = some o → ops[s + j]? = some o) → (∀ o ∈ l, ro = none ∨ ∀ cl, o.op ≠ .defer cl) →
    ∀ {m : BM} {h : AH} {w : World} {E : Env} {tmps : Array Value} {D : DL} {ds : List Deferred} {E' : Env} {D' : DL} {h' : AH}, HRel K w0 m h w → ERel m n E tmps → DRel m D ds → aSeqK l K c n ops E D h = .ok E' D' h' →
    ∃ m' w' tmps' ds', Steps K.P (lone (mkF fn kind ro tmps ds (.inRegion ops (List.range' s l.length) :: kk)) cs w) (lone (mkF fn kind ro tmps' ds' (.inRegion ops [] :: kk)) cs w') ∧ HRel K w0 m' h' w' ∧ Ext m h w m' h' w' ∧ ERel m' n E' tmps' ∧ DRel m' D' ds'
  | [], s, _, _, m, h, w, E, tmps, D, ds, E', D', h', H, hE, hD, ha => by
    cases ha
    exact ⟨m, w, tmps, ds, .refl _ _, H, .refl m _ w, hE, hD⟩
  | o :: l, s, hops, hro, m, h, w, E, tmps, D, ds, E', D', h', H, hE, hD, ha => by
    change @SR.rec (fun _ => SR) .bad (fun E D h => aSeqK l K c n ops E D h) (aOp K c n ops o E D h) = _ at ha
    have ho : ops[s]? = some o := by simpa using hops 0 o rfl
    have hops' : ∀ j (o' : Oper), l[j]? = some o' → ops[s + 1 + j]? = some o' := fun j o' hj => by
      have := hops (j + 1) o' (by simpa using hj)
      rwa [show s + (j + 1) = s + 1 + j by omega] at this
    have hro' : ∀ o' ∈ l, ro = none ∨ ∀ cl, o'.op ≠ .defer cl := fun o' h => hro o' (by simp [h])
    cases hop : aOp K c n ops o E D h with
    | bad => rw [hop] at ha; cases ha
    | ok E1 D1 h1 =>
      rw [hop] at ha
      have ha : aSeqK l K c n ops E1 D1 h1 = _ := ha
      unfold aOp at hop
      cases hwk : wantK o.guard ops E with
      | none => rw [hwk] at hop; cases hop
      | some b =>
        rw [hwk] at hop
        have hwd := wanted_ok hE hwk
        cases b with
        | false =>
          have hop : okP o.dst n E undef D h = .ok E1 D1 h1 := hop
          obtain ⟨rfl, rfl, _⟩ := okP_ok hop
          obtain ⟨m', w', t', d', a1, a2, a3, a4, a5⟩ := seq_ok k C hn l (s + 1) hops' hro' H (okP_rel hop hn hE (.undef m)) hD ha
          exact ⟨m', w', t', d', .head (st_pass ho hwd) a1, a2, a3, a4, a5⟩
        | true =>
          have hop : aOneK (opK o.op K c E o) o.dst n E D h = .ok E1 D1 h1 := hop
          obtain ⟨m1, w1, t1, d1, b1, b2, b3, b4, b5, _⟩ := one_ok (rest := List.range' (s + 1) l.length) (kk := kk) (fn := fn) (kind := kind) (cs := cs) k C H hE hD hn ho (hro o (by simp)) hwd hop
          obtain ⟨m', w', t', d', a1, a2, a3, a4, a5⟩ := seq_ok k C hn l (s + 1) hops' hro' b2 b4 b5 ha
          exact ⟨m', w', t', d', b1.trans a1, a2, b3.trans H.n0 a3, a4, a5⟩
end
end Go.Proofs.YthahmfeaekddnaaGreatDoor.Ru
