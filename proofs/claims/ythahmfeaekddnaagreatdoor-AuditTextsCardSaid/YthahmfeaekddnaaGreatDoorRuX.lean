/- The runner: a region whose order is drawn. -/
import Derived.Test.YthahmfeaekddnaaGreatDoorRuZ
namespace Go.Proofs.YthahmfeaekddnaaGreatDoor.Ru
open Go Go.RowKit

section
variable {K : PK} {c : Cx} {n : Nat} {ops : Array Oper} {B : Nat} {w0 : World} {m1 : BM} {h1 : AH} {w1 : World} {rE : Env} {rD : DL} {rh : AH}
  {listed : Array Bool} {M : Ent → Prop} {R : List (Nat × Oper)} {E : Env} {D : DL} {h : AH} {ps : List Pend} {m : BM} {w : World} {tmps : Array Value} {ds : List Deferred}
theorem set_unl {i j : Nat} (h : (listed.setIfInBounds i true).getD j true = false) : j ≠ i ∧ listed.getD j true = false := by
  have hne : j ≠ i := by
    intro e; subst e
    by_cases hl : j < listed.size
    · simp [hl] at h
    · simp [Array.getElem?_eq_none (Nat.not_lt.1 hl)] at h
  exact ⟨hne, by rwa [getD_set_ne true (Ne.symm hne)] at h⟩
theorem set_unl' {i j : Nat} (hne : j ≠ i) (h : listed.getD j true = false) : (listed.setIfInBounds i true).getD j true = false := by
  rw [getD_set_ne true (Ne.symm hne)]; exact h
theorem lst_not {j : Nat} (h : listed.getD j false = true) (h2 : listed.getD j true = false) : False := by
  by_cases hl : j < listed.size
  · simp [hl] at h h2; rw [h] at h2; cases h2
  · simp [Array.getElem?_eq_none (Nat.not_lt.1 hl)] at h
theorem lst_or {j : Nat} (hj : j < listed.size) (h : ¬ listed.getD j true = false) : listed.getD j false = true := by
  simp [hj] at h ⊢; exact h
theorem down_set {i : Nat} {o : Oper} (hd : Down ops (fun i => listed.getD i false = true)) (ho : ops[i]? = some o) (ha : ∀ e ∈ o.after.toList, Region.binds .any e = true → listed.getD e.on false = true) :
    Down ops (fun j => (listed.setIfInBounds i true).getD j false = true) := by
  intro j o' hj ho' e he hb
  by_cases hji : j = i
  · subst hji
    rw [ho] at ho'; cases ho'
    exact getD_set_true (ha e he hb)
  · rw [getD_set_ne false (Ne.symm hji)] at hj
    exact getD_set_true (hd j o' hj ho' e he hb)
theorem pends_of : ∀ {ps : List Pend}, pendsOk h ps = true → ∀ p ∈ ps, p.f h = some p.v
  | [], _, p, hp => by simp at hp
  | q :: r, hk, p, hp => by
    simp only [pendsOk, Bool.and_eq_true] at hk
    rcases List.mem_cons.1 hp with rfl | hp
    · have h1 := hk.1
      split at h1
      · rename_i v hv; rw [hv, veq_ok _ _ _ h1]
      · cases h1
    · exact pends_of hk.2 p hp
/-- One that is lacking is carried out. -/
theorem DInv.take (k : KOk K) (S : Stat ops B) (hn : n ≤ 65536) (h0 : N0 ≤ h1.n) (I : DInv K c n ops B w0 m1 h1 w1 rE rD rh listed M R E D h ps m w tmps ds) (hp : pendsOk h ps = true) {x : Ent} (hx : M x) (hnb : ∀ j, listed.getD j true = false → bef B x.i j = false)
    (ha : ∀ e ∈ x.o.after.toList, Region.binds .any e = true → listed.getD e.on false = true) {ro : Option Nat} (hro : ro = none ∨ ∀ cl, x.o.op ≠ .defer cl) {fn : FuncId} {kind : CallKind} {cs : List Frame} {rest : List Nat} {kk : List Item} :
    ∃ m' w' tmps', step K.P (lone (mkF fn kind ro tmps ds (.inRegion ops (x.i :: rest) :: kk)) cs w) = .next (lone (mkF fn kind ro tmps' ds (.inRegion ops rest :: kk)) cs w') ∧
      DInv K c n ops B w0 m1 h1 w1 rE rD rh (listed.setIfInBounds x.i true) (fun y => M y ∧ y.i ≠ x.i) R E D h ps m' w' tmps' ds := by
  have hN : 0 < h1.n := Nat.lt_of_lt_of_le (by decide : 0 < N0) h0
  have e := I.ent x hx
  have hdst : ∀ t, x.o.dst = some t → t < tmps.size := fun t ht => by rw [I.size]; exact e.dst t ht
  have hnb' : ∀ y, M y → bef B x.i y.i = false := fun y hy => hnb _ (I.nl y hy)
  have ER : ERel m n (onlyE n x.E (readsOf ops x.o)) tmps := only_rel hn e.un I.size fun t ht => I.flow.j2 x hx t ht fun y hy hb => by rw [hnb' y hy] at hb; cases hb
  have hwk : wantK x.o.guard ops (onlyE n x.E (readsOf ops x.o)) = some x.w := by rw [want_only hn e.un]; exact e.want
  have hwd := wanted_ok ER hwk
  have hρ := rd_rel I.H ER
  have hcg := opK_congr (K := K) c (rd_only (o := x.o) (ops := ops) hn e.un)
  have main : ∃ m' w' v', step K.P (lone (mkF fn kind ro tmps ds (.inRegion ops (x.i :: rest) :: kk)) cs w) = .next (lone (mkF fn kind ro (putT x.o.dst tmps v') ds (.inRegion ops rest :: kk)) cs w') ∧
      HRel K w0 m' h w' ∧ Ext m1 h1 w1 m' h w' ∧ MLe m m' ∧ VRel m' x.v v' ∧ ∀ y, M y → y.i ≠ x.i → y.a ≠ 0 → m' y.a = none := by
    have old : ∀ y, M y → y.i ≠ x.i → y.a ≠ 0 → m y.a = none := fun y hy _ ha => ((I.ent y hy).lt ha).2.1
    rcases e.does with ⟨h2, h3, _⟩ | ⟨h2, h3 | ⟨p, h3, _, h4, h5, _⟩ | ⟨b, mk, h3, h4, h5, h6, h7, h8⟩⟩
    · rw [h2] at hwd
      exact ⟨m, w, undef, st_pass e.op hwd, I.H, I.X, .refl m, by rw [h3]; exact .undef m, old⟩
    · rw [h2] at hwd
      have hq := h3.1
      rw [hcg] at hq
      obtain ⟨v', hv, hr⟩ := pure_ok k c hρ hq
      exact ⟨m, w, v', st_value e.op hwd hro (hr w), I.H, I.X, .refl m, hv, old⟩
    · rw [h2] at hwd
      have hq := h4
      rw [hcg] at hq
      obtain ⟨v', hv, hr⟩ := read_ok k c I.H hρ hq (v := x.v) (by rw [← h5]; exact pends_of hp p h3)
      exact ⟨m, w, v', st_value e.op hwd hro hr, I.H, I.X, .refl m, hv, old⟩
    · rw [h2] at hwd
      have hq := h3
      rw [hcg] at hq
      obtain ⟨obj, κ, v', hr, hrel⟩ := makes_ok (w := w) k c hρ hq
      obtain ⟨hB, hV⟩ := hrel x.a (m.add x.a (w.heap.size, κ)) (.add h5) (BM.add_self _ _ _)
      refine ⟨m.add x.a (w.heap.size, κ), w.alloc obj, v', st_value e.op hwd hro hr, I.H.make (by omega) h8 h5 h6 hB, I.X.made obj κ h5 h7, .add h5, by rw [h4]; exact hV, fun y hy hne hya => ?_⟩
      unfold BM.add
      rw [if_neg (I.al y x hy hx hne hya)]
      exact old y hy hne hya
  obtain ⟨m', w', v', st, H', X', hm, hv, hkeep⟩ := main
  refine ⟨m', w', _, st, ⟨H', X', ?_, I.un, I.hD.mono hm, fun y hy => ?_, fun y hy => set_unl' hy.2 (I.nl y hy.1), fun y z hy hz => I.al y z hy.1 hz.1, I.flow.take S (fun y hy => (I.ent y hy).op) hx hnb' hm hv hdst, fun y hy => I.late y hy.1, I.lo, I.ao, I.real,
    fun y hy => set_unl' (fun e => (I.late x hx y hy).1 e.symm) (I.rl y hy), fun j hj => ?_, down_set I.dn e.op ha, I.run⟩⟩
  · cases hd : x.o.dst with
    | none => exact I.size
    | some t => simp [putT, I.size]
  · exact (I.ent y hy.1).mono hN (fun hya => hkeep y hy.1 hy.2 hya) (fun _ _ _ => rfl) (Nat.le_refl _) fun p hp _ => hp
  · obtain ⟨hne, hj⟩ := set_unl hj
    rcases I.cov j hj with ⟨y, h2, h3⟩ | h2
    · exact .inl ⟨y, ⟨h2, by rw [h3]; exact hne⟩, h3⟩
    · exact .inr h2
/-- The next that acts is carried out. -/
theorem DInv.act (k : KOk K) (C : CxOk K c) (S : Stat ops B) (hn : n ≤ 65536) (h0 : N0 ≤ h1.n) {i : Nat} {o : Oper} {r : List (Nat × Oper)} (I : DInv K c n ops B w0 m1 h1 w1 rE rD rh listed M ((i, o) :: r) E D h ps m w tmps ds) (hp : pendsOk h ps = true)
    (hw : wantK o.guard ops E = some true) (he : isEff o.op = true) (hnb : ∀ j, listed.getD j true = false → bef B i j = false)
    (ha : ∀ e ∈ o.after.toList, Region.binds .any e = true → listed.getD e.on false = true) {ro : Option Nat} (hro : ro = none ∨ ∀ cl, o.op ≠ .defer cl) {fn : FuncId} {kind : CallKind} {cs : List Frame} {rest : List Nat} {kk : List Item} :
    ∃ E' D' h' ps' m' w' tmps' ds', Steps K.P (lone (mkF fn kind ro tmps ds (.inRegion ops (i :: rest) :: kk)) cs w) (lone (mkF fn kind ro tmps' ds' (.inRegion ops rest :: kk)) cs w') ∧
      DInv K c n ops B w0 m1 h1 w1 rE rD rh (listed.setIfInBounds i true) M r E' D' h' ps' m' w' tmps' ds' := by
  have hN : 0 < h1.n := Nat.lt_of_lt_of_le (by decide : 0 < N0) h0
  have hop : ops[i]? = some o := I.real _ (List.mem_cons_self ..)
  have hl : ∀ y, M y → y.i ≠ i ∧ bef B y.i i = false ∧ bef B i y.i = false := fun y hy => by
    have := I.late y hy _ (List.mem_cons_self ..)
    exact ⟨this.1, this.2, hnb _ (I.nl y hy)⟩
  have hrun := I.run
  rw [aDrw_cons] at hrun
  unfold drw1 at hrun
  rw [hw] at hrun
  simp only at hrun
  rw [he] at hrun
  simp only at hrun
  rw [hp] at hrun
  simp only [cond_true] at hrun
  cases hk : aOneK (opK o.op K c E o) o.dst n E D h with
  | bad => rw [hk] at hrun; cases hrun
  | ok E1 D1 h2 =>
    rw [hk] at hrun
    simp only at hrun
    obtain ⟨v, hdst, rfl, hall⟩ := aOne_put hk
    have ER : ERel m n (onlyE n E (readsOf ops o)) tmps := only_rel hn I.un I.size fun t ht => I.flow.j1 t fun y hy hwr => by
      have h3 := hl y hy
      rcases S.or (I.ent y hy).op hop h3.1 hwr (.inl ht) with h4 | h4
      · rw [h3.2.1] at h4; cases h4
      · rw [h3.2.2] at h4; cases h4
    have hwk : wantK o.guard ops (onlyE n E (readsOf ops o)) = some true := by rw [want_only hn I.un]; exact hw
    have hwd := wanted_ok ER hwk
    have hk2 := hall (onlyE n E (readsOf ops o))
    rw [opK_congr (K := K) c (rd_only (o := o) (ops := ops) hn I.un)] at hk2
    obtain ⟨m', w', tmps', ds', st, H', X', ER', DR', v', rfl⟩ := one_ok (rest := rest) (kk := kk) (fn := fn) (kind := kind) (cs := cs) k C I.H ER I.hD hn hop hro hwd hk2
    have hd : ∀ t, o.dst = some t → t < 16000001 := fun t ht => Nat.lt_of_lt_of_le (hdst t ht) (Nat.le_trans hn (by decide))
    have hds : ∀ t, o.dst = some t → t < tmps.size := fun t ht => by rw [I.size]; exact hdst t ht
    have hv : ∀ t, o.dst = some t → VRel m' v v' := fun t ht => by
      have := ER'.2 t
      rw [ht, putT_self (hds t ht), putE_self (hd t ht)] at this
      exact this
    have hlo := I.lo
    have hao := I.ao
    refine ⟨_, D1, h2, _, m', w', _, ds', st, ⟨H', I.X.trans h0 X', ER'.1.1, fun t ht => ?_, DR', fun y hy => ?_, fun y hy => set_unl' (hl y hy).1 (I.nl y hy), I.al, I.flow.act S (fun y hy => (I.ent y hy).op) hop hl X'.le hv hd hds,
      fun y hy z hz => I.late y hy z (List.mem_cons_of_mem _ hz), hlo.2, hao.2, fun y hy => I.real y (List.mem_cons_of_mem _ hy), fun y hy => ?_, fun j hj => ?_, down_set I.dn hop ha, hrun⟩⟩
    · rw [putE_ne hd (fun e => absurd (hdst t e) (Nat.not_lt.2 ht))]; exact I.un t ht
    · refine (I.ent y hy).mono hN (fun hya => ?_) (fun b hb hbn => X'.absf b hb hbn) X'.hn fun p hpp hpi => ?_
      · have h3 := (I.ent y hy).lt hya
        cases hx : m' y.a with
        | none => rfl
        | some z =>
          rcases X'.news _ _ hx with h4 | ⟨h4, _⟩
          · rw [h3.2.1] at h4; cases h4
          · omega
      · rw [List.mem_filter]
        refine ⟨hpp, ?_⟩
        rw [hpi, (hl y hy).2.2]; rfl
    · exact set_unl' (fun e => (hlo.1 y hy).1 e.symm) (I.rl y (List.mem_cons_of_mem _ hy))
    · obtain ⟨hne, hj⟩ := set_unl hj
      rcases I.cov j hj with h2 | ⟨y, hy, h3⟩
      · exact .inl h2
      · rcases List.mem_cons.1 hy with rfl | hy
        · exact absurd h3.symm hne
        · exact .inr ⟨y, hy, h3⟩
theorem DInv.fin (I : DInv K c n ops B w0 m1 h1 w1 rE rD rh listed M R E D h ps m w tmps ds) (hu : ∀ i, ¬ listed.getD i true = false) : HRel K w0 m rh w ∧ Ext m1 h1 w1 m rh w ∧ ERel m n rE tmps ∧ DRel m rD ds := by
  have hM : ∀ x, ¬ M x := fun x hx => hu _ (I.nl x hx)
  have hR : R = [] := by
    cases hR : R with
    | nil => rfl
    | cons y r => exact absurd (I.rl y (by rw [hR]; simp)) (hu _)
  have hrun := I.run
  subst hR
  rw [aDrw_nil] at hrun
  cases hp : pendsOk h ps with
  | false => rw [hp] at hrun; cases hrun
  | true =>
    rw [hp] at hrun
    cases hrun
    exact ⟨I.H, I.X, ⟨⟨I.size, I.un⟩, fun t => I.flow.j1 t fun x hx => absurd hx (hM x)⟩, I.hD⟩
theorem none_ready (S : Stat ops B) (hsz : listed.size = ops.size) (hr : Region.ready .any ops listed = []) : ∀ i, ¬ listed.getD i true = false := by
  intro i
  induction i using Nat.strongRecOn with
  | _ i ih =>
    intro hi
    have hlt : i < ops.size := by
      rw [← hsz]
      rcases Nat.lt_or_ge i listed.size with h | h
      · exact h
      · simp [Array.getElem?_eq_none h] at hi
    have : i ∈ Region.ready .any ops listed := by
      rw [mem_ready]
      refine ⟨hi, ops[i], Array.getElem?_eq_getElem hlt, fun e he hb => ?_⟩
      have := S.edge i ops[i] (Array.getElem?_eq_getElem hlt) e (by simpa using he) hb
      exact lst_or (by omega) (ih e.on this)
    rw [hr] at this; cases this
theorem draw_walk (k : KOk K) (C : CxOk K c) (S : Stat ops (befs ops.toList 0 0)) (hirr : ∀ i, i < ops.size → bef (befs ops.toList 0 0) i i = false) (hn : n ≤ 65536) (h0 : N0 ≤ h1.n) {ro : Option Nat} (hro : ∀ o ∈ ops.toList, ro = none ∨ ∀ cl, o.op ≠ .defer cl) {fn : FuncId} {kind : CallKind} {cs : List Frame} {kk : List Item} :
    ∀ (fuel t : Nat) (U : List Nat) {listed : Array Bool} {M : Ent → Prop} {R : List (Nat × Oper)} {E : Env} {D : DL} {h : AH} {ps : List Pend} {m : BM} {w : World} {tmps : Array Value} {ds : List Deferred}, listed.size = ops.size →
    DInv K c n ops (befs ops.toList 0 0) w0 m1 h1 w1 rE rD rh listed M R E D h ps m w tmps ds → (∀ i, listed.getD i true = false → i ∈ U) → U.length ≤ fuel →
    ∃ m' w' tmps' ds', Steps K.P (lone (mkF fn kind ro tmps ds (.inRegion ops (Region.linearise.go .any ops fuel t listed []) :: kk)) cs w) (lone (mkF fn kind ro tmps' ds' (.inRegion ops [] :: kk)) cs w') ∧ HRel K w0 m' rh w' ∧ Ext m1 h1 w1 m' rh w' ∧ ERel m' n rE tmps' ∧ DRel m' rD ds'
  | 0, t, U, listed, M, R, E, D, h, ps, m, w, tmps, ds, hsz, I, hU, hl => by
    have hu : ∀ i, ¬ listed.getD i true = false := fun i hi => by
      have := hU i hi
      rw [List.eq_nil_of_length_eq_zero (Nat.le_zero.1 hl)] at this
      cases this
    obtain ⟨a, b, d, e⟩ := I.fin hu
    exact ⟨m, w, tmps, ds, by simp only [Region.linearise.go]; exact .refl _ _, a, b, d, e⟩
  | fuel + 1, t, U, listed, M, R, E, D, h, ps, m, w, tmps, ds, hsz, I, hU, hl => by
    obtain ⟨M, R, E, h, ps, I, hstop, hp⟩ := dinv_adv S hirr hn h0 R I
    simp only [Region.linearise.go]
    change ∃ m' w' tmps' ds', Steps K.P (lone (mkF fn kind ro tmps ds (.inRegion ops (match (Region.ready .any ops listed)[t % (Region.ready .any ops listed).length]? with
      | some i => Region.linearise.go .any ops fuel (t / (Region.ready .any ops listed).length) (listed.setIfInBounds i true) [i]
      | none => [].reverse) :: kk)) cs w) _ ∧ _
    cases hi : (Region.ready .any ops listed)[t % (Region.ready .any ops listed).length]? with
    | none =>
      have hnil : Region.ready .any ops listed = [] := by
        cases hr : Region.ready .any ops listed with
        | nil => rfl
        | cons x xs =>
          rw [hr] at hi
          have hlt : t % (x :: xs).length < (x :: xs).length := Nat.mod_lt _ (by simp)
          simp at hi
          simp at hlt
          omega
      obtain ⟨a, b, d, e⟩ := I.fin (none_ready S hsz hnil)
      exact ⟨m, w, tmps, ds, .refl _ _, a, b, d, e⟩
    | some i =>
      simp only []
      rw [linearise_go_acc, List.reverse_singleton, List.singleton_append]
      obtain ⟨hi0, o, ho, hafter⟩ := mem_ready.1 (List.mem_of_getElem? hi)
      have hafter : ∀ e ∈ o.after.toList, Region.binds .any e = true → listed.getD e.on false = true := fun e he => hafter e (by simpa using he)
      have hnb : ∀ j, listed.getD j true = false → bef (befs ops.toList 0 0) i j = false := fun j hj => by
        cases hb : bef (befs ops.toList 0 0) i j with
        | false => rfl
        | true => exact (lst_not (bef_in I.dn S.edge i o ho hafter j hb) hj).elim
      have hro' : ro = none ∨ ∀ cl, o.op ≠ .defer cl := hro o (by have := Array.getElem?_eq_some_iff.1 ho; rw [← this.2]; simp)
      have hU' : ∀ j, (listed.setIfInBounds i true).getD j true = false → j ∈ U.erase i := fun j hj => by
        obtain ⟨h2, h3⟩ := set_unl hj
        exact (List.mem_erase_of_ne h2).2 (hU j h3)
      have hl' : (U.erase i).length ≤ fuel := by
        rw [List.length_erase_of_mem (hU i hi0)]; omega
      have hsz' : (listed.setIfInBounds i true).size = ops.size := by simpa using hsz
      rcases I.cov i hi0 with ⟨x, hx, rfl⟩ | ⟨y, hy, rfl⟩
      · have ex := (I.ent x hx).op
        rw [ho] at ex; cases ex
        obtain ⟨m', w', tmps', st, I'⟩ := I.take k S hn h0 hp hx hnb hafter hro' (fn := fn) (kind := kind) (cs := cs) (kk := kk) (rest := Region.linearise.go .any ops fuel (t / (Region.ready .any ops listed).length) (listed.setIfInBounds x.i true) [])
        obtain ⟨m2, w2, t2, d2, a1, a2⟩ := draw_walk k C S hirr hn h0 hro fuel (t / (Region.ready .any ops listed).length) (U.erase x.i) hsz' I' hU' hl'
        exact ⟨m2, w2, t2, d2, .head st a1, a2⟩
      · rcases hstop with rfl | ⟨i, oo, r, rfl, hw, he⟩
        · cases hy
        · have heq : y = (i, oo) := by
            rcases List.mem_cons.1 hy with e | hyr
            · exact e
            · have hao := I.ao
              have h2 := hao.1 he y hyr
              rw [hnb i (I.rl _ (List.mem_cons_self ..))] at h2; cases h2
          subst heq
          have eo := I.real _ (List.mem_cons_self ..)
          simp only at eo ho
          rw [ho] at eo; cases eo
          obtain ⟨E', D', h', ps', m', w', tmps', ds', st, I'⟩ := I.act k C S hn h0 hp hw he hnb hafter hro' (fn := fn) (kind := kind) (cs := cs) (kk := kk) (rest := Region.linearise.go .any ops fuel (t / (Region.ready .any ops listed).length) (listed.setIfInBounds i true) [])
          obtain ⟨m2, w2, t2, d2, a1, a2⟩ := draw_walk k C S hirr hn h0 hro fuel (t / (Region.ready .any ops listed).length) (U.erase i) hsz' I' hU' hl'
          exact ⟨m2, w2, t2, d2, st.trans a1, a2⟩
theorem draw_ok (k : KOk K) (C : CxOk K c) (H : HRel K w0 m h w) (hE : ERel m n E tmps) (hD : DRel m D ds) (hn : n ≤ 65536) {ro : Option Nat} (hro : ∀ o ∈ ops.toList, ro = none ∨ ∀ cl, o.op ≠ .defer cl) {d : Drw} (hd : drwOf ops = some d)
    {E' : Env} {D' : DL} {h' : AH} (ha : aDrw K c n ops d.B d.ord E D h [] = .ok E' D' h') (t : Nat) {fn : FuncId} {kind : CallKind} {cs : List Frame} {kk : List Item} :
    ∃ m' w' tmps' ds', Steps K.P (lone (mkF fn kind ro tmps ds (.inRegion ops (Region.schedule (K.P.follows .mixedOrders) ops t) :: kk)) cs w) (lone (mkF fn kind ro tmps' ds' (.inRegion ops [] :: kk)) cs w') ∧ HRel K w0 m' h' w' ∧ Ext m h w m' h' w' ∧ ERel m' n E' tmps' ∧ DRel m' D' ds' := by
  obtain ⟨e1, e2, s1, s2, s3, s4⟩ := drw_ok hd
  rw [e1, e2] at ha
  have S : Stat ops (befs ops.toList 0 0) := ⟨s1, s2⟩
  have hirr : ∀ i, i < ops.size → bef (befs ops.toList 0 0) i i = false := fun i hi => by
    cases hb : bef (befs ops.toList 0 0) i i with
    | false => rfl
    | true =>
      have hdn : Down ops (fun j => j < i) := fun j o hj ho e he hb => Nat.lt_trans (S.edge j o ho e he hb) hj
      exact absurd (bef_in hdn S.edge i ops[i] (Array.getElem?_eq_getElem hi) (fun e he hb => S.edge i _ (Array.getElem?_eq_getElem hi) e he hb) i hb) (Nat.lt_irrefl i)
  have un : ∀ i, (Array.replicate ops.size false).getD i true = false ↔ i < ops.size := fun i => by
    by_cases hi : i < ops.size <;> simp [hi]
  have hreal : ∀ y ∈ ordOf ops (befs ops.toList 0 0), ops[y.1]? = some y.2 := fun y hy => (ordOf_mem _ _ _).1 hy
  have I : DInv K c n ops (befs ops.toList 0 0) w0 m h w E' D' h' (Array.replicate ops.size false) (fun _ => False) (ordOf ops (befs ops.toList 0 0)) E D h [] m w tmps ds := by
    refine ⟨H, .refl m h w, hE.1.1, hE.1.2, hD, fun _ h => h.elim, fun _ h => h.elim, fun _ _ h => h.elim, ⟨fun t _ => hE.2 t, fun _ h => h.elim, fun _ h => h.elim, fun _ h => h.elim⟩, fun _ h => h.elim, s3, s4, hreal, fun y hy => ?_, fun i hi => ?_, fun i o hi => ?_, ha⟩
    · exact (un y.1).2 (Array.getElem?_eq_some_iff.1 (hreal y hy)).1
    · have hlt := (un i).1 hi
      exact .inr ⟨(i, ops[i]), (ordOf_mem _ _ _).2 (Array.getElem?_eq_getElem hlt), rfl⟩
    · by_cases hlt : i < ops.size <;> simp [hlt] at hi
  have hs : Region.schedule (K.P.follows .mixedOrders) ops t = Region.linearise.go .any ops ops.size t (Array.replicate ops.size false) [] := by
    rw [k.mix]; rfl
  rw [hs]
  exact draw_walk k C S hirr hn H.n0 hro ops.size t (List.range ops.size) (by simp) I (fun i hi => List.mem_range.2 ((un i).1 hi)) (by simp)
end
end Go.Proofs.YthahmfeaekddnaaGreatDoor.Ru
