/- The runner: a region whose order is drawn: what flows. -/
import Derived.Test.YthahmfeaekddnaaGreatDoorRuT
namespace Go.Proofs.YthahmfeaekddnaaGreatDoor.Ru
open Go Go.RowKit

theorem nbeq {a b : Nat} (h : Nat.beq a b = true) : a = b := Nat.eq_of_beq_eq_true h
theorem ieq_ok {a b : Int} (h : ieq a b = true) : a = b := by
  cases a <;> cases b <;> simp only [ieq] at h
  · rw [nbeq h]
  · cases h
  · cases h
  · rw [nbeq h]
theorem veq_ok : ∀ (n : Nat) (a b : Value), veq n a b = true → a = b
  | 0, _, _, h => by simp [veq] at h
  | n + 1, a, b, h => by
    have hs : ∀ l r, veq.veqs n l r = true → l = r := by
      intro l
      induction l with
      | nil => intro r h; cases r with
        | nil => rfl
        | cons => simp [veq.veqs] at h
      | cons a l ih => intro r h; cases r with
        | nil => simp [veq.veqs] at h
        | cons b r =>
          simp only [veq.veqs, Bool.and_eq_true] at h
          rw [veq_ok n a b h.1, ih r h.2]
    have ha : ∀ x y : Array Value, veq.veqs n x.toList y.toList = true → x = y := fun x y h => Array.toList_inj.1 (hs _ _ h)
    unfold veq at h
    split at h
    all_goals first | rfl | (cases h; done) | skip
    · simpa using h
    · simp only [Bool.and_eq_true] at h; rw [kindNo_inj (nbeq h.1), ieq_ok h.2]
    · simp only [Bool.and_eq_true, decide_eq_true_eq] at h
      obtain ⟨h1, h2⟩ := h
      subst h1
      rw [nbeq h2]
    · rename_i x y
      have : x.data = y.data := Array.toList_inj.1 (by simpa using h)
      cases x; cases y; simp_all
    · simp only [Bool.and_eq_true] at h; rw [nbeq h.1, nbeq h.2]
    · simp only [Bool.and_eq_true] at h; rw [nbeq h.1, nbeq h.2]
    · simp only [Bool.and_eq_true] at h; rw [nbeq h.1.1.1, nbeq h.1.1.2, nbeq h.1.2, nbeq h.2]
    · rw [nbeq h]
    · simp only [Bool.and_eq_true] at h; rw [nbeq h.1.1, ha _ _ h.1.2, ha _ _ h.2]
    · rw [ha _ _ h]
    · rw [ha _ _ h]
noncomputable def putE (d : Option Tmp) (E : Env) (v : Value) : Env := match d with
  | some t => setFV 24 E t v
  | none => E
theorem okP_put {d : Option Tmp} {n : Nat} {E : Env} {v : Value} {D : DL} {h : AH} {E' : Env} {D' : DL} {h' : AH} (hk : okP d n E v D h = .ok E' D' h') : (∀ t, d = some t → t < n) ∧ E' = putE d E v ∧ D' = D ∧ h' = h ∧ ∀ E2 D2 h2, okP d n E2 v D2 h2 = .ok (putE d E2 v) D2 h2 := by
  cases d with
  | none => cases hk; exact ⟨fun _ h => (nomatch h), rfl, rfl, rfl, fun _ _ _ => rfl⟩
  | some t =>
    change @Bool.rec (fun _ => SR) .bad (.ok (setFV 24 E t v) D h) (Nat.blt t n) = _ at hk
    cases hb : Nat.blt t n with
    | false => rw [hb] at hk; cases hk
    | true =>
      rw [hb] at hk; cases hk
      refine ⟨fun _ h => (by cases h; exact blt_of hb), rfl, rfl, rfl, fun E2 D2 h2 => ?_⟩
      change @Bool.rec (fun _ => SR) .bad (.ok (setFV 24 E2 t v) D2 h2) (Nat.blt t n) = _
      rw [hb]; rfl
theorem aOne_put {q : Q} {d : Option Tmp} {n : Nat} {E : Env} {D : DL} {h : AH} {E' : Env} {D' : DL} {h' : AH} (hk : aOneK q d n E D h = .ok E' D' h') : ∃ v, (∀ t, d = some t → t < n) ∧ E' = putE d E v ∧ ∀ E2, aOneK q d n E2 D h = .ok (putE d E2 v) D' h' := by
  cases q with
  | bad => cases hk
  | pure v =>
    obtain ⟨a, b, e1, e2, e⟩ := okP_put (show okP d n E v D h = _ from hk)
    subst e1 e2
    exact ⟨v, a, b, fun E2 => e E2 _ _⟩
  | read f =>
    change @Option.rec Value (fun _ => SR) .bad (fun v => okP d n E v D h) (f h) = _ at hk
    cases hf : f h with
    | none => rw [hf] at hk; cases hk
    | some v =>
      rw [hf] at hk
      obtain ⟨a, b, e1, e2, e⟩ := okP_put (show okP d n E v D h = _ from hk)
      subst e1 e2
      refine ⟨v, a, b, fun E2 => ?_⟩
      change @Option.rec Value (fun _ => SR) .bad (fun v => okP d n E2 v D' h') (f h') = _
      rw [hf]; exact e E2 _ _
  | alloc b mk =>
    change @Bool.rec (fun _ => SR) .bad (okP d n E (mk h.n) D ⟨setB h.t h.n (some b), h.n + 1⟩) (Nat.blt h.n 16000000) = _ at hk
    cases hb : Nat.blt h.n 16000000 with
    | false => rw [hb] at hk; cases hk
    | true =>
      rw [hb] at hk
      obtain ⟨a, b', e1, e2, e⟩ := okP_put (show okP d n E (mk h.n) D _ = _ from hk)
      subst e1 e2
      refine ⟨_, a, b', fun E2 => ?_⟩
      change @Bool.rec (fun _ => SR) .bad (okP d n E2 (mk h.n) D' ⟨setB h.t h.n (some b), h.n + 1⟩) (Nat.blt h.n 16000000) = _
      rw [hb]; exact e E2 _ _
  | eff f =>
    change @R.rec (fun _ => SR) .bad (fun v h => okP d n E v D h) (f h) = _ at hk
    cases hf : f h with
    | bad => rw [hf] at hk; cases hk
    | ok v h1 =>
      rw [hf] at hk
      obtain ⟨a, b, e1, e2, e⟩ := okP_put (show okP d n E v D h1 = _ from hk)
      subst e1 e2
      refine ⟨v, a, b, fun E2 => ?_⟩
      change @R.rec (fun _ => SR) .bad (fun v h => okP d n E2 v D' h) (f h) = _
      rw [hf]; exact e E2 _ _
  | defer f l =>
    obtain ⟨a, b, e1, e2, e⟩ := okP_put (show okP d n E undef ((f, l) :: D) h = _ from hk)
    subst e1 e2
    exact ⟨undef, a, b, fun E2 => e E2 _ _⟩
theorem aOne_non {q : Q} {d : Option Tmp} {n : Nat} {E : Env} {D : DL} {h : AH} {E' : Env} {D' : DL} {h' : AH} (hq : actsQ q = false) (hk : aOneK q d n E D h = .ok E' D' h') :
    ∃ v, (∀ t, d = some t → t < n) ∧ E' = putE d E v ∧ D' = D ∧ ((q = .pure v ∧ h' = h) ∨ (∃ f, q = .read f ∧ f h = some v ∧ h' = h) ∨ (∃ b mk, q = .alloc b mk ∧ v = mk h.n ∧ h' = ⟨setB h.t h.n (some b), h.n + 1⟩ ∧ h.n < 16000000)) := by
  cases q with
  | bad => cases hk
  | pure v =>
    obtain ⟨a, b, e1, e2, e⟩ := okP_put (show okP d n E v D h = _ from hk)
    exact ⟨v, a, b, e1, .inl ⟨rfl, e2⟩⟩
  | read f =>
    change @Option.rec Value (fun _ => SR) .bad (fun v => okP d n E v D h) (f h) = _ at hk
    cases hf : f h with
    | none => rw [hf] at hk; cases hk
    | some v =>
      rw [hf] at hk
      obtain ⟨a, b, e1, e2, e⟩ := okP_put (show okP d n E v D h = _ from hk)
      exact ⟨v, a, b, e1, .inr (.inl ⟨f, rfl, hf, e2⟩)⟩
  | alloc b mk =>
    change @Bool.rec (fun _ => SR) .bad (okP d n E (mk h.n) D ⟨setB h.t h.n (some b), h.n + 1⟩) (Nat.blt h.n 16000000) = _ at hk
    cases hb : Nat.blt h.n 16000000 with
    | false => rw [hb] at hk; cases hk
    | true =>
      rw [hb] at hk
      obtain ⟨a, b', e1, e2, e⟩ := okP_put (show okP d n E (mk h.n) D _ = _ from hk)
      exact ⟨_, a, b', e1, .inr (.inr ⟨b, mk, rfl, rfl, e2, blt_of hb⟩)⟩
  | eff f => cases hq
  | defer f l => cases hq
theorem putE_self {t : Tmp} {E : Env} {v : Value} (h : t < 16000001) : getV (putE (some t) E v) t = v := by
  change getV (setFV 24 E t v) t = v
  rw [getV_set _ _ _ _ h, if_pos rfl]
theorem putE_ne {d : Option Tmp} {t : Tmp} {E : Env} {v : Value} (hd : ∀ t, d = some t → t < 16000001) (h : d ≠ some t) : getV (putE d E v) t = getV E t := by
  cases d with
  | none => rfl
  | some u =>
    change getV (setFV 24 E u v) t = _
    rw [getV_set _ _ _ _ (hd u rfl), if_neg (fun e => h (by rw [e]))]
theorem putT_self {t : Tmp} {tmps : Array Value} {v : Value} (h : t < tmps.size) : (putT (some t) tmps v).getD t undef = v := by
  simp [putT, Array.getD, h]
theorem putT_ne {d : Option Tmp} {t : Tmp} {tmps : Array Value} {v : Value} (h : d ≠ some t) : (putT d tmps v).getD t undef = tmps.getD t undef := by
  cases d with
  | none => rfl
  | some u =>
    simp only [putT, Array.getD_eq_getD_getElem?]
    rw [Array.getElem?_setIfInBounds_ne (fun e => h (by rw [e]))]
structure Ent where
  i : Nat
  o : Oper
  E : Env
  w : Bool
  v : Value
  a : Nat
structure Stat (ops : Array Oper) (B : Nat) : Prop where
  edge : ∀ i (o : Oper), ops[i]? = some o → ∀ e ∈ o.after.toList, Region.binds .any e = true → e.on < i
  clash : ∀ i j (o o' : Oper), ops[i]? = some o → ops[j]? = some o' → i < j → clash ops o o' = true → bef B j i = true
theorem Stat.or {ops : Array Oper} {B : Nat} (S : Stat ops B) {i j : Nat} {o o' : Oper} (hi : ops[i]? = some o) (hj : ops[j]? = some o') (hne : i ≠ j) {t : Tmp} (hw : o.dst = some t) (hr : t ∈ readsOf ops o' ∨ o'.dst = some t) : bef B i j = true ∨ bef B j i = true := by
  rcases Nat.lt_or_gt_of_ne hne with h | h
  · right
    refine S.clash i j o o' hi hj h ?_
    unfold Ru.clash
    rw [hw]
    rcases hr with hr | hr <;> simp [hr]
  · left
    refine S.clash j i o' o hj hi h ?_
    unfold Ru.clash
    rw [hw]
    rcases hr with hr | hr <;> simp [hr]
/-- What flows between operations: M lacks still; E is what the temporaries are in the end. -/
structure Flow (ops : Array Oper) (B : Nat) (M : Ent → Prop) (m : BM) (E : Env) (tmps : Array Value) : Prop where
  j1 : ∀ t, (∀ x, M x → x.o.dst ≠ some t) → VRel m (getV E t) (tmps.getD t undef)
  j2 : ∀ x, M x → ∀ t ∈ readsOf ops x.o, (∀ y, M y → bef B x.i y.i = true → y.o.dst ≠ some t) → VRel m (getV x.E t) (tmps.getD t undef)
  c1 : ∀ x, M x → ∀ t, x.o.dst = some t → getV E t = x.v ∨ ∃ y, M y ∧ y.o.dst = some t ∧ bef B y.i x.i = true
  c2 : ∀ x, M x → ∀ t ∈ readsOf ops x.o, ∀ y, M y → bef B x.i y.i = true → y.o.dst = some t → getV x.E t = y.v ∨ ∃ z, M z ∧ bef B x.i z.i = true ∧ z.o.dst = some t ∧ bef B z.i y.i = true
section
variable {ops : Array Oper} {B : Nat} {M : Ent → Prop} {m m' : BM} {E : Env} {tmps : Array Value} {n : Nat}
theorem Flow.take (S : Stat ops B) (F : Flow ops B M m E tmps) (hop : ∀ y, M y → ops[y.i]? = some y.o) {x : Ent} (hx : M x) (hr : ∀ y, M y → bef B x.i y.i = false) (hm : MLe m m') {v' : Value} (hv : VRel m' x.v v') (hd : ∀ t, x.o.dst = some t → t < tmps.size) :
    Flow ops B (fun y => M y ∧ y.i ≠ x.i) m' E (putT x.o.dst tmps v') := by
  have no : ∀ {y : Ent}, M y → bef B x.i y.i = true → False := fun hy h => by rw [hr _ hy] at h; cases h
  have ne : ∀ {y : Ent}, M y → bef B y.i x.i = true → y.i ≠ x.i := fun hy h e => by
    rw [e] at h; exact no hx h
  have same : ∀ {y : Ent}, M y → y.i = x.i → y.o = x.o := fun hy e => by
    have h1 := hop _ hy; rw [e, hop _ hx] at h1; exact (Option.some.inj h1).symm
  refine ⟨fun t ht => ?_, fun y hy t hrd ht => ?_, fun y hy t hw => ?_, fun y hy t hrd z hz hb hw => ?_⟩
  · by_cases hw : x.o.dst = some t
    · rw [hw, putT_self (hd t hw)]
      rcases F.c1 x hx t hw with h1 | ⟨y, h1, h2, h3⟩
      · rw [h1]; exact hv
      · exact absurd h2 (ht y ⟨h1, ne h1 h3⟩)
    · rw [putT_ne hw]
      refine (F.j1 t fun y hy hw' => ?_).mono hm
      by_cases e : y.i = x.i
      · rw [same hy e] at hw'; exact hw hw'
      · exact ht y ⟨hy, e⟩ hw'
  · by_cases hw : x.o.dst = some t
    · rw [hw, putT_self (hd t hw)]
      rcases S.or (hop x hx) (hop y hy.1) (fun e => hy.2 e.symm) hw (.inl hrd) with h1 | h1
      · exact (no hy.1 h1).elim
      · rcases F.c2 y hy.1 t hrd x hx h1 hw with h2 | ⟨z, h2, h3, h4, h5⟩
        · rw [h2]; exact hv
        · exact absurd h4 (ht z ⟨h2, ne h2 h5⟩ h3)
    · rw [putT_ne hw]
      refine (F.j2 y hy.1 t hrd fun z hz hb hw' => ?_).mono hm
      by_cases e : z.i = x.i
      · rw [same hz e] at hw'; exact hw hw'
      · exact ht z ⟨hz, e⟩ hb hw'
  · rcases F.c1 y hy.1 t hw with h1 | ⟨z, h1, h2, h3⟩
    · exact .inl h1
    · refine .inr ⟨z, ⟨h1, fun e => ?_⟩, h2, h3⟩
      rw [e] at h3; exact no hy.1 h3
  · rcases F.c2 y hy.1 t hrd z hz.1 hb hw with h1 | ⟨u, h1, h2, h3, h4⟩
    · exact .inl h1
    · refine .inr ⟨u, ⟨h1, fun e => ?_⟩, h2, h3, h4⟩
      rw [e] at h4; exact no hz.1 h4
theorem Flow.add (S : Stat ops B) (F : Flow ops B M m E tmps) (hop : ∀ y, M y → ops[y.i]? = some y.o) {e : Ent} (he : ops[e.i]? = some e.o) (heE : e.E = E) (hl : ∀ y, M y → y.i ≠ e.i ∧ bef B y.i e.i = false) (hirr : bef B e.i e.i = false) (hd : ∀ t, e.o.dst = some t → t < 16000001) :
    Flow ops B (fun y => M y ∨ y = e) m (putE e.o.dst E e.v) tmps := by
  have no : ∀ {y : Ent}, M y → bef B y.i e.i = true → False := fun hy h => by rw [(hl _ hy).2] at h; cases h
  refine ⟨fun t ht => ?_, fun x hx t hrd ht => ?_, fun x hx t hw => ?_, fun x hx t hrd y hy hb hw => ?_⟩
  · rw [putE_ne hd (ht e (.inr rfl))]
    exact F.j1 t fun y hy => ht y (.inl hy)
  · rcases hx with hx | rfl
    · exact F.j2 x hx t hrd fun y hy => ht y (.inl hy)
    · rw [heE]
      refine F.j1 t fun y hy hw => ?_
      rcases S.or (hop y hy) he (hl y hy).1 hw (.inl hrd) with h1 | h1
      · exact no hy h1
      · exact ht y (.inl hy) h1 hw
  · rcases hx with hx | rfl
    · by_cases hw' : e.o.dst = some t
      · right
        rcases S.or (hop x hx) he (hl x hx).1 hw (.inr hw') with h1 | h1
        · exact (no hx h1).elim
        · exact ⟨e, .inr rfl, hw', h1⟩
      · rw [putE_ne hd hw']
        rcases F.c1 x hx t hw with h1 | ⟨y, h1, h2⟩
        · exact .inl h1
        · exact .inr ⟨y, .inl h1, h2⟩
    · left; rw [hw]; exact putE_self (hd t hw)
  · rcases hx with hx | rfl
    · rcases hy with hy | rfl
      · rcases F.c2 x hx t hrd y hy hb hw with h1 | ⟨z, h1, h2⟩
        · exact .inl h1
        · exact .inr ⟨z, .inl h1, h2⟩
      · exact (no hx hb).elim
    · rcases hy with hy | rfl
      · rw [heE]
        rcases F.c1 y hy t hw with h1 | ⟨z, h1, h2, h3⟩
        · exact .inl h1
        · right
          rcases S.or (hop z h1) he (hl z h1).1 h2 (.inl hrd) with h4 | h4
          · exact (no h1 h4).elim
          · exact ⟨z, .inl h1, h4, h2, h3⟩
      · rw [hirr] at hb; cases hb
theorem Flow.act (S : Stat ops B) (F : Flow ops B M m E tmps) (hop : ∀ y, M y → ops[y.i]? = some y.o) {i : Nat} {o : Oper} (ho : ops[i]? = some o) (hl : ∀ y, M y → y.i ≠ i ∧ bef B y.i i = false ∧ bef B i y.i = false) (hm : MLe m m') {v v' : Value} (hv : ∀ t, o.dst = some t → VRel m' v v')
    (hd : ∀ t, o.dst = some t → t < 16000001) (hds : ∀ t, o.dst = some t → t < tmps.size) : Flow ops B M m' (putE o.dst E v) (putT o.dst tmps v') := by
  have no : ∀ {y : Ent}, M y → bef B y.i i = true ∨ bef B i y.i = true → False := fun hy h => by
    rcases h with h | h
    · rw [(hl _ hy).2.1] at h; cases h
    · rw [(hl _ hy).2.2] at h; cases h
  refine ⟨fun t ht => ?_, fun x hx t hrd ht => ?_, fun x hx t hw => ?_, F.c2⟩
  · by_cases hw : o.dst = some t
    · rw [hw, putT_self (hds t hw), putE_self (hd t hw)]; exact hv t hw
    · rw [putE_ne hd hw, putT_ne hw]; exact (F.j1 t ht).mono hm
  · by_cases hw : o.dst = some t
    · exact (no hx (S.or ho (hop x hx) (fun e => (hl x hx).1 e.symm) hw (.inl hrd)).symm).elim
    · rw [putT_ne hw]; exact (F.j2 x hx t hrd ht).mono hm
  · by_cases hw' : o.dst = some t
    · exact (no hx (S.or (hop x hx) ho (hl x hx).1 hw (.inr hw'))).elim
    · rw [putE_ne hd hw']; exact F.c1 x hx t hw
end
end Go.Proofs.YthahmfeaekddnaaGreatDoor.Ru
