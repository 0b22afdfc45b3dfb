/- The runner: a region whose order is drawn: what flows; The runner: a region whose order is drawn, walked; The runner: a region whose order is drawn. -/
import Derived.Test.YtdkebebingchpaaGreatDoorRunE

/- The runner: a region whose order is drawn: what flows. -/
namespace Go.Proofs.YtdkebebingchpaaGreatDoor.Ru
open Go Go.RowKit

theorem nbeq {a b : Nat} (h : Nat.beq a b = true) : a = b := Nat.eq_of_beq_eq_true h
theorem ieq_ok {a b : Int} (h : ieq a b = true) : a = b := by
  cases a <;> cases b <;> simp only [ieq] at h
  · rw [nbeq h]
  · cases h
  · cases h
  · rw [nbeq h]
theorem veq_ok : ∀ (n : Nat) (a b : Value), veq n a b = true → a = b
  | 0, _, _, h => by simp [veq] at h
  | n + 1, a, b, h => by
    have hs : ∀ l r, veq.veqs n l r = true → l = r := by
      intro l
      induction l with
      | nil => intro r h; cases r with
        | nil => rfl
        | cons => simp [veq.veqs] at h
      | cons a l ih => intro r h; cases r with
        | nil => simp [veq.veqs] at h
        | cons b r =>
          simp only [veq.veqs, Bool.and_eq_true] at h
          rw [veq_ok n a b h.1, ih r h.2]
    have ha : ∀ x y : Array Value, veq.veqs n x.toList y.toList = true → x = y := fun x y h => Array.toList_inj.1 (hs _ _ h)
    unfold veq at h
    split at h
    all_goals first | rfl | (cases h; done) | skip
    · simpa using h
    · simp only [Bool.and_eq_true] at h; rw [kindNo_inj (nbeq h.1), ieq_ok h.2]
    · simp only [Bool.and_eq_true, decide_eq_true_eq] at h
      obtain ⟨h1, h2⟩ := h
      subst h1
      rw [nbeq h2]
    · rename_i x y
      have : x.data = y.data := Array.toList_inj.1 (by simpa using h)
      cases x; cases y; simp_all
    · simp only [Bool.and_eq_true] at h; rw [nbeq h.1, nbeq h.2]
    · simp only [Bool.and_eq_true] at h; rw [nbeq h.1, nbeq h.2]
    · simp only [Bool.and_eq_true] at h; rw [nbeq h.1.1.1, nbeq h.1.1.2, nbeq h.1.2, nbeq h.2]
    · rw [nbeq h]
    · simp only [Bool.and_eq_true] at h; rw [nbeq h.1.1, ha _ _ h.1.2, ha _ _ h.2]
    · rw [ha _ _ h]
    · rw [ha _ _ h]
noncomputable def putE (d : Option Tmp) (E : Env) (v : Value) : Env := match d with
  | some t => setFV 24 E t v
  | none => E
theorem okP_put {d : Option Tmp} {n : Nat} {E : Env} {v : Value} {D : DL} {h : AH} {E' : Env} {D' : DL} {h' : AH} (hk : okP d n E v D h = .ok E' D' h') : (∀ t, d = some t → t < n) ∧ E' = putE d E v ∧ D' = D ∧ h' = h ∧ ∀ E2 D2 h2, okP d n E2 v D2 h2 = .ok (putE d E2 v) D2 h2 := by
  cases d with
  | none => cases hk; exact ⟨fun _ h => (nomatch h), rfl, rfl, rfl, fun _ _ _ => rfl⟩
  | some t =>
    change @Bool.rec (fun _ => SR) .bad (.ok (setFV 24 E t v) D h) (Nat.blt t n) = _ at hk
    cases hb : Nat.blt t n with
    | false => rw [hb] at hk; cases hk
    | true =>
      rw [hb] at hk; cases hk
      refine ⟨fun _ h => (by cases h; exact blt_of hb), rfl, rfl, rfl, fun E2 D2 h2 => ?_⟩
      change @Bool.rec (fun _ => SR) .bad (.ok (setFV 24 E2 t v) D2 h2) (Nat.blt t n) = _
      rw [hb]; rfl
theorem aOne_put {q : Q} {d : Option Tmp} {n : Nat} {E : Env} {D : DL} {h : AH} {E' : Env} {D' : DL} {h' : AH} (hk : aOneK q d n E D h = .ok E' D' h') : ∃ v, (∀ t, d = some t → t < n) ∧ E' = putE d E v ∧ ∀ E2, aOneK q d n E2 D h = .ok (putE d E2 v) D' h' := by
  cases q with
  | bad => cases hk
  | pure v =>
    obtain ⟨a, b, e1, e2, e⟩ := okP_put (show okP d n E v D h = _ from hk)
    subst e1 e2
    exact ⟨v, a, b, fun E2 => e E2 _ _⟩
  | read f =>
    change @Option.rec Value (fun _ => SR) .bad (fun v => okP d n E v D h) (f h) = _ at hk
    cases hf : f h with
    | none => rw [hf] at hk; cases hk
    | some v =>
      rw [hf] at hk
      obtain ⟨a, b, e1, e2, e⟩ := okP_put (show okP d n E v D h = _ from hk)
      subst e1 e2
      refine ⟨v, a, b, fun E2 => ?_⟩
      change @Option.rec Value (fun _ => SR) .bad (fun v => okP d n E2 v D' h') (f h') = _
      rw [hf]; exact e E2 _ _
  | alloc b mk =>
    change @Bool.rec (fun _ => SR) .bad (okP d n E (mk h.n) D ⟨setB h.t h.n (some b), h.n + 1⟩) (Nat.blt h.n 16000000) = _ at hk
    cases hb : Nat.blt h.n 16000000 with
    | false => rw [hb] at hk; cases hk
    | true =>
      rw [hb] at hk
      obtain ⟨a, b', e1, e2, e⟩ := okP_put (show okP d n E (mk h.n) D _ = _ from hk)
      subst e1 e2
      refine ⟨_, a, b', fun E2 => ?_⟩
      change @Bool.rec (fun _ => SR) .bad (okP d n E2 (mk h.n) D' ⟨setB h.t h.n (some b), h.n + 1⟩) (Nat.blt h.n 16000000) = _
      rw [hb]; exact e E2 _ _
  | eff f =>
    change @R.rec (fun _ => SR) .bad (fun v h => okP d n E v D h) (f h) = _ at hk
    cases hf : f h with
    | bad => rw [hf] at hk; cases hk
    | ok v h1 =>
      rw [hf] at hk
      obtain ⟨a, b, e1, e2, e⟩ := okP_put (show okP d n E v D h1 = _ from hk)
      subst e1 e2
      refine ⟨v, a, b, fun E2 => ?_⟩
      change @R.rec (fun _ => SR) .bad (fun v h => okP d n E2 v D' h) (f h) = _
      rw [hf]; exact e E2 _ _
  | defer f l =>
    obtain ⟨a, b, e1, e2, e⟩ := okP_put (show okP d n E undef ((f, l) :: D) h = _ from hk)
    subst e1 e2
    exact ⟨undef, a, b, fun E2 => e E2 _ _⟩
theorem aOne_non {q : Q} {d : Option Tmp} {n : Nat} {E : Env} {D : DL} {h : AH} {E' : Env} {D' : DL} {h' : AH} (hq : actsQ q = false) (hk : aOneK q d n E D h = .ok E' D' h') :
    ∃ v, (∀ t, d = some t → t < n) ∧ E' = putE d E v ∧ D' = D ∧ ((q = .pure v ∧ h' = h) ∨ (∃ f, q = .read f ∧ f h = some v ∧ h' = h) ∨ (∃ b mk, q = .alloc b mk ∧ v = mk h.n ∧ h' = ⟨setB h.t h.n (some b), h.n + 1⟩ ∧ h.n < 16000000)) := by
  cases q with
  | bad => cases hk
  | pure v =>
    obtain ⟨a, b, e1, e2, e⟩ := okP_put (show okP d n E v D h = _ from hk)
    exact ⟨v, a, b, e1, .inl ⟨rfl, e2⟩⟩
  | read f =>
    change @Option.rec Value (fun _ => SR) .bad (fun v => okP d n E v D h) (f h) = _ at hk
    cases hf : f h with
    | none => rw [hf] at hk; cases hk
    | some v =>
      rw [hf] at hk
      obtain ⟨a, b, e1, e2, e⟩ := okP_put (show okP d n E v D h = _ from hk)
      exact ⟨v, a, b, e1, .inr (.inl ⟨f, rfl, hf, e2⟩)⟩
  | alloc b mk =>
    change @Bool.rec (fun _ => SR) .bad (okP d n E (mk h.n) D ⟨setB h.t h.n (some b), h.n + 1⟩) (Nat.blt h.n 16000000) = _ at hk
    cases hb : Nat.blt h.n 16000000 with
    | false => rw [hb] at hk; cases hk
    | true =>
      rw [hb] at hk
      obtain ⟨a, b', e1, e2, e⟩ := okP_put (show okP d n E (mk h.n) D _ = _ from hk)
      exact ⟨_, a, b', e1, .inr (.inr ⟨b, mk, rfl, rfl, e2, blt_of hb⟩)⟩
  | eff f => cases hq
  | defer f l => cases hq
theorem putE_self {t : Tmp} {E : Env} {v : Value} (h : t < 16000001) : getV (putE (some t) E v) t = v := by
  change getV (setFV 24 E t v) t = v
  rw [getV_set _ _ _ _ h, if_pos rfl]
theorem putE_ne {d : Option Tmp} {t : Tmp} {E : Env} {v : Value} (hd : ∀ t, d = some t → t < 16000001) (h : d ≠ some t) : getV (putE d E v) t = getV E t := by
  cases d with
  | none => rfl
  | some u =>
    change getV (setFV 24 E u v) t = _
    rw [getV_set _ _ _ _ (hd u rfl), if_neg (fun e => h (by rw [e]))]
theorem putT_self {t : Tmp} {tmps : Array Value} {v : Value} (h : t < tmps.size) : (putT (some t) tmps v).getD t undef = v := by
  simp [putT, Array.getD, h]
theorem putT_ne {d : Option Tmp} {t : Tmp} {tmps : Array Value} {v : Value} (h : d ≠ some t) : (putT d tmps v).getD t undef = tmps.getD t undef := by
  cases d with
  | none => rfl
  | some u =>
    simp only [putT, Array.getD_eq_getD_getElem?]
    rw [Array.getElem?_setIfInBounds_ne (fun e => h (by rw [e]))]
structure Ent where
  i : Nat
  o : Oper
  E : Env
  w : Bool
  v : Value
  a : Nat
structure Stat (ops : Array Oper) (B : Nat) : Prop where
  edge : ∀ i (o : Oper), ops[i]? = some o → ∀ e ∈ o.after.toList, Region.binds .any e = true → e.on < i
  clash : ∀ i j (o o' : Oper), ops[i]? = some o → ops[j]? = some o' → i < j → clash ops o o' = true → bef B j i = true
theorem Stat.or {ops : Array Oper} {B : Nat} (S : Stat ops B) {i j : Nat} {o o' : Oper} (hi : ops[i]? = some o) (hj : ops[j]? = some o') (hne : i ≠ j) {t : Tmp} (hw : o.dst = some t) (hr : t ∈ readsOf ops o' ∨ o'.dst = some t) : bef B i j = true ∨ bef B j i = true := by
  rcases Nat.lt_or_gt_of_ne hne with h | h
  · right
    refine S.clash i j o o' hi hj h ?_
    unfold Ru.clash
    rw [hw]
    rcases hr with hr | hr <;> simp [hr]
  · left
    refine S.clash j i o' o hj hi h ?_
    unfold Ru.clash
    rw [hw]
    rcases hr with hr | hr <;> simp [hr]
/-- What flows between operations: M lacks still; E is what the temporaries are in the end. -/
structure Flow (ops : Array Oper) (B : Nat) (M : Ent → Prop) (m : BM) (E : Env) (tmps : Array Value) : Prop where
  j1 : ∀ t, (∀ x, M x → x.o.dst ≠ some t) → VRel m (getV E t) (tmps.getD t undef)
  j2 : ∀ x, M x → ∀ t ∈ readsOf ops x.o, (∀ y, M y → bef B x.i y.i = true → y.o.dst ≠ some t) → VRel m (getV x.E t) (tmps.getD t undef)
  c1 : ∀ x, M x → ∀ t, x.o.dst = some t → getV E t = x.v ∨ ∃ y, M y ∧ y.o.dst = some t ∧ bef B y.i x.i = true
  c2 : ∀ x, M x → ∀ t ∈ readsOf ops x.o, ∀ y, M y → bef B x.i y.i = true → y.o.dst = some t → getV x.E t = y.v ∨ ∃ z, M z ∧ bef B x.i z.i = true ∧ z.o.dst = some t ∧ bef B z.i y.i = true
section
variable {ops : Array Oper} {B : Nat} {M : Ent → Prop} {m m' : BM} {E : Env} {tmps : Array Value} {n : Nat}
theorem Flow.take (S : Stat ops B) (F : Flow ops B M m E tmps) (hop : ∀ y, M y → ops[y.i]? = some y.o) {x : Ent} (hx : M x) (hr : ∀ y, M y → bef B x.i y.i = false) (hm : MLe m m') {v' : Value} (hv : VRel m' x.v v') (hd : ∀ t, x.o.dst = some t → t < tmps.size) :
    Flow ops B (fun y => M y ∧ y.i ≠ x.i) m' E (putT x.o.dst tmps v') := by
  have no : ∀ {y : Ent}, M y → bef B x.i y.i = true → False := fun hy h => by rw [hr _ hy] at h; cases h
  have ne : ∀ {y : Ent}, M y → bef B y.i x.i = true → y.i ≠ x.i := fun hy h e => by
    rw [e] at h; exact no hx h
  have same : ∀ {y : Ent}, M y → y.i = x.i → y.o = x.o := fun hy e => by
    have h1 := hop _ hy; rw [e, hop _ hx] at h1; exact (Option.some.inj h1).symm
  refine ⟨fun t ht => ?_, fun y hy t hrd ht => ?_, fun y hy t hw => ?_, fun y hy t hrd z hz hb hw => ?_⟩
  · by_cases hw : x.o.dst = some t
    · rw [hw, putT_self (hd t hw)]
      rcases F.c1 x hx t hw with h1 | ⟨y, h1, h2, h3⟩
      · rw [h1]; exact hv
      · exact absurd h2 (ht y ⟨h1, ne h1 h3⟩)
    · rw [putT_ne hw]
      refine (F.j1 t fun y hy hw' => ?_).mono hm
      by_cases e : y.i = x.i
      · rw [same hy e] at hw'; exact hw hw'
      · exact ht y ⟨hy, e⟩ hw'
  · by_cases hw : x.o.dst = some t
    · rw [hw, putT_self (hd t hw)]
      rcases S.or (hop x hx) (hop y hy.1) (fun e => hy.2 e.symm) hw (.inl hrd) with h1 | h1
      · exact (no hy.1 h1).elim
      · rcases F.c2 y hy.1 t hrd x hx h1 hw with h2 | ⟨z, h2, h3, h4, h5⟩
        · rw [h2]; exact hv
        · exact absurd h4 (ht z ⟨h2, ne h2 h5⟩ h3)
    · rw [putT_ne hw]
      refine (F.j2 y hy.1 t hrd fun z hz hb hw' => ?_).mono hm
      by_cases e : z.i = x.i
      · rw [same hz e] at hw'; exact hw hw'
      · exact ht z ⟨hz, e⟩ hb hw'
  · rcases F.c1 y hy.1 t hw with h1 | ⟨z, h1, h2, h3⟩
    · exact .inl h1
    · refine .inr ⟨z, ⟨h1, fun e => ?_⟩, h2, h3⟩
      rw [e] at h3; exact no hy.1 h3
  · rcases F.c2 y hy.1 t hrd z hz.1 hb hw with h1 | ⟨u, h1, h2, h3, h4⟩
    · exact .inl h1
    · refine .inr ⟨u, ⟨h1, fun e => ?_⟩, h2, h3, h4⟩
      rw [e] at h4; exact no hz.1 h4
theorem Flow.add (S : Stat ops B) (F : Flow ops B M m E tmps) (hop : ∀ y, M y → ops[y.i]? = some y.o) {e : Ent} (he : ops[e.i]? = some e.o) (heE : e.E = E) (hl : ∀ y, M y → y.i ≠ e.i ∧ bef B y.i e.i = false) (hirr : bef B e.i e.i = false) (hd : ∀ t, e.o.dst = some t → t < 16000001) :
    Flow ops B (fun y => M y ∨ y = e) m (putE e.o.dst E e.v) tmps := by
  have no : ∀ {y : Ent}, M y → bef B y.i e.i = true → False := fun hy h => by rw [(hl _ hy).2] at h; cases h
  refine ⟨fun t ht => ?_, fun x hx t hrd ht => ?_, fun x hx t hw => ?_, fun x hx t hrd y hy hb hw => ?_⟩
  · rw [putE_ne hd (ht e (.inr rfl))]
    exact F.j1 t fun y hy => ht y (.inl hy)
  · rcases hx with hx | rfl
    · exact F.j2 x hx t hrd fun y hy => ht y (.inl hy)
    · rw [heE]
      refine F.j1 t fun y hy hw => ?_
      rcases S.or (hop y hy) he (hl y hy).1 hw (.inl hrd) with h1 | h1
      · exact no hy h1
      · exact ht y (.inl hy) h1 hw
  · rcases hx with hx | rfl
    · by_cases hw' : e.o.dst = some t
      · right
        rcases S.or (hop x hx) he (hl x hx).1 hw (.inr hw') with h1 | h1
        · exact (no hx h1).elim
        · exact ⟨e, .inr rfl, hw', h1⟩
      · rw [putE_ne hd hw']
        rcases F.c1 x hx t hw with h1 | ⟨y, h1, h2⟩
        · exact .inl h1
        · exact .inr ⟨y, .inl h1, h2⟩
    · left; rw [hw]; exact putE_self (hd t hw)
  · rcases hx with hx | rfl
    · rcases hy with hy | rfl
      · rcases F.c2 x hx t hrd y hy hb hw with h1 | ⟨z, h1, h2⟩
        · exact .inl h1
        · exact .inr ⟨z, .inl h1, h2⟩
      · exact (no hx hb).elim
    · rcases hy with hy | rfl
      · rw [heE]
        rcases F.c1 y hy t hw with h1 | ⟨z, h1, h2, h3⟩
        · exact .inl h1
        · right
          rcases S.or (hop z h1) he (hl z h1).1 h2 (.inl hrd) with h4 | h4
          · exact (no h1 h4).elim
          · exact ⟨z, .inl h1, h4, h2, h3⟩
      · rw [hirr] at hb; cases hb
theorem Flow.act (S : Stat ops B) (F : Flow ops B M m E tmps) (hop : ∀ y, M y → ops[y.i]? = some y.o) {i : Nat} {o : Oper} (ho : ops[i]? = some o) (hl : ∀ y, M y → y.i ≠ i ∧ bef B y.i i = false ∧ bef B i y.i = false) (hm : MLe m m') {v v' : Value} (hv : ∀ t, o.dst = some t → VRel m' v v')
    (hd : ∀ t, o.dst = some t → t < 16000001) (hds : ∀ t, o.dst = some t → t < tmps.size) : Flow ops B M m' (putE o.dst E v) (putT o.dst tmps v') := by
  have no : ∀ {y : Ent}, M y → bef B y.i i = true ∨ bef B i y.i = true → False := fun hy h => by
    rcases h with h | h
    · rw [(hl _ hy).2.1] at h; cases h
    · rw [(hl _ hy).2.2] at h; cases h
  refine ⟨fun t ht => ?_, fun x hx t hrd ht => ?_, fun x hx t hw => ?_, F.c2⟩
  · by_cases hw : o.dst = some t
    · rw [hw, putT_self (hds t hw), putE_self (hd t hw)]; exact hv t hw
    · rw [putE_ne hd hw, putT_ne hw]; exact (F.j1 t ht).mono hm
  · by_cases hw : o.dst = some t
    · exact (no hx (S.or ho (hop x hx) (fun e => (hl x hx).1 e.symm) hw (.inl hrd)).symm).elim
    · rw [putT_ne hw]; exact (F.j2 x hx t hrd ht).mono hm
  · by_cases hw' : o.dst = some t
    · exact (no hx (S.or (hop x hx) ho (hl x hx).1 hw (.inr hw'))).elim
    · rw [putE_ne hd hw']; exact F.c1 x hx t hw
end
end Go.Proofs.YtdkebebingchpaaGreatDoor.Ru

/- The runner: a region whose order is drawn, walked. -/
namespace Go.Proofs.YtdkebebingchpaaGreatDoor.Ru
open Go Go.RowKit

section
variable {ops : Array Oper} {n : Nat} {E : Env} {o : Oper} {m : BM} {tmps : Array Value}
theorem reads_op {t : Tmp} (h : Operand.tmp t ∈ o.op.operands) : t ∈ readsOf ops o := by
  unfold readsOf
  refine List.mem_append_left _ ?_
  unfold tmpsOf
  rw [List.mem_filterMap]
  exact ⟨.tmp t, by simpa using h, rfl⟩
theorem reads_guard {g : Nat × Bool} {d : Tmp} (hg : o.guard = some g) (hd : (ops[g.1]?).bind (·.dst) = some d) : d ∈ readsOf ops o := by
  unfold readsOf
  refine List.mem_append_right _ ?_
  obtain ⟨g, b⟩ := g
  simp only at hd
  rw [hg]
  simp [hd]
theorem rd_only (hn : n ≤ 65536) (un : ∀ t, n ≤ t → getV E t = undef) : ∀ x ∈ o.op.operands, rd E x = rd (onlyE n E (readsOf ops o)) x := by
  intro x hx
  cases x with
  | tmp t =>
    show getV E t = getV (onlyE n E (readsOf ops o)) t
    rw [onlyE_get n hn E un, if_pos (reads_op hx)]
  | const v => rfl
  | global g => rfl
  | func f => rfl
theorem want_only (hn : n ≤ 65536) (un : ∀ t, n ≤ t → getV E t = undef) : wantK o.guard ops (onlyE n E (readsOf ops o)) = wantK o.guard ops E := by
  cases hg : o.guard with
  | none => rfl
  | some g =>
    change (match (ops[g.1]?).bind (·.dst) with | some d => wantV g.2 (getV (onlyE n E (readsOf ops o)) d) | none => some false) =
      (match (ops[g.1]?).bind (·.dst) with | some d => wantV g.2 (getV E d) | none => some false)
    cases hd : (ops[g.1]?).bind (·.dst) with
    | none => rfl
    | some d =>
      simp only
      rw [onlyE_get n hn E un, if_pos (reads_guard hg hd)]
theorem only_rel (hn : n ≤ 65536) (un : ∀ t, n ≤ t → getV E t = undef) (hs : tmps.size = n) {l : List Tmp} (hl : ∀ t ∈ l, VRel m (getV E t) (tmps.getD t undef)) : ERel m n (onlyE n E l) tmps := by
  refine ⟨⟨hs, fun t ht => ?_⟩, fun t => ?_⟩
  · rw [onlyE_get n hn E un]
    by_cases h : t ∈ l
    · rw [if_pos h]; exact un t ht
    · rw [if_neg h, if_neg (by omega)]
  · rw [onlyE_get n hn E un]
    by_cases h : t ∈ l
    · rw [if_pos h]; exact hl t h
    · rw [if_neg h]
      by_cases h2 : t < n
      · rw [if_pos h2]; exact .junk _
      · rw [if_neg h2]
        have e : tmps.getD t undef = undef := by
          rw [Array.getD_eq_getD_getElem?, Array.getElem?_eq_none (by omega)]; rfl
        rw [e]; exact .undef m
end
structure EntOk (K : PK) (c : Cx) (n : Nat) (ops : Array Oper) (lo : Nat) (m : BM) (h : AH) (ps : List Pend) (x : Ent) : Prop where
  op : ops[x.i]? = some x.o
  want : wantK x.o.guard ops x.E = some x.w
  un : ∀ t, n ≤ t → getV x.E t = undef
  dst : ∀ t, x.o.dst = some t → t < n
  does : (x.w = false ∧ x.v = undef ∧ x.a = 0) ∨ (x.w = true ∧ ((opK x.o.op K c x.E x.o = .pure x.v ∧ x.a = 0) ∨ (∃ p ∈ ps, p.i = x.i ∧ opK x.o.op K c x.E x.o = .read p.f ∧ p.v = x.v ∧ x.a = 0) ∨
     (∃ b mk, opK x.o.op K c x.E x.o = .alloc b mk ∧ x.v = mk x.a ∧ m x.a = none ∧ getB h.t x.a = some b ∧ lo ≤ x.a ∧ x.a < h.n)))
section
variable {K : PK} {c : Cx} {n : Nat} {ops : Array Oper} {lo : Nat} {m m' : BM} {h h' : AH} {ps ps' : List Pend} {x : Ent}
theorem EntOk.lt (e : EntOk K c n ops lo m h ps x) (ha : x.a ≠ 0) : x.a < h.n ∧ m x.a = none ∧ lo ≤ x.a := by
  rcases e.does with ⟨_, _, h0⟩ | ⟨_, ⟨_, h0⟩ | ⟨_, _, _, _, _, h0⟩ | ⟨b, mk, _, _, h1, _, h2, h3⟩⟩
  · exact absurd h0 ha
  · exact absurd h0 ha
  · exact absurd h0 ha
  · exact ⟨h3, h1, h2⟩
theorem EntOk.mono (e : EntOk K c n ops lo m h ps x) (hlo : 0 < lo) (hm : x.a ≠ 0 → m' x.a = none) (hg : ∀ b, b < h.n → m b = none → getB h'.t b = getB h.t b) (hn : h.n ≤ h'.n) (hp : ∀ p ∈ ps, p.i = x.i → p ∈ ps') : EntOk K c n ops lo m' h' ps' x := by
  refine ⟨e.op, e.want, e.un, e.dst, ?_⟩
  rcases e.does with h0 | ⟨hw, h0 | ⟨p, h1, h2, h3⟩ | ⟨b, mk, h1, h2, h3, h4, h5, h6⟩⟩
  · exact .inl h0
  · exact .inr ⟨hw, .inl h0⟩
  · exact .inr ⟨hw, .inr (.inl ⟨p, hp p h1 h2, h2, h3⟩)⟩
  · exact .inr ⟨hw, .inr (.inr ⟨b, mk, h1, h2, hm (by omega), by rw [hg _ h6 h3]; exact h4, h5, by omega⟩)⟩
end
theorem Ext.think {m1 : BM} {h1 : AH} {w1 : World} {m : BM} {h : AH} {w : World} (X : Ext m1 h1 w1 m h w) (b : AB) (hb : h.n < 16000000) : Ext m1 h1 w1 m ⟨setB h.t h.n (some b), h.n + 1⟩ w :=
  ⟨X.le, X.news, fun c hc e => by
    have := X.hn
    show getB (setB h.t h.n (some b)) c = _
    rw [getB_set _ _ _ _ (by omega), if_neg (by omega)]; exact X.absf c hc e, X.conf, Nat.le_succ_of_le X.hn, X.wsz, X.os, X.tape, X.output⟩
theorem Ext.made {m1 : BM} {h1 : AH} {w1 : World} {m : BM} {h : AH} {w : World} (X : Ext m1 h1 w1 m h w) {b : Nat} (o : Obj) (κ : Nat) (hm : m b = none) (hb : h1.n ≤ b) : Ext m1 h1 w1 (m.add b (w.heap.size, κ)) h (w.alloc o) where
  le := X.le.trans (.add hm)
  news := fun c x e => by
    unfold BM.add at e
    split at e
    · cases e; exact .inr ⟨by omega, .inl X.wsz⟩
    · exact X.news c x e
  absf := X.absf
  conf := fun c hc hx => by
    rw [Below.heap_alloc w o c (Nat.lt_of_lt_of_le hc X.wsz)]; exact X.conf c hc hx
  hn := X.hn
  wsz := Nat.le_trans X.wsz (by simp)
  os := X.os
  tape := X.tape
  output := X.output
structure DInv (K : PK) (c : Cx) (n : Nat) (ops : Array Oper) (B : Nat) (w0 : World) (m1 : BM) (h1 : AH) (w1 : World) (rE : Env) (rD : DL) (rh : AH)
    (listed : Array Bool) (M : Ent → Prop) (R : List (Nat × Oper)) (E : Env) (D : DL) (h : AH) (ps : List Pend) (m : BM) (w : World) (tmps : Array Value) (ds : List Deferred) : Prop where
  H : HRel K w0 m h w
  X : Ext m1 h1 w1 m h w
  size : tmps.size = n
  un : ∀ t, n ≤ t → getV E t = undef
  hD : DRel m D ds
  ent : ∀ x, M x → EntOk K c n ops h1.n m h ps x
  nl : ∀ x, M x → listed.getD x.i true = false
  al : ∀ x y, M x → M y → x.i ≠ y.i → x.a ≠ 0 → x.a ≠ y.a
  flow : Flow ops B M m E tmps
  late : ∀ x, M x → ∀ y ∈ R, x.i ≠ y.1 ∧ bef B x.i y.1 = false
  lo : laterOk B R
  ao : actsOk B R
  real : ∀ y ∈ R, ops[y.1]? = some y.2
  rl : ∀ y ∈ R, listed.getD y.1 true = false
  cov : ∀ i, listed.getD i true = false → (∃ x, M x ∧ x.i = i) ∨ ∃ y ∈ R, y.1 = i
  dn : Down ops (fun i => listed.getD i false = true)
  run : aDrw K c n ops B R E D h ps = .ok rE rD rh
def Stop (ops : Array Oper) (R : List (Nat × Oper)) (E : Env) : Prop := R = [] ∨ ∃ i o r, R = (i, o) :: r ∧ wantK o.guard ops E = some true ∧ isEff o.op = true
section
variable {K : PK} {c : Cx} {n : Nat} {ops : Array Oper} {B : Nat} {w0 : World} {m1 : BM} {h1 : AH} {w1 : World} {rE : Env} {rD : DL} {rh : AH}
  {listed : Array Bool} {M : Ent → Prop} {R : List (Nat × Oper)} {E : Env} {D : DL} {h : AH} {ps : List Pend} {m : BM} {w : World} {tmps : Array Value} {ds : List Deferred}
theorem DInv.add (S : Stat ops B) (hirr : ∀ i, i < ops.size → bef B i i = false) (hn : n ≤ 65536) (h0 : N0 ≤ h1.n) {i : Nat} {o : Oper} {r : List (Nat × Oper)} (I : DInv K c n ops B w0 m1 h1 w1 rE rD rh listed M ((i, o) :: r) E D h ps m w tmps ds)
    {wb : Bool} {v : Value} {a : Nat} {h' : AH} {ps' : List Pend} (hw : wantK o.guard ops E = some wb) (hdst : ∀ t, o.dst = some t → t < n) (run' : aDrw K c n ops B r (putE o.dst E v) D h' ps' = .ok rE rD rh)
    (hh : h' = h ∨ ∃ b, h' = ⟨setB h.t h.n (some b), h.n + 1⟩ ∧ h.n < 16000000) (hps : ∀ p ∈ ps, p ∈ ps') (ha : a = 0 ∨ a = h.n) (hdo : EntOk K c n ops h1.n m h' ps' ⟨i, o, E, wb, v, a⟩) :
    DInv K c n ops B w0 m1 h1 w1 rE rD rh listed (fun y => M y ∨ y = ⟨i, o, E, wb, v, a⟩) r (putE o.dst E v) D h' ps' m w tmps ds := by
  have hlo := I.lo
  have hao := I.ao
  have hN : 0 < h1.n := Nat.lt_of_lt_of_le (by decide : 0 < N0) h0
  have hd : ∀ t, o.dst = some t → t < 16000001 := fun t ht => Nat.lt_of_lt_of_le (hdst t ht) (Nat.le_trans hn (by decide))
  have hi : i < ops.size := (Array.getElem?_eq_some_iff.1 (I.real _ (List.mem_cons_self ..))).1
  have hgb : ∀ b, b < h.n → m b = none → getB h'.t b = getB h.t b := fun b hb _ => by
    rcases hh with rfl | ⟨b', rfl, h2⟩
    · rfl
    · show getB (setB h.t h.n (some b')) b = _
      rw [getB_set _ _ _ _ (by omega), if_neg (by omega)]
  have hhn : h.n ≤ h'.n := by
    rcases hh with rfl | ⟨b', rfl, h2⟩
    · exact Nat.le_refl _
    · exact Nat.le_succ _
  refine ⟨?_, ?_, I.size, fun t ht => ?_, I.hD, ?_, ?_, ?_, ?_, ?_, hlo.2, hao.2, fun y hy => I.real y (List.mem_cons_of_mem _ hy), fun y hy => I.rl y (List.mem_cons_of_mem _ hy), ?_, I.dn, run'⟩
  · rcases hh with rfl | ⟨b', rfl, h2⟩
    · exact I.H
    · exact I.H.think b' h2
  · rcases hh with rfl | ⟨b', rfl, h2⟩
    · exact I.X
    · exact I.X.think b' h2
  · rw [putE_ne hd (fun e => absurd (hdst t e) (Nat.not_lt.2 ht))]; exact I.un t ht
  · rintro x (hx | rfl)
    · exact (I.ent x hx).mono hN (fun hxa => ((I.ent x hx).lt hxa).2.1) hgb hhn fun p hp _ => hps p hp
    · exact hdo
  · rintro x (hx | rfl)
    · exact I.nl x hx
    · exact I.rl _ (List.mem_cons_self ..)
  · rintro x y (hx | rfl) (hy | rfl) hne hxa
    · exact I.al x y hx hy hne hxa
    · have := ((I.ent x hx).lt hxa).1
      show x.a ≠ a
      rcases ha with rfl | rfl
      · exact hxa
      · omega
    · intro e
      have e : a = y.a := e
      have hxa : a ≠ 0 := hxa
      rcases ha with rfl | rfl
      · exact hxa rfl
      · have := ((I.ent y hy).lt (by omega)).1
        omega
    · exact absurd rfl hne
  · exact I.flow.add S (fun y hy => (I.ent y hy).op) (I.real _ (List.mem_cons_self ..)) rfl (fun y hy => I.late y hy _ (List.mem_cons_self ..)) (hirr i hi) hd
  · rintro x (hx | rfl) y hy
    · exact I.late x hx y (List.mem_cons_of_mem _ hy)
    · exact hlo.1 y hy
  · intro j hj
    rcases I.cov j hj with ⟨x, h1, h2⟩ | ⟨y, hy, h2⟩
    · exact .inl ⟨x, .inl h1, h2⟩
    · rcases List.mem_cons.1 hy with rfl | hy
      · exact .inl ⟨_, .inr rfl, h2⟩
      · exact .inr ⟨y, hy, h2⟩
theorem dinv_adv (S : Stat ops B) (hirr : ∀ i, i < ops.size → bef B i i = false) (hn : n ≤ 65536) (h0 : N0 ≤ h1.n) : ∀ (R : List (Nat × Oper)) {M : Ent → Prop} {E : Env} {h : AH} {ps : List Pend}, DInv K c n ops B w0 m1 h1 w1 rE rD rh listed M R E D h ps m w tmps ds →
    ∃ M' R' E' h' ps', DInv K c n ops B w0 m1 h1 w1 rE rD rh listed M' R' E' D h' ps' m w tmps ds ∧ Stop ops R' E' ∧ pendsOk h' ps' = true
  | [], M, E, h, ps, I => by
    refine ⟨M, [], E, h, ps, I, .inl rfl, ?_⟩
    have := I.run
    rw [aDrw_nil] at this
    cases hp : pendsOk h ps with
    | true => rfl
    | false => rw [hp] at this; cases this
  | (i, o) :: r, M, E, h, ps, I => by
    have hrun := I.run
    have hop := I.real _ (List.mem_cons_self ..)
    rw [aDrw_cons] at hrun
    unfold drw1 at hrun
    cases hw : wantK o.guard ops E with
    | none => rw [hw] at hrun; cases hrun
    | some wb =>
      rw [hw] at hrun
      cases wb with
      | false =>
        simp only at hrun
        cases hk : okP o.dst n E undef D h with
        | bad => rw [hk] at hrun; cases hrun
        | ok E1 D1 h2 =>
          rw [hk] at hrun
          obtain ⟨a1, a2, a3, a4, _⟩ := okP_put hk
          have a3 := a3.symm
          subst a3
          subst a2 a4
          exact dinv_adv S hirr hn h0 r (I.add S hirr hn h0 (v := undef) (a := 0) hw a1 hrun (.inl rfl) (fun _ h => h) (.inl rfl) ⟨hop, hw, I.un, a1, .inl ⟨rfl, rfl, rfl⟩⟩)
      | true =>
        simp only at hrun
        cases he : isEff o.op with
        | true =>
          rw [he] at hrun
          simp only at hrun
          refine ⟨M, _, E, h, ps, I, .inr ⟨i, o, r, rfl, hw, he⟩, ?_⟩
          cases hp : pendsOk h ps with
          | true => rfl
          | false => rw [hp] at hrun; cases hrun
        | false =>
          rw [he] at hrun
          simp only at hrun
          cases hq : actsQ (opK o.op K c E o) with
          | true => rw [hq] at hrun; cases hrun
          | false =>
            rw [hq] at hrun
            simp only [cond_false] at hrun
            cases hk : aOneK (opK o.op K c E o) o.dst n E D h with
            | bad => rw [hk] at hrun; cases hrun
            | ok E1 D1 h2 =>
              rw [hk] at hrun
              simp only at hrun
              obtain ⟨v, a1, a2, a3, a4⟩ := aOne_non hq hk
              have a3 := a3.symm
              subst a3
              subst a2
              rcases a4 with ⟨q, rfl⟩ | ⟨f, q, hf, rfl⟩ | ⟨b, mk, q, rfl, rfl, hb⟩
              · rw [q] at hrun
                exact dinv_adv S hirr hn h0 r (I.add S hirr hn h0 (a := 0) hw a1 hrun (.inl rfl) (fun _ h => h) (.inl rfl) ⟨hop, hw, I.un, a1, .inr ⟨rfl, .inl ⟨q, rfl⟩⟩⟩)
              · rw [q] at hrun
                simp only [pendsOf, hf] at hrun
                exact dinv_adv S hirr hn h0 r (I.add S hirr hn h0 (a := 0) hw a1 hrun (.inl rfl) (fun _ h => List.mem_cons_of_mem _ h) (.inl rfl) ⟨hop, hw, I.un, a1, .inr ⟨rfl, .inr (.inl ⟨_, List.mem_cons_self .., rfl, q, rfl, rfl⟩)⟩⟩)
              · rw [q] at hrun
                refine dinv_adv S hirr hn h0 r (I.add S hirr hn h0 (a := h.n) hw a1 hrun (.inr ⟨b, rfl, hb⟩) (fun _ h => h) (.inr rfl) ⟨hop, hw, I.un, a1, .inr ⟨rfl, .inr (.inr ⟨b, mk, q, rfl, I.H.fresh _ (Nat.le_refl _), ?_, I.X.hn, Nat.lt_succ_self _⟩)⟩⟩)
                show getB (setB h.t h.n (some b)) h.n = some b
                rw [getB_set _ _ _ _ (by omega), if_pos rfl]
end
end Go.Proofs.YtdkebebingchpaaGreatDoor.Ru

/- The runner: a region whose order is drawn. -/
namespace Go.Proofs.YtdkebebingchpaaGreatDoor.Ru
open Go Go.RowKit

section
variable {K : PK} {c : Cx} {n : Nat} {ops : Array Oper} {B : Nat} {w0 : World} {m1 : BM} {h1 : AH} {w1 : World} {rE : Env} {rD : DL} {rh : AH}
  {listed : Array Bool} {M : Ent → Prop} {R : List (Nat × Oper)} {E : Env} {D : DL} {h : AH} {ps : List Pend} {m : BM} {w : World} {tmps : Array Value} {ds : List Deferred}
theorem set_unl {i j : Nat} (h : (listed.setIfInBounds i true).getD j true = false) : j ≠ i ∧ listed.getD j true = false := by
  have hne : j ≠ i := by
    intro e; subst e
    by_cases hl : j < listed.size
    · simp [hl] at h
    · simp [Array.getElem?_eq_none (Nat.not_lt.1 hl)] at h
  exact ⟨hne, by rwa [getD_set_ne true (Ne.symm hne)] at h⟩
theorem set_unl' {i j : Nat} (hne : j ≠ i) (h : listed.getD j true = false) : (listed.setIfInBounds i true).getD j true = false := by
  rw [getD_set_ne true (Ne.symm hne)]; exact h
theorem lst_not {j : Nat} (h : listed.getD j false = true) (h2 : listed.getD j true = false) : False := by
  by_cases hl : j < listed.size
  · simp [hl] at h h2; rw [h] at h2; cases h2
  · simp [Array.getElem?_eq_none (Nat.not_lt.1 hl)] at h
theorem lst_or {j : Nat} (hj : j < listed.size) (h : ¬ listed.getD j true = false) : listed.getD j false = true := by
  simp [hj] at h ⊢; exact h
theorem down_set {i : Nat} {o : Oper} (hd : Down ops (fun i => listed.getD i false = true)) (ho : ops[i]? = some o) (ha : ∀ e ∈ o.after.toList, Region.binds .any e = true → listed.getD e.on false = true) :
    Down ops (fun j => (listed.setIfInBounds i true).getD j false = true) := by
  intro j o' hj ho' e he hb
  by_cases hji : j = i
  · subst hji
    rw [ho] at ho'; cases ho'
    exact getD_set_true (ha e he hb)
  · rw [getD_set_ne false (Ne.symm hji)] at hj
    exact getD_set_true (hd j o' hj ho' e he hb)
theorem pends_of : ∀ {ps : List Pend}, pendsOk h ps = true → ∀ p ∈ ps, p.f h = some p.v
  | [], _, p, hp => by simp at hp
  | q :: r, hk, p, hp => by
    simp only [pendsOk, Bool.and_eq_true] at hk
    rcases List.mem_cons.1 hp with rfl | hp
    · have h1 := hk.1
      split at h1
      · rename_i v hv; rw [hv, veq_ok _ _ _ h1]
      · cases h1
    · exact pends_of hk.2 p hp
/-- One that is lacking is carried out. -/
theorem DInv.take (k : KOk K) (S : Stat ops B) (hn : n ≤ 65536) (h0 : N0 ≤ h1.n) (I : DInv K c n ops B w0 m1 h1 w1 rE rD rh listed M R E D h ps m w tmps ds) (hp : pendsOk h ps = true) {x : Ent} (hx : M x) (hnb : ∀ j, listed.getD j true = false → bef B x.i j = false)
    (ha : ∀ e ∈ x.o.after.toList, Region.binds .any e = true → listed.getD e.on false = true) {ro : Option Nat} (hro : ro = none ∨ ∀ cl, x.o.op ≠ .defer cl) {fn : FuncId} {kind : CallKind} {cs : List Frame} {rest : List Nat} {kk : List Item} :
    ∃ m' w' tmps', step K.P (lone (mkF fn kind ro tmps ds (.inRegion ops (x.i :: rest) :: kk)) cs w) = .next (lone (mkF fn kind ro tmps' ds (.inRegion ops rest :: kk)) cs w') ∧
      DInv K c n ops B w0 m1 h1 w1 rE rD rh (listed.setIfInBounds x.i true) (fun y => M y ∧ y.i ≠ x.i) R E D h ps m' w' tmps' ds := by
  have hN : 0 < h1.n := Nat.lt_of_lt_of_le (by decide : 0 < N0) h0
  have e := I.ent x hx
  have hdst : ∀ t, x.o.dst = some t → t < tmps.size := fun t ht => by rw [I.size]; exact e.dst t ht
  have hnb' : ∀ y, M y → bef B x.i y.i = false := fun y hy => hnb _ (I.nl y hy)
  have ER : ERel m n (onlyE n x.E (readsOf ops x.o)) tmps := only_rel hn e.un I.size fun t ht => I.flow.j2 x hx t ht fun y hy hb => by rw [hnb' y hy] at hb; cases hb
  have hwk : wantK x.o.guard ops (onlyE n x.E (readsOf ops x.o)) = some x.w := by rw [want_only hn e.un]; exact e.want
  have hwd := wanted_ok ER hwk
  have hρ := rd_rel I.H ER
  have hcg := opK_congr (K := K) c (rd_only (o := x.o) (ops := ops) hn e.un)
  have main : ∃ m' w' v', step K.P (lone (mkF fn kind ro tmps ds (.inRegion ops (x.i :: rest) :: kk)) cs w) = .next (lone (mkF fn kind ro (putT x.o.dst tmps v') ds (.inRegion ops rest :: kk)) cs w') ∧
      HRel K w0 m' h w' ∧ Ext m1 h1 w1 m' h w' ∧ MLe m m' ∧ VRel m' x.v v' ∧ ∀ y, M y → y.i ≠ x.i → y.a ≠ 0 → m' y.a = none := by
    have old : ∀ y, M y → y.i ≠ x.i → y.a ≠ 0 → m y.a = none := fun y hy _ ha => ((I.ent y hy).lt ha).2.1
    rcases e.does with ⟨h2, h3, _⟩ | ⟨h2, h3 | ⟨p, h3, _, h4, h5, _⟩ | ⟨b, mk, h3, h4, h5, h6, h7, h8⟩⟩
    · rw [h2] at hwd
      exact ⟨m, w, undef, st_pass e.op hwd, I.H, I.X, .refl m, by rw [h3]; exact .undef m, old⟩
    · rw [h2] at hwd
      have hq := h3.1
      rw [hcg] at hq
      obtain ⟨v', hv, hr⟩ := pure_ok k c hρ hq
      exact ⟨m, w, v', st_value e.op hwd hro (hr w), I.H, I.X, .refl m, hv, old⟩
    · rw [h2] at hwd
      have hq := h4
      rw [hcg] at hq
      obtain ⟨v', hv, hr⟩ := read_ok k c I.H hρ hq (v := x.v) (by rw [← h5]; exact pends_of hp p h3)
      exact ⟨m, w, v', st_value e.op hwd hro hr, I.H, I.X, .refl m, hv, old⟩
    · rw [h2] at hwd
      have hq := h3
      rw [hcg] at hq
      obtain ⟨obj, κ, v', hr, hrel⟩ := makes_ok (w := w) k c hρ hq
      obtain ⟨hB, hV⟩ := hrel x.a (m.add x.a (w.heap.size, κ)) (.add h5) (BM.add_self _ _ _)
      refine ⟨m.add x.a (w.heap.size, κ), w.alloc obj, v', st_value e.op hwd hro hr, I.H.make (by omega) h8 h5 h6 hB, I.X.made obj κ h5 h7, .add h5, by rw [h4]; exact hV, fun y hy hne hya => ?_⟩
      unfold BM.add
      rw [if_neg (I.al y x hy hx hne hya)]
      exact old y hy hne hya
  obtain ⟨m', w', v', st, H', X', hm, hv, hkeep⟩ := main
  refine ⟨m', w', _, st, ⟨H', X', ?_, I.un, I.hD.mono hm, fun y hy => ?_, fun y hy => set_unl' hy.2 (I.nl y hy.1), fun y z hy hz => I.al y z hy.1 hz.1, I.flow.take S (fun y hy => (I.ent y hy).op) hx hnb' hm hv hdst, fun y hy => I.late y hy.1, I.lo, I.ao, I.real,
    fun y hy => set_unl' (fun e => (I.late x hx y hy).1 e.symm) (I.rl y hy), fun j hj => ?_, down_set I.dn e.op ha, I.run⟩⟩
  · cases hd : x.o.dst with
    | none => exact I.size
    | some t => simp [putT, I.size]
  · exact (I.ent y hy.1).mono hN (fun hya => hkeep y hy.1 hy.2 hya) (fun _ _ _ => rfl) (Nat.le_refl _) fun p hp _ => hp
  · obtain ⟨hne, hj⟩ := set_unl hj
    rcases I.cov j hj with ⟨y, h2, h3⟩ | h2
    · exact .inl ⟨y, ⟨h2, by rw [h3]; exact hne⟩, h3⟩
    · exact .inr h2
/-- The next that acts is carried out. -/
theorem DInv.act (k : KOk K) (C : CxOk K c) (S : Stat ops B) (hn : n ≤ 65536) (h0 : N0 ≤ h1.n) {i : Nat} {o : Oper} {r : List (Nat × Oper)} (I : DInv K c n ops B w0 m1 h1 w1 rE rD rh listed M ((i, o) :: r) E D h ps m w tmps ds) (hp : pendsOk h ps = true)
    (hw : wantK o.guard ops E = some true) (he : isEff o.op = true) (hnb : ∀ j, listed.getD j true = false → bef B i j = false)
    (ha : ∀ e ∈ o.after.toList, Region.binds .any e = true → listed.getD e.on false = true) {ro : Option Nat} (hro : ro = none ∨ ∀ cl, o.op ≠ .defer cl) {fn : FuncId} {kind : CallKind} {cs : List Frame} {rest : List Nat} {kk : List Item} :
    ∃ E' D' h' ps' m' w' tmps' ds', Steps K.P (lone (mkF fn kind ro tmps ds (.inRegion ops (i :: rest) :: kk)) cs w) (lone (mkF fn kind ro tmps' ds' (.inRegion ops rest :: kk)) cs w') ∧
      DInv K c n ops B w0 m1 h1 w1 rE rD rh (listed.setIfInBounds i true) M r E' D' h' ps' m' w' tmps' ds' := by
  have hN : 0 < h1.n := Nat.lt_of_lt_of_le (by decide : 0 < N0) h0
  have hop : ops[i]? = some o := I.real _ (List.mem_cons_self ..)
  have hl : ∀ y, M y → y.i ≠ i ∧ bef B y.i i = false ∧ bef B i y.i = false := fun y hy => by
    have := I.late y hy _ (List.mem_cons_self ..)
    exact ⟨this.1, this.2, hnb _ (I.nl y hy)⟩
  have hrun := I.run
  rw [aDrw_cons] at hrun
  unfold drw1 at hrun
  rw [hw] at hrun
  simp only at hrun
  rw [he] at hrun
  simp only at hrun
  rw [hp] at hrun
  simp only [cond_true] at hrun
  cases hk : aOneK (opK o.op K c E o) o.dst n E D h with
  | bad => rw [hk] at hrun; cases hrun
  | ok E1 D1 h2 =>
    rw [hk] at hrun
    simp only at hrun
    obtain ⟨v, hdst, rfl, hall⟩ := aOne_put hk
    have ER : ERel m n (onlyE n E (readsOf ops o)) tmps := only_rel hn I.un I.size fun t ht => I.flow.j1 t fun y hy hwr => by
      have h3 := hl y hy
      rcases S.or (I.ent y hy).op hop h3.1 hwr (.inl ht) with h4 | h4
      · rw [h3.2.1] at h4; cases h4
      · rw [h3.2.2] at h4; cases h4
    have hwk : wantK o.guard ops (onlyE n E (readsOf ops o)) = some true := by rw [want_only hn I.un]; exact hw
    have hwd := wanted_ok ER hwk
    have hk2 := hall (onlyE n E (readsOf ops o))
    rw [opK_congr (K := K) c (rd_only (o := o) (ops := ops) hn I.un)] at hk2
    obtain ⟨m', w', tmps', ds', st, H', X', ER', DR', v', rfl⟩ := one_ok (rest := rest) (kk := kk) (fn := fn) (kind := kind) (cs := cs) k C I.H ER I.hD hn hop hro hwd hk2
    have hd : ∀ t, o.dst = some t → t < 16000001 := fun t ht => Nat.lt_of_lt_of_le (hdst t ht) (Nat.le_trans hn (by decide))
    have hds : ∀ t, o.dst = some t → t < tmps.size := fun t ht => by rw [I.size]; exact hdst t ht
    have hv : ∀ t, o.dst = some t → VRel m' v v' := fun t ht => by
      have := ER'.2 t
      rw [ht, putT_self (hds t ht), putE_self (hd t ht)] at this
      exact this
    have hlo := I.lo
    have hao := I.ao
    refine ⟨_, D1, h2, _, m', w', _, ds', st, ⟨H', I.X.trans h0 X', ER'.1.1, fun t ht => ?_, DR', fun y hy => ?_, fun y hy => set_unl' (hl y hy).1 (I.nl y hy), I.al, I.flow.act S (fun y hy => (I.ent y hy).op) hop hl X'.le hv hd hds,
      fun y hy z hz => I.late y hy z (List.mem_cons_of_mem _ hz), hlo.2, hao.2, fun y hy => I.real y (List.mem_cons_of_mem _ hy), fun y hy => ?_, fun j hj => ?_, down_set I.dn hop ha, hrun⟩⟩
    · rw [putE_ne hd (fun e => absurd (hdst t e) (Nat.not_lt.2 ht))]; exact I.un t ht
    · refine (I.ent y hy).mono hN (fun hya => ?_) (fun b hb hbn => X'.absf b hb hbn) X'.hn fun p hpp hpi => ?_
      · have h3 := (I.ent y hy).lt hya
        cases hx : m' y.a with
        | none => rfl
        | some z =>
          rcases X'.news _ _ hx with h4 | ⟨h4, _⟩
          · rw [h3.2.1] at h4; cases h4
          · omega
      · rw [List.mem_filter]
        refine ⟨hpp, ?_⟩
        rw [hpi, (hl y hy).2.2]; rfl
    · exact set_unl' (fun e => (hlo.1 y hy).1 e.symm) (I.rl y (List.mem_cons_of_mem _ hy))
    · obtain ⟨hne, hj⟩ := set_unl hj
      rcases I.cov j hj with h2 | ⟨y, hy, h3⟩
      · exact .inl h2
      · rcases List.mem_cons.1 hy with rfl | hy
        · exact absurd h3.symm hne
        · exact .inr ⟨y, hy, h3⟩
theorem DInv.fin (I : DInv K c n ops B w0 m1 h1 w1 rE rD rh listed M R E D h ps m w tmps ds) (hu : ∀ i, ¬ listed.getD i true = false) : HRel K w0 m rh w ∧ Ext m1 h1 w1 m rh w ∧ ERel m n rE tmps ∧ DRel m rD ds := by
  have hM : ∀ x, ¬ M x := fun x hx => hu _ (I.nl x hx)
  have hR : R = [] := by
    cases hR : R with
    | nil => rfl
    | cons y r => exact absurd (I.rl y (by rw [hR]; simp)) (hu _)
  have hrun := I.run
  subst hR
  rw [aDrw_nil] at hrun
  cases hp : pendsOk h ps with
  | false => rw [hp] at hrun; cases hrun
  | true =>
    rw [hp] at hrun
    cases hrun
    exact ⟨I.H, I.X, ⟨⟨I.size, I.un⟩, fun t => I.flow.j1 t fun x hx => absurd hx (hM x)⟩, I.hD⟩
theorem none_ready (S : Stat ops B) (hsz : listed.size = ops.size) (hr : Region.ready .any ops listed = []) : ∀ i, ¬ listed.getD i true = false := by
  intro i
  induction i using Nat.strongRecOn with
  | _ i ih =>
    intro hi
    have hlt : i < ops.size := by
      rw [← hsz]
      rcases Nat.lt_or_ge i listed.size with h | h
      · exact h
      · simp [Array.getElem?_eq_none h] at hi
    have : i ∈ Region.ready .any ops listed := by
      rw [mem_ready]
      refine ⟨hi, ops[i], Array.getElem?_eq_getElem hlt, fun e he hb => ?_⟩
      have := S.edge i ops[i] (Array.getElem?_eq_getElem hlt) e (by simpa using he) hb
      exact lst_or (by omega) (ih e.on this)
    rw [hr] at this; cases this
theorem draw_walk (k : KOk K) (C : CxOk K c) (S : Stat ops (befs ops.toList 0 0)) (hirr : ∀ i, i < ops.size → bef (befs ops.toList 0 0) i i = false) (hn : n ≤ 65536) (h0 : N0 ≤ h1.n) {ro : Option Nat} (hro : ∀ o ∈ ops.toList, ro = none ∨ ∀ cl, o.op ≠ .defer cl) {fn : FuncId} {kind : CallKind} {cs : List Frame} {kk : List Item} :
    ∀ (fuel t : Nat) (U : List Nat) {listed : Array Bool} {M : Ent → Prop} {R : List (Nat × Oper)} {E : Env} {D : DL} {h : AH} {ps : List Pend} {m : BM} {w : World} {tmps : Array Value} {ds : List Deferred}, listed.size = ops.size →
    DInv K c n ops (befs ops.toList 0 0) w0 m1 h1 w1 rE rD rh listed M R E D h ps m w tmps ds → (∀ i, listed.getD i true = false → i ∈ U) → U.length ≤ fuel →
    ∃ m' w' tmps' ds', Steps K.P (lone (mkF fn kind ro tmps ds (.inRegion ops (Region.linearise.go .any ops fuel t listed []) :: kk)) cs w) (lone (mkF fn kind ro tmps' ds' (.inRegion ops [] :: kk)) cs w') ∧ HRel K w0 m' rh w' ∧ Ext m1 h1 w1 m' rh w' ∧ ERel m' n rE tmps' ∧ DRel m' rD ds'
  | 0, t, U, listed, M, R, E, D, h, ps, m, w, tmps, ds, hsz, I, hU, hl => by
    have hu : ∀ i, ¬ listed.getD i true = false := fun i hi => by
      have := hU i hi
      rw [List.eq_nil_of_length_eq_zero (Nat.le_zero.1 hl)] at this
      cases this
    obtain ⟨a, b, d, e⟩ := I.fin hu
    exact ⟨m, w, tmps, ds, by simp only [Region.linearise.go]; exact .refl _ _, a, b, d, e⟩
  | fuel + 1, t, U, listed, M, R, E, D, h, ps, m, w, tmps, ds, hsz, I, hU, hl => by
    obtain ⟨M, R, E, h, ps, I, hstop, hp⟩ := dinv_adv S hirr hn h0 R I
    simp only [Region.linearise.go]
    change ∃ m' w' tmps' ds', Steps K.P (lone (mkF fn kind ro tmps ds (.inRegion ops (match (Region.ready .any ops listed)[t % (Region.ready .any ops listed).length]? with
      | some i => Region.linearise.go .any ops fuel (t / (Region.ready .any ops listed).length) (listed.setIfInBounds i true) [i]
      | none => [].reverse) :: kk)) cs w) _ ∧ _
    cases hi : (Region.ready .any ops listed)[t % (Region.ready .any ops listed).length]? with
    | none =>
      have hnil : Region.ready .any ops listed = [] := by
        cases hr : Region.ready .any ops listed with
        | nil => rfl
        | cons x xs =>
          rw [hr] at hi
          have hlt : t % (x :: xs).length < (x :: xs).length := Nat.mod_lt _ (by simp)
          simp at hi
          simp at hlt
          omega
      obtain ⟨a, b, d, e⟩ := I.fin (none_ready S hsz hnil)
      exact ⟨m, w, tmps, ds, .refl _ _, a, b, d, e⟩
    | some i =>
      simp only []
      rw [linearise_go_acc, List.reverse_singleton, List.singleton_append]
      obtain ⟨hi0, o, ho, hafter⟩ := mem_ready.1 (List.mem_of_getElem? hi)
      have hafter : ∀ e ∈ o.after.toList, Region.binds .any e = true → listed.getD e.on false = true := fun e he => hafter e (by simpa using he)
      have hnb : ∀ j, listed.getD j true = false → bef (befs ops.toList 0 0) i j = false := fun j hj => by
        cases hb : bef (befs ops.toList 0 0) i j with
        | false => rfl
        | true => exact (lst_not (bef_in I.dn S.edge i o ho hafter j hb) hj).elim
      have hro' : ro = none ∨ ∀ cl, o.op ≠ .defer cl := hro o (by have := Array.getElem?_eq_some_iff.1 ho; rw [← this.2]; simp)
      have hU' : ∀ j, (listed.setIfInBounds i true).getD j true = false → j ∈ U.erase i := fun j hj => by
        obtain ⟨h2, h3⟩ := set_unl hj
        exact (List.mem_erase_of_ne h2).2 (hU j h3)
      have hl' : (U.erase i).length ≤ fuel := by
        rw [List.length_erase_of_mem (hU i hi0)]; omega
      have hsz' : (listed.setIfInBounds i true).size = ops.size := by simpa using hsz
      rcases I.cov i hi0 with ⟨x, hx, rfl⟩ | ⟨y, hy, rfl⟩
      · have ex := (I.ent x hx).op
        rw [ho] at ex; cases ex
        obtain ⟨m', w', tmps', st, I'⟩ := I.take k S hn h0 hp hx hnb hafter hro' (fn := fn) (kind := kind) (cs := cs) (kk := kk) (rest := Region.linearise.go .any ops fuel (t / (Region.ready .any ops listed).length) (listed.setIfInBounds x.i true) [])
        obtain ⟨m2, w2, t2, d2, a1, a2⟩ := draw_walk k C S hirr hn h0 hro fuel (t / (Region.ready .any ops listed).length) (U.erase x.i) hsz' I' hU' hl'
        exact ⟨m2, w2, t2, d2, .head st a1, a2⟩
      · rcases hstop with rfl | ⟨i, oo, r, rfl, hw, he⟩
        · cases hy
        · have heq : y = (i, oo) := by
            rcases List.mem_cons.1 hy with e | hyr
            · exact e
            · have hao := I.ao
              have h2 := hao.1 he y hyr
              rw [hnb i (I.rl _ (List.mem_cons_self ..))] at h2; cases h2
          subst heq
          have eo := I.real _ (List.mem_cons_self ..)
          simp only at eo ho
          rw [ho] at eo; cases eo
          obtain ⟨E', D', h', ps', m', w', tmps', ds', st, I'⟩ := I.act k C S hn h0 hp hw he hnb hafter hro' (fn := fn) (kind := kind) (cs := cs) (kk := kk) (rest := Region.linearise.go .any ops fuel (t / (Region.ready .any ops listed).length) (listed.setIfInBounds i true) [])
          obtain ⟨m2, w2, t2, d2, a1, a2⟩ := draw_walk k C S hirr hn h0 hro fuel (t / (Region.ready .any ops listed).length) (U.erase i) hsz' I' hU' hl'
          exact ⟨m2, w2, t2, d2, st.trans a1, a2⟩
theorem draw_ok (k : KOk K) (C : CxOk K c) (H : HRel K w0 m h w) (hE : ERel m n E tmps) (hD : DRel m D ds) (hn : n ≤ 65536) {ro : Option Nat} (hro : ∀ o ∈ ops.toList, ro = none ∨ ∀ cl, o.op ≠ .defer cl) {d : Drw} (hd : drwOf ops = some d)
    {E' : Env} {D' : DL} {h' : AH} (ha : aDrw K c n ops d.B d.ord E D h [] = .ok E' D' h') (t : Nat) {fn : FuncId} {kind : CallKind} {cs : List Frame} {kk : List Item} :
    ∃ m' w' tmps' ds', Steps K.P (lone (mkF fn kind ro tmps ds (.inRegion ops (Region.schedule (K.P.follows .mixedOrders) ops t) :: kk)) cs w) (lone (mkF fn kind ro tmps' ds' (.inRegion ops [] :: kk)) cs w') ∧ HRel K w0 m' h' w' ∧ Ext m h w m' h' w' ∧ ERel m' n E' tmps' ∧ DRel m' D' ds' := by
  obtain ⟨e1, e2, s1, s2, s3, s4⟩ := drw_ok hd
  rw [e1, e2] at ha
  have S : Stat ops (befs ops.toList 0 0) := ⟨s1, s2⟩
  have hirr : ∀ i, i < ops.size → bef (befs ops.toList 0 0) i i = false := fun i hi => by
    cases hb : bef (befs ops.toList 0 0) i i with
    | false => rfl
    | true =>
      have hdn : Down ops (fun j => j < i) := fun j o hj ho e he hb => Nat.lt_trans (S.edge j o ho e he hb) hj
      exact absurd (bef_in hdn S.edge i ops[i] (Array.getElem?_eq_getElem hi) (fun e he hb => S.edge i _ (Array.getElem?_eq_getElem hi) e he hb) i hb) (Nat.lt_irrefl i)
  have un : ∀ i, (Array.replicate ops.size false).getD i true = false ↔ i < ops.size := fun i => by
    by_cases hi : i < ops.size <;> simp [hi]
  have hreal : ∀ y ∈ ordOf ops (befs ops.toList 0 0), ops[y.1]? = some y.2 := fun y hy => (ordOf_mem _ _ _).1 hy
  have I : DInv K c n ops (befs ops.toList 0 0) w0 m h w E' D' h' (Array.replicate ops.size false) (fun _ => False) (ordOf ops (befs ops.toList 0 0)) E D h [] m w tmps ds := by
    refine ⟨H, .refl m h w, hE.1.1, hE.1.2, hD, fun _ h => h.elim, fun _ h => h.elim, fun _ _ h => h.elim, ⟨fun t _ => hE.2 t, fun _ h => h.elim, fun _ h => h.elim, fun _ h => h.elim⟩, fun _ h => h.elim, s3, s4, hreal, fun y hy => ?_, fun i hi => ?_, fun i o hi => ?_, ha⟩
    · exact (un y.1).2 (Array.getElem?_eq_some_iff.1 (hreal y hy)).1
    · have hlt := (un i).1 hi
      exact .inr ⟨(i, ops[i]), (ordOf_mem _ _ _).2 (Array.getElem?_eq_getElem hlt), rfl⟩
    · by_cases hlt : i < ops.size <;> simp [hlt] at hi
  have hs : Region.schedule (K.P.follows .mixedOrders) ops t = Region.linearise.go .any ops ops.size t (Array.replicate ops.size false) [] := by
    rw [k.mix]; rfl
  rw [hs]
  exact draw_walk k C S hirr hn H.n0 hro ops.size t (List.range ops.size) (by simp) I (fun i hi => List.mem_range.2 ((un i).1 hi)) (by simp)
end
end Go.Proofs.YtdkebebingchpaaGreatDoor.Ru

