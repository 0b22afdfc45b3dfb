/- The runner: a long run in pieces; a call that is known; The runner: a run's value; a function that says yes, as a contract. -/
import Derived.Test.YtdkebebingchpaaGreatDoorRunG

/- The runner: a long run in pieces; a call that is known. -/
namespace Go.Proofs.YtdkebebingchpaaGreatDoor.Ru
open Go Go.RowKit

/-- The table lies where it lay at first. -/
def Tab (w : World) : Prop := 1 < w.heap.size ∧ ∀ i u, deB[i]? = some u → w.cell? ⟨1, i, none⟩ = some u
theorem deB_int : ∀ (i : Nat) (u : Value), deB[i]? = some u → ∃ n : Nat, u = .int .u8 (Int.ofNat n) := by
  intro i u h
  unfold deB at h
  rw [List.getElem?_map] at h
  obtain ⟨n, _, rfl⟩ := Option.map_eq_some_iff.1 h
  exact ⟨n, rfl⟩
noncomputable def tabled (h : AH) : Bool := match getB h.t 1 with
  | some (.cells cs _) => veq.veqs 4 cs deB
  | _ => false
theorem veqs_ok (n : Nat) : ∀ l r, veq.veqs n l r = true → l = r
  | [], [], _ => rfl
  | [], _ :: _, h => by simp [veq.veqs] at h
  | _ :: _, [], h => by simp [veq.veqs] at h
  | a :: l, b :: r, h => by
    simp only [veq.veqs, Bool.and_eq_true] at h
    rw [veq_ok n a b h.1, veqs_ok n l r h.2]
theorem tab_of {w0 : World} {m : BM} {h : AH} {w : World} (H : HRel KK w0 m h w) (ht : tabled h = true) : Tab w := by
  unfold tabled at ht
  split at ht
  · rename_i cs e hb
    have := veqs_ok _ _ _ ht
    subst this
    have hm := H.stat 1 (by decide)
    have hB := H.live _ _ _ hm hb
    refine ⟨Nat.lt_of_lt_of_le (H.low _ (by decide) (by rw [hb]; rfl)) H.wsz, fun i u hu => ?_⟩
    obtain ⟨u', h1, h2⟩ := hB.1 i u hu
    obtain ⟨n, rfl⟩ := deB_int i u hu
    rw [h2.int] at h1
    exact h1
  · cases ht
theorem HRel.kept {K : PK} {w0 : World} {m : BM} {h : AH} {w w' : World} (H : HRel K w0 m h w) (hk : Kept [] w w') : HRel K w0 m h w' ∧ Ext m h w m h w' := by
  refine ⟨⟨H.n0, H.nb, H.stat, H.fresh, fun b x hb e => ?_, H.inj, fun b x blk e1 e2 => (H.live b x blk e1 e2).keep (.refl m) ?_, H.low, Nat.le_trans H.wsz hk.size⟩,
    ⟨.refl m, fun _ _ e => .inl e, fun _ _ _ => rfl, fun c hc _ => hk.block c hc (by simp), Nat.le_refl _, hk.size, hk.os, hk.tape, hk.output⟩⟩
  · have := H.dyn b x hb e
    exact ⟨this.1, Nat.lt_of_lt_of_le this.2 hk.size⟩
  · refine hk.block x.1 ?_ (by simp)
    by_cases hb : N0 ≤ b
    · exact (H.dyn b x hb e1).2
    · have h1 := H.low b (by omega) (by rw [e2]; rfl)
      rw [H.stat b (by omega)] at e1
      cases e1
      exact Nat.lt_of_lt_of_le h1 H.wsz
/-- A function without arguments that says yes and leaves all that was. -/
def Awakes (f : FuncId) : Prop := (∃ fn, Tryz.prog.funcs[f]? = some fn ∧ fn.body.isNone = false ∧ (fn.name == "runtime.NumGoroutine") = false) ∧
  ∀ w : World, Tab w → ∀ kind : CallKind, (kind = .normal ∨ kind = .deferred) → ∀ cs : List Frame, ∃ w' fr', Steps Tryz.prog (lone (Frame.enter Tryz.prog f #[] kind) cs w) (lone fr' cs w') ∧ fr'.mode = .returning ∧ fr'.defers = [] ∧ fr'.fn = f ∧ fr'.kind = kind ∧
    (∃ fn, Tryz.prog.funcs[f]? = some fn ∧ (results fn fr'.tmps).run Tryz.prog w' = .ok (.bool true) w') ∧ Kept [] w w'
/-- The runner, to which one call is known. -/
noncomputable def callO (O : FuncId) : Nat → PK → Nat → Cx :=
  @Nat.rec (fun _ => PK → Nat → Cx) (fun _ _ => ⟨fun _ _ _ => .bad, fun _ _ _ => .bad⟩)
    (fun _ ih K fuel => ⟨fun f args h => @Bool.rec (fun _ => R) (aFunc K (ih K fuel) fuel f args h) (.ok (.bool true) h) (Nat.beq f O && args.isEmpty && tabled h), aRound K (ih K fuel) fuel⟩)
theorem callO_ok {O : FuncId} (hO : Awakes O) : ∀ (N fuel : Nat), CxOk KK (callO O N KK fuel)
  | 0, _ => ⟨fun h => (by cases h), fun h => (by cases h), fun h => (by cases h)⟩
  | N + 1, fuel => ⟨(fun {f args v h h'} hf => (by
      change @Bool.rec (fun _ => R) (aFunc KK (callO O N KK fuel) fuel f args h) (.ok (.bool true) h) (Nat.beq f O && args.isEmpty && tabled h) = _ at hf
      cases hc : (Nat.beq f O && args.isEmpty && tabled h) with
      | true =>
        simp only [Bool.and_eq_true] at hc
        rw [nbeq hc.1.1]
        exact hO.1
      | false =>
        rw [hc] at hf
        have hf : aFunc KK (callO O N KK fuel) fuel f args h = _ := hf
        unfold aFunc at hf
        split at hf
        · rename_i fn hfn
          obtain ⟨hfP, hname⟩ := kok.fn _ _ hfn
          split at hf
          · rename_i b hb
            exact ⟨fn, hfP, by rw [hb]; rfl, hname⟩
          · cases hf
        · cases hf)), (fun {w0 m h w f args args' v h' kind} hf H hl hkd cs => (by
      change @Bool.rec (fun _ => R) (aFunc KK (callO O N KK fuel) fuel f args h) (.ok (.bool true) h) (Nat.beq f O && args.isEmpty && tabled h) = _ at hf
      cases hc : (Nat.beq f O && args.isEmpty && tabled h) with
      | true =>
        rw [hc] at hf
        have hf : R.ok (.bool true) h = R.ok v h' := hf
        cases hf
        simp only [Bool.and_eq_true] at hc
        have ef := nbeq hc.1.1
        subst ef
        have ea : args = [] := by simpa using hc.1.2
        subst ea
        have ea' : args' = #[] := by
          have := hl.1
          simp at this
          exact Array.eq_empty_of_size_eq_zero this.symm
        subst ea'
        obtain ⟨w', fr', a1, a2, a3, a4, a5, a6, hk⟩ := hO.2 w (tab_of H hc.2) kind hkd cs
        obtain ⟨H', X'⟩ := H.kept hk
        exact ⟨m, w', fr', _, a1, a2, a3, a4, a5, a6, H', X', .lit rfl⟩
      | false =>
        rw [hc] at hf
        exact func_ok kok (callO_ok hO N fuel) (show aFunc KK (callO O N KK fuel) fuel _ _ _ = _ from hf) H hl cs)),
      fun hf H hm hl caller cs => round_ok kok (callO_ok hO N fuel) (show aRound KK (callO O N KK fuel) fuel _ _ _ = _ from hf) H hm hl caller cs⟩
theorem Kept.ext {m m2 : BM} {h h2 : AH} {w w1 w2 : World} (H : HRel KK w m h w1) (hk : Kept [] w w1) (X : Ext m h w1 m2 h2 w2) : Kept [] w w2 :=
  ⟨X.os.trans hk.os, X.tape.trans hk.tape, X.output.trans hk.output, Nat.le_trans hk.size X.wsz, fun c hc hn => by
    rw [X.conf c (Nat.lt_of_lt_of_le hc hk.size) fun b x hb e e2 => by have := (H.dyn b x hb e).1; omega]
    exact hk.block c hc hn⟩
/-- What a call can come to. -/
def Reach (f : FuncId) (args' : Array Value) (todo : List Item) (s : St) : Prop := ∃ fn, KK.fn f = some fn ∧ fn.ntmps ≤ 65536 ∧ ∀ w : World, Tab w → ∀ (kind : CallKind) (cs : List Frame),
  ∃ m w' tmps ds, Steps Tryz.prog (lone (Frame.enter Tryz.prog f args' kind) cs w) (lone (mkF f kind none tmps ds todo) cs w') ∧ FRel KK w m fn.ntmps s tmps ds w' ∧ Kept [] w w'
noncomputable def bodyK (f : FuncId) : Option Code := match KK.fn f with
  | some fn => fn.body
  | none => none
noncomputable def tmpsK (f : FuncId) : Nat := match KK.fn f with
  | some fn => fn.ntmps
  | none => 0
theorem Reach.start {f : FuncId} {args : List Value} {args' : Array Value} {b : Code} (hb : bodyK f = some b) (hc : (Nat.ble (tmpsK f) 65536 && Nat.ble args.length (tmpsK f)) = true) (hl : LRel m0 args args'.toList) : Reach f args' [.code b] ⟨envOf 0 args .nil, [], H0⟩ := by
  unfold bodyK at hb
  unfold tmpsK at hc
  split at hb
  · rename_i fn hfn
    rw [hfn] at hc
    simp only [Bool.and_eq_true] at hc
    have hn := Nat.le_of_ble_eq_true hc.1
    have ha := Nat.le_of_ble_eq_true hc.2
    obtain ⟨hfP, _⟩ := kok.fn f fn hfn
    have hfP : Tryz.prog.funcs[f]? = some fn := hfP
    refine ⟨fn, hfn, hn, fun w hT kind cs => ⟨m0, w, _, [], ?_, ⟨Ru.start w hT.1 hT.2, enter_rel hl hn ha, .nil⟩, .refl [] w⟩⟩
    have henter : Frame.enter Tryz.prog f args' kind = mkF f kind none (args' ++ Array.replicate (fn.ntmps - args'.size) undef) [] [.code b] := by
      simp [Frame.enter, hfP, hb, mkF]
    rw [henter]
    exact .refl _ _
  · cases hb
theorem run_ok {c : Cx} (C : CxOk KK c) {w0 : World} {fn : FuncId} {kind : CallKind} {cs : List Frame} {n : Nat} (hn : n ≤ 65536) : ∀ (N : Nat) {m : BM} {todo todo' : List Item} {s s' : St} {tmps : Array Value} {ds : List Deferred} {w : World}, FRel KK w0 m n s tmps ds w →
    runK N KK c fn n todo s = some (todo', s') → ∃ m' w' tmps' ds', Steps KK.P (lone (mkF fn kind none tmps ds todo) cs w) (lone (mkF fn kind none tmps' ds' todo') cs w') ∧ FRel KK w0 m' n s' tmps' ds' w' ∧ Ext m s.h w m' s'.h w'
  | 0, m, todo, todo', s, s', tmps, ds, w, F, h => by
    cases h
    exact ⟨m, w, tmps, ds, .refl _ _, F, .refl _ _ _⟩
  | N + 1, m, todo, todo', s, s', tmps, ds, w, F, h => by
    unfold runK at h
    split at h
    · rename_i todo1 s1 hs
      obtain ⟨m1, w1, t1, d1, a1, F1, X1, _⟩ := step_ok (kind := kind) (cs := cs) kok C hn (ro := none) (roC := none) F trivial hs
      obtain ⟨m2, w2, t2, d2, b1, F2, X2⟩ := run_ok C hn N F1 h
      exact ⟨m2, w2, t2, d2, a1.trans b1, F2, Ext.trans F.H.n0 X1 X2⟩
    · cases h
theorem Reach.run {c : Cx} (C : CxOk KK c) {f : FuncId} {args' : Array Value} {todo todo' : List Item} {s s' : St} (hr : Reach f args' todo s) (N : Nat) (h : runK N KK c f (tmpsK f) todo s = some (todo', s')) : Reach f args' todo' s' := by
  obtain ⟨fn, hfn, hn, hw⟩ := hr
  have e : tmpsK f = fn.ntmps := by
    unfold tmpsK; rw [hfn]
  rw [e] at h
  refine ⟨fn, hfn, hn, fun w hT kind cs => ?_⟩
  obtain ⟨m, w', tmps, ds, a, F, hk⟩ := hw w hT kind cs
  obtain ⟨m2, w2, t2, d2, b, F2, X2⟩ := run_ok (kind := kind) (cs := cs) C hn N F h
  exact ⟨m2, w2, t2, d2, a.trans b, F2, Kept.ext F.H hk X2⟩
/-- Only the blocks that are named. -/
noncomputable def gcB (t : Tr (Option AB)) : List Nat → Tr (Option AB)
  | [] => .nil
  | b :: l => cond (Nat.blt b 16000001) (setB (gcB t l) b (getB t b)) (gcB t l)
theorem gcB_get (t : Tr (Option AB)) : ∀ (l : List Nat) (j : Nat) (blk : AB), getB (gcB t l) j = some blk → getB t j = some blk
  | [], j, blk, h => by cases h
  | b :: l, j, blk, h => by
    rw [gcB] at h
    cases hb : Nat.blt b 16000001 with
    | false => rw [hb] at h; exact gcB_get t l j blk h
    | true =>
      rw [hb, cond_true, getB_set _ _ _ _ (blt_of hb)] at h
      split at h
      · rename_i e; subst e; exact h
      · exact gcB_get t l j blk h
theorem HRel.fewer {K : PK} {w0 : World} {m : BM} {h : AH} {w : World} (H : HRel K w0 m h w) {t' : Tr (Option AB)} (ht : ∀ j blk, getB t' j = some blk → getB h.t j = some blk) : HRel K w0 m ⟨t', h.n⟩ w := by
  have hs : ∀ b, (getB t' b).isSome = true → (getB h.t b).isSome = true := fun b hb => by
    cases e : getB t' b with
    | none => rw [e] at hb; cases hb
    | some blk => rw [ht b blk e]; rfl
  exact ⟨H.n0, H.nb, H.stat, H.fresh, H.dyn, fun b c x y hb hc e1 e2 e3 s1 s2 => H.inj b c x y hb hc e1 e2 e3 (hs b s1) (hs c s2), fun b x blk e1 e2 => H.live b x blk e1 (ht b blk e2), fun b hb s => H.low b hb (hs b s), H.wsz⟩
noncomputable def gcS (l : List Nat) (s : St) : St := ⟨s.E, s.D, ⟨gcB s.h.t l, s.h.n⟩⟩
theorem Reach.gc {f : FuncId} {args' : Array Value} {todo : List Item} {s : St} (hr : Reach f args' todo s) (l : List Nat) : Reach f args' todo (gcS l s) := by
  obtain ⟨fn, hfn, hn, hw⟩ := hr
  refine ⟨fn, hfn, hn, fun w hT kind cs => ?_⟩
  obtain ⟨m, w', tmps, ds, a, F, hk⟩ := hw w hT kind cs
  exact ⟨m, w', tmps, ds, a, ⟨F.H.fewer (gcB_get _ _), F.E, F.D⟩, hk⟩
noncomputable def runG (N : Nat) (c : Cx) (f : FuncId) (todo : List Item) (s : St) (l : List Nat) : Option (List Item × St) := match runK N KK c f (tmpsK f) todo s with
  | some (todo, s) => some (todo, gcS l s)
  | none => none
theorem Reach.step {c : Cx} (C : CxOk KK c) {f : FuncId} {args' : Array Value} {todo todo' : List Item} {s s' : St} (hr : Reach f args' todo s) (N : Nat) (l : List Nat) (h : runG N c f todo s l = some (todo', s')) : Reach f args' todo' s' := by
  unfold runG at h
  split at h
  · rename_i t1 s1 h1
    cases h
    exact (hr.run C N h1).gc l
  · cases h
noncomputable def aFin (c : Cx) (fuel : Nat) (f : FuncId) (todo : List Item) (s : St) : R := match KK.fn f with
  | some fn => match execK fuel KK c none f fn.ntmps todo s with
    | some ⟨⟨E, D, h⟩, j⟩ => cond (leaves j) (match aDefers c.cf D h with
      | some h => match resVs KK E h fn.results.toList with
        | some vs => .ok (oneOr vs) h
        | none => .bad
      | none => .bad) .bad
    | none => .bad
  | none => .bad
theorem Reach.fin {c : Cx} (C : CxOk KK c) {f : FuncId} {args' : Array Value} {todo : List Item} {s : St} (hr : Reach f args' todo s) (fuel : Nat) (h : isYes (aFin c fuel f todo s) = true) :
    ∀ w : World, Tab w → ∀ (kind : CallKind) (cs : List Frame), ∃ w' fr', Steps Tryz.prog (lone (Frame.enter Tryz.prog f args' kind) cs w) (lone fr' cs w') ∧ fr'.mode = .returning ∧ fr'.defers = [] ∧ fr'.fn = f ∧ fr'.kind = kind ∧
      (∃ fn, Tryz.prog.funcs[f]? = some fn ∧ (results fn fr'.tmps).run Tryz.prog w' = .ok (.bool true) w') ∧ Kept [] w w' := by
  obtain ⟨fn, hfn, hn, hw⟩ := hr
  intro w hT kind cs
  obtain ⟨m, w1, tmps, ds, a, F, hk⟩ := hw w hT kind cs
  obtain ⟨h', hf⟩ := yes_of h
  unfold aFin at hf
  rw [hfn] at hf
  simp only at hf
  split at hf
  · rename_i E D h1 j he
    obtain ⟨m1, w2, t1, d1, q1, a1, F1, X1, _, hlv⟩ := exec_ok (ro := none) (roC := none) (kind := kind) (cs := cs) kok C hn fuel F trivial he
    cases hj : leaves j with
    | false => rw [hj] at hf; cases hf
    | true =>
      rw [hj] at hf
      simp only [cond] at hf
      split at hf
      · rename_i h2 hd
        obtain ⟨m2, w3, b1, H2, X2⟩ := defers_run (fn := f) (kind := kind) (cs := cs) (tmps := t1) (todo := q1) kok C F1.H F1.D hd
        split at hf
        · rename_i vs hvs
          obtain ⟨v', r1, r2⟩ := results_ok kok H2 (F1.E.mono X2.le) hvs
          have hv : oneOr vs = .bool true := (R.ok.inj hf).1
          rw [hv] at r1
          have := r1.bool
          subst this
          refine ⟨w3, { mkF f kind none t1 [] q1 with mode := .returning }, ?_, rfl, rfl, rfl, rfl, ⟨fn, (kok.fn _ _ hfn).1, r2⟩, Kept.ext F1.H (Kept.ext F.H hk X1) X2⟩
          exact a.trans (a1.trans (.head (st_leave hlv hj) b1))
        · cases hf
      · cases hf
  · cases hf
theorem Awakes.of {c : Cx} (C : CxOk KK c) {f : FuncId} {todo : List Item} {s : St} (hr : Reach f #[] todo s) (fuel : Nat) (h : isYes (aFin c fuel f todo s) = true) {b : Code} (hb : bodyK f = some b) : Awakes f := by
  refine ⟨?_, fun w hT kind _ cs => Reach.fin C hr fuel h w hT kind cs⟩
  obtain ⟨fn, hfn, _, _⟩ := hr
  obtain ⟨h1, h2⟩ := kok.fn _ _ hfn
  unfold bodyK at hb
  rw [hfn] at hb
  exact ⟨fn, h1, by rw [show fn.body = some b from hb]; rfl, h2⟩
/-- A run that has come so far, and says yes in the end. -/
theorem Reach.calls {c : Cx} (C : CxOk KK c) {f : FuncId} {args' : Array Value} {todo : List Item} {s : St} (hr : Reach f args' todo s) (fuel : Nat) (h : isYes (aFin c fuel f todo s) = true) {w : World} (hsz : 1 < w.heap.size) (hc : ∀ i u, deB[i]? = some u → w.cell? ⟨1, i, none⟩ = some u) :
    Calls Tryz.prog f args' w fun e w' => e = .returned (.bool true) ∧ Kept [] w w' := by
  intro cs
  obtain ⟨w', fr', hst, e1, e2, e3, e4, ⟨fn, e5, e6⟩, hk⟩ := Reach.fin C hr fuel h w ⟨hsz, hc⟩ .normal cs
  exact ⟨.returned _, w', fr', ⟨rfl, hk⟩, hst, e3, e1, e2, e4, fn, by rw [e3]; exact e5, e6⟩
/-- A closed run that says yes, by a runner to which a call is known. -/
theorem yesC {c : Cx} (C : CxOk KK c) {w : World} {f : FuncId} {args : List Value} {args' : Array Value} {h' : AH} (hf : c.cf f args H0 = .ok (.bool true) h') (hsz : 1 < w.heap.size) (hc : ∀ i u, deB[i]? = some u → w.cell? ⟨1, i, none⟩ = some u) (hl : LRel m0 args args'.toList) :
    Calls Tryz.prog f args' w fun e w' => e = .returned (.bool true) ∧ Kept [] w w' := by
  intro cs
  obtain ⟨m', w', fr', v', hst, e1, e2, e3, e4, ⟨fn, e5, e6⟩, H2, X, hv⟩ := C.cf hf (Ru.start w hsz hc) hl (.inl rfl) cs
  have := hv.bool
  subst this
  exact ⟨.returned _, w', fr', ⟨rfl, X.os, X.tape, X.output, X.wsz, fun c hc _ => X.conf c hc fun b x hb e => by unfold m0 at e; rw [if_neg (Nat.not_lt.2 hb)] at e; cases e⟩, hst, e3, e1, e2, e4, fn, by rw [e3]; exact e5, e6⟩
/-- A piece of a text. -/
def codeAt : List Nat → Code → Code
  | [], c => c
  | i :: p, c => codeAt p (match c, i with
    | .seq a _, 0 => a
    | .seq _ b, _ => b
    | .cond _ a _, 0 => a
    | .cond _ _ b, _ => b
    | .block _ b, _ => b
    | .loop b, _ => b
    | .scope b, _ => b
    | .rangeFunc _ _ a _, 0 => a
    | .rangeFunc _ _ _ b, _ => b
    | c, _ => c)
end Go.Proofs.YtdkebebingchpaaGreatDoor.Ru

/- The runner: a run's value; a function that says yes, as a contract. -/
namespace Go.Proofs.YtdkebebingchpaaGreatDoor.Ru
open Go Go.RowKit

def valOf : R → Option Value
  | .ok v _ => some v
  | .bad => none
theorem val_of {r : R} {v : Value} (h : valOf r = some v) : ∃ h', r = .ok v h' := by
  cases r with
  | bad => cases h
  | ok v' h' => exact ⟨h', by cases h; rfl⟩
theorem Tab.kept {w w' : World} (h : Tab w) (hk : Kept [] w w') : Tab w' := by
  refine ⟨Nat.lt_of_lt_of_le h.1 hk.size, fun i u hu => ?_⟩
  rw [← h.2 i u hu]
  have := hk.block 1 h.1 (by simp)
  unfold World.cell?
  rw [this]
theorem Awakes.calls {f : FuncId} (h : Awakes f) {w : World} (hT : Tab w) : Calls Tryz.prog f #[] w fun e w' => e = .returned (.bool true) ∧ Kept [] w w' := by
  intro cs
  obtain ⟨w', fr', hst, e1, e2, e3, e4, ⟨fn, e5, e6⟩, hk⟩ := h.2 w hT .normal (.inl rfl) cs
  exact ⟨.returned _, w', fr', ⟨rfl, hk⟩, hst, e3, e1, e2, e4, fn, by rw [e3]; exact e5, e6⟩
theorem Reach.value {c : Cx} (C : CxOk KK c) {f : FuncId} {args' : Array Value} {todo : List Item} {s : St} (hr : Reach f args' todo s) (fuel : Nat) {v : Value} (h : valOf (aFin c fuel f todo s) = some v) (hp : plain 4 v = true) {w : World} (hT : Tab w) :
    Calls Tryz.prog f args' w fun e w' => e = .returned v ∧ Kept [] w w' := by
  obtain ⟨fn, hfn, hn, hw⟩ := hr
  obtain ⟨h', hf⟩ := val_of h
  intro cs
  obtain ⟨m, w1, tmps, ds, a, F, hk⟩ := hw w hT .normal cs
  unfold aFin at hf
  rw [hfn] at hf
  simp only at hf
  split at hf
  · rename_i E D h1 j he
    obtain ⟨m1, w2, t1, d1, q1, a1, F1, X1, _, hlv⟩ := exec_ok (ro := none) (roC := none) (kind := .normal) (cs := cs) kok C hn fuel F trivial he
    cases hj : leaves j with
    | false => rw [hj] at hf; cases hf
    | true =>
      rw [hj] at hf
      simp only [cond] at hf
      split at hf
      · rename_i h2 hd
        obtain ⟨m2, w3, b1, H2, X2⟩ := defers_run (fn := f) (kind := .normal) (cs := cs) (tmps := t1) (todo := q1) kok C F1.H F1.D hd
        split at hf
        · rename_i vs hvs
          obtain ⟨v', r1, r2⟩ := results_ok kok H2 (F1.E.mono X2.le) hvs
          have hv : oneOr vs = v := (R.ok.inj hf).1
          rw [hv] at r1
          have := plain_eq 4 _ _ hp r1
          subst this
          exact ⟨.returned _, w3, { mkF f .normal none t1 [] q1 with mode := .returning }, ⟨rfl, Kept.ext F1.H (Kept.ext F.H hk X1) X2⟩, a.trans (a1.trans (.head (st_leave hlv hj) b1)), rfl, rfl, rfl, rfl, fn, (kok.fn _ _ hfn).1, r2⟩
        · cases hf
      · cases hf
  · cases hf
end Go.Proofs.YtdkebebingchpaaGreatDoor.Ru

