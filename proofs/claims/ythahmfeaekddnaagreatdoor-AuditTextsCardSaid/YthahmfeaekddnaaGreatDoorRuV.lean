/- The runner: functions, rounds, calls of any depth. -/
import Derived.Test.YthahmfeaekddnaaGreatDoorRuU
namespace Go.Proofs.YthahmfeaekddnaaGreatDoor.Ru
open Go Go.RowKit

section
variable {K : PK} {w0 : World}
theorem step_ok (k : KOk K) {c : Cx} (C : CxOk K c) {fn : FuncId} {kind : CallKind} {cs : List Frame} {m : BM} {n : Nat} (hn : n ≤ 65536) {ro roC : Option Nat} {s s' : St} {tmps : Array Value} {ds : List Deferred} {w : World} (F : FRel K w0 m n s tmps ds w) (hr : RoRel m ro roC)
    {todo todo' : List Item} (h : stepK todo K c ro fn n s = .next todo' s') : StepTo K w0 fn kind cs m n ro roC todo s tmps ds w todo' s' := by
  cases todo with
  | nil => cases h
  | cons x q =>
    change itemK x K c ro fn n q s = _ at h
    cases x with
    | code x =>
      change codeK x K c ro fn n q s = _ at h
      cases x with
      | skip => cases h; exact stepTo_one F hr st_skipC
      | region id ops d => exact region_ok k C hn F hr h
      | seq a b => cases h; exact stepTo_one F hr st_seq
      | cond x a b =>
        change c_cond s.E x a b q s = _ at h
        unfold c_cond at h
        split at h
        · rename_i t ht
          cases h
          have h0 := rd_rel F.H F.E x
          rw [ht] at h0
          exact stepTo_one F hr (st_cond h0.bool)
        · cases h
      | block id b => cases h; exact stepTo_one F hr st_block
      | loop b => cases h; exact stepTo_one F hr st_loop
      | rangeFunc f ps a b => exact range_ok k C F hr h
      | exit id =>
        change c_exit id q s = _ at h
        unfold c_exit at h
        split at h
        · rename_i k' hk
          cases h
          exact stepTo_one F hr (st_exit hk)
        · cases h
      | scope b => cases h; exact stepTo_one F hr st_scope
      | label l => cases h; exact stepTo_one F hr st_label
      | goto l =>
        change c_goto l q s = _ at h
        unfold c_goto at h
        split at h
        · rename_i k' hk
          cases h
          exact stepTo_one F hr (st_goto hk)
        · cases h
      | ret => cases h
      | refuse y => cases h
    | inBlock id => cases h; exact stepTo_one F hr st_inBlock
    | inLoop b => cases h; exact stepTo_one F hr st_inLoop
    | inScope b => cases h; exact stepTo_one F hr st_inScope
    | beginRound => exact begin_ok F hr h
    | _ => cases h
theorem out_ok {c : Cx} {fn : FuncId} {n : Nat} {ro : Option Nat} {s s' : St} {todo : List Item} {j : Option Code} (h : stepK todo K c ro fn n s = .out s' j) : s' = s ∧ Leaving todo j := by
  cases todo with
  | nil => cases h; exact ⟨rfl, rfl⟩
  | cons x q =>
    change itemK x K c ro fn n q s = _ at h
    cases x with
    | code x =>
      change codeK x K c ro fn n q s = _ at h
      cases x with
      | ret => cases h; exact ⟨rfl, q, rfl⟩
      | exit id =>
        change c_exit id q s = _ at h
        unfold c_exit at h
        split at h
        · cases h
        · rename_i hk; cases h; exact ⟨rfl, q, rfl, hk⟩
      | goto l =>
        change c_goto l q s = _ at h
        unfold c_goto at h
        split at h
        · cases h
        · rename_i hk; cases h; exact ⟨rfl, q, rfl, hk⟩
      | region id ops d =>
        change c_region K c ro n ops d q s = _ at h
        unfold c_region at h
        cases hb : (ro.isNone || noDefer ops.toList) with
        | false => rw [hb] at h; cases h
        | true =>
          rw [hb] at h
          simp only [cond] at h
          split at h
          · split at h <;> cases h
          · split at h
            · split at h <;> cases h
            · cases h
      | cond x a b =>
        change c_cond s.E x a b q s = _ at h
        unfold c_cond at h
        split at h <;> cases h
      | rangeFunc f ps a b =>
        change c_rangeFunc c ro fn n f ps a b q s = _ at h
        unfold c_rangeFunc at h
        split at h
        · rename_i d s1 g first cap _ _
          cases hb : Nat.blt s1.h.n 16000000 with
          | false => rw [hb] at h; cases h
          | true =>
            rw [hb] at h
            simp only [cond] at h
            split at h
            · split at h
              · split at h <;> cases h
              · cases h
            · cases h
        · cases h
      | _ => cases h
    | beginRound =>
      change c_round ro q s = _ at h
      unfold c_round at h
      split at h
      · split at h <;> cases h
      · cases h
    | _ => cases h
/-- A frame goes on till it leaves. -/
theorem exec_ok (k : KOk K) {c : Cx} (C : CxOk K c) {fn : FuncId} {kind : CallKind} {cs : List Frame} {n : Nat} (hn : n ≤ 65536) {ro roC : Option Nat} : ∀ (N : Nat) {m : BM} {todo : List Item} {s : St} {out : Out} {tmps : Array Value} {ds : List Deferred} {w : World}, FRel K w0 m n s tmps ds w → RoRel m ro roC →
    execK N K c ro fn n todo s = some out → ∃ m' w' tmps' ds' todo', Steps K.P (lone (mkF fn kind roC tmps ds todo) cs w) (lone (mkF fn kind roC tmps' ds' todo') cs w') ∧ FRel K w0 m' n out.s tmps' ds' w' ∧ Ext m s.h w m' out.s.h w' ∧ RoRel m' ro roC ∧ Leaving todo' out.j
  | 0, m, todo, s, out, tmps, ds, w, F, hr, h => by cases h
  | N + 1, m, todo, s, out, tmps, ds, w, F, hr, h => by
    change @CR.rec (fun _ => Option Out) none (fun todo s => execK N K c ro fn n todo s) (fun s j => some ⟨s, j⟩) (stepK todo K c ro fn n s) = _ at h
    cases hs : stepK todo K c ro fn n s with
    | bad => rw [hs] at h; cases h
    | next todo1 s1 =>
      rw [hs] at h
      obtain ⟨m1, w1, t1, d1, a1, F1, X1, hr1⟩ := step_ok (kind := kind) (cs := cs) k C hn F hr hs
      obtain ⟨m2, w2, t2, d2, q2, b1, F2, X2, hr2, hl⟩ := exec_ok k C hn N F1 hr1 (show execK N K c ro fn n todo1 s1 = some out from h)
      exact ⟨m2, w2, t2, d2, q2, a1.trans b1, F2, Ext.trans F.H.n0 X1 X2, hr2, hl⟩
    | out s1 j =>
      rw [hs] at h
      obtain ⟨rfl, hl⟩ := out_ok hs
      cases h
      exact ⟨m, w, tmps, ds, todo, .refl _ _, F, .refl m _ w, hr, hl⟩
/-- A frame at work for a while. -/
noncomputable def runK : Nat → PK → Cx → FuncId → Nat → List Item → St → Option (List Item × St)
  | 0, _, _, _, _, todo, s => some (todo, s)
  | N + 1, K, c, fn, n, todo, s => match stepK todo K c none fn n s with
    | .next todo s => runK N K c fn n todo s
    | _ => none
theorem envOf_get : ∀ (l : List Value) (i : Nat) (E : Env) (t : Nat), i + l.length ≤ 16000001 → getV (envOf i l E) t = if i ≤ t ∧ t < i + l.length then l.getD (t - i) undef else getV E t
  | [], i, E, t, _ => by
    rw [if_neg (fun h => by have := h.1; have := h.2; simp at this; omega)]; rfl
  | v :: l, i, E, t, h => by
    simp only [List.length_cons] at h
    rw [envOf, envOf_get l (i + 1) _ t (by omega), setV, getV_set _ _ _ _ (by omega)]
    by_cases h1 : t = i
    · subst h1
      rw [if_neg (by omega), if_pos rfl, if_pos (by simp)]
      simp
    · rw [if_neg h1]
      by_cases h2 : i + 1 ≤ t ∧ t < i + 1 + l.length
      · rw [if_pos h2, if_pos (by simp; omega), show t - i = (t - (i + 1)) + 1 by omega]
        simp
      · rw [if_neg h2, if_neg (by simp; omega)]
theorem getV_empty (t : Nat) : getV .nil t = undef := rfl
theorem enter_rel {m : BM} {args : List Value} {args' : Array Value} {n : Nat} (hl : LRel m args args'.toList) (hn : n ≤ 65536) (ha : args.length ≤ n) : ERel m n (envOf 0 args .nil) (args' ++ Array.replicate (n - args'.size) undef) := by
  have hlen : args.length = args'.size := by simpa using hl.1
  refine ⟨⟨by simp; omega, fun t ht => by rw [envOf_get _ _ _ _ (by omega), if_neg (by omega)]; rfl⟩, fun t => ?_⟩
  rw [envOf_get _ _ _ _ (by omega), getV_empty]
  by_cases ht : t < args.length
  · rw [if_pos ⟨Nat.zero_le _, by omega⟩]
    obtain ⟨u', h1, h2⟩ := hl.get (List.getElem?_eq_getElem ht)
    have e1 : args.getD (t - 0) undef = args[t] := by simp [ht]
    have e2 : (args' ++ Array.replicate (n - args'.size) undef).getD t undef = u' := by
      rw [Array.getD_eq_getD_getElem?, Array.getElem?_append_left (by omega), ← Array.getElem?_toList, h1]; rfl
    rw [e1, e2]; exact h2
  · rw [if_neg (by omega)]
    have e2 : (args' ++ Array.replicate (n - args'.size) undef).getD t undef = undef := by
      rw [Array.getD_eq_getD_getElem?, Array.getElem?_append_right (by omega), Array.getElem?_replicate]
      split <;> rfl
    rw [e2]; exact .undef m
theorem HRel.scrap {m : BM} {h : AH} {w w' : World} (H : HRel K w0 m h w) {b : Nat} {x : Nat × Nat} (hb : N0 ≤ b) (hm : m b = some x) (hg : (getB h.t b).isSome = true) (hs : w'.heap.size = w.heap.size)
    (ho : ∀ k, k ≠ x.1 → w'.heap[k]? = w.heap[k]?) (hos : w'.os = w.os ∧ w'.tape = w.tape ∧ w'.output = w.output) :
    HRel K w0 m ⟨setB h.t b none, h.n⟩ w' ∧ Ext m h w m ⟨setB h.t b none, h.n⟩ w' := by
  obtain ⟨H1, X1⟩ := H.kill hb hm
  have hbn := H.bound hm
  have hb2 : b < 16000001 := Nat.lt_of_lt_of_le hbn H.nb
  refine ⟨⟨H1.n0, H1.nb, H1.stat, H1.fresh, fun c y hc e => by rw [hs]; exact H1.dyn c y hc e, H1.inj, fun c y blk e1 e2 => ?_, H1.low, by rw [hs]; exact H1.wsz⟩, ⟨X1.le, X1.news, X1.absf, fun c hc hn => ho c (fun e => hn b x hb hm e.symm), X1.hn, by rw [hs]; exact Nat.le_refl _, hos.1, hos.2.1, hos.2.2⟩⟩
  have hcb : c ≠ b := fun e => by simp only [e, getB_set _ _ _ _ hb2, if_pos] at e2; cases e2
  refine (H1.live c y blk e1 e2).keep (.refl m) (ho _ ?_)
  simp only [getB_set _ _ _ _ hb2, if_neg hcb] at e2
  exact H.apart hb hm hg e1 (by rw [e2]; rfl) hcb
/-- The deferred calls of a frame that leaves. -/
theorem defers_run (k : KOk K) {c : Cx} (C : CxOk K c) {fn : FuncId} {kind : CallKind} {cs : List Frame} {tmps : Array Value} {todo : List Item} : ∀ {D : DL} {ds : List Deferred} {m : BM} {h h' : AH} {w : World}, HRel K w0 m h w → DRel m D ds → aDefers c.cf D h = some h' →
    ∃ m' w', Steps K.P (lone { mkF fn kind none tmps ds todo with mode := .returning } cs w) (lone { mkF fn kind none tmps [] todo with mode := .returning } cs w') ∧ HRel K w0 m' h' w' ∧ Ext m h w m' h' w'
  | [], _, m, h, h', w, H, .nil, ha => by
    cases ha
    exact ⟨m, w, .refl _ _, H, .refl m _ w⟩
  | (f, l) :: D, d :: ds, m, h, h', w, H, .cons hd hD, ha => by
    cases hd with
    | fn e1 e2 e3 =>
      rename_i g a a' b b' l'
      unfold aDefers at ha
      simp only at ha
      cases hc : c.cf g (a.toList ++ l ++ b.toList) h with
      | bad => rw [hc] at ha; cases ha
      | ok v h1 =>
        rw [hc] at ha
        simp only at ha
        have hargs : LRel m (a.toList ++ l ++ b.toList) (a' ++ l' ++ b').toList := by
          simp only [Array.toList_append]
          exact (e1.append e3).append e2
        obtain ⟨m1, w1, fr', v', hst, p1, p2, p3, p4, ⟨fnn, p5, p6⟩, H1, X1, hv⟩ := C.cf hc H hargs (.inr rfl) ({ { mkF fn kind none tmps ({ target := .fn (.func g) b', args := a' ++ l' } :: ds) todo with mode := .returning } with defers := ds } :: cs)
        obtain ⟨m2, w2, b1, H2, X2⟩ := defers_run (fn := fn) (kind := kind) (cs := cs) (tmps := tmps) (todo := todo) k C H1 (hD.mono X1.le) ha
        refine ⟨m2, w2, ?_, H2, Ext.trans H.n0 X1 X2⟩
        obtain ⟨fnn', hfn', hbody, hname⟩ := C.body hc
        have hn : ¬ fnn'.name = "runtime.NumGoroutine" := by simpa using hname
        have hb2 : ¬ fnn'.body = none := fun e => by rw [e] at hbody; cases hbody
        have hinv : (invoke (.fn (.func g) b') (a' ++ l')).run K.P w = .ok (.enter g (a' ++ l' ++ b')) w := by
          simp [invoke, callFunc, hfn', hn, hb2]
        have hs1 := Go.step_defer (P := K.P) (fr := { mkF fn kind none tmps ({ target := .fn (.func g) b', args := a' ++ l' } :: ds) todo with mode := .returning }) (cs := cs) (w := w) (d := { target := .fn (.func g) b', args := a' ++ l' }) (ds := ds) (fv := .func g) (cap := b') (f := g) (args := a' ++ l' ++ b') (by simp) rfl rfl hinv
        have hs2 := step_going_returned (P := K.P) (fr := fr') (c := { { mkF fn kind none tmps ({ target := .fn (.func g) b', args := a' ++ l' } :: ds) todo with mode := .returning } with defers := ds }) (cs := cs) (w := w1) (v := v') p4 ⟨p1, p2, fnn, by rw [p3]; exact p5, p6⟩
        refine .head hs1 (hst.trans (.head hs2 ?_))
        exact b1
    | mark hN e1 =>
      rename_i r x
      unfold aDefers at ha
      simp only at ha
      cases hg : getB h.t r with
      | none => rw [hg] at ha; cases ha
      | some blk =>
        rw [hg] at ha
        cases blk with
        | defs =>
          simp only at ha
          have hw : w.heap[x.1]? = some (.deferred (some [])) := H.live r x _ e1 hg
          obtain ⟨H1, X1⟩ := H.scrap (w' := w.putObj x.1 (.deferred none)) hN e1 (by rw [hg]; rfl) (putObj_size _ _ _) (fun k hk => putObj_other _ _ _ _ hk) ⟨rfl, rfl, rfl⟩
          obtain ⟨m2, w2, b1, H2, X2⟩ := defers_run (fn := fn) (kind := kind) (cs := cs) (tmps := tmps) (todo := todo) k C H1 hD ha
          refine ⟨m2, w2, .head ?_ b1, H2, Ext.trans H.n0 X1 X2⟩
          have ht : (Instr.takeDeferred x.1).run K.P w = .ok [] (w.putObj x.1 (.deferred none)) := by
            simp [Instr.takeDeferred, getObj, Sem.run, hw, run_setObj hw rfl]
          exact step_lone_go (by simp [stepG, unwind, mkF, Sem.runT_eq, ht, GStep.bare_after])
        | _ => cases ha
def resSem (tmps : Array Value) : ResultVar → Sem Value
  | .tmp t => pure (tmps.getD t undef)
  | .cell a t => do loadVar t (← asAddr (tmps.getD a undef))
theorem resV_ok (k : KOk K) {m : BM} {h : AH} {w : World} {n : Nat} {E : Env} {tmps : Array Value} (H : HRel K w0 m h w) (hE : ERel m n E tmps) {r : ResultVar} {v : Value} (hr : resV K E h r = some v) :
    ∃ v', VRel m v v' ∧ (resSem tmps r).run K.P w = .ok v' w := by
  cases r with
  | tmp t => cases hr; exact ⟨_, hE.2 t, rfl⟩
  | cell a t =>
    change (match getV E a with
      | .pointer (some ⟨b, o, none⟩) => (match tyD K t with
        | some (true, n) => (match rdCells h b o n with | some l => some (.agg l.toArray) | none => none)
        | some (false, _) => rdCell h b o
        | none => none)
      | _ => none) = some v at hr
    have h0 := hE.2 a
    split at hr
    · rename_i b off he
      rw [he] at h0
      obtain ⟨x, hm, ex⟩ := h0.pointer
      split at hr
      · rename_i q hd
        obtain ⟨⟨i, hi, hn⟩, hag⟩ := tyD_ok k hd
        split at hr
        · rename_i l hl
          cases hr
          obtain ⟨e1, l', e2, e3⟩ := H.cells hm hl
          have hlen : l'.length = q := by rw [← e2.1]; exact e1
          have hld := run_loadCells_list (P := K.P) w ⟨x.1, off, none⟩ l' (fun j u hu => by rw [add_off]; exact e3 j u hu)
          rw [hlen, ← hn] at hld
          exact ⟨.agg l'.toArray, .aggL e2, by simp [resSem, ex, asAddr, loadVar, hag, sizeOf, typeInfo, hi, hld, -Array.getD_eq_getD_getElem?]⟩
        · cases hr
      · rename_i q hd
        obtain ⟨⟨i, hi, hn⟩, hag⟩ := tyD_ok k hd
        obtain ⟨v', e1, e2⟩ := H.cell hm hr
        exact ⟨v', e2, by simp [resSem, ex, asAddr, loadVar, hag, e1, -Array.getD_eq_getD_getElem?]⟩
      · cases hr
    · cases hr
theorem resVs_ok (k : KOk K) {m : BM} {h : AH} {w : World} {n : Nat} {E : Env} {tmps : Array Value} (H : HRel K w0 m h w) (hE : ERel m n E tmps) : ∀ {rs : List ResultVar} {vs : List Value}, resVs K E h rs = some vs →
    ∃ vs', LRel m vs vs' ∧ (rs.mapM (resSem tmps)).run K.P w = .ok vs' w
  | [], vs, h => by cases h; exact ⟨[], .nil, rfl⟩
  | r :: rs, vs, h => by
    unfold resVs at h
    split at h
    · rename_i v vs1 h1 h2
      cases h
      obtain ⟨v', a1, a2⟩ := resV_ok k H hE h1
      obtain ⟨vs', b1, b2⟩ := resVs_ok k H hE h2
      refine ⟨v' :: vs', .cons a1 b1, ?_⟩
      rw [List.mapM_cons]
      simp only [Sem.run_bind]
      rw [a2]
      simp only [Result.andThen_ok]
      rw [b2]
      rfl
    · cases h
theorem results_ok (k : KOk K) {m : BM} {h : AH} {w : World} {n : Nat} {E : Env} {tmps : Array Value} (H : HRel K w0 m h w) (hE : ERel m n E tmps) {fn : Func} {vs : List Value} (hr : resVs K E h fn.results.toList = some vs) : ∃ v', VRel m (oneOr vs) v' ∧ (results fn tmps).run K.P w = .ok v' w := by
  obtain ⟨vs', h1, h2⟩ := resVs_ok k H hE hr
  have hrun : (fn.results.mapM (resSem tmps)).run K.P w = .ok vs'.toArray w := by
    rw [Array.mapM_eq_mapM_toList, Sem.run_map, h2]; rfl
  refine ⟨if h : vs'.toArray.size = 1 then vs'.toArray[0] else .tuple vs'.toArray, ?_, ?_⟩
  · match vs, vs', h1 with
    | [], [], h1 => exact .tuple rfl h1.2
    | [v], [v'], h1 => exact h1.2 0
    | v :: u :: r, v' :: u' :: r', h1 =>
      rw [dif_neg (by simp)]
      exact .tuple h1.1 h1.2
    | [], _ :: _, h1 => exact absurd h1.1 (by simp)
    | [_], [], h1 => exact absurd h1.1 (by simp)
    | [_], _ :: _ :: _, h1 => exact absurd h1.1 (by simp)
    | _ :: _ :: _, [], h1 => exact absurd h1.1 (by simp)
    | _ :: _ :: _, [_], h1 => exact absurd h1.1 (by simp)
  · change ((fn.results.mapM (resSem tmps) >>= fun vs => pure (if h : vs.size = 1 then vs[0] else .tuple vs) : Sem Value)).run K.P w = _
    rw [Sem.run_bind, hrun]
    rfl
theorem func_ok (k : KOk K) {c : Cx} (C : CxOk K c) {fuel : Nat} {m : BM} {h : AH} {w : World} {f : FuncId} {args : List Value} {args' : Array Value} {v : Value} {h' : AH} {kind : CallKind} (hf : aFunc K c fuel f args h = .ok v h') (H : HRel K w0 m h w) (hl : LRel m args args'.toList) (cs : List Frame) :
    ∃ m' w' fr' v', Steps K.P (lone (Frame.enter K.P f args' kind) cs w) (lone fr' cs w') ∧ fr'.mode = .returning ∧ fr'.defers = [] ∧ fr'.fn = f ∧ fr'.kind = kind ∧ (∃ fn, K.P.funcs[f]? = some fn ∧ (results fn fr'.tmps).run K.P w' = .ok v' w') ∧
      HRel K w0 m' h' w' ∧ Ext m h w m' h' w' ∧ VRel m' v v' := by
  unfold aFunc at hf
  split at hf
  · rename_i fn hfn
    obtain ⟨hfP, hname⟩ := k.fn _ _ hfn
    split at hf
    · rename_i b hb
      cases hc : (Nat.ble fn.ntmps 65536 && Nat.ble args.length fn.ntmps) with
      | false => rw [hc] at hf; cases hf
      | true =>
        rw [hc] at hf
        simp only [cond] at hf
        simp only [Bool.and_eq_true] at hc
        have hn := Nat.le_of_ble_eq_true hc.1
        have ha := Nat.le_of_ble_eq_true hc.2
        have henter : Frame.enter K.P f args' kind = mkF f kind none (args' ++ Array.replicate (fn.ntmps - args'.size) undef) [] [.code b] := by
          simp [Frame.enter, hfP, hb, mkF]
        split at hf
        · rename_i E D h1 j he
          obtain ⟨m1, w1, t1, d1, q1, a1, F1, X1, _, hlv⟩ := exec_ok (ro := none) (roC := none) (kind := kind) (cs := cs) k C hn fuel (w := w) (m := m) ⟨H, enter_rel hl hn ha, .nil⟩ trivial he
          cases hj : leaves j with
          | false => rw [hj] at hf; cases hf
          | true =>
            rw [hj] at hf
            simp only [cond] at hf
            split at hf
            · rename_i h2 hd
              obtain ⟨m2, w2, b1, H2, X2⟩ := defers_run (fn := f) (kind := kind) (cs := cs) (tmps := t1) (todo := q1) k C F1.H F1.D hd
              split at hf
              · rename_i vs hvs
                cases hf
                obtain ⟨v', r1, r2⟩ := results_ok k H2 (F1.E.mono X2.le) hvs
                refine ⟨m2, w2, { mkF f kind none t1 [] q1 with mode := .returning }, v', ?_, rfl, rfl, rfl, rfl, ⟨fn, hfP, r2⟩, H2, Ext.trans H.n0 X1 X2, r1⟩
                rw [henter]
                exact a1.trans (.head (st_leave hlv hj) b1)
              · cases hf
            · cases hf
        · cases hf
    · cases hf
  · cases hf
theorem setPs_ok {m : BM} {n : Nat} (hn : n ≤ 65536) : ∀ (ps : List Tmp) (vs vs' : List Value) (E E' : Env) (tmps : Array Value), ERel m n E tmps → LRel m vs vs' → setPs n ps vs E = some E' → ps.length = vs.length ∧ ERel m n E' ((ps.zip vs').foldl (fun t (x : Tmp × Value) => t.setIfInBounds x.1 x.2) tmps)
  | [], [], vs', E, E', tmps, hE, hl, h => by
    cases h
    have : vs' = [] := List.eq_nil_of_length_eq_zero hl.1.symm
    subst this
    exact ⟨rfl, hE⟩
  | [], _ :: _, _, _, _, _, _, _, h => by cases h
  | _ :: _, [], _, _, _, _, _, _, h => by cases h
  | t :: ps, v :: vs, vs', E, E', tmps, hE, hl, h => by
    unfold setPs at h
    cases hb : Nat.blt t n with
    | false => rw [hb] at h; cases h
    | true =>
      rw [hb] at h
      match vs', hl with
      | [], hl => exact absurd hl.1 (by simp)
      | v' :: vs', hl =>
        obtain ⟨h1, h2⟩ := setPs_ok hn ps vs vs' _ E' _ (hE.put (blt_of hb) hn (hl.2 0)) (hl.drop 1) h
        exact ⟨by simp [h1], h2⟩
theorem round_ok (k : KOk K) {c : Cx} (C : CxOk K c) {fuel : Nat} {m : BM} {h : AH} {w : World} {l : Nat} {x : Nat × Nat} {args : List Value} {args' : Array Value} {v : Value} {h' : AH} (hf : aRound K c fuel l args h = .ok v h') (H : HRel K w0 m h w) (hm : m l = some x) (hl : LRel m args args'.toList) (caller : Frame) (cs : List Frame) :
    ∃ m' w' v' f t2 a b, (Instr.yield x.1 args').run K.P w = .ok (.round x.1 f t2 a b) w ∧ Steps K.P (lone (Frame.round x.1 f t2 a b .normal) (caller :: cs) w) (lone (caller.finish v') cs w') ∧ HRel K w0 m' h' w' ∧ Ext m h w m' h' w' ∧ VRel m' v v' := by
  unfold aRound at hf
  split at hf
  · rename_i st p fn E ps a b d n hg
    split at hf
    · rename_i E1 hE1
      cases hc : (Nat.ble N0 l && Nat.ble n 65536) with
      | false => rw [hc] at hf; cases hf
      | true =>
        rw [hc] at hf
        simp only [cond] at hf
        simp only [Bool.and_eq_true] at hc
        have hN := Nat.le_of_ble_eq_true hc.1
        have hn := Nat.le_of_ble_eq_true hc.2
        obtain ⟨t0, y, e1, e2, e3⟩ := H.live l x _ hm hg
        obtain ⟨hlen, hE⟩ := setPs_ok hn ps args args'.toList E E1 t0 e3 hl hE1
        have hy : (Instr.yield x.1 args').run K.P w = .ok (.round x.1 fn ((ps.zip args'.toList).foldl (fun t (x : Tmp × Value) => t.setIfInBounds x.1 x.2) t0) a b) w := by
          have h1 := hl.1
          have hs : ¬ args'.size ≠ ps.toArray.size := by simp at h1 ⊢; omega
          have hs2 : args'.size = ps.length := by simp at h1; omega
          simp only [Instr.yield, Sem.run_bind, run_loop e1, Result.andThen_ok]
          rw [if_neg hs]
          have hz : (ps.toArray.zip args').foldl (fun tmps (x : Nat × Value) => tmps.setIfInBounds x.1 x.2) t0 = (ps.zip args'.toList).foldl (fun t (x : Tmp × Value) => t.setIfInBounds x.1 x.2) t0 := by
            rw [← Array.foldl_toList, Array.toList_zip]
          simp only [Sem.run_pure]
          rw [← hz]
        split at hf
        · rename_i E2 h1 j he
          have hfr : Frame.round x.1 fn ((ps.zip args'.toList).foldl (fun t (x : Tmp × Value) => t.setIfInBounds x.1 x.2) t0) a b .normal = mkF fn .normal (some x.1) ((ps.zip args'.toList).foldl (fun t (x : Tmp × Value) => t.setIfInBounds x.1 x.2) t0) [] [.code a, .beginRound, .code b] := rfl
          obtain ⟨m1, w1, t1, d1, q1, a1, F1, X1, hr1, hlv⟩ := exec_ok (ro := some l) (roC := some x.1) (kind := .normal) (cs := caller :: cs) k C hn fuel (w := w) (m := m) (s := ⟨E1, [], h⟩) ⟨H, hE, .nil⟩ ⟨hN, x, hm, rfl⟩ he
          have hd1 : d1 = [] := by
            have := F1.D
            cases this; rfl
          subst hd1
          split at hf
          · rename_i st2 p2 fa E3 ps3 a3 b3 d3 n3 hg2
            cases hf
            obtain ⟨lp, q1', q2, q3, H3, X3⟩ := ext_loop F1.H hN (X1.le _ _ hm) hg2 (cond j.isNone .ready .done) j
            refine ⟨m1, _, .bool j.isNone, _, _, _, _, hy, ?_, H3, Ext.trans H.n0 X1 X3, .lit rfl⟩
            rw [hfr]
            refine a1.trans (.one (st_leaveRound hlv ?_))
            simp only [Instr.endRound, Sem.run_bind, run_loop q1', Result.andThen_ok, run_setObj q1' rfl]
            cases j <;> rfl
          · cases hf
        · cases hf
    · cases hf
  · cases hf
theorem callK_ok (k : KOk K) : ∀ (N fuel : Nat), CxOk K (callK N K fuel)
  | 0, _ => ⟨fun h => (by cases h), fun h => (by cases h), fun h => (by cases h)⟩
  | N + 1, fuel => ⟨(fun {f args v h h'} hf => (by
      change aFunc K (callK N K fuel) fuel f args h = _ at hf
      unfold aFunc at hf
      split at hf
      · rename_i fn hfn
        obtain ⟨hfP, hname⟩ := k.fn _ _ hfn
        split at hf
        · rename_i b hb
          exact ⟨fn, hfP, by rw [hb]; rfl, hname⟩
        · cases hf
      · cases hf)), fun hf H hl _ cs => func_ok k (callK_ok k N fuel) (show aFunc K (callK N K fuel) fuel _ _ _ = _ from hf) H hl cs,
      fun hf H hm hl caller cs => round_ok k (callK_ok k N fuel) (show aRound K (callK N K fuel) fuel _ _ _ = _ from hf) H hm hl caller cs⟩
/-- **A call that the runner carries out.** -/
theorem run_calls (k : KOk K) (N fuel : Nat) {m : BM} {h : AH} {w : World} {f : FuncId} {args : List Value} {args' : Array Value} {v : Value} {h' : AH} (hf : (callK N K fuel).cf f args h = .ok v h') (H : HRel K w0 m h w) (hl : LRel m args args'.toList) :
    Calls K.P f args' w fun e w' => ∃ m' v', e = .returned v' ∧ HRel K w0 m' h' w' ∧ Ext m h w m' h' w' ∧ VRel m' v v' := by
  intro cs
  obtain ⟨m', w', fr', v', hst, e1, e2, e3, e4, ⟨fn, e5, e6⟩, H2, X2, hv⟩ := (callK_ok k N fuel).cf hf H hl (.inl rfl) cs
  exact ⟨.returned v', w', fr', ⟨m', v', rfl, H2, X2, hv⟩, hst, e3, e1, e2, e4, fn, by rw [e3]; exact e5, e6⟩
end
end Go.Proofs.YthahmfeaekddnaaGreatDoor.Ru
