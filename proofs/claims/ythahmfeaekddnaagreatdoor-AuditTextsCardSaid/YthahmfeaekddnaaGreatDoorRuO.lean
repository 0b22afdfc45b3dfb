/- The runner: copies and maps; all that does something but call. -/
import Derived.Test.YthahmfeaekddnaaGreatDoorRuM
namespace Go.Proofs.YthahmfeaekddnaaGreatDoor.Ru
open Go Go.RowKit

section
variable {K : PK} {w0 : World} {m : BM} {h : AH} {w : World} {E : Env} {ρ : Operand → Value} {o : Oper}
theorem toList_two {α : Type} {a : Array α} {x y : α} (h : a.toList = [x, y]) : a = #[x, y] := by
  apply Array.toList_inj.1; simpa using h
theorem append_ok (k : KOk K) (H : HRel K w0 m h w) (hρ : ∀ x, VRel m (rd E x) (ρ x)) {args : Array Operand} {ts : Array TypeId} (ho : o.op = .call ⟨.builtin .append, args, ts⟩) {f : AH → R} (hq : q_append K E args ts = .eff f) {v : Value} {h' : AH} (hf : f h = .ok v h') : Does K w0 m h w ρ o v h' := by
  unfold q_append at hq
  split at hq
  · rename_i t u s x ht hx
    obtain ⟨hc, hq⟩ := Q.cond_eq hq (by simp)
    cases hq
    obtain ⟨m', w', v', r1, r2, r3, r4⟩ := append_core (ty := o.type) (u := u) k H (hρ s) (hρ x) hc hf
    refine ⟨m', w', v', r1, r2, r3, .inl ?_⟩
    rw [toList_two ht, toList_two hx] at ho
    simp [execOp, ho, resolve, invoke, builtin, r4]
  · cases hq
theorem copy_ok (k : KOk K) (H : HRel K w0 m h w) (hρ : ∀ x, VRel m (rd E x) (ρ x)) {args : Array Operand} {ts : Array TypeId} (ho : o.op = .call ⟨.builtin .copy, args, ts⟩) {f : AH → R} (hq : q_copy K E args ts = .eff f) {v : Value} {h' : AH} (hf : f h = .ok v h') : Does K w0 m h w ρ o v h' := by
  unfold q_copy at hq
  split at hq
  · rename_i t tr s x ht hx
    cases hq
    have e1 := toList_nth ht
    have hs := hρ s
    have hX := hρ x
    unfold aCopy at hf
    split at hf
    · rename_i e hu
      split at hf
      · rename_i i b off n c off2 b2 n2 c2 hi h2 h3
        rw [h2] at hs
        rw [h3] at hX
        obtain ⟨_, y, c', hm, es, _⟩ := hs.sliceS
        obtain ⟨_, y2, c2', hm2, ex, _⟩ := hX.sliceS
        split at hf
        · rename_i news hn
          obtain ⟨n1, news', n2', n3⟩ := H.cells hm2 hn
          split at hf
          · rename_i hh hw
            cases hf
            obtain ⟨hNb, cs, e2, hgb, hfit, hone⟩ := wr_facts hw
            obtain ⟨w', q1, q2, q3⟩ := H.write K.P hm hw n2' (oneC_list n2' hone)
            refine ⟨m, w', _, q2, q3, .lit rfl, .inl ?_⟩
            have hlen : news'.length = Nat.min n2 n * i.size := by rw [← n2'.1]; exact n1
            have hfc := run_firstCells_some (P := K.P) w i.size (Nat.min n2 n) ⟨y2.1, b2, none⟩ n2 c2' news' hlen (fun j u hu => by rw [add_off]; exact n3 j u hu)
            have hxx := toList_two hx
            subst hxx
            simp [execOp, ho, resolve, invoke, builtin, Builtin.copy_, e1, es, ex, run_underlying (k.und _ _ hu), Builtin.lenOf, sizeOf, typeInfo, k.info _ _ hi, hfc, q1, goInt]
          · cases hf
        · cases hf
      · cases hf
    · cases hf
  · cases hq
theorem run_setMap {P : Program} {r c : Nat} {es : Array MapEntry} {o2 : Obj} (hx : w.heap[r]? = some (.map es c)) : (setObj r o2).run P w = .ok () (w.putObj r o2) := by
  simp [setObj, Sem.run, hx, World.putObj]
theorem putObj_size (w : World) (r : Nat) (o2 : Obj) : (w.putObj r o2).heap.size = w.heap.size := by simp [World.putObj]
theorem putObj_other (w : World) (r k : Nat) (o2 : Obj) (h : k ≠ r) : (w.putObj r o2).heap[k]? = w.heap[k]? := World.putObj_heap_other h
theorem putObj_self (w : World) (r : Nat) (o o2 : Obj) (h : w.heap[r]? = some o) : (w.putObj r o2).heap[r]? = some o2 := by
  have := (Array.getElem?_eq_some_iff.1 h).1
  simp [World.putObj, this]
theorem findM_at {j : IntKind} {n : Int} : ∀ (es : List (Value × Value × Nat)) (i0 i : Nat) (v : Value), findM j n es i0 = some (some (i, v)) → i0 ≤ i ∧ ∃ b, es[i - i0]? = some (.int j n, v, b)
  | [], _, _, _, h => by cases h
  | (key, u, b) :: es, i0, i, v, h => by
    cases key with
    | int kq a =>
      unfold findM at h
      cases hk : (Nat.beq (kindNo kq) (kindNo j)) with
      | false => rw [hk] at h; cases h
      | true =>
        rw [hk] at h
        simp only [cond] at h
        obtain rfl := kindNo_inj (Nat.eq_of_beq_eq_true hk)
        cases he : ieq a n with
        | true =>
          rw [he] at h
          cases h
          rw [ieq_eq] at he
          have : a = n := by simpa using he
          subst this
          exact ⟨Nat.le_refl _, b, by simp⟩
        | false =>
          rw [he] at h
          obtain ⟨h1, b', h2⟩ := findM_at es (i0 + 1) i v h
          refine ⟨by omega, b', ?_⟩
          rw [show i - i0 = (i - (i0 + 1)) + 1 by omega]
          simpa using h2
    | _ => unfold findM at h; cases h
theorem map_turn (H : HRel K w0 m h w) {b : Nat} {x : Nat × Nat} {es : List (Value × Value × Nat)} {c : Nat} {es' : Array MapEntry} (hb : N0 ≤ b) (hm : m b = some x) (hg : getB h.t b = some (.map es c)) (hw : w.heap[x.1]? = some (.map es' c))
    {es2 : List (Value × Value × Nat)} {c2 : Nat} {es2' : Array MapEntry} (hr : MRel m es2 es2') : HRel K w0 m ⟨setB h.t b (some (.map es2 c2)), h.n⟩ (w.putObj x.1 (.map es2' c2)) ∧ Ext m h w m ⟨setB h.t b (some (.map es2 c2)), h.n⟩ (w.putObj x.1 (.map es2' c2)) :=
  H.turn hb hm (by rw [hg]; rfl) _ (putObj_size _ _ _) (fun k hk => putObj_other _ _ _ _ hk) ⟨es2', putObj_self _ _ _ _ hw, hr.1, hr.2⟩ ⟨rfl, rfl, rfl⟩
theorem mapUpdate_ok (k : KOk K) (H : HRel K w0 m h w) (hρ : ∀ x, VRel m (rd E x) (ρ x)) {t : TypeId} {mp ky x : Operand} (ho : o.op = .mapUpdate t mp ky x) {v : Value} {h' : AH} (hf : aMapUpdate K t (rd E mp) (rd E ky) (rd E x) h = .ok v h') : Does K w0 m h w ρ o v h' := by
  have h0 := hρ mp
  have h1 := hρ ky
  have hv := hρ x
  unfold aMapUpdate at hf
  split at hf
  · rename_i key el r kk n hu hmp hky
    rw [hmp] at h0
    rw [hky] at h1
    have h1 := h1.int
    obtain ⟨y, hm, ex⟩ := h0.mapS
    cases hc : (intKey K key && !Nat.blt r N0) with
    | false => rw [hc] at hf; cases hf
    | true =>
      rw [hc] at hf
      simp only [cond] at hf
      simp only [Bool.and_eq_true, Bool.not_eq_true'] at hc
      have hN : N0 ≤ r := by
        rcases Nat.lt_or_ge r N0 with h1 | h1
        · rw [blt_true h1] at hc; cases hc.2
        · exact h1
      obtain ⟨kd, hkd⟩ := intKey_ok k hc.1
      split at hf
      · rename_i es c hg
        obtain ⟨es', e1, e2, e3⟩ := H.live r y _ hm hg
        have hM : MRel m es es' := ⟨e2, e3⟩
        have hfind : ∀ q, findM kk n es 0 = some q → _ := fun q hq => findM_ok (m := m) (kk := kd) es es'.toList 0 q (by simpa using e2) (fun i e he => by obtain ⟨e', a, b⟩ := e3 i e he; exact ⟨e', by rw [Array.getElem?_toList]; exact a, b⟩) hq
        have hck := run_checkKey K.P hkd false kk n w
        split at hf
        · rename_i i v2 hfm
          cases hf
          obtain ⟨v', f1, f2⟩ := hfind _ hfm
          obtain ⟨_, b, g2⟩ := findM_at es 0 i v2 hfm
          simp only [Nat.sub_zero] at g2
          obtain ⟨e', a1, a2, a3, a4⟩ := e3 i _ g2
          have hfk : (Instr.findKey key (.int kk n) es'.toList).run K.P w = .ok (some (i, v')) w := by simp [Instr.findKey, run_underlying hkd, f2]
          have hks : (Instr.keyThatStays e'.key (.int kk n)).run K.P w = .ok (.int kk n) w := by
            have : Instr.sameBits 10000 e'.key (.int kk n) = true := by
              show Instr.sameBits (9999 + 1) e'.key (.int kk n) = true
              rw [a2]; simp [Instr.sameBits]
            unfold Instr.keyThatStays
            rw [if_pos this]; rfl
          have key2 := map_turn (c2 := c) (es2 := es.modify i fun e => (.int kk n, rd E x, e.2.2)) (es2' := es'.modify i fun e => { e with key := .int kk n, val := ρ x }) H hN hm hg e1 (by
            refine ⟨by simp [e2], fun j e he => ?_⟩
            rw [List.getElem?_modify] at he
            by_cases hij : i = j
            · subst hij
              rw [g2] at he
              have he : (Value.int kk n, rd E x, b) = e := by simpa using he
              subst he
              refine ⟨{ e' with key := .int kk n, val := ρ x }, ?_, rfl, hv, a4⟩
              rw [Array.getElem?_modify, if_pos rfl, a1]; rfl
            · have he : es[j]? = some e := by simpa [hij] using he
              obtain ⟨e2', b1, b2⟩ := e3 j e he
              refine ⟨e2', ?_, b2⟩
              rw [Array.getElem?_modify, if_neg hij, b1])
          refine ⟨m, _, undef, key2.1, key2.2, .undef m, .inr ⟨?_, rfl⟩⟩
          have hset := run_setMap (P := K.P) (o2 := .map (es'.modify i fun e => { e with key := .int kk n, val := ρ x }) c) e1
          simp [execOp, ho, ex, h1, Instr.mapUpdate, run_underlying (k.und _ _ hu), run_getMap e1, hck, hfk, a1, hks, hset]
        · rename_i hfm
          cases hf
          have f2 := hfind _ hfm
          have hfk : (Instr.findKey key (.int kk n) es'.toList).run K.P w = .ok none w := by simp [Instr.findKey, run_underlying hkd, f2]
          have key2 := map_turn (c2 := c + 1) (es2 := es ++ [(.int kk n, rd E x, c)]) (es2' := es'.push { key := .int kk n, val := ρ x, born := c }) H hN hm hg e1 (by
            refine ⟨by simp [e2], fun j e he => ?_⟩
            rcases Nat.lt_or_ge j es.length with hj | hj
            · rw [List.getElem?_append_left hj] at he
              obtain ⟨e2', b1, b2⟩ := e3 j e he
              refine ⟨e2', ?_, b2⟩
              rw [Array.getElem?_push, if_neg (by omega)]; exact b1
            · rw [List.getElem?_append_right hj] at he
              have hj0 : j - es.length = 0 := by
                rcases Nat.eq_zero_or_pos (j - es.length) with h2 | h2
                · exact h2
                · rw [List.getElem?_eq_none (by simp; omega)] at he; cases he
              rw [hj0] at he
              cases he
              refine ⟨{ key := .int kk n, val := ρ x, born := c }, ?_, rfl, hv, rfl⟩
              rw [Array.getElem?_push, if_pos (by omega)])
          refine ⟨m, _, undef, key2.1, key2.2, .undef m, .inr ⟨?_, rfl⟩⟩
          have hset := run_setMap (P := K.P) (o2 := .map (es'.push { key := .int kk n, val := ρ x, born := c }) (c + 1)) e1
          simp [execOp, ho, ex, h1, Instr.mapUpdate, run_underlying (k.und _ _ hu), run_getMap e1, hck, hfk, hset]
        · cases hf
      · cases hf
  · cases hf
theorem delete_ok (k : KOk K) (H : HRel K w0 m h w) (hρ : ∀ x, VRel m (rd E x) (ρ x)) {args : Array Operand} {ts : Array TypeId} (ho : o.op = .call ⟨.builtin .delete, args, ts⟩) {f : AH → R} (hq : q_delete K E args ts = .eff f) {v : Value} {h' : AH} (hf : f h = .ok v h') : Does K w0 m h w ρ o v h' := by
  unfold q_delete at hq
  split at hq
  · rename_i t tr mp ky ht hx
    cases hq
    have e1' := toList_nth ht
    have h0 := hρ mp
    have h1 := hρ ky
    unfold aDelete at hf
    split at hf
    · rename_i key el r kk n hu hmp hky
      rw [hmp] at h0
      rw [hky] at h1
      have h1 := h1.int
      obtain ⟨y, hm, ex⟩ := h0.mapS
      cases hc : (intKey K key && !Nat.blt r N0) with
      | false => rw [hc] at hf; cases hf
      | true =>
        rw [hc] at hf
        simp only [cond] at hf
        simp only [Bool.and_eq_true, Bool.not_eq_true'] at hc
        have hN : N0 ≤ r := by
          rcases Nat.lt_or_ge r N0 with h1 | h1
          · rw [blt_true h1] at hc; cases hc.2
          · exact h1
        obtain ⟨kd, hkd⟩ := intKey_ok k hc.1
        split at hf
        · rename_i es c hg
          obtain ⟨es', e1, e2, e3⟩ := H.live r y _ hm hg
          have hM : MRel m es es' := ⟨e2, e3⟩
          have hfind : ∀ q, findM kk n es 0 = some q → _ := fun q hq => findM_ok (m := m) (kk := kd) es es'.toList 0 q (by simpa using e2) (fun i e he => by obtain ⟨e', a, b⟩ := e3 i e he; exact ⟨e', by rw [Array.getElem?_toList]; exact a, b⟩) hq
          have hck := fun b => run_checkKey K.P hkd b kk n w
          have hxx := toList_two hx
          subst hxx
          split at hf
          · rename_i i v2 hfm
            cases hf
            obtain ⟨v', f1, f2⟩ := hfind _ hfm
            obtain ⟨_, b, g2⟩ := findM_at es 0 i v2 hfm
            simp only [Nat.sub_zero] at g2
            have hil : i < es'.size := by rw [← e2]; exact (List.getElem?_eq_some_iff.1 g2).1
            have hfk : (Instr.findKey key (.int kk n) es'.toList).run K.P w = .ok (some (i, v')) w := by simp [Instr.findKey, run_underlying hkd, f2]
            have key2 := map_turn (c2 := c) (es2 := es.eraseIdx i) (es2' := es'.eraseIdxIfInBounds i) H hN hm hg e1 (by
              have hT : (es'.eraseIdxIfInBounds i).toList = es'.toList.eraseIdx i := by simp [Array.eraseIdxIfInBounds, hil, Array.toList_eraseIdx]
              refine ⟨by rw [← Array.length_toList, hT, List.length_eraseIdx, List.length_eraseIdx]; simp [e2], fun j e he => ?_⟩
              rw [← Array.getElem?_toList, hT]
              rw [List.getElem?_eraseIdx] at he ⊢
              split at he
              · rename_i hji; rw [if_pos hji, Array.getElem?_toList]; exact e3 _ e he
              · rename_i hji; rw [if_neg hji, Array.getElem?_toList]; exact e3 _ e he)
            refine ⟨m, _, .tuple #[], key2.1, key2.2, .undef m, .inl ?_⟩
            have hset := run_setMap (P := K.P) (o2 := .map (es'.eraseIdxIfInBounds i) c) e1
            simp [execOp, ho, resolve, invoke, builtin, Builtin.delete_, e1', ex, h1, run_underlying (k.und _ _ hu), run_getMap e1, hck, hfk, hset]
          · rename_i hfm
            cases hf
            have f2 := hfind _ hfm
            have hfk : (Instr.findKey key (.int kk n) es'.toList).run K.P w = .ok none w := by simp [Instr.findKey, run_underlying hkd, f2]
            have hset := run_setMap (P := K.P) (o2 := .map es' c) e1
            have hself : w.putObj y.1 (.map es' c) = w := by
              have hlt := (Array.getElem?_eq_some_iff.1 e1)
              obtain ⟨h2, h3⟩ := hlt
              unfold World.putObj
              have : w.heap.setIfInBounds y.1 (.map es' c) = w.heap := by
                apply Array.ext_getElem?
                intro j
                by_cases hj : j = y.1
                · subst hj; rw [Array.getElem?_setIfInBounds_self_of_lt h2, e1]
                · rw [Array.getElem?_setIfInBounds_ne (fun e => hj e.symm)]
              rw [this]
            rw [hself] at hset
            refine ⟨m, w, .tuple #[], H, .refl m _ w, .undef m, .inl ?_⟩
            simp [execOp, ho, resolve, invoke, builtin, Builtin.delete_, e1', ex, h1, run_underlying (k.und _ _ hu), run_getMap e1, hck, hfk, hset]
          · cases hf
        · cases hf
    · cases hf
  · cases hq
end
end Go.Proofs.YthahmfeaekddnaaGreatDoor.Ru
