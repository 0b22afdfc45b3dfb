/- The runner: what reads, what makes a block. -/
import Derived.Test.YthahmfeaekddnaaGreatDoorRuJ
import Derived.Laws.Cells
namespace Go.Proofs.YthahmfeaekddnaaGreatDoor.Ru
open Go Go.RowKit

section
variable {K : PK} {w0 : World} {m : BM} {h : AH} {w : World} {E : Env} {ρ : Operand → Value} {o : Oper}
/-- The operation yields this value in this world and does nothing else. -/
def GivesAt (K : PK) (m : BM) (ρ : Operand → Value) (o : Oper) (v : Value) (w : World) : Prop := ∃ v', VRel m v v' ∧ (execOp ρ o).run K.P w = .ok (.value v') w
theorem load_ok (k : KOk K) (H : HRel K w0 m h w) (hρ : ∀ x, VRel m (rd E x) (ρ x)) {t : TypeId} {a : Operand} (ho : o.op = .load t a) {f : AH → Option Value} (hq : q_load K E t a = .read f) {v : Value} (hf : f h = some v) : GivesAt K m ρ o v w := by
  unfold q_load at hq
  have h0 := hρ a
  split at hq
  · rename_i b off hr
    rw [hr] at h0
    obtain ⟨x, hm, ex⟩ := h0.pointer
    split at hq
    · rename_i n hd
      cases hq
      obtain ⟨⟨i, hi, hn⟩, hag⟩ := tyD_ok k hd
      dsimp only at hf
      split at hf
      · rename_i l hl
        cases hf
        obtain ⟨e1, l', e2, e3⟩ := H.cells hm hl
        have hlen : l'.length = n := by rw [← e2.1]; exact e1
        refine ⟨.agg l'.toArray, .aggL e2, ?_⟩
        have hld := run_loadCells_list (P := K.P) w ⟨x.1, off, none⟩ l' (fun j u hu => by rw [add_off]; exact e3 j u hu)
        rw [hlen, ← hn] at hld
        simp [execOp, ho, ex, Instr.loadAt, Instr.sureAddr, loadVar, hag, sizeOf, typeInfo, hi, hld]
      · cases hf
    · rename_i n hd
      cases hq
      obtain ⟨⟨i, hi, hn⟩, hag⟩ := tyD_ok k hd
      obtain ⟨v', e1, e2⟩ := H.cell hm hf
      exact ⟨v', e2, by simp [execOp, ho, ex, Instr.loadAt, Instr.sureAddr, loadVar, hag, e1]⟩
    · cases hq
  · cases hq
theorem intKey_ok (k : KOk K) {key : TypeId} (h : intKey K key = true) : ∃ kk, K.P.underlying key = some (.int kk) := by
  unfold intKey at h
  split at h
  · rename_i kk hu; exact ⟨kk, k.und _ _ hu⟩
  · cases h
/-- What a map's block holds. -/
def MRel (m : BM) (es : List (Value × Value × Nat)) (es' : Array MapEntry) : Prop :=
  es.length = es'.size ∧ ∀ (i : Nat) (e : Value × Value × Nat), es[i]? = some e → ∃ e' : MapEntry, es'[i]? = some e' ∧ e'.key = e.1 ∧ VRel m e.2.1 e'.val ∧ e'.born = e.2.2
theorem findM_ok {kk : IntKind} {kj : IntKind} {n : Int} : ∀ (es : List (Value × Value × Nat)) (l : List MapEntry) (i : Nat) (r : Option (Nat × Value)), es.length = l.length → (∀ (i : Nat) (e : Value × Value × Nat), es[i]? = some e → ∃ e' : MapEntry, l[i]? = some e' ∧ e'.key = e.1 ∧ VRel m e.2.1 e'.val ∧ e'.born = e.2.2) →
    findM kj n es i = some r → match r with
      | none => Instr.findNow (.int kk) (.int kj n) l i = some none
      | some (j, v) => ∃ v', VRel m v v' ∧ Instr.findNow (.int kk) (.int kj n) l i = some (some (j, v'))
  | [], l, i, r, hl, _, h => by
    cases h
    have : l = [] := List.eq_nil_of_length_eq_zero hl.symm
    subst this
    rfl
  | (key, v, b) :: es, l, i, r, hl, hh, h => by
    match l, hl with
    | [], hl => simp at hl
    | e' :: l, hl =>
      obtain ⟨e2, h1, h2, h3, _⟩ := hh 0 _ rfl
      cases h1
      cases key with
      | int kq a =>
        unfold findM at h
        cases hk : (Nat.beq (kindNo kq) (kindNo kj)) with
        | false => rw [hk] at h; cases h
        | true =>
          rw [hk] at h
          simp only [cond] at h
          obtain rfl := kindNo_inj (Nat.eq_of_beq_eq_true hk)
          simp only at h2
          cases he : ieq a n with
          | true =>
            rw [he] at h
            cases h
            rw [ieq_eq] at he
            have : a = n := by simpa using he
            subst this
            exact ⟨e'.val, h3, by simp [Instr.findNow, h2, Instr.sameNow]⟩
          | false =>
            rw [he] at h
            rw [ieq_eq] at he
            have hne : ¬ n = a := fun e => by rw [e] at he; simp at he
            have ih := findM_ok (kk := kk) es l (i + 1) r (by simpa using hl) (fun j e hj => hh (j + 1) e (by simpa using hj)) h
            have hstep : Instr.findNow (.int kk) (.int kq n) (e' :: l) i = Instr.findNow (.int kk) (.int kq n) l (i + 1) := by
              have hnb : (n == a) = false := beq_eq_false_iff_ne.2 hne
              simp [Instr.findNow, h2, Instr.sameNow, hnb]
            cases r with
            | none => exact hstep.trans ih
            | some r => obtain ⟨v', f1, f2⟩ := ih; exact ⟨v', f1, by rw [hstep]; exact f2⟩
      | _ => unfold findM at h; cases h
theorem entries_ok (H : HRel K w0 m h w) {x x' : Value} {es : List (Value × Value × Nat)} (hx : VRel m x x') (he : entriesOf h x = some es) :
    (x' = .map none ∧ es = []) ∨ ∃ r es' c, x' = .map (some r) ∧ w.heap[r]? = some (.map es' c) ∧ MRel m es es' := by
  unfold entriesOf at he
  split at he
  · cases he; exact .inl ⟨hx.map0, rfl⟩
  · rename_i r
    obtain ⟨y, hm, ex⟩ := hx.mapS
    split at he
    · rename_i es2 c hg
      cases he
      obtain ⟨es', h1, h2, h3⟩ := H.live r y _ hm hg
      exact .inr ⟨y.1, es', c, ex, h1, h2, h3⟩
    · cases he
  · cases he
theorem run_getMap {P : Program} {r c : Nat} {es : Array MapEntry} (hx : w.heap[r]? = some (.map es c)) : (getObj r).run P w = .ok (.map es c) w := by
  simp [getObj, Sem.run, hx]
theorem run_checkKey (P : Program) {key : TypeId} {kk : IntKind} (hu : P.underlying key = some (.int kk)) (b : Bool) (k : IntKind) (n : Int) (w : World) : (Instr.checkKey b 10000 key (.int k n)).run P w = .ok () w := by
  show (Instr.checkKey b (Nat.succ 9999) key _).run P w = _
  rw [Instr.checkKey.eq_2]
  simp [run_underlying hu]
theorem run_lookup (P : Program) {t key elem : TypeId} {kk kj : IntKind} {n : Int} {x : Value} {es : Array MapEntry} {ok : Bool} (hu : P.underlying t = some (.map key elem)) (hk : P.underlying key = some (.int kk))
    (hx : (x = .map none ∧ es = #[]) ∨ ∃ r c, x = .map (some r) ∧ w.heap[r]? = some (.map es c)) {q : Option (Nat × Value)} (hf : Instr.findNow (.int kk) (.int kj n) es.toList 0 = some q) :
    (Instr.lookup t x (.int kj n) ok).run P w = (match q with
      | some (_, v) => .ok (if ok then .tuple #[v, .bool true] else v) w
      | none => ((zeroValue elem).run P w).andThen fun z w => .ok (if ok then .tuple #[z, .bool false] else z) w) := by
  have hck := fun b => run_checkKey P hk b kj n w
  have hfk : (Instr.findKey key (.int kj n) es.toList).run P w = .ok q w := by simp [Instr.findKey, run_underlying hk, hf]
  rcases hx with ⟨rfl, rfl⟩ | ⟨r, c, rfl, hg⟩
  · cases q with
    | none => simp [Instr.lookup, run_underlying hu, hck, hfk]
    | some q => obtain ⟨i, v⟩ := q; simp [Instr.lookup, run_underlying hu, hck, hfk]
  · cases q with
    | none => simp [Instr.lookup, run_underlying hu, hck, hfk, run_getMap hg]
    | some q => obtain ⟨i, v⟩ := q; simp [Instr.lookup, run_underlying hu, hck, hfk, run_getMap hg]
theorem zero_rel {t : TypeId} {z : Value} (hz : zeroT K t = some z) : VRel m z z := by
  unfold zeroT at hz
  split at hz
  · split at hz
    · rename_i u _
      cases hq : plain 4 u <;> rw [hq] at hz <;> cases hz
      exact plain_rel 4 _ hq
    · cases hz
  · cases hz
theorem lookup_ok (k : KOk K) (H : HRel K w0 m h w) (hρ : ∀ x, VRel m (rd E x) (ρ x)) {t : TypeId} {x ix : Operand} {ok : Bool} (ho : o.op = .lookup t x ix ok) {v : Value} (hf : aLookup K t (rd E x) (rd E ix) ok h = some v) : GivesAt K m ρ o v w := by
  have h0 := hρ x
  have h1 := hρ ix
  unfold aLookup at hf
  split at hf
  · rename_i key elem kj n hu hix
    rw [hix] at h1
    cases hik : intKey K key with
    | false => rw [hik] at hf; cases hf
    | true =>
      rw [hik] at hf
      simp only [cond] at hf
      obtain ⟨kk, hkk⟩ := intKey_ok k hik
      split at hf
      · rename_i es hes
        obtain ⟨es', hM, hX⟩ : ∃ es' : Array MapEntry, MRel m es es' ∧ ((ρ x = .map none ∧ es' = #[]) ∨ ∃ r c, ρ x = .map (some r) ∧ w.heap[r]? = some (.map es' c)) := by
          rcases entries_ok H h0 hes with ⟨e1, e2⟩ | ⟨r, es', c, e1, e2, e3⟩
          · subst e2
            exact ⟨#[], ⟨rfl, fun i e he => by simp at he⟩, .inl ⟨e1, rfl⟩⟩
          · exact ⟨es', e3, .inr ⟨r, c, e1, e2⟩⟩
        have hfind : ∀ r, findM kj n es 0 = some r → _ := fun r hr => findM_ok (m := m) (kk := kk) es es'.toList 0 r (by simpa using hM.1) (fun i e he => by obtain ⟨e', a, b⟩ := hM.2 i e he; exact ⟨e', by rw [Array.getElem?_toList]; exact a, b⟩) hr
        split at hf
        · rename_i i v2 _ hfm
          obtain ⟨v', f1, f2⟩ := hfind _ hfm
          have hr := run_lookup (w := w) K.P (ok := ok) (k.und _ _ hu) hkk hX f2
          cases hf
          cases ok
          · exact ⟨v', f1, by simp only [execOp, ho, h1.int, Sem.run_bind, hr]; rfl⟩
          · exact ⟨.tuple #[v', .bool true], .tupL (.cons f1 (.cons (.lit rfl) .nil)), by simp only [execOp, ho, h1.int, Sem.run_bind, hr]; rfl⟩
        · rename_i z hfm hz
          have f2 := hfind _ hfm
          have hr := run_lookup (w := w) K.P (ok := ok) (k.und _ _ hu) hkk hX f2
          obtain ⟨⟨i, _, hi, hzz⟩, _⟩ := zeroT_ok (m := m) k hz
          have hzv : (zeroValue elem).run K.P w = .ok z w := by simp [zeroValue, typeInfo, hi, hzz]
          cases hf
          cases ok
          · exact ⟨z, zero_rel hz, by simp only [execOp, ho, h1.int, Sem.run_bind, hr, hzv]; rfl⟩
          · exact ⟨.tuple #[z, .bool false], .tupL (.cons (zero_rel hz) (.cons (.lit rfl) .nil)), by simp only [execOp, ho, h1.int, Sem.run_bind, hr, hzv]; rfl⟩
        · cases hf
      · cases hf
  · cases hf
theorem mapLen_ok (k : KOk K) (H : HRel K w0 m h w) (hρ : ∀ x, VRel m (rd E x) (ρ x)) {args : Array Operand} {ts : Array TypeId} (ho : o.op = .call ⟨.builtin .len, args, ts⟩) {f : AH → Option Value} (hq : q_len K E o args ts = .read f) {v : Value} (hf : f h = some v) : GivesAt K m ρ o v w := by
  unfold q_len at hq
  split at hq
  · rename_i t _ x _ ht hx
    have e1 := toList_nth ht
    have e2 := toList_nth hx
    have h0 := hρ x
    split at hq
    · cases hq
    · rename_i key el r hu hr
      cases hq
      rw [hr] at h0
      dsimp only at hf
      split at hf
      · rename_i es hes
        cases hf
        rcases entries_ok H h0 hes with ⟨e3, e4⟩ | ⟨b, es', c, e3, e4, e5⟩
        · subst e4
          exact ⟨_, .lit rfl, by simp [execOp, ho, resolve, invoke, builtin, Builtin.len_, e1, e2, e3, run_underlying (k.und _ _ hu), goInt]⟩
        · refine ⟨_, .lit rfl, ?_⟩
          have := e5.1
          simp [execOp, ho, resolve, invoke, builtin, Builtin.len_, e1, e2, e3, run_underlying (k.und _ _ hu), goInt, run_getMap e4, this]
      · cases hf
    · rcases fallback_cases K E o with ⟨u, e⟩ | e <;> rw [e] at hq <;> cases hq
  · cases hq
end
end Go.Proofs.YthahmfeaekddnaaGreatDoor.Ru
