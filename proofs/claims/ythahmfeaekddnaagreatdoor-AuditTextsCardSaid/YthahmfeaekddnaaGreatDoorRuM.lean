/- The runner: what does something to memory. -/
import Derived.Test.YthahmfeaekddnaaGreatDoorRuL
import Derived.Laws.AppendOwn
import Derived.Deep.AppendSrc
namespace Go.Proofs.YthahmfeaekddnaaGreatDoor.Ru
open Go Go.RowKit

section
variable {K : PK} {w0 : World} {m : BM} {h : AH} {w : World} {E : Env} {ρ : Operand → Value} {o : Oper}
/-- The operation does this. -/
def Does (K : PK) (w0 : World) (m : BM) (h : AH) (w : World) (ρ : Operand → Value) (o : Oper) (v : Value) (h' : AH) : Prop :=
  ∃ m' w' v', HRel K w0 m' h' w' ∧ Ext m h w m' h' w' ∧ VRel m' v v' ∧ ((execOp ρ o).run K.P w = .ok (.value v') w' ∨ ((execOp ρ o).run K.P w = .ok .skip w' ∧ v' = undef))
theorem store_ok (k : KOk K) (H : HRel K w0 m h w) (hρ : ∀ x, VRel m (rd E x) (ρ x)) {t : TypeId} {a x : Operand} (ho : o.op = .store t a x) {f : AH → R} (hq : q_store K E t a x = .eff f) {v : Value} {h' : AH} (hf : f h = .ok v h') : Does K w0 m h w ρ o v h' := by
  unfold q_store at hq
  have h0 := hρ a
  split at hq
  · rename_i b off hr
    rw [hr] at h0
    obtain ⟨y, hm, ex⟩ := h0.pointer
    obtain ⟨hc, hq⟩ := Q.cond_eq hq (by simp)
    cases hq
    simp only [Bool.and_eq_true, isLen_eq] at hc
    have hv := (hρ x).cells (notJ_ne hc.1.1)
    dsimp only at hf
    split at hf
    · rename_i h2 hw
      cases hf
      have h1 : ∀ u ∈ (ρ x).cells.toList, u.oneCell' = true := fun u hu => by
        obtain ⟨i, hi, rfl⟩ := List.mem_iff_getElem.1 hu
        have hall : ∀ z ∈ (rd E x).cells.toList, oneC z = true := by
          rw [wrCells_eq] at hw
          cases hN : Nat.blt b N0 with
          | true => rw [hN] at hw; cases hw
          | false =>
            rw [hN] at hw
            simp only [cond] at hw
            split at hw
            · split at hw
              · rename_i hcc
                simp only [Bool.and_eq_true] at hcc
                exact fun z hz => List.all_eq_true.1 hcc.2 z hz
              · cases hw
            · cases hw
        have hi2 : i < (rd E x).cells.toList.length := by rw [hv.1]; exact hi
        have := hv.2 i
        rw [List.getD_eq_getElem?_getD, List.getD_eq_getElem?_getD, List.getElem?_eq_getElem hi2, List.getElem?_eq_getElem hi] at this
        exact oneC_rel this (hall _ (List.getElem_mem hi2))
      obtain ⟨w', r1, r2, r3⟩ := H.write K.P hm hw hv h1
      have hs := Nat.eq_of_beq_eq_true hc.1.2
      cases hi : K.info t with
      | none => rw [hi] at hc; exact absurd hc.2 (by simp)
      | some i =>
        have e1 : (ρ x).cells.size = i.size := by
          have := hv.1
          unfold sizeT at hs
          rw [hi] at hs
          simp at this hs; omega
        refine ⟨m, w', undef, r2, r3, .undef m, .inr ⟨?_, rfl⟩⟩
        simp [execOp, ho, ex, Instr.storeAt, Instr.sureAddr, storeVar, sizeOf, typeInfo, k.info _ _ hi, e1, r1]
    · cases hf
  · cases hq
theorem srcL_ok (k : KOk K) (H : HRel K w0 m h w) {x x' : Value} (hx : VRel m x x') {e u : TypeId} {n : Nat} {l : List Value} {i : TypeInfo} (hi : K.info e = some i) (hu : srcT K u = true) (hs : srcL K h e x = some (n, l)) (h1 : ∀ v ∈ l, oneC v = true) :
    ∃ l', LRel m l l' ∧ Src K.P i.size u x' n l' w := by
  have hsz : sizeT K e = i.size := by unfold sizeT; rw [hi]
  have hku : (∃ e', K.P.underlying u = some (.slice e')) ∨ K.P.underlying u = some .string := by
    unfold srcT at hu
    split at hu
    · rename_i e' h2; exact .inl ⟨e', k.und _ _ h2⟩
    · rename_i h2; exact .inr (k.und _ _ h2)
    · cases hu
  have one : ∀ l', LRel m l l' → ∀ v ∈ l', v.oneCell' = true := fun l' hl v hv => by
    obtain ⟨j, hj, rfl⟩ := List.mem_iff_getElem.1 hv
    have hj2 : j < l.length := by rw [hl.1]; exact hj
    have := hl.2 j
    rw [List.getD_eq_getElem?_getD, List.getD_eq_getElem?_getD, List.getElem?_eq_getElem hj2, List.getElem?_eq_getElem hj] at this
    exact oneC_rel this (h1 _ (List.getElem_mem hj2))
  unfold srcL at hs
  split at hs
  · rename_i c
    cases hs
    obtain ⟨_, a, c', rfl⟩ := hx.sliceN
    refine ⟨[], .nil, ⟨hku, fun _ => rfl, ?_, ?_, by simp, fun _ h => by cases h⟩⟩
    · cases a <;> simp [Builtin.firstCells, loadCells, loadCellsFrom]
    · cases a <;> simp [Builtin.firstCells, loadCells, loadCellsFrom]
  · rename_i b off n' c
    split at hs
    · rename_i l2 hl
      cases hs
      obtain ⟨_, y, c', hm, rfl, _⟩ := hx.sliceS
      obtain ⟨e1, l', e2, e3⟩ := H.cells hm hl
      have hlen : l'.length = n * i.size := by rw [← e2.1, e1, hsz]
      have hcell : ∀ j u, l'[j]? = some u → w.cell? ((⟨y.1, off, none⟩ : Addr).add j) = some u := fun j u hu => by rw [add_off]; exact e3 j u hu
      refine ⟨l', e2, ⟨hku, fun _ => rfl, ?_, ?_, hlen, one l' e2⟩⟩
      · exact run_firstCells_some w i.size n _ n c' l' hlen hcell
      · exact run_firstCells_some w.drew i.size n _ n c' l' hlen (by simpa using hcell)
    · cases hs
  · rename_i s
    cases hb : Nat.beq (sizeT K e) 1 with
    | false => rw [hb] at hs; cases hs
    | true =>
      rw [hb] at hs
      cases hs
      have e1 : i.size = 1 := by rw [← hsz]; exact Nat.eq_of_beq_eq_true hb
      rw [hx.str, e1]
      have hl : LRel m (bytesL s) (bytesL s) := .of rfl fun j u hu => ⟨u, hu, by
        unfold bytesL at hu
        rw [List.getElem?_map] at hu
        cases hq : s.data.toList[j]? <;> rw [hq] at hu <;> cases hu
        exact .lit rfl⟩
      refine ⟨bytesL s, hl, ⟨hku, fun _ => rfl, firstCells_string s w, firstCells_string s w.drew, ?_, one _ hl⟩⟩
      show (byteCells s).length = s.size * 1
      rw [byteCells_length, Nat.mul_one]
  · cases hs
theorem growBy_le (n : Nat) : ∀ (r c : Nat), c ≤ 2 * n + 1000 → Builtin.growBy n r c ≤ 2 * n + 1000
  | 0, c, h => h
  | r + 1, c, h => by
    unfold Builtin.growBy
    split
    · exact h
    · exact growBy_le n r _ (by omega)
theorem nextcap_le (n c : Nat) (h : c < n) : Builtin.nextslicecap n c ≤ 2 * n + 1000 := by
  unfold Builtin.nextslicecap
  split
  · omega
  · split
    · omega
    · exact growBy_le n 4 c (by omega)
attribute [local irreducible] big
/-- A longer list is made. -/
theorem grow_ok (k : KOk K) (H : HRel K w0 m h w) {e t u ty : TypeId} (ht : K.und t = some (.slice e)) (hsm : smallT K e = true) {base : Option Addr} {sLen sCap n : Nat} {x' : Value} {olds olds' news news' : List Value} {i : TypeInfo} (hi : K.info e = some i)
    (hold : ∀ W : World, W.heap = w.heap → (Builtin.firstCells i.size sLen (.slice base sLen sCap)).run K.P W = .ok olds'.toArray W) (ho : LRel m olds olds') (hol : olds'.length = sLen * i.size) (hs : Src K.P i.size u x' n news' w) (hn : LRel m news news')
    (hg : sCap < sLen + n) {tt : Tr (Option AB)} {v : Value} {h' : AH} (hgr : grow h tt e (sLen + n) (olds ++ news) = .ok v h') (Ht : HRel K w0 m ⟨tt, h.n⟩ w ∧ Ext m h w m ⟨tt, h.n⟩ w) :
    ∃ m' w' v', HRel K w0 m' h' w' ∧ Ext m h w m' h' w' ∧ VRel m' v v' ∧ (Builtin.append_ #[t, u] ty #[.slice base sLen sCap, x']).run K.P w = .ok v' w' := by
  obtain ⟨i', z, g0, g1, g2, g3, g4, g5, g6, g7, g8⟩ := smallT_ok (m := m) k hsm
  rw [hi] at g0; cases g0
  rw [grow_eq] at hgr
  cases hc : (Nat.ble (sLen + n) 65536 && Nat.blt h.n 16000000 && (olds ++ news).all oneC) with
  | false => rw [hc] at hgr; cases hgr
  | true =>
    rw [hc] at hgr
    cases hgr
    simp only [Bool.and_eq_true] at hc
    have c1 := Nat.le_of_ble_eq_true hc.1.1
    have c2 := blt_of hc.1.2
    have hfit : Builtin.nextslicecap (sLen + n) sCap * i.bytes ≤ 281474976710656 := by
      have := nextcap_le (sLen + n) sCap hg
      calc _ ≤ 132072 * 65536 := Nat.mul_le_mul (by omega) g4
        _ ≤ _ := by omega
    have hrun := run_append_grow_src (P := K.P) w t u ty e i z (k.und _ _ ht) g1 g3 base sLen sCap olds' (hold w.drew rfl) x' n news' hs hg (by omega) hfit
    have hge := grownCap_ge w (sLen + n) sCap e
    have hnl := hs.newsLen
    have hsz : ((olds' ++ news').toArray ++ Builtin.zeroCells z.cells (grownCap w (sLen + n) sCap e - (sLen + n))).size = grownCap w (sLen + n) sCap e * i.size := by
      simp only [Array.size_append, List.size_toArray, List.length_append, hol, hnl, Builtin.zeroCells, Array.size_map, Array.size_range, g6]
      rw [← Nat.add_mul, ← Nat.add_mul]; congr 1; omega
    have hkk : sizeT K e = i.size := by unfold sizeT; rw [hi]
    have hm : m h.n = none := H.fresh h.n (Nat.le_refl _)
    have key := (Ht.1.drew).alloc (.cells (olds ++ news) e) (.cells ((olds' ++ news').toArray ++ Builtin.zeroCells z.cells (grownCap w (sLen + n) sCap e - (sLen + n))) e) (grownCap w (sLen + n) sCap e) c2
      (BRel.newCells (m := m.add h.n (w.drew.heap.size, grownCap w (sLen + n) sCap e)) (w := w.drew) (fun j u hu => by
        obtain ⟨u', q1, q2⟩ := (ho.append hn).get hu
        refine ⟨u', ?_, q2.mono (.add hm)⟩
        have hj := (List.getElem?_eq_some_iff.1 q1).1
        rw [Array.getElem?_append_left (by simpa using hj)]
        simpa using q1) (by
          have e1 := ho.1
          have e2 := hn.1
          rw [hsz]
          simp only [List.length_append, e1, e2, hol, hnl, ← Nat.add_mul]
          exact Nat.mul_le_mul_right _ hge) (fun _ => by rw [hsz, hkk]))
    refine ⟨_, _, _, key.1, (Ext.trans H.n0 Ht.2 (Ext.trans H.n0 (Ext.drew m _ w) key.2)), .slice (BM.add_self _ _ _) (by rw [capLow_open (by omega)]; omega) ?_ (by rw [capLow_open (by omega)]; omega) (fun h => by omega) (fun _ _ => rfl), hrun⟩
    rw [capLow_open (by omega)]
    have : 65536 < big := by unfold big; omega
    omega
theorem setRow_eq (P : Program) (w : World) {b off : Nat} {vs : List Value} {w' : World} (h : (storeCells ⟨b, off, none⟩ vs 0).run P w = .ok () w') (hc : ∀ j, j < vs.length → (w.cell? ⟨b, off + j, none⟩).isSome = true) (hf : ∀ j, j < vs.length → w.frozen? ⟨b, off + j, none⟩ = false) (h1 : ∀ v ∈ vs, v.oneCell' = true) : w.setCells b off vs = w' := by
  have := run_storeCells_cells (P := P) b off vs 0 w (by simpa using hc) (by simpa using hf) h1
  rw [h] at this
  simp only [Nat.add_zero] at this
  cases this; rfl
theorem Src.le_size {x' : Value} {n : Nat} {i : TypeInfo} {u : TypeId} {l : List Value} (hs : Src K.P i.size u x' n l w) : l.length = n * i.size := hs.newsLen
theorem wr_facts {b off : Nat} {vs : List Value} {h' : AH} (hw : wrCells h b off vs = some h') : N0 ≤ b ∧ ∃ cs e, getB h.t b = some (.cells cs e) ∧ off + vs.length ≤ cs.length ∧ ∀ v ∈ vs, oneC v = true := by
  rw [wrCells_eq] at hw
  cases hN : Nat.blt b N0 with
  | true => rw [hN] at hw; cases hw
  | false =>
    rw [hN] at hw
    simp only [cond] at hw
    have hb : N0 ≤ b := by
      rcases Nat.lt_or_ge b N0 with h1 | h1
      · rw [blt_true h1] at hN; cases hN
      · exact h1
    split at hw
    · rename_i cs e he
      split at hw
      · rename_i hcc
        simp only [Bool.and_eq_true] at hcc
        exact ⟨hb, cs, e, he, Nat.le_of_ble_eq_true hcc.1, fun z hz => List.all_eq_true.1 hcc.2 z hz⟩
      · cases hw
    · cases hw
theorem oneC_list {l l' : List Value} (hl : LRel m l l') (h1 : ∀ v ∈ l, oneC v = true) : ∀ v ∈ l', v.oneCell' = true := fun v hv => by
  obtain ⟨j, hj, rfl⟩ := List.mem_iff_getElem.1 hv
  have hj2 : j < l.length := by rw [hl.1]; exact hj
  have := hl.2 j
  rw [List.getD_eq_getElem?_getD, List.getD_eq_getElem?_getD, List.getElem?_eq_getElem hj2, List.getElem?_eq_getElem hj] at this
  exact oneC_rel this (h1 _ (List.getElem_mem hj2))
theorem append_core (k : KOk K) (H : HRel K w0 m h w) {t u ty : TypeId} {s x s' x' : Value} (hs : VRel m s s') (hx : VRel m x x') (hu : srcT K u = true) {v : Value} {h' : AH} (hf : aAppend K t s x h = .ok v h') :
    ∃ m' w' v', HRel K w0 m' h' w' ∧ Ext m h w m' h' w' ∧ VRel m' v v' ∧ (Builtin.append_ #[t, u] ty #[s', x']).run K.P w = .ok v' w' := by
  unfold aAppend at hf
  simp only [joinV_eq] at hf
  split at hf
  · rename_i e ht
    cases hsm : smallT K e with
    | false => rw [hsm] at hf; cases hf
    | true =>
      rw [hsm] at hf
      simp only [cond] at hf
      obtain ⟨i, z, g0, g1, g2, g3, g4, g5, g6, g7, g8⟩ := smallT_ok (m := m) k hsm
      have hsz : sizeT K e = i.size := by unfold sizeT; rw [g0]
      split at hf
      · cases hf
      · rename_i n news hsrc
        -- all the cells come one by one
        have hall : news.all oneC = true → ∀ z ∈ news, oneC z = true := fun ha z hz => List.all_eq_true.1 ha z hz
        have grown : ∀ {tt : Tr (Option AB)} {kk : Nat} {pre : List Value}, grow h tt e kk (pre ++ news) = .ok v h' → news.all oneC = true := fun {tt kk pre} hg => by
          rw [grow_eq] at hg
          cases hc : (Nat.ble kk 65536 && Nat.blt h.n 16000000 && (pre ++ news).all oneC) with
          | false => rw [hc] at hg; cases hg
          | true =>
            simp only [Bool.and_eq_true, List.all_append] at hc
            exact hc.2.2
        split at hf
        · have e1 := hs.slice0
          subst e1
          cases hk0 : Nat.beq n 0 with
          | true =>
            rw [hk0] at hf
            cases hf
            have hn0 : n = 0 := Nat.eq_of_beq_eq_true hk0
            subst hn0
            refine ⟨m, w, .slice none 0 0, H, .refl m h w, hs, ?_⟩
            have hnews : ∃ x2, (Builtin.lenOf x').run K.P w = .ok 0 w ∧ (Builtin.firstCells i.size 0 x').run K.P w = .ok x2 w := by
              unfold srcL at hsrc
              split at hsrc
              · obtain ⟨_, a, c', rfl⟩ := hx.sliceN
                exact ⟨#[], rfl, by cases a <;> simp [Builtin.firstCells, loadCells, loadCellsFrom]⟩
              · split at hsrc
                · cases hsrc
                  obtain ⟨_, y, c', hm, rfl, _⟩ := hx.sliceS
                  exact ⟨#[], rfl, by simp [Builtin.firstCells, loadCells, loadCellsFrom]⟩
                · cases hsrc
              · rename_i str
                rw [hx.str]
                have : str.size = 0 := by
                  cases hb : Nat.beq (sizeT K e) 1 with
                  | false => rw [hb] at hsrc; cases hsrc
                  | true =>
                    rw [hb] at hsrc
                    injection hsrc with e3
                    injection e3
                exact ⟨_, by simp [Builtin.lenOf, this], by simp [Builtin.firstCells]; rfl⟩
              · cases hsrc
            obtain ⟨x2, q1, q2⟩ := hnews
            have hku : ∀ W : World, (do pure ((← underlying u) matches .int _) : Sem Bool).run K.P W = .ok false W := fun W => by
              unfold srcT at hu
              split at hu
              · rename_i h2; simp [run_underlying (k.und _ _ h2)]
              · rename_i h2; simp [run_underlying (k.und _ _ h2)]
              · cases hu
            unfold srcT at hu
            split at hu
            · rename_i h2; simp [Builtin.append_, run_underlying (k.und _ _ ht), run_underlying (k.und _ _ h2), sizeOf, typeInfo, g1, q1, q2]
            · rename_i h2; simp [Builtin.append_, run_underlying (k.und _ _ ht), run_underlying (k.und _ _ h2), sizeOf, typeInfo, g1, q1, q2]
            · cases hu
          | false =>
            rw [hk0] at hf
            have hn0 : n ≠ 0 := fun e => by rw [e] at hk0; cases hk0
            have ha := grown (pre := []) hf
            obtain ⟨news', r1, r2⟩ := srcL_ok (i := i) k H hx g0 hu hsrc (hall ha)
            exact grow_ok (olds := []) (olds' := []) (sLen := 0) k H ht hsm g0 (fun W _ => by simp [Builtin.firstCells]) .nil (by simp) r2 r1 (by omega) (by simpa using hf) ⟨H, .refl m h w⟩
        · rename_i b off sl c
          obtain ⟨_, y, c', hm, rfl, hn, hbig, hcap, hex, hopen⟩ := hs.sliceS
          split at hf
          · rename_i hroom
            have hroom := Nat.le_of_ble_eq_true hroom
            split at hf
            · rename_i hh hw
              cases hf
              obtain ⟨hNb, cs, e2, hgb, hfit, hone⟩ := wr_facts hw
              obtain ⟨news', r1, r2⟩ := srcL_ok (i := i) k H hx g0 hu hsrc hone
              obtain ⟨w', q1, q2, q3⟩ := H.write K.P hm hw r1 (oneC_list r1 hone)
              obtain ⟨C, hC1, hC2, _⟩ := (H.live b y _ hm hgb).2 hNb
              have hcl : ∀ j, j < news'.length → (w.cell? ⟨y.1, off + sl * i.size + j, none⟩).isSome = true := fun j hj => by
                have := r1.1
                have : off + sl * i.size + j < C.size := by rw [hsz] at hfit; omega
                simp [World.cell?, hC1, this]
              have hfr : ∀ j, j < news'.length → w.frozen? ⟨y.1, off + sl * i.size + j, none⟩ = false := fun j hj => by simp [World.frozen?, hC1]
              have hrun := run_append_room_src (P := K.P) w t u ty e i (k.und _ _ ht) g1 y.1 off sl c' x' n news' r2 (by omega) hcl hfr
              rw [hsz] at q1
              rw [setRow_eq K.P w q1 hcl hfr (oneC_list r1 hone)] at hrun
              exact ⟨m, w', _, q2, q3, .slice hm hroom hbig hcap hex hopen, hrun⟩
            · cases hf
          · rename_i hroom
            have hroom : capLow c < sl + n := by
              rcases Nat.lt_or_ge (capLow c) (sl + n) with h1 | h1
              · exact h1
              · exact absurd (Nat.ble_eq_true_of_le h1) (by rw [hroom]; simp)
            split at hf
            · rename_i olds hol
              obtain ⟨ol1, olds', ol2, ol3⟩ := H.cells hm hol
              have hol' : olds'.length = sl * i.size := by rw [← ol2.1, ol1, hsz]
              have hold : ∀ W : World, W.heap = w.heap → (Builtin.firstCells i.size sl (.slice (some ⟨y.1, off, none⟩) sl c')).run K.P W = .ok olds'.toArray W := fun W hW => run_firstCells_some W i.size sl _ sl c' olds' hol' (fun j u hu => by
                rw [add_off]
                have := ol3 j u hu
                unfold World.cell? at this ⊢
                rw [hW]; exact this)
              split at hf
              · rename_i hcb
                have hcb := blt_of hcb
                have ha := grown hf
                obtain ⟨news', r1, r2⟩ := srcL_ok (i := i) k H hx g0 hu hsrc (hall ha)
                have := hex hcb
                have := capLow_exact hcb
                exact grow_ok k H ht hsm g0 hold ol2 hol' r2 r1 (by omega) hf ⟨H, .refl m h w⟩
              · rename_i hcb
                have hcb : big ≤ c := by
                  rcases Nat.lt_or_ge c big with h1 | h1
                  · rw [blt_true h1] at hcb; cases hcb
                  · exact h1
                split at hf
                · rename_i hcc
                  simp only [Bool.and_eq_true] at hcc
                  have hNb := Nat.le_of_ble_eq_true hcc.1.1
                  have ho0 : off = 0 := Nat.eq_of_beq_eq_true hcc.1.2
                  subst ho0
                  have ha := grown hf
                  have hone := hall ha
                  obtain ⟨news', r1, r2⟩ := srcL_ok (i := i) k H hx g0 hu hsrc hone
                  have hκ := hopen hcb rfl
                  by_cases hin : sl + n ≤ c'
                  · -- in place
                    unfold elemIs at hcc
                    split at hcc
                    · rename_i cs e2 hgb
                      have he2 : e2 = e := Nat.eq_of_beq_eq_true hcc.2
                      subst he2
                      obtain ⟨C, hC1, hC2, hC3⟩ := (H.live b y _ hm hgb).2 hNb
                      have hnl := r2.newsLen
                      have hC4 := hC3 (by omega)
                      rw [hsz] at hC4
                      have hfitC : 0 + (sl * i.size) + news'.length ≤ C.size := by
                        rw [hnl, hC4, Nat.zero_add, ← Nat.add_mul, ← hκ]
                        exact Nat.mul_le_mul_right _ hin
                      have hrow := run_storeCells_at K.P y.1 (sl * i.size) e2 news' 0 C w hC1 (by omega) (oneC_list r1 hone)
                      have hcl : ∀ j, j < news'.length → (w.cell? ⟨y.1, 0 + sl * i.size + j, none⟩).isSome = true := fun j hj => by
                        have : 0 + sl * i.size + j < C.size := by omega
                        simp only [World.cell?, hC1]; simp at this ⊢; exact this
                      have hfr : ∀ j, j < news'.length → w.frozen? ⟨y.1, 0 + sl * i.size + j, none⟩ = false := fun j hj => by simp [World.frozen?, hC1]
                      have hrun := run_append_room_src (P := K.P) w t u ty e2 i (k.und _ _ ht) g1 y.1 0 sl c' x' n news' r2 (by omega) hcl hfr
                      rw [setRow_eq K.P w (by rw [Nat.zero_add]; exact hrow) hcl hfr (oneC_list r1 hone)] at hrun
                      rw [grow_eq] at hf
                      cases hc : (Nat.ble (sl + n) 65536 && Nat.blt h.n 16000000 && (olds ++ news).all oneC) with
                      | false => rw [hc] at hf; cases hf
                      | true =>
                        rw [hc] at hf
                        cases hf
                        simp only [Bool.and_eq_true] at hc
                        have c1 := Nat.le_of_ble_eq_true hc.1.1
                        have c2 := blt_of hc.1.2
                        have hmn : m h.n = none := H.fresh h.n (Nat.le_refl _)
                        have hszD : (C.toList.take (sl * i.size + 0) ++ news' ++ C.toList.drop (sl * i.size + 0 + news'.length)).toArray.size = C.size := by simp; omega
                        have key := H.move (w' := w.setRow y.1 (C.toList.take (sl * i.size + 0) ++ news' ++ C.toList.drop (sl * i.size + 0 + news'.length)).toArray) hNb hm (by rw [hgb]; rfl) (.cells (olds ++ news) e2) c2 (setRow_size _ _ _) (fun q hq => setRow_other _ _ _ _ hq)
                          ⟨fun j u hu => by
                            obtain ⟨u', q1, q2⟩ := (ol2.append r1).get hu
                            refine ⟨u', ?_, q2.mono (.add hmn)⟩
                            have hD := setRow_heap w y.1 C (C.toList.take (sl * i.size + 0) ++ news' ++ C.toList.drop (sl * i.size + 0 + news'.length)).toArray e2 (0, 0) hC1
                            simp only [World.cell?, hD]
                            rw [List.getElem?_toArray]
                            have hj := (List.getElem?_eq_some_iff.1 q1).1
                            rw [List.length_append, hol', hnl] at hj
                            have htl : (C.toList.take (sl * i.size + 0)).length = sl * i.size := by simp; omega
                            by_cases hjl : j < sl * i.size
                            · rw [List.append_assoc, List.getElem?_append_left (by rw [htl]; exact hjl), List.getElem?_take, if_pos (show j < sl * i.size + 0 from hjl), Array.getElem?_toList]
                              rw [List.getElem?_append_left (by rw [hol']; exact hjl)] at q1
                              have := ol3 j u' q1
                              simpa [World.cell?, hC1] using this
                            · rw [List.append_assoc, List.getElem?_append_right (by omega), htl, List.getElem?_append_left (by omega)]
                              rw [List.getElem?_append_right (by omega), hol'] at q1
                              exact q1, fun _ => ⟨_, setRow_heap _ _ _ _ _ _ hC1, by
                              rw [hszD]
                              have e3 := ol2.1
                              have e4 := r1.1
                              rw [List.length_append]; omega, fun hk => by rw [hszD]; exact hC3 hk⟩⟩ ⟨rfl, rfl, rfl⟩
                        refine ⟨_, _, _, key.1, key.2, .slice (BM.add_self _ _ _) (by rw [capLow_open (by omega)]; omega) ?_ (by rw [capLow_open (by omega)]; omega) (fun h => by omega) (fun _ _ => hκ), hrun⟩
                        rw [capLow_open (by omega)]
                        have : 65536 < big := by unfold big; omega
                        omega
                    · exact absurd hcc.2 (by simp)
                  · have hkl := H.kill hNb hm
                    exact grow_ok k H ht hsm g0 hold ol2 hol' r2 r1 (by omega) hf hkl
                · cases hf
            · cases hf
        · cases hf
  · cases hf
end
end Go.Proofs.YthahmfeaekddnaaGreatDoor.Ru
