/- Package lock: the map of those who wait for threads' ends, in memory; Package lock: Join and Ended, walked. -/
import Derived.Test.YtfoeijiejpenpaaGreatDoorLkQ
import Derived.Test.YtfoeijiejpenpaaGreatDoorNewN
import Derived.Maps.Own
import Derived.Maps.Views
import Derived.Test.YtfoeijiejpenpaaGreatDoorRegion

/- Package lock: the map of those who wait for threads' ends, in memory. -/
namespace Go.Proofs.YtfoeijiejpenpaaGreatDoor
open Go.RowKit Go.ChangeMaps

/-- How a slice reads as a map's element: it is held as it is. -/
noncomputable def heldR (v : Value) : Option (DataW Value × List MemPlace) := some (.held v, [])
theorem Tryz.keyedInt : Maps.Keyed Tryz.prog 3 := Maps.int_keyed Tryz.underlying3
noncomputable def dataO (es : Array MapEntry) : DataW Value := .map ((es.toList.map (WideElems.rg Tryz.prog 3 heldR)).foldr DataW.insert [])
/-- An object is a map of at most m entries, in which each number below the list's length leads to its slice. -/
structure MapO (o : Obj) (m : Nat) (vs : List Value) : Prop where
  few : vs.length ≤ 64
  is : ∃ es clock, o = .map es clock ∧ WideElems.Fit Tryz.prog 3 heldR es clock ∧ es.size ≤ m ∧ ∀ (u : Nat) (h : u < vs.length), (dataO es).atKey (.int .i64 u) (.held (.slice none 0 0)) = .held vs[u]
theorem wf64 {u : Nat} (h : u < 64) : (Lit.int .i64 (u : Int)).wf = true := by
  have h1 : IntKind.i64.min = -9223372036854775808 := by decide
  have h2 : IntKind.i64.max = 9223372036854775807 := by decide
  simp only [Lit.wf, h1, h2, Bool.and_eq_true, decide_eq_true_eq]
  omega
theorem keyOf64 {u : Nat} (h : u < 64) : keyOf Tryz.prog 3 (.int .i64 (u : Int)) = some (.int .i64 (u : Int)) := Maps.keyOf_int_mk Tryz.underlying3 (wf64 h)
theorem zeroInts (w : World) : (zeroValue 27).run Tryz.prog w = .ok (.slice none 0 0) w := by kernel_rfl
theorem MapO.empty (n : Nat) (h : n ≤ 64) : MapO (.map #[] 0) 0 (List.replicate n (.slice none 0 0)) := by
  refine ⟨by simp [h], #[], 0, rfl, ⟨by simp, MapKept.stamped_empty 0, by simp⟩, by simp, fun u hu => ?_⟩
  rw [List.getElem_replicate]; rfl
theorem MapO.more {o : Obj} {m m' : Nat} {vs : List Value} (h : MapO o m vs) (hm : m ≤ m') : MapO o m' vs := by
  obtain ⟨h1, es, clock, rfl, F, hs, hat⟩ := h
  exact ⟨h1, es, clock, rfl, F, by omega, hat⟩
set_option maxRecDepth 100000 in
/-- A look into the map. -/
theorem MapO.look {w : World} {jb : Nat} {o : Obj} {m : Nat} {vs : List Value} (h : MapO o m vs) (ho : w.heap[jb]? = some o) (u : Nat) (hu : u < vs.length) : (Instr.lookup 42 (.map (some jb)) (.int .i64 u) false).run Tryz.prog w = .ok vs[u] w := by
  obtain ⟨h1, es, clock, rfl, F, hs, hat⟩ := h
  have hx := hat u hu
  rcases Maps.fit_look (w := w) false Tryz.keyedInt Tryz.underlying42 (zeroInts w) ho F (keyOf64 (u := u) (by omega)) with ⟨hrun, _, h2⟩ | ⟨e0, y, _, _, hrun, hR, h2, _⟩
  · have := h2 (.held (.slice none 0 0))
    rw [show (DataW.map ((es.toList.map (WideElems.rg Tryz.prog 3 heldR)).foldr DataW.insert [])) = dataO es from rfl, hx] at this
    injection this with this
    rw [this]
    exact hrun
  · have := h2 (.held (.slice none 0 0))
    rw [show (DataW.map ((es.toList.map (WideElems.rg Tryz.prog 3 heldR)).foldr DataW.insert [])) = dataO es from rfl, hx] at this
    have hy : y = (.held e0.val, []) := by unfold heldR at hR; injection hR with hR; exact hR.symm
    rw [hy] at this
    injection this with this
    rw [this]
    exact hrun
/-- A store into the map. -/
theorem MapO.store {w : World} {jb : Nat} {o : Obj} {m : Nat} {vs : List Value} (h : MapO o m vs) (ho : w.heap[jb]? = some o) (u : Nat) (hu : u < vs.length) (hm : m < 1000000) (v : Value) :
    ∃ o', (Instr.mapUpdate 42 (.map (some jb)) (.int .i64 u) v).run Tryz.prog w = .ok () (setBlock w jb o') ∧ MapO o' (m + 1) (vs.set u v) := by
  obtain ⟨h1, es, clock, rfl, F, hs, hat⟩ := h
  have hkey := keyOf64 (u := u) (by omega)
  obtain ⟨es', clock', hrun, F', hput, _⟩ := Maps.fit_store (w := w) (R' := heldR) (val := v) Tryz.keyedInt Tryz.underlying42 ho F (by unfold maxLen; omega) (fun _ _ _ _ hz => hz) hkey rfl
  have hD : dataO es' = (dataO es).put (.int .i64 u) (.held v) := by
    unfold dataO
    rw [DataW.put_eq, hput]
  refine ⟨_, hrun, by simp [h1], es', clock', rfl, F', ?_, fun i hi => ?_⟩
  · have e1 : es'.size = ((es'.toList.map (WideElems.rg Tryz.prog 3 heldR)).foldr DataW.insert []).length := by rw [length_sorted]; simp
    rw [e1, hput]
    unfold putKey
    rw [length_insert]
    have e2 := List.length_filter_le (notKey (.int .i64 u)) ((es.toList.map (WideElems.rg Tryz.prog 3 heldR)).foldr DataW.insert [])
    rw [length_sorted] at e2
    simp at e2
    omega
  · rw [List.length_set] at hi
    rw [hD]
    by_cases hiu : i = u
    · subst hiu
      rw [List.getElem_set_self]
      exact Maps.atKey_put_same (D := dataO es) ⟨_, rfl⟩ (Tryz.keyedInt.key hkey) _ _
    · rw [List.getElem_set_ne (Ne.symm hiu), Maps.atKey_put_other (fun e => by injection e with _ e; omega), hat i hi]
/-- A deletion from the map. -/
theorem MapO.drop {w : World} {jb : Nat} {o : Obj} {m : Nat} {vs : List Value} (h : MapO o m vs) (ho : w.heap[jb]? = some o) (u : Nat) (hu : u < vs.length) (ty : TypeId) :
    ∃ o', (Builtin.delete_ #[42, 3] ty #[.map (some jb), .int .i64 u]).run Tryz.prog w = .ok (.tuple #[]) (setBlock w jb o') ∧ MapO o' m (vs.set u (.slice none 0 0)) := by
  obtain ⟨h1, es, clock, rfl, F, hs, hat⟩ := h
  have hkey := keyOf64 (u := u) (by omega)
  obtain ⟨es', hrun, F', hsz, hput, _⟩ := Maps.fit_drop (w := w) (ty := ty) Tryz.keyedInt Tryz.underlying42 ho F hkey
  have hD : dataO es' = (dataO es).del (.int .i64 u) := by
    unfold dataO
    rw [DataW.del_eq, hput]
  refine ⟨_, hrun, by simp [h1], es', clock, rfl, F', by omega, fun i hi => ?_⟩
  rw [List.length_set] at hi
  rw [hD]
  by_cases hiu : i = u
  · subst hiu
    rw [List.getElem_set_self, Maps.atKey_del_same]
  · rw [List.getElem_set_ne (Ne.symm hiu), Maps.atKey_del_other (fun e => by injection e with _ e; omega), hat i hi]
theorem kept_setBlock {w : World} {jb : Nat} (h : jb < w.heap.size) (o' : Obj) : Kept [jb] w (setBlock w jb o') ∧ (setBlock w jb o').heap[jb]? = some o' :=
  ⟨⟨rfl, rfl, rfl, by simp [setBlock], fun k _ hn => by simp only [setBlock]; exact Array.getElem?_setIfInBounds_ne (fun e => hn (by simp [e]))⟩, by simp [setBlock, h]⟩

/-- The row of those who wait for a thread's end. -/
def jP (x : Value × List Int) : Piece := .row 3 1 x.1 x.2.length (x.2.map I64)
/-- Locks with those who wait for threads' ends. -/
structure LkIsJ (w0 : Base) (w : World) (a : LkA) (s : Lk) (js : List (List Int)) (m : Nat) : Prop where
  is : LkIs w0 w a s
  len : js.length = s.eff.length
  map_ : ∃ jb o vs, a.J = .map (some jb) ∧ a.ex = .obj jb o :: (List.zip vs js).map jP ∧ vs.length = js.length ∧ MapO o m vs
theorem LkIsJ.old {w0 : Base} {w w' : World} {a : LkA} {s : Lk} {js : List (List Int)} {m : Nat} (h : LkIsJ w0 w a s js m) (hk : Kept [] w w') : LkIsJ w0 w' a s js m := ⟨h.is.old hk, h.len, h.map_⟩
theorem LkIsJ.more {w0 : Base} {w : World} {a : LkA} {s : Lk} {js : List (List Int)} {m m' : Nat} (h : LkIsJ w0 w a s js m) (hm : m ≤ m') : LkIsJ w0 w a s js m' := by
  obtain ⟨h1, h2, jb, o, vs, h3, h4, h5, h6⟩ := h
  exact ⟨h1, h2, jb, o, vs, h3, h4, h5, h6.more hm⟩
/-- Calls that leave the map. -/
theorem LkIsJ.step {w0 : Base} {w w' : World} {a a' : LkA} {s s' : Lk} {js : List (List Int)} {m : Nat} (h : LkIsJ w0 w a s js m) (h' : LkIs w0 w' a' s') (hk : a'.key = a.key) (hl : s'.eff.length = s.eff.length) : LkIsJ w0 w' a' s' js m := by
  obtain ⟨h1, h2, jb, o, vs, h3, h4, h5, h6⟩ := h
  have e1 : a'.J = a.J := congrArg (fun x => x.2.1) hk
  have e2 : a'.ex = a.ex := congrArg (fun x => x.2.2) hk
  exact ⟨h', by rw [hl]; exact h2, jb, o, vs, by rw [e1]; exact h3, by rw [e2]; exact h4, h5, h6⟩
theorem lkNew_anyJ (t l : Int) (n m : Nat) (hn : clampM t = n) (hm : clampM l = m) (w : World) :
    Calls Tryz.prog 4 #[.int .i64 t, .int .i64 l] w fun e w' => ∃ a, e = .returned (.pointer (some ⟨a.g, 0, none⟩)) ∧ LkIsJ w w' a ⟨List.replicate m (-1), List.replicate n (-1, -1), List.replicate n 7, List.replicate n 7, List.replicate m ([], 0)⟩ (List.replicate n []) 0 := by
  refine (lkNew_any t l n m hn hm w).mono ?_
  rintro e w' ⟨a, jb, rfl, hJ, hx, hl⟩
  have hn64 := clampM_le t
  refine ⟨a, rfl, hl, by simp, jb, .map #[] 0, List.replicate n (.slice none 0 0), hJ, ?_, by simp, MapO.empty n (by omega)⟩
  rw [hx]
  simp [newJ, nilRow, jP, List.zip_replicate]

/-- The pieces ahead of the map's. -/
theorem lkP_ex (a : LkA) (s : Lk) : ∃ H : List Piece, (∀ ex, lkP { a with ex := ex } s = H ++ ex) ∧ H.length = 9 + (List.zip a.gls s.lines).length * 2 :=
  ⟨lkP { a with ex := [] } s, fun ex => by simp [lkP], by simp only [lkP, List.length_cons, List.append_nil, flat_lineP_len]; omega⟩
theorem zip_get {α β : Type} : ∀ (l1 : List α) (l2 : List β) (i : Nat) (h1 : i < l1.length) (h2 : i < l2.length), (List.zip l1 l2)[i]? = some (l1[i], l2[i]) := fun l1 l2 i h1 h2 => by
  rw [List.getElem?_eq_getElem (by simp; omega)]; simp
/-- The map's object and one row: read, and turned. -/
theorem LkIs.rowJ {w0 : Base} {w : World} {a : LkA} {s : Lk} {js : List (List Int)} (h : LkIs w0 w a s) {jb : Nat} {o : Obj} {vs : List Value} (hx : a.ex = .obj jb o :: (List.zip vs js).map jP) (u : Nat) (hu : u < js.length) (hv : u < vs.length) :
    w.heap[jb]? = some o ∧ w.ownsRow 0 3 1 vs[u] js[u].length (js[u].map I64) ∧ jb ∉ fp vs[u] ∧ (jb ∈ w0.F ∨ w0.w.heap.size ≤ jb) ∧
    ∀ (w' : World) (o' : Obj) (v' : Value) (xs : List Int), Kept (jb :: fp vs[u]) w w' → w'.heap[jb]? = some o' → w'.ownsRow 0 3 1 v' xs.length (xs.map I64) → (∀ k, k ∈ fp v' → k ∈ fp vs[u] ∨ w.heap.size ≤ k) →
      LkIs w0 w' { a with ex := .obj jb o' :: (List.zip (vs.set u v') (js.set u xs)).map jP } s := by
  obtain ⟨H, hH, hHl⟩ := lkP_ex a s
  have e : lkP a s = H ++ a.ex := hH a.ex
  have h0 : (lkP a s)[H.length]? = some (.obj jb o) := by rw [e, hx, List.getElem?_append_right (Nat.le_refl _)]; simp
  have h1 : (lkP a s)[H.length + 1 + u]? = some (jP (vs[u], js[u])) := by
    rw [e, hx, List.getElem?_append_right (by omega), show H.length + 1 + u - H.length = u + 1 by omega, List.getElem?_cons_succ, List.getElem?_map, zip_get _ _ _ hv hu]; rfl
  have hp0 : w.heap[jb]? = some o := h.at_.2.get h0
  have hp1 : w.ownsRow 0 3 1 vs[u] js[u].length (js[u].map I64) := h.at_.2.get h1
  have hap : jb ∉ fp vs[u] := h.at_.2.apart (i := H.length) (j := H.length + 1 + u) (by omega) h0 h1 jb (by simp [Piece.fp])
  have hjn := h.new _ (List.mem_of_getElem? h0) jb (by simp [Piece.fp])
  refine ⟨hp0, hp1, hap, hjn, fun w' o' v' xs hk ho' hr hf => ?_⟩
  have hset : ((lkP a s).set H.length (.obj jb o')).set (H.length + 1 + u) (jP (v', xs)) = lkP { a with ex := .obj jb o' :: (List.zip (vs.set u v') (js.set u xs)).map jP } s := by
    rw [e, hH, hx, List.set_append_right _ _ (Nat.le_refl _), List.set_append_right _ _ (by omega), show H.length + 1 + u - H.length = u + 1 by omega, Nat.sub_self, List.set_cons_zero, List.set_cons_succ, ← zip_set2, List.map_set]
  have hjv' : jb ∉ fp v' := fun hm => by
    rcases hf jb hm with h5 | h5
    · exact hap h5
    · have := lt_of_block hp0; omega
  have hH2 := h.at_.2.turn2 (i := H.length) (j := H.length + 1 + u) (by omega) h0 h1 (by simpa [Piece.fp, jP] using hk) (p' := .obj jb o') (q' := jP (v', xs)) ho' hr (fun k hk' => .inl hk') (fun k hk' => hf k hk') (fun k hk' => by simp only [Piece.fp, List.mem_singleton] at hk'; subst hk'; exact hjv')
  rw [hset] at hH2
  refine ⟨⟨h.at_.1, hH2⟩, ?_, h.kept.trans' hk (fun k hk' => ?_)⟩
  · rw [← hset]
    intro r hr' k hk'
    rcases List.mem_or_eq_of_mem_set hr' with hr' | rfl
    · rcases List.mem_or_eq_of_mem_set hr' with hr' | rfl
      · exact h.new r hr' k hk'
      · exact h.new _ (List.mem_of_getElem? h0) k hk'
    · rcases hf k hk' with h2 | h2
      · exact h.new _ (List.mem_of_getElem? h1) k h2
      · exact .inr (by have := h.kept.size; omega)
  · rcases List.mem_cons.1 hk' with rfl | hk'
    · exact hjn
    · exact h.new _ (List.mem_of_getElem? h1) k hk'
theorem LkIsJ.row {w0 : Base} {w : World} {a : LkA} {s : Lk} {js : List (List Int)} {m : Nat} (h : LkIsJ w0 w a s js m) (u : Nat) (hu : u < js.length) : ∃ jb o vs v, a.J = .map (some jb) ∧ MapO o m vs ∧ vs[u]? = some v ∧
    w.heap[jb]? = some o ∧ w.ownsRow 0 3 1 v js[u].length (js[u].map I64) ∧ jb ∉ fp v ∧ (jb ∈ w0.F ∨ w0.w.heap.size ≤ jb) ∧
    ∀ (w' : World) (o' : Obj) (v' : Value) (xs : List Int) (m' : Nat), Kept (jb :: fp v) w w' → w'.heap[jb]? = some o' → w'.ownsRow 0 3 1 v' xs.length (xs.map I64) → (∀ k, k ∈ fp v' → k ∈ fp v ∨ w.heap.size ≤ k) → MapO o' m' (vs.set u v') →
      LkIsJ w0 w' { a with ex := .obj jb o' :: (List.zip (vs.set u v') (js.set u xs)).map jP } s (js.set u xs) m' := by
  obtain ⟨jb, o, vs, hJ, hx, hl, hM⟩ := h.map_
  have hv : u < vs.length := by omega
  obtain ⟨h1, h2, h3, h4, h5⟩ := h.is.rowJ hx u hu hv
  exact ⟨jb, o, vs, vs[u], hJ, hM, List.getElem?_eq_getElem hv, h1, h2, h3, h4, fun w' o' v' xs m' hk ho' hr hf hM' => ⟨h5 w' o' v' xs hk ho' hr hf, by rw [List.length_set]; exact h.len, jb, o', vs.set u v', hJ, rfl, by simp [hl], hM'⟩⟩

/-- As row, and whose blocks are known. -/
theorem LkIsJ.row2 {w0 : Base} {w : World} {a : LkA} {s : Lk} {js : List (List Int)} {m : Nat} (h : LkIsJ w0 w a s js m) (u : Nat) (hu : u < js.length) : ∃ jb o vs v, a.J = .map (some jb) ∧ MapO o m vs ∧ vs[u]? = some v ∧
    w.heap[jb]? = some o ∧ w.ownsRow 0 3 1 v js[u].length (js[u].map I64) ∧ jb ∉ fp v ∧ (jb ∈ w0.F ∨ w0.w.heap.size ≤ jb) ∧ (∀ k, k ∈ fp v → k ∈ w0.F ∨ w0.w.heap.size ≤ k) ∧
    ∀ (w' : World) (o' : Obj) (v' : Value) (xs : List Int) (m' : Nat), Kept (jb :: fp v) w w' → w'.heap[jb]? = some o' → w'.ownsRow 0 3 1 v' xs.length (xs.map I64) → (∀ k, k ∈ fp v' → k ∈ fp v ∨ w.heap.size ≤ k) → MapO o' m' (vs.set u v') →
      LkIsJ w0 w' { a with ex := .obj jb o' :: (List.zip (vs.set u v') (js.set u xs)).map jP } s (js.set u xs) m' := by
  obtain ⟨jb, o, vs, hJ, hx, hl, hM⟩ := h.map_
  have hv : u < vs.length := by omega
  obtain ⟨h1, h2, h3, h4, h5⟩ := h.is.rowJ hx u hu hv
  have hp : jP (vs[u], js[u]) ∈ lkP a s := by
    obtain ⟨H, hH, _⟩ := lkP_ex a s
    have e : lkP a s = H ++ a.ex := hH a.ex
    rw [e, hx]
    exact List.mem_append.2 (.inr (List.mem_cons_of_mem _ (List.mem_map.2 ⟨_, List.mem_of_getElem? (zip_get vs js u hv hu), rfl⟩)))
  exact ⟨jb, o, vs, vs[u], hJ, hM, List.getElem?_eq_getElem hv, h1, h2, h3, h4, fun k hk => h.is.new _ hp k hk, fun w' o' v' xs m' hk ho' hr hf hM' => ⟨h5 w' o' v' xs hk ho' hr hf, by rw [List.length_set]; exact h.len, jb, o', vs.set u v', hJ, rfl, by simp [hl], hM'⟩⟩

end Go.Proofs.YtfoeijiejpenpaaGreatDoor

/- Package lock: Join and Ended, walked. -/
namespace Go.Proofs.YtfoeijiejpenpaaGreatDoor
open Go.RowKit Go.ChangeMaps

/-- A web's waiting is stored; the graph's is the same. -/
theorem web_turn {w0 : Base} {w w' : World} {a : LkA} {s : Lk} (h : LkIs w0 w a s) {K : Nat} (hw : s.Whole K) (k : Nat) (hk : k < s.eff.length) (h1 : (getW s.waits k).1 = -1) (u : Int) {bw : Nat} (hbw : a.Aw = some ⟨bw, 0, none⟩)
    (hx : ∃ W, Kept [] w W ∧ Kept [] ((W.setCell ⟨bw, k * 2, none⟩ (.int .i64 (-1))).setCell ⟨bw, k * 2 + 1, none⟩ (.int .i64 u)) w') : LkIs w0 w' a { s with waits := s.waits.set k (-1, u) } ∧ Kept [bw] w w' := by
  have hr3 : w.ownsRow 0 85 2 (.slice a.Aw s.eff.length a.cw) s.eff.length (s.waits.flatMap wL) := h.at_.2.get (i := 3) rfl
  have hko : k < s.waits.length := by rw [hw.waits]; exact hk
  rw [hbw] at hr3
  obtain ⟨hrow, hk1⟩ := waits_stored hr3 k hko (-1) u (w' := w') hx
  have h3 := h.turn (i := 3) rfl (by rw [hbw]; exact hk1) (p' := .row 85 2 (.slice (some ⟨bw, 0, none⟩) s.eff.length a.cw) s.eff.length ((s.waits.set k (-1, u)).flatMap wL)) hrow (fun q hq => .inl (by rw [hbw]; exact hq))
  have he : ((s.waits.map fun x : Int × Int => I64 x.1)) = (s.waits.set k (-1, u)).map fun x : Int × Int => I64 x.1 := by
    rw [List.map_set]
    refine (set_same _ _ _ ?_).symm
    rw [List.getElem?_map, List.getElem?_eq_getElem hko]
    rw [getW_in hko] at h1
    simp [h1]
  have hset : (lkP a s).set 3 (.row 85 2 (.slice (some ⟨bw, 0, none⟩) s.eff.length a.cw) s.eff.length ((s.waits.set k (-1, u)).flatMap wL)) = lkP a { s with waits := s.waits.set k (-1, u) } := by
    unfold lkP
    simp only [hbw]
    rw [← he]
    rfl
  rw [hset] at h3
  exact ⟨⟨⟨h.at_.1, h3.1⟩, h3.2.1, h3.2.2⟩, hk1⟩
theorem wbClear_lk {w0 : Base} {w : World} {a : LkA} {s : Lk} {K : Nat} (h : LkIs w0 w a s) (hw : s.Whole K) (k : Nat) (hk : k < s.eff.length) (h1 : (getW s.waits k).1 = -1) :
    Calls Tryz.prog 64 #[.pointer (some ⟨a.gw, 0, none⟩), .int .i64 k] w fun e w' => e = .returned (.bool true) ∧ LkIs w0 w' a { s with waits := s.waits.set k (-1, -1) } ∧ Kept (fp (.slice a.Aw s.eff.length a.cw)) w w' := by
  have hr3 : w.ownsRow 0 85 2 (.slice a.Aw s.eff.length a.cw) s.eff.length (s.waits.flatMap wL) := h.at_.2.get (i := 3) rfl
  obtain ⟨bw, hbw⟩ := own_at0 hr3 (by omega)
  have hko : k < s.waits.length := by rw [hw.waits]; exact hk
  have hne : a.gw ≠ bw := fun he => by
    have := h.at_.2.apart (i := 1) (j := 3) (by omega) rfl rfl a.gw (by simp [Piece.fp])
    exact this (by simp [Piece.fp, hbw, fp_some, he])
  have hweb := h.at_.web hw
  rw [hbw] at hweb hr3
  refine (wbClear_ok hweb hr3.frozenAt hne k hko).mono ?_
  rintro e w' ⟨rfl, hx⟩
  have := web_turn h hw k hk h1 (-1) hbw hx
  exact ⟨rfl, this.1, by rw [hbw]; exact this.2⟩
theorem wbJoin_lk {w0 : Base} {w : World} {a : LkA} {s : Lk} {K : Nat} (h : LkIs w0 w a s) (hw : s.Whole K) (k : Nat) (hk : k < s.eff.length) (h1 : (getW s.waits k).1 = -1) (u : Int) (hu : 0 ≤ u ∧ u < s.eff.length) :
    Calls Tryz.prog 61 #[.pointer (some ⟨a.gw, 0, none⟩), .int .i64 k, .int .i64 u] w fun e w' => e = .returned (.bool true) ∧ LkIs w0 w' a { s with waits := s.waits.set k (-1, u) } := by
  have hr3 : w.ownsRow 0 85 2 (.slice a.Aw s.eff.length a.cw) s.eff.length (s.waits.flatMap wL) := h.at_.2.get (i := 3) rfl
  obtain ⟨bw, hbw⟩ := own_at0 hr3 (by omega)
  have hko : k < s.waits.length := by rw [hw.waits]; exact hk
  have hne : a.gw ≠ bw := fun he => by
    have := h.at_.2.apart (i := 1) (j := 3) (by omega) rfl rfl a.gw (by simp [Piece.fp])
    exact this (by simp [Piece.fp, hbw, fp_some, he])
  have hweb := h.at_.web hw
  rw [hbw] at hweb hr3
  refine (wbJoin_ok hweb hr3.frozenAt hne k hko u (by rw [hw.waits]; exact hu)).mono ?_
  rintro e w' ⟨rfl, hx⟩
  exact ⟨rfl, (web_turn h hw k hk h1 u hbw hx).1⟩

theorem step_mapUpdate {P : Program} {w w' : World} {ops : Array Oper} {o : Oper} {a : Act} {K : Act → World → Prop} {Q : Exit → Act → World → Prop} {E : Prop} (hgd : o.guard = none) (m x v : Operand) (t : TypeId) (ho : o.op = .mapUpdate t m x v)
    {mv kv vv : Value} (hm : a.eval m = mv) (hx : a.eval x = kv) (hv : a.eval v = vv) (hrun : (Instr.mapUpdate t mv kv vv).run P w = .ok () w') (h : K (a.put o.dst undef) w') :
    if Region.wanted o (yielded ops a.tmps) = true then Oper.wp P o a w K Q else E := by
  have hw : Region.wanted o (yielded ops a.tmps) = true := by simp [Region.wanted, hgd]
  rw [if_pos hw]
  unfold Oper.wp
  simp [execOp, ho, hm, hx, hv, hrun, Result.andThen]
  exact h

/-- What a join tells, and leaves. -/
def joinE (s : Lk) (t u : Int) : Int := if ¬ (0 ≤ t ∧ t < s.eff.length) then 5 else if ¬ (0 ≤ u ∧ u < s.eff.length) then 5 else if waitsB s t then 14 else if closesM s.owner s.waits t u then 12 else 0
def joinS (s : Lk) (t u : Int) : Lk := if joinE s t u = 0 then { s with waits := s.waits.set t.toNat (-1, u) } else s
def joinJ (s : Lk) (js : List (List Int)) (t u : Int) : List (List Int) := if joinE s t u = 0 then js.set u.toNat (js.getD u.toNat [] ++ [t]) else js
theorem joinE_zero {s : Lk} {t l : Int} (h : joinE s t l = 0) : (0 ≤ t ∧ t < s.eff.length) ∧ (0 ≤ l ∧ l < s.eff.length) ∧ waitsB s t = false ∧ closesM s.owner s.waits t l = false := by
  unfold joinE at h
  split at h
  · omega
  split at h
  · omega
  split at h
  · omega
  split at h
  · omega
  rename_i h1 h2 h3 h4
  exact ⟨by omega, by omega, by simpa using h3, by simpa using h4⟩
theorem waitsB_no {s : Lk} {t : Int} (h : waitsB s t = false) : getW s.waits t = (-1, -1) := by
  unfold waitsB at h
  simp only [Bool.or_eq_false_iff, bne_eq_false_iff_eq] at h
  exact Prod.ext h.1 h.2

set_option maxHeartbeats 6400000 in
set_option maxRecDepth 100000 in
theorem lkJoin_any {w0 : Base} {w : World} {a : LkA} {s : Lk} {js : List (List Int)} {K m : Nat} (h : LkIsJ w0 w a s js m) (hI : LkAll s K) (hm : m < 1000000) (hjl : ∀ x ∈ js, x.length ≤ 1000000) (t u : Int) :
    Calls Tryz.prog 21 #[.pointer (some ⟨a.g, 0, none⟩), .int .i64 t, .int .i64 u] w fun e w' => e = .returned (.int .i64 (joinE s t u)) ∧ ∃ a', a'.g = a.g ∧ LkIsJ w0 w' a' (joinS s t u) (joinJ s js t u) (m + 1) := by
  have hw := hI.whole
  have HT := Lib.hid (lkthread_any h.is.at_ t)
  have HU := Lib.hid (lkthread_any h.is.at_ u)
  have HWT := Lib.hid (lkwaits_any h.is.at_ hw t)
  have hB := h.is.at_.blk
  have hc0 : w.cell? ⟨a.g, 0, none⟩ = some (.pointer (some ⟨a.gw, 0, none⟩)) := hB.cell 0
  have hl := hB.lt
  have hk0 := Lib.hid h
  unfold joinS joinJ
  obtain ⟨E, hE⟩ : ∃ E, joinE s t u = E := ⟨_, rfl⟩
  rw [hE]
  unfold joinE at hE
  by_cases ct : 0 ≤ t ∧ t < s.eff.length
  case neg =>
    rw [if_pos ct] at hE
    subst hE
    have hd : decide (0 ≤ t ∧ t < (s.eff.length : Int)) = false := by simp; omega
    rw [hd] at HT
    simp only [show ¬ ((5 : Int) = 0) by omega, if_false]
    clear hd ct h hI hw hB HWT
    go_enter Tryz.func21, Tryz.ntmps21
    go_wp2_with fail
    refine (HT.out).mono ?_
    rintro e w1 ⟨rfl, rfl⟩
    go_wp2_with fail
    go_ret
    exact ⟨rfl, a, rfl, hk0.out.more (Nat.le_succ _)⟩
  rw [if_neg (by omega)] at hE
  have hd : decide (0 ≤ t ∧ t < (s.eff.length : Int)) = true := by simp; omega
  rw [hd] at HT
  clear hd
  by_cases cu : 0 ≤ u ∧ u < s.eff.length
  case neg =>
    rw [if_pos cu] at hE
    subst hE
    have hd : decide (0 ≤ u ∧ u < (s.eff.length : Int)) = false := by simp; omega
    rw [hd] at HU
    simp only [show ¬ ((5 : Int) = 0) by omega, if_false]
    clear hd ct cu h hI hw hB HWT
    go_enter Tryz.func21, Tryz.ntmps21
    go_wp2_with fail
    refine (HT.out).mono ?_
    rintro e w1 ⟨rfl, rfl⟩
    go_wp2_with fail
    refine (HU.out).mono ?_
    rintro e w1 ⟨rfl, rfl⟩
    go_wp2_with fail
    go_ret
    exact ⟨rfl, a, rfl, hk0.out.more (Nat.le_succ _)⟩
  rw [if_neg (by omega)] at hE
  have hd : decide (0 ≤ u ∧ u < (s.eff.length : Int)) = true := by simp; omega
  rw [hd] at HU
  clear hd
  have hlt : ∀ (A : Option Addr) (e : TypeId) (sz n c : Nat) xs, w.ownsRow 0 e sz (.slice A n c) n xs → ∀ ad, A = some ad → ad.block < w.heap.size := fun A e sz n c xs ho ad he => own_lt ho ad.block (by subst he; rw [fp_slice]; simp)
  have hat := h.is.at_
  have HC := Lib.hid (fun W (hk : Kept [] w W) => wbCloses_any ((hat.old hk).web hw) (by rw [hw.waits]; exact hw.owners) (by rw [hw.waits]; exact hw.wts) (fun ad e => Nat.lt_of_lt_of_le (hlt _ _ _ _ _ _ (hat.2.get (i := 2) rfl) ad e) hk.size) (fun ad e => Nat.lt_of_lt_of_le (hlt _ _ _ _ _ _ (hat.2.get (i := 3) rfl) ad e) hk.size) t u)
  have HB := Lib.hid hB
  cases hwb : waitsB s t with
  | true =>
    rw [hwb, if_pos rfl] at hE
    subst hE
    rw [hwb] at HWT
    simp only [show ¬ ((14 : Int) = 0) by omega, if_false]
    clear ct cu h hI hw hB hlt hat HC hwb
    go_enter Tryz.func21, Tryz.ntmps21
    go_wp2_with fail
    refine (HT.out).mono ?_
    rintro e w1 ⟨rfl, rfl⟩
    go_wp2_with fail
    refine (HU.out).mono ?_
    rintro e w1 ⟨rfl, rfl⟩
    go_wp2_with fail
    refine (HWT.out).mono ?_
    rintro e w1 ⟨rfl, hk⟩
    have HK := Lib.hid ((hk0.out.old hk).more (Nat.le_succ _))
    clear hk
    go_wp2_with fail
    go_ret
    exact ⟨rfl, a, rfl, HK.out⟩
  | false =>
  rw [hwb] at hE
  simp only [Bool.false_eq_true, if_false] at hE
  have hw0 := waitsB_no hwb
  rw [hwb] at HWT
  cases hcb : closesM s.owner s.waits t u with
  | true =>
    rw [hcb, if_pos rfl] at hE
    subst hE
    rw [hcb] at HC
    simp only [show ¬ ((12 : Int) = 0) by omega, if_false]
    clear ct cu h hI hw hB hlt hat hwb hcb hw0
    go_enter Tryz.func21, Tryz.ntmps21
    go_wp2_with fail
    refine (HT.out).mono ?_
    rintro e w1 ⟨rfl, rfl⟩
    go_wp2_with fail
    refine (HU.out).mono ?_
    rintro e w1 ⟨rfl, rfl⟩
    go_wp2_with fail
    refine (HWT.out).mono ?_
    rintro e w1 ⟨rfl, hk⟩
    have HK := Lib.hid hk
    have HB1 := Lib.hid (HB.out.kept hk (by simp))
    have hc1 : w1.cell? ⟨a.g, 0, none⟩ = some (.pointer (some ⟨a.gw, 0, none⟩)) := HB1.out.cell 0
    have hl1 := HB1.out.lt
    clear hk
    go_wp2_with fail
    refine (HC.out _ HK.out).mono ?_
    rintro e w2 ⟨rfl, hk2⟩
    have HK2 := Lib.hid ((hk0.out.old (HK.out.trans hk2)).more (Nat.le_succ _))
    clear hk2
    go_wp2_with fail
    go_ret
    exact ⟨rfl, a, rfl, HK2.out⟩
  | false =>
  rw [hcb] at hE
  simp only [Bool.false_eq_true, if_false] at hE
  subst hE
  rw [hcb] at HC
  simp only [if_true]
  obtain ⟨k, rfl⟩ : ∃ k : Nat, t = k := ⟨t.toNat, by omega⟩
  obtain ⟨q, rfl⟩ : ∃ q : Nat, u = q := ⟨u.toNat, by omega⟩
  simp only [Int.toNat_natCast]
  have hqj : q < js.length := by rw [h.len]; omega
  have hge : js.getD q [] = js[q] := by rw [List.getD_eq_getElem?_getD, List.getElem?_eq_getElem hqj]; rfl
  rw [hge]
  have HJN := Lib.hid (fun W (hkk : Kept [] w W) => wbJoin_lk (h.is.old hkk) hw k (by omega) (by rw [hw0]) (q : Int) ⟨by omega, by omega⟩)
  have HSTEP := Lib.hid (fun W (hl' : LkIs w0 W a { s with waits := s.waits.set k (-1, (q : Int)) }) => h.step hl' rfl rfl)
  have hjq := hjl js[q] (List.getElem_mem hqj)
  have hmix : Tryz.prog.follows .mixedOrders = true := by kernel_rfl
  clear ct cu h hI hw hB hlt hat hwb hcb hw0 hge hjl
  go_enter Tryz.func21, Tryz.ntmps21
  go_wp2_with fail
  refine (HT.out).mono ?_
  rintro e w1 ⟨rfl, rfl⟩
  go_wp2_with fail
  refine (HU.out).mono ?_
  rintro e w1 ⟨rfl, rfl⟩
  go_wp2_with fail
  refine (HWT.out).mono ?_
  rintro e w1 ⟨rfl, hk⟩
  have HK := Lib.hid hk
  have HB1 := Lib.hid (HB.out.kept hk (by simp))
  have hc1 : w1.cell? ⟨a.g, 0, none⟩ = some (.pointer (some ⟨a.gw, 0, none⟩)) := HB1.out.cell 0
  have hl1 := HB1.out.lt
  clear hk
  go_wp2_with fail
  refine (HC.out _ HK.out).mono ?_
  rintro e w2 ⟨rfl, hk2⟩
  have HK2 := Lib.hid (HK.out.trans hk2)
  have HB2 := Lib.hid (HB1.out.kept hk2 (by simp))
  have hc2 : w2.cell? ⟨a.g, 0, none⟩ = some (.pointer (some ⟨a.gw, 0, none⟩)) := HB2.out.cell 0
  have hl2 := HB2.out.lt
  clear hk2
  go_wp2_with fail
  refine (HJN.out _ HK2.out).mono ?_
  rintro e w3 ⟨rfl, hl3⟩
  have hj3 := HSTEP.out _ hl3
  obtain ⟨jb, o, vs, v, hJ, hM, hv, ho, hr, hjv, hjn, hturn⟩ := hj3.row q hqj
  obtain ⟨A, c, hvA, hnc, _⟩ := own_form hr
  have HM := Lib.hid hM
  have HO := Lib.hid ho
  have HR := Lib.hid hr
  have HTU := Lib.hid hturn
  have HJV := Lib.hid hjv
  have HV := Lib.hid hv
  have hq6 : w3.cell? ⟨a.g, 6, none⟩ = some (.map (some jb)) := by have := hj3.is.at_.blk.cell 6; rw [hJ] at this; exact this
  have hgl3 : a.g < w3.heap.size := hj3.is.at_.blk.lt
  have hjb3 : jb < w3.heap.size := lt_of_block ho
  have hqv := (List.getElem?_eq_some_iff.1 hv).1
  have hvq : vs[q] = v := (List.getElem?_eq_some_iff.1 hv).2
  have HLK : Hid (∀ W, W.heap[jb]? = some o → (Instr.lookup 42 (.map (some jb)) (.int .i64 q) false).run Tryz.prog W = .ok v W) := fun W hW => by
    have := hM.look hW q hqv
    rw [hvq] at this
    exact this
  have HST : Hid (∀ (W : World) v', W.heap[jb]? = some o → ∃ o', (Instr.mapUpdate 42 (.map (some jb)) (.int .i64 q) v').run Tryz.prog W = .ok () (setBlock W jb o') ∧ MapO o' (m + 1) (vs.set q v')) := fun W v' hW => hM.store hW q hqv hm v'
  have HB3 := Lib.hid hj3.is.at_.blk
  have hgj : a.g ≠ jb := fun e => by
    have h1 := hj3.is.at_.blk
    unfold Blk at h1
    rw [e, ho] at h1
    obtain ⟨_, es, clock, rfl, _⟩ := hM
    cases h1
  clear hl3 hj3 hM ho hr hturn hjv hv hJ hvq hqv
  subst hvA
  go_wp2_with fail
  have HGR : a.g ∉ fp (.slice A js[q].length c) := fun hm => own_blk_ne HR.out HB3.out (by decide) (mem_fp.1 hm)
  have HO4 : Hid ((w3.alloc (Obj.cells #[Value.int IntKind.i64 ↑k] 3)).drew.heap[jb]? = some o) := (Below.heap_alloc w3 _ jb hjb3).trans HO.out
  have HR4 : Hid ((w3.alloc (Obj.cells #[Value.int IntKind.i64 ↑k] 3)).drew.ownsRow 0 3 1 (.slice A js[q].length c) js[q].length (js[q].map I64)) := own_kept HR.out (show Kept [] w3 _ by (repeat (first | (with_reducible exact Kept.refl _ _) | (with_reducible assumption) | (with_reducible refine Kept.alloc ?_ _) | (with_reducible refine Kept.drew ?_) | (with_reducible refine Kept.drewN ?_ _) | (with_reducible refine Kept.setCell ?_ ?_ _) | (exact .inr (Nat.le_refl _)) | (exact .inr (by simp only; omega)) | (exact .inr (by omega))))) (by simp)
  have HK4 : Hid (Kept [] w3 (w3.alloc (Obj.cells #[Value.int IntKind.i64 ↑k] 3)).drew) := show Kept [] w3 _ by (repeat (first | (with_reducible exact Kept.refl _ _) | (with_reducible assumption) | (with_reducible refine Kept.alloc ?_ _) | (with_reducible refine Kept.drew ?_) | (with_reducible refine Kept.drewN ?_ _) | (with_reducible refine Kept.setCell ?_ ?_ _) | (exact .inr (Nat.le_refl _)) | (exact .inr (by simp only; omega)) | (exact .inr (by omega))))
  have hlk := HLK.out _ HO.out
  have hlkd := HLK.out w3.drew HO.out
  have hlk4 := HLK.out _ HO4.out
  have HEND : Hid (∀ A2 c2 w4, Appended (w3.alloc (Obj.cells #[Value.int IntKind.i64 ↑k] 3)).drew w4 3 1 (.slice A js[q].length c) (.slice A2 (js[q].length + 1) c2) (js[q].length + 1) (js[q].map I64 ++ [.int .i64 k]) →
      w4.cell? ⟨a.g, 6, none⟩ = some (.map (some jb)) ∧ ∃ o', (Instr.mapUpdate 42 (.map (some jb)) (.int .i64 q) (.slice A2 (js[q].length + 1) c2)).run Tryz.prog w4 = .ok () (setBlock w4 jb o') ∧ (setBlock w4 jb o').cell? ⟨a.g, 6, none⟩ = some (.map (some jb)) ∧
        ∃ a', a'.g = a.g ∧ LkIsJ w0 (setBlock w4 jb o') a' { s with waits := s.waits.set k (-1, (q : Int)) } (js.set q (js[q] ++ [(k : Int)])) (m + 1)) := fun A2 c2 w4 happ => by
    have hO5 : w4.heap[jb]? = some o := (happ.2.1.block jb (lt_of_block HO4.out) HJV.out).trans HO4.out
    have hk5 : Kept (jb :: fp (.slice A js[q].length c)) w3 w4 := ((HK4.out.mono (by simp)).trans happ.2.1 : Kept (fp (.slice A js[q].length c)) w3 w4).mono (fun k hk => List.mem_cons_of_mem _ hk)
    have hc6 : w4.cell? ⟨a.g, 6, none⟩ = some (.map (some jb)) := hk5.cell_some hq6 (by simp only [List.mem_cons, not_or]; exact ⟨hgj, HGR⟩)
    obtain ⟨o', hrun, hM'⟩ := HST.out w4 (.slice A2 (js[q].length + 1) c2) hO5
    obtain ⟨hkb, hob⟩ := kept_setBlock (lt_of_block hO5) o'
    refine ⟨hc6, o', hrun, hkb.cell_some hc6 (by simpa using hgj), _, ?_, HTU.out _ _ _ (js[q] ++ [(k : Int)]) _ (hk5.trans (hkb.mono (by simp))) hob ?_ ?_ hM'⟩
    · rfl
    · have h1 := own_kept happ.1 hkb (fun k hk hm => by
        simp only [List.mem_singleton] at hm
        subst hm
        rcases happ.2.2 k hk with h2 | h2
        · exact HJV.out h2
        · have := lt_of_block HO4.out; omega)
      simpa [I64] using h1
    · intro k' hk'
      rcases happ.2.2 k' hk' with h2 | h2
      · exact .inl h2
      · exact .inr (Nat.le_trans HK4.out.size h2)
  refine wp_region_held_drew (S := fun w' => w'.cell? ⟨a.g, 6, none⟩ = some (.map (some jb))) hmix hq6 (fun hHeld => ?_)
  (refine rtake_0 (v := ?_) (by kernel_rfl) (by kernel_rfl) (by kernel_rfl) (fun _ _ _ h => h) (Or.inl ⟨by rfl, ?_⟩) (by assumption) ?_; rotate_left; focus ((intro w hSw; (try dsimp only at hSw); go_simp); try (with_reducible rfl)); (try simp only [Act.put, List.setIfInBounds_toArray, List.set_cons_zero, List.set_cons_succ]))
  (refine rtake_1 (v := ?_) (by kernel_rfl) (by kernel_rfl) (by kernel_rfl) (fun _ _ _ h => h) (Or.inl ⟨by rfl, ?_⟩) (by assumption) ?_; rotate_left; focus ((intro w hSw; (try dsimp only at hSw); go_simp); try (with_reducible rfl)); (try simp only [Act.put, List.setIfInBounds_toArray, List.set_cons_zero, List.set_cons_succ]))
  (refine rtake_2 (v := ?_) (by kernel_rfl) (by kernel_rfl) (by kernel_rfl) (fun _ _ _ h => h) (Or.inl ⟨by rfl, ?_⟩) (by assumption) ?_; rotate_left; focus ((intro w hSw; (try dsimp only at hSw); go_simp); try (with_reducible rfl)); (try simp only [Act.put, List.setIfInBounds_toArray, List.set_cons_zero, List.set_cons_succ]))
  (refine rtake_3 (v := ?_) (by kernel_rfl) (by kernel_rfl) (by kernel_rfl) (fun _ _ _ h => h) (Or.inl ⟨by rfl, ?_⟩) (by assumption) ?_; rotate_left; focus ((intro w hSw; (try dsimp only at hSw); go_simp); try (with_reducible rfl)); (try simp only [Act.put, List.setIfInBounds_toArray, List.set_cons_zero, List.set_cons_succ]))
  (refine rtake_4 (v := ?_) (by kernel_rfl) (by kernel_rfl) (by kernel_rfl) (fun _ _ _ h => h) (Or.inl ⟨by rfl, ?_⟩) (by assumption) ?_; rotate_left; focus ((intro w hSw; (try dsimp only at hSw); go_simp); try (with_reducible rfl)); (try simp only [Act.put, List.setIfInBounds_toArray, List.set_cons_zero, List.set_cons_succ]))
  (refine rtake_5 (v := ?_) (by kernel_rfl) (by kernel_rfl) (by kernel_rfl) (fun _ _ _ h => h) (Or.inl ⟨by rfl, ?_⟩) (by assumption) ?_; rotate_left; focus ((intro w hSw; (try dsimp only at hSw); go_simp); try (with_reducible rfl)); (try simp only [Act.put, List.setIfInBounds_toArray, List.set_cons_zero, List.set_cons_succ]))
  (refine rtake_6 (v := ?_) (by kernel_rfl) (by kernel_rfl) (by kernel_rfl) (fun _ _ _ h => h) (Or.inl ⟨by rfl, ?_⟩) (by assumption) ?_; rotate_left; focus ((intro w hSw; (try dsimp only at hSw); go_simp); try (with_reducible rfl)); (try simp only [Act.put, List.setIfInBounds_toArray, List.set_cons_zero, List.set_cons_succ]))
  (refine rtake_7 (v := ?_) (by kernel_rfl) (by kernel_rfl) (by kernel_rfl) (fun _ _ _ h => h) (Or.inl ⟨by rfl, ?_⟩) (by assumption) ?_; rotate_left; focus ((intro w hSw; (try dsimp only at hSw); go_simp); try (with_reducible rfl)); (try simp only [Act.put, List.setIfInBounds_toArray, List.set_cons_zero, List.set_cons_succ]))
  (refine rtake_8 (v := ?_) (by kernel_rfl) (by kernel_rfl) (by kernel_rfl) (fun _ _ _ h => h) (Or.inl ⟨by rfl, ?_⟩) (by assumption) ?_; rotate_left; focus ((intro w hSw; (try dsimp only at hSw); go_simp); try (with_reducible rfl)); (try simp only [Act.put, List.setIfInBounds_toArray, List.set_cons_zero, List.set_cons_succ]))
  (refine rtake_9 (v := ?_) (by kernel_rfl) (by kernel_rfl) (by kernel_rfl) (fun _ _ _ h => h) (Or.inl ⟨by rfl, ?_⟩) (by assumption) ?_; rotate_left; focus ((intro w hSw; (try dsimp only at hSw); go_simp); try (with_reducible rfl)); (try simp only [Act.put, List.setIfInBounds_toArray, List.set_cons_zero, List.set_cons_succ]))
  (refine rtake_11 (v := ?_) (by kernel_rfl) (by kernel_rfl) (by kernel_rfl) (fun _ _ _ h => h) (Or.inl ⟨by rfl, ?_⟩) (by assumption) ?_; rotate_left; focus ((intro w hSw; (try dsimp only at hSw); go_simp); try (with_reducible rfl)); (try simp only [Act.put, List.setIfInBounds_toArray, List.set_cons_zero, List.set_cons_succ]))
  (refine wpAnyH_ready (rs := [10, 12]) (by kernel_rfl) (by simp) ?_; refine rcons_10 (fun K hK => ?_) (rcons_12 (fun K hK => ?_) (AllReadyH.nil)))
  · go_simp
    refine hK.out _ _ hq6 (fun hHeld => ?_)
    clear hK K
    (try simp only [Act.put, List.setIfInBounds_toArray, List.set_cons_zero, List.set_cons_succ])
    (refine wpAnyH_ready (rs := [12]) (by kernel_rfl) (by simp) ?_; refine rcons_12 (fun K hK => ?_) (AllReadyH.nil))
    go_simp
    refine hK.out _ _ (by go_keep) (fun hHeld => ?_)
    clear hK K
    (try simp only [Act.put, List.setIfInBounds_toArray, List.set_cons_zero, List.set_cons_succ])
    (refine wpAnyH_ready (rs := [13]) (by kernel_rfl) (by simp) ?_; refine rcons_13 (fun K hK => ?_) (AllReadyH.nil))
    refine step_append_any _ rfl (.tmp 50) (.tmp 52) 27 rfl 3 (.int .i64 0) 1 8 Tryz.underlying27 Tryz.infoI rfl (by decide) (.slice A js[q].length c) js[q].length (js[q].map I64) (by simp [Act.eval, Act.put]) HR4.out _ 1 1 [.int .i64 k] (by simp [Act.eval, Act.put]) (reads_one _ _ _) (by simp [Value.oneCell']) (by simp only [maxLen]; omega) (by omega) ?_
    rintro A2 c2 w4 happ
    obtain ⟨hc6, o', hrun, hc6', hfin⟩ := HEND.out _ _ _ happ
    have HF := Lib.hid hfin
    clear happ hfin
    refine hK.out _ _ hc6 (fun hHeld => ?_)
    clear hK K
    (try simp only [Act.put, List.setIfInBounds_toArray, List.set_cons_zero, List.set_cons_succ])
    (refine wpAnyH_ready (rs := [14]) (by kernel_rfl) (by simp) ?_; refine rcons_14 (fun K hK => ?_) (AllReadyH.nil))
    refine step_mapUpdate rfl (.tmp 43) (.tmp 44) (.tmp 53) 42 rfl (by simp [Act.eval]) (by simp [Act.eval]) (by simp [Act.eval]) hrun ?_
    refine hK.out _ _ hc6' (fun hHeld => ?_)
    clear hK K
    (try simp only [Act.put, List.setIfInBounds_toArray, List.set_cons_zero, List.set_cons_succ])
    refine wpAnyH_done (by kernel_rfl) ?_ _
    go_wp2_with fail
    go_ret
    exact ⟨rfl, HF.out⟩
  · go_simp
    refine hK.out _ _ (by go_keep) (fun hHeld => ?_)
    clear hK K
    (try simp only [Act.put, List.setIfInBounds_toArray, List.set_cons_zero, List.set_cons_succ])
    (refine wpAnyH_ready (rs := [10]) (by kernel_rfl) (by simp) ?_; refine rcons_10 (fun K hK => ?_) (AllReadyH.nil))
    go_simp
    refine hK.out _ _ (by go_keep) (fun hHeld => ?_)
    clear hK K
    (try simp only [Act.put, List.setIfInBounds_toArray, List.set_cons_zero, List.set_cons_succ])
    (refine wpAnyH_ready (rs := [13]) (by kernel_rfl) (by simp) ?_; refine rcons_13 (fun K hK => ?_) (AllReadyH.nil))
    refine step_append_any _ rfl (.tmp 50) (.tmp 52) 27 rfl 3 (.int .i64 0) 1 8 Tryz.underlying27 Tryz.infoI rfl (by decide) (.slice A js[q].length c) js[q].length (js[q].map I64) (by simp [Act.eval, Act.put]) HR4.out _ 1 1 [.int .i64 k] (by simp [Act.eval, Act.put]) (reads_one _ _ _) (by simp [Value.oneCell']) (by simp only [maxLen]; omega) (by omega) ?_
    rintro A2 c2 w4 happ
    obtain ⟨hc6, o', hrun, hc6', hfin⟩ := HEND.out _ _ _ happ
    have HF := Lib.hid hfin
    clear happ hfin
    refine hK.out _ _ hc6 (fun hHeld => ?_)
    clear hK K
    (try simp only [Act.put, List.setIfInBounds_toArray, List.set_cons_zero, List.set_cons_succ])
    (refine wpAnyH_ready (rs := [14]) (by kernel_rfl) (by simp) ?_; refine rcons_14 (fun K hK => ?_) (AllReadyH.nil))
    refine step_mapUpdate rfl (.tmp 43) (.tmp 44) (.tmp 53) 42 rfl (by simp [Act.eval]) (by simp [Act.eval]) (by simp [Act.eval]) hrun ?_
    refine hK.out _ _ hc6' (fun hHeld => ?_)
    clear hK K
    (try simp only [Act.put, List.setIfInBounds_toArray, List.set_cons_zero, List.set_cons_succ])
    refine wpAnyH_done (by kernel_rfl) ?_ _
    go_wp2_with fail
    go_ret
    exact ⟨rfl, HF.out⟩

/-- Those who wait for threads' ends wait for just these. -/
structure JInv (s : Lk) (js : List (List Int)) : Prop where
  mem : ∀ (u : Nat) (h : u < js.length) (t : Int), t ∈ js[u] → 0 ≤ t ∧ t < s.eff.length ∧ (getW s.waits t).2 = u
  nodup : ∀ (u : Nat) (h : u < js.length), js[u].Nodup
/-- Some wait for nothing more. -/
def clearW (ws : List (Int × Int)) (l : List Int) : List (Int × Int) := l.foldl (fun ws t => ws.set t.toNat (-1, -1)) ws
theorem clearW_len : ∀ (l : List Int) (ws : List (Int × Int)), (clearW ws l).length = ws.length
  | [], _ => rfl
  | t :: r, ws => by unfold clearW; rw [List.foldl_cons]; have := clearW_len r (ws.set t.toNat (-1, -1)); unfold clearW at this; rw [this]; simp
theorem clearW_one (ws : List (Int × Int)) (l : List Int) (t : Int) : clearW ws (l ++ [t]) = (clearW ws l).set t.toNat (-1, -1) := by simp [clearW]
/-- What an end tells, and leaves. -/
def endedL (s : Lk) (js : List (List Int)) (u : Int) : List Int := if 0 ≤ u ∧ u < s.eff.length then js.getD u.toNat [] else []
def endedS (s : Lk) (js : List (List Int)) (u : Int) : Lk := { s with waits := clearW s.waits (endedL s js u) }
def endedJ (s : Lk) (js : List (List Int)) (u : Int) : List (List Int) := if 0 ≤ u ∧ u < s.eff.length then js.set u.toNat [] else js
theorem clear_inv {s : Lk} {K : Nat} {B : Nat → Prop} (hinv : LkInv s K B) : ∀ (l : List Int), (∀ t ∈ l, 0 ≤ t ∧ t < (s.eff.length : Int) ∧ (getW s.waits t).1 = -1) → LkInv { s with waits := clearW s.waits l } K B ∧ ∀ t, (getW (clearW s.waits l) t).1 = (getW s.waits t).1 := by
  intro l
  induction h : l.reverse generalizing l with
  | nil => intro _; rw [List.reverse_eq_nil_iff.1 h]; exact ⟨hinv, fun _ => rfl⟩
  | cons t r ih =>
    intro hl
    have e : l = r.reverse ++ [t] := by have := congrArg List.reverse h; simpa using this
    subst e
    obtain ⟨h1, h2⟩ := ih r.reverse (by simp) (fun x hx => hl x (by simp at hx ⊢; exact .inl hx))
    have ht := hl t (by simp)
    obtain ⟨k, rfl⟩ : ∃ k : Nat, t = k := ⟨t.toNat, by omega⟩
    rw [clearW_one, Int.toNat_natCast]
    have hk : k < s.eff.length := by omega
    have h3 : (getW (clearW s.waits r.reverse) k).1 = -1 := by rw [h2]; exact ht.2.2
    refine ⟨part_inv h1 k hk h3, fun x => ?_⟩
    rw [getW_set (by rw [clearW_len, hinv.whole.waits]; exact hk)]
    split
    · rename_i e; subst e; rw [ht.2.2]
    · exact h2 x

set_option maxHeartbeats 6400000 in
set_option maxRecDepth 100000 in
theorem lkEnded_any {w0 : Base} {w : World} {a : LkA} {s : Lk} {js : List (List Int)} {K m : Nat} (h : LkIsJ w0 w a s js m) (hI : LkAll s K) (hJ : JInv s js) (hjl : ∀ x ∈ js, x.length ≤ 1000000) (u : Int) :
    Calls Tryz.prog 24 #[.pointer (some ⟨a.g, 0, none⟩), .int .i64 u] w fun e w' => ∃ A n c, e = .returned (.slice A n c) ∧ (Reads w' 1 A n ((endedL s js u).map I64) ∧ ∀ k, k ∈ fp (.slice A n c) → k ∈ w0.F ∨ w0.w.heap.size ≤ k) ∧ ∃ a', a'.g = a.g ∧ LkIsJ w0 w' a' (endedS s js u) (endedJ s js u) m := by
  have hw := hI.whole
  have HT := Lib.hid (lkthread_any h.is.at_ u)
  have HH := Lib.hid h
  unfold endedS endedJ endedL
  by_cases cu : 0 ≤ u ∧ u < s.eff.length
  case neg =>
    rw [if_neg cu, if_neg cu]
    have hd : decide (0 ≤ u ∧ u < (s.eff.length : Int)) = false := by simp; omega
    rw [hd] at HT
    clear hd cu h hI hw hJ
    go_enter Tryz.func24, Tryz.ntmps24
    go_wp2_with fail
    refine (HT.out).mono ?_
    rintro e w1 ⟨rfl, rfl⟩
    go_wp2_with fail
    go_ret
    exact ⟨none, 0, 0, rfl, ⟨Reads.none_, fun k hk => by simp [fp, Value.ownBlock] at hk⟩, a, rfl, HH.out⟩
  rw [if_pos cu, if_pos cu]
  have hd : decide (0 ≤ u ∧ u < (s.eff.length : Int)) = true := by simp; omega
  rw [hd] at HT
  clear hd
  obtain ⟨q, rfl⟩ : ∃ q : Nat, u = q := ⟨u.toNat, by omega⟩
  have hqj : q < js.length := by rw [h.len]; omega
  have hge : js.getD q [] = js[q] := by rw [List.getD_eq_getElem?_getD, List.getElem?_eq_getElem hqj]; rfl
  simp only [Int.toNat_natCast]
  rw [hge]
  obtain ⟨jb, o, vs, v, hJe, hM, hv, ho, hr, hjv, hjn, hvn, hturn⟩ := h.row2 q hqj
  obtain ⟨A, c, rfl, hnc, _⟩ := own_form hr
  have hq6 : w.cell? ⟨a.g, 6, none⟩ = some (.map (some jb)) := by have := h.is.at_.blk.cell 6; rw [hJe] at this; exact this
  have hgl : a.g < w.heap.size := h.is.at_.blk.lt
  have hqv := (List.getElem?_eq_some_iff.1 hv).1
  have hvq : vs[q] = .slice A js[q].length c := (List.getElem?_eq_some_iff.1 hv).2
  have hlk : (Instr.lookup 42 (.map (some jb)) (.int .i64 q) false).run Tryz.prog w = .ok (.slice A js[q].length c) w := by
    have := hM.look ho q hqv
    rw [hvq] at this
    exact this
  obtain ⟨o', hrun, hM'⟩ := hM.drop ho q hqv 0
  obtain ⟨hkb, hob⟩ := kept_setBlock (lt_of_block ho) o'
  have hj1 := hturn _ o' (.slice none 0 0) [] m (hkb.mono (by simp)) hob (World.ownsRow_nil _ _ _ _) (fun k hk => by simp [fp_nil] at hk) hM'
  have hr1 := own_kept hr hkb (fun k hk hm => by simp only [List.mem_singleton] at hm; subst hm; exact hjv hk)

  have hne6 : a.g ≠ jb := fun e => by
    have h1 := h.is.at_.blk
    unfold Blk at h1
    rw [e, ho] at h1
    obtain ⟨_, es, clock, rfl, _⟩ := hM
    cases h1
  have HJ1 := Lib.hid hj1
  have HR1 := Lib.hid hr1
  have HVN := Lib.hid hvn
  have HCL : Hid (∀ (W : World) (a2 : LkA) (k : Nat) (t : Int), js[q][k]? = some t → LkIs w0 W a2 { s with waits := clearW s.waits (js[q].take k) } → ∃ j : Nat, t = j ∧ Calls Tryz.prog 64 #[.pointer (some ⟨a2.gw, 0, none⟩), .int .i64 t] W fun e w' => e = .returned (.bool true) ∧ LkIs w0 w' a2 { s with waits := clearW s.waits (js[q].take (k + 1)) } ∧ Kept (fp (.slice a2.Aw s.eff.length a2.cw)) W w') := fun W a2 k t hk hl2 => by
    have htm := List.mem_of_getElem? hk
    have ht := hJ.mem q hqj t htm
    obtain ⟨j, rfl⟩ : ∃ j : Nat, t = j := ⟨t.toNat, by omega⟩
    have hci := clear_inv hI (js[q].take k) (fun x hx => by
      have h2 := hJ.mem q hqj x (List.mem_of_mem_take hx)
      exact ⟨h2.1, h2.2.1, (hI.one x).resolve_right (by omega)⟩)
    have h1 : (getW (clearW s.waits (js[q].take k)) j).1 = -1 := by rw [hci.2]; exact (hI.one _).resolve_right (by omega)
    refine ⟨j, rfl, (wbClear_lk hl2 hci.1.whole j (by have := ht.2.1; simp only; omega) h1).mono ?_⟩
    rintro e w' ⟨rfl, h3, h4⟩
    have hkl := (List.getElem?_eq_some_iff.1 hk).1
    rw [List.take_add_one, hk, Option.toList_some, clearW_one, Int.toNat_natCast]
    exact ⟨rfl, h3, h4⟩
  have hlq := hjl js[q] (List.getElem_mem hqj)
  clear cu h hI hw hJ hJe hM hv ho hr hjv hjn hvn hturn hqv hvq hM' hob hj1 hr1 hjl hge
  go_enter Tryz.func24, Tryz.ntmps24
  go_wp2_with fail
  refine (HT.out).mono ?_
  rintro e w1 ⟨rfl, rfl⟩
  go_wp2_with fail
  go_loopw [25] (fun kv wr => ∃ k : Nat, k ≤ js[q].length ∧ kv = .int .i64 k ∧ ∃ a2, a2.g = a.g ∧ Hid (LkIsJ w0 wr a2 { s with waits := clearW s.waits (js[q].take k) } (js.set q []) m) ∧ Hid (wr.ownsRow 0 3 1 (.slice A js[q].length c) js[q].length (js[q].map I64))) (fun k _ => js[q].length - (intOf k).toNat)
  case atStart =>
    refine ⟨0, by omega, rfl, _, ?_, HJ1.out, HR1.out⟩
    rfl
  case round =>
    obtain ⟨k, hk1, rfl, a2, ha2, HJ2, HR2⟩ := hrel
    obtain ⟨ag, agw, aAo, aco, aAw, acw, aAL, acL, aAV, acV, aAW, acW, aAO, acO, aAE, acE, aJ, agls, aex⟩ := a2
    simp only at ha2
    subst ha2
    by_cases hlt : k < js[q].length
    · obtain ⟨b, off, rfl, hbl, hcl⟩ := (Reads.of_own HR2.out).addr (by omega) (by omega)
      have hx : js[q][k]? = some js[q][k] := List.getElem?_eq_getElem hlt
      have hck : wr.cell? ⟨b, off + k, none⟩ = some (.int .i64 js[q][k]) := hcl k _ (by rw [List.getElem?_map, hx]; rfl)
      obtain ⟨j, hj, hcall⟩ := HCL.out wr _ k _ hx HJ2.out.is
      have HC := Lib.hid hcall
      have hc0 : wr.cell? ⟨a.g, 0, none⟩ = some (.pointer (some ⟨agw, 0, none⟩)) := HJ2.out.is.at_.blk.cell 0
      have hlg : a.g < wr.heap.size := HJ2.out.is.at_.blk.lt
      rw [hj] at hck HC
      have hi0 : (0 : Int) ≤ (k : Int) := by omega
      have hi1 : (k : Int) < (js[q].length : Int) := by omega
      clear hx hcall hcl hj
      go_wp2_with fail
      refine (HC.out).mono ?_
      rintro e w2 ⟨rfl, hl2, hk2⟩
      have HJ3 := Lib.hid (HJ2.out.step hl2 rfl rfl)
      have HR3 := Lib.hid (own_kept HR2.out hk2 (fun x hx hm => own_own_ne HR2.out (HJ2.out.is.at_.2.get (i := 3) rfl) (by decide) x hx hm))
      clear hl2 hk2
      go_wp2_with fail
      go_roundw
      case rel =>
        refine ⟨k + 1, by omega, by go_num, _, ?_, HJ3.out, HR3.out⟩
        rfl
      case measure => simp [intOf]; omega
    · obtain rfl : k = js[q].length := by omega
      go_wp2_with fail
      go_ret
      have h2 := HJ2.out
      rw [List.take_length] at h2
      refine ⟨A, _, c, rfl, ⟨Reads.of_own HR2.out, HVN.out⟩, _, ?_, h2⟩
      rfl

end Go.Proofs.YtfoeijiejpenpaaGreatDoor

