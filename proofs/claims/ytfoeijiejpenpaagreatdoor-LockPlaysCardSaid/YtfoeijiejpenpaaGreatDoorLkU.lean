/- Locks: what always holds, behind each call (the plain law). -/
import Derived.Test.YtfoeijiejpenpaaGreatDoorLkD
import Derived.Test.YtfoeijiejpenpaaGreatDoorLkQ
import Derived.Test.YtfoeijiejpenpaaGreatDoorLkO
import Derived.Test.YtfoeijiejpenpaaGreatDoorLkBit
namespace Go.Proofs.YtfoeijiejpenpaaGreatDoor

theorem JInv.of {s s' : Lk} {js : List (List Int)} {K K' : Nat} (h : JInv s js) (hw : s.Whole K) (hw' : s'.Whole K') (hl : s'.waits.length = s.waits.length) (he : ∀ t : Int, (getW s.waits t).2 ≠ -1 → (getW s'.waits t).2 = (getW s.waits t).2) : JInv s' js :=
  ⟨fun u hu t ht => by
    have h0 := h.mem u hu t ht
    have h1 := hw.waits
    have h2 := hw'.waits
    exact ⟨h0.1, by omega, by rw [he t (by omega)]; exact h0.2.2⟩, h.nodup⟩
theorem JInv.setW {s s' : Lk} {js : List (List Int)} {K K' : Nat} (h : JInv s js) (hw : s.Whole K) (hw' : s'.Whole K') (k : Nat) (x : Int × Int) (hk : k < s.waits.length) (h2 : (getW s.waits k).2 = -1) (e : s'.waits = s.waits.set k x) : JInv s' js :=
  h.of hw hw' (by rw [e]; simp) (fun t ht => by
    rw [e, getW_set hk]
    split
    · rename_i e2; subst e2; exact absurd h2 ht
    · rfl)
theorem JInv.len {s : Lk} {js : List (List Int)} (h : JInv s js) (hn : s.eff.length ≤ 64) : ∀ x ∈ js, x.length ≤ 64 := fun x hx => by
  obtain ⟨u, hu, rfl⟩ := List.mem_iff_getElem.1 hx
  have := pigeon s.eff.length js[u] (h.nodup u hu) (fun t ht => ⟨(h.mem u hu t ht).1, (h.mem u hu t ht).2.1⟩)
  omega

/-- What a lock gives, and leaves. -/
def lockB (s : Lk) (t l : Int) : Bool := mayM s t l == 0 && getO s.owner l == -1
def lockS (s : Lk) (t l : Int) : Lk := if mayM s t l ≠ 0 then s else if getO s.owner l = -1 then { s with owner := s.owner.set l.toNat t } else betterS (putS s t.toNat l.toNat) (getO s.owner l) (s.eff.getD t.toNat 0)
theorem lock_inv {s : Lk} {K : Nat} (h : LkAll s K) (t l : Int) : LkAll (lockS s t l) (K + 1) := by
  unfold lockS
  split
  · exact h.mono (Nat.le_succ K) (fun _ x => x)
  · rename_i hm
    have hz := mayM_zero (s := s) (t := t) (l := l) (by omega)
    obtain ⟨k, rfl⟩ : ∃ k : Nat, t = k := ⟨t.toNat, by omega⟩
    obtain ⟨q, rfl⟩ : ∃ q : Nat, l = q := ⟨l.toNat, by omega⟩
    simp only [Int.toNat_natCast]
    split
    · rename_i ho
      exact (own_inv h q (by omega) (fun u hu => h.held u (by omega) (by rw [hu]; exact ho)) k (by omega)).mono (Nat.le_succ K) (fun _ x => x)
    · rename_i ho
      have ho2 := h.orng q
      exact (wait_inv h k q (by omega) (by omega) (waitsB_no hz.2.2.1) ho (closesM_no h hz.1 (by omega) hz.2.2.2)).2.2.2
theorem lock_j {s : Lk} {js : List (List Int)} {K : Nat} (h : LkAll s K) (hj : JInv s js) (t l : Int) : JInv (lockS s t l) js := by
  have hw' := (lock_inv h t l).whole
  unfold lockS at hw' ⊢
  split
  · exact hj
  · rename_i hm
    rw [if_neg hm] at hw'
    have hz := mayM_zero (s := s) (t := t) (l := l) (by omega)
    obtain ⟨k, rfl⟩ : ∃ k : Nat, t = k := ⟨t.toNat, by omega⟩
    obtain ⟨q, rfl⟩ : ∃ q : Nat, l = q := ⟨l.toNat, by omega⟩
    simp only [Int.toNat_natCast] at hw' ⊢
    split
    · rename_i ho
      rw [if_pos ho] at hw'
      exact hj.of h.whole hw' rfl (fun _ _ => rfl)
    · rename_i ho
      rw [if_neg ho] at hw'
      exact hj.setW h.whole hw' k ((q : Int), -1) (by rw [h.whole.waits]; omega) (by rw [waitsB_no hz.2.2.1]) rfl
theorem try_inv {s : Lk} {K : Nat} (h : LkAll s K) (t l : Int) : LkAll (tryS s t l) K := by
  unfold tryS
  split
  · rename_i he
    unfold tryE at he
    split at he
    · omega
    · rename_i hm
      split at he
      · omega
      · rename_i ho
        have hz := mayM_zero (s := s) (t := t) (l := l) (by omega)
        obtain ⟨q, rfl⟩ : ∃ q : Nat, l = q := ⟨l.toNat, by omega⟩
        exact own_inv h q (by omega) (fun u hu => h.held u (by omega) (by rw [hu]; omega)) t (by omega)
  · exact h
theorem try_j {s : Lk} {js : List (List Int)} {K : Nat} (h : LkAll s K) (hj : JInv s js) (t l : Int) : JInv (tryS s t l) js := by
  have hw' := (try_inv h t l).whole
  unfold tryS at hw' ⊢
  split
  · rename_i he
    rw [if_pos he] at hw'
    exact hj.of h.whole hw' rfl (fun _ _ => rfl)
  · exact hj
theorem pass_j {s : Lk} {js : List (List Int)} {K : Nat} (h : LkAll s K) (hj : JInv s js) (q : Nat) (hq : q < s.lines.length) : JInv (passS s q) js := by
  have hw' := (pass_inv h q hq).whole
  unfold passS at hw' ⊢
  obtain ⟨L, last, hl⟩ : ∃ L last, s.lines[q]? = some (L, last) := ⟨_, _, List.getElem?_eq_getElem hq⟩
  have hgl : s.lines.getD q ([], 0) = (L, last) := by rw [List.getD_eq_getElem?_getD, hl]; rfl
  have hok := h.lines q L last hl
  rw [hgl] at hw' ⊢
  cases L with
  | nil => exact hj.of h.whole hw' rfl (fun _ _ => rfl)
  | cons x r =>
    have hm := hok.mem x (by simp)
    have ho := h.one x.p
    obtain ⟨k, hk⟩ : ∃ k : Nat, x.p = k := ⟨x.p.toNat, by omega⟩
    refine hj.setW h.whole hw' k (-1, -1) (by omega) (by rw [← hk]; exact ho.resolve_left (by omega)) ?_
    show s.waits.set x.p.toNat (-1, -1) = _
    rw [hk]; rfl
theorem unl_inv {s : Lk} {K : Nat} (h : LkAll s K) (t l : Int) : LkAll (unlS s t l) K := by
  unfold unlS
  split
  · rename_i he
    unfold unlE at he
    split at he
    · omega
    · split at he
      · omega
      · exact pass_inv h _ (by omega)
  · exact h
theorem unl_j {s : Lk} {js : List (List Int)} {K : Nat} (h : LkAll s K) (hj : JInv s js) (t l : Int) : JInv (unlS s t l) js := by
  unfold unlS
  split
  · rename_i he
    unfold unlE at he
    split at he
    · omega
    · split at he
      · omega
      · exact pass_j h hj _ (by omega)
  · exact hj
theorem cancel_j {s : Lk} {js : List (List Int)} {K : Nat} (h : LkAll s K) (hj : JInv s js) (t : Int) : JInv (cancelS s t) js := by
  have hw' := (cancel_inv h t).whole
  unfold cancelS at hw' ⊢
  split
  · rename_i hc
    rw [if_pos hc] at hw'
    have ho := h.one t
    obtain ⟨k, rfl⟩ : ∃ k : Nat, t = k := ⟨t.toNat, by omega⟩
    exact hj.setW h.whole hw' k (-1, -1) (by rw [h.whole.waits]; omega) (ho.resolve_left hc.2) rfl
  · exact hj
theorem cancel_no {s : Lk} {K : Nat} (h : LkAll s K) (t : Int) : (getW (cancelS s t).waits t).1 = -1 := by
  unfold cancelS
  split
  · rename_i hc
    obtain ⟨k, rfl⟩ : ∃ k : Nat, t = k := ⟨t.toNat, by omega⟩
    show (getW (s.waits.set k (-1, -1)) k).1 = -1
    rw [getW_set (by rw [h.whole.waits]; omega), if_pos rfl]
  · rename_i hc
    by_cases ht : 0 ≤ t ∧ t < s.eff.length
    · exact Decidable.byContradiction fun hx => hc ⟨ht, hx⟩
    · have := h.whole.waits
      rw [getW_out (by omega)]
theorem setLevel_j {s : Lk} {js : List (List Int)} {K : Nat} (h : LkAll s K) (hj : JInv s js) (t lev : Int) : JInv (setLevelS s t lev) js := by
  have hw' := (setLevel_inv h t lev).whole
  unfold setLevelS at hw' ⊢
  split
  · rename_i hc
    rw [if_pos hc] at hw'
    exact hj.of h.whole hw' rfl (fun _ _ => rfl)
  · exact hj
theorem joinS_inv {s : Lk} {K : Nat} (h : LkAll s K) (t u : Int) : LkAll (joinS s t u) K := by
  unfold joinS
  split
  · rename_i he
    have hz := joinE_zero he
    obtain ⟨k, rfl⟩ : ∃ k : Nat, t = k := ⟨t.toNat, by omega⟩
    exact join_inv h k (by omega) u hz.2.1 (waitsB_no hz.2.2.1) (closesM_no h hz.1 hz.2.1 hz.2.2.2)
  · exact h
theorem join_j {s : Lk} {js : List (List Int)} {K : Nat} (h : LkAll s K) (hj : JInv s js) (hl : js.length = s.eff.length) (t u : Int) : JInv (joinS s t u) (joinJ s js t u) := by
  unfold joinS joinJ
  split
  · rename_i he
    have hz := joinE_zero he
    have hno := waitsB_no hz.2.2.1
    obtain ⟨k, rfl⟩ : ∃ k : Nat, t = k := ⟨t.toNat, by omega⟩
    obtain ⟨q, rfl⟩ : ∃ q : Nat, u = q := ⟨u.toNat, by omega⟩
    have hkw : k < s.waits.length := by rw [h.whole.waits]; omega
    have hqj : q < js.length := by omega
    simp only [Int.toNat_natCast]
    have hge : js.getD q [] = js[q] := by rw [List.getD_eq_getElem?_getD, List.getElem?_eq_getElem hqj]; rfl
    rw [hge]
    have hne : ∀ (v : Nat) (hv : v < js.length) (x : Int), x ∈ js[v] → x ≠ k := fun v hv x hx e => by
      have h1 := (hj.mem v hv x hx).2.2
      rw [e, hno] at h1
      have h2 : (-1 : Int) = v := h1
      omega
    refine ⟨fun v hv x hx => ?_, fun v hv => ?_⟩
    · rw [List.getElem_set] at hx
      simp only
      rw [getW_set hkw]
      split at hx
      · rename_i e
        subst e
        rcases List.mem_append.1 hx with hx | hx
        · rw [if_neg (hne q hqj x hx)]; exact hj.mem q hqj x hx
        · obtain rfl := List.mem_singleton.1 hx
          rw [if_pos rfl]
          exact ⟨by omega, by omega, rfl⟩
      · have hv' : v < js.length := by simpa using hv
        rw [if_neg (hne v hv' x hx)]; exact hj.mem v hv' x hx
    · rw [List.getElem_set]
      split
      · refine List.nodup_append.2 ⟨hj.nodup q hqj, by simp, fun a ha b hb e => ?_⟩
        obtain rfl := List.mem_singleton.1 hb
        exact hne q hqj a ha e
      · exact hj.nodup v (by simpa using hv)
  · exact hj
theorem part_j {s : Lk} {js : List (List Int)} {K : Nat} (h : LkAll s K) (hj : JInv s js) (hl : js.length = s.eff.length) (k q : Nat) (hk : k < s.eff.length) (hq : q < s.eff.length) (hw : (getW s.waits k).2 = q) :
    JInv { s with waits := s.waits.set k (-1, -1) } (js.set q ((js.getD q []).filter (fun x => x != (k : Int)))) := by
  have hkw : k < s.waits.length := by rw [h.whole.waits]; omega
  have hqj : q < js.length := by omega
  have hge : js.getD q [] = js[q] := by rw [List.getD_eq_getElem?_getD, List.getElem?_eq_getElem hqj]; rfl
  rw [hge]
  refine ⟨fun v hv x hx => ?_, fun v hv => ?_⟩
  · rw [List.getElem_set] at hx
    simp only
    rw [getW_set hkw]
    split at hx
    · rename_i e
      subst e
      have h1 := List.mem_filter.1 hx
      rw [if_neg (by have := h1.2; simpa using this)]
      exact hj.mem q hqj x h1.1
    · rename_i e
      have hv' : v < js.length := by simpa using hv
      have h1 := hj.mem v hv' x hx
      rw [if_neg (fun e2 => by subst e2; have := h1.2.2; omega)]; exact h1
  · rw [List.getElem_set]
    split
    · exact (hj.nodup q hqj).filter _
    · exact hj.nodup v (by simpa using hv)
theorem clearW_get : ∀ (l : List Int) (ws : List (Int × Int)) (x : Int), (∀ t ∈ l, 0 ≤ t ∧ t < (ws.length : Int)) → x ∉ l → getW (clearW ws l) x = getW ws x
  | [], _, _, _, _ => rfl
  | t :: r, ws, x, h, hx => by
    have ht := h t (by simp)
    obtain ⟨k, rfl⟩ : ∃ k : Nat, t = k := ⟨t.toNat, by omega⟩
    have e : clearW ws ((k : Int) :: r) = clearW (ws.set k (-1, -1)) r := by simp [clearW]
    rw [e, clearW_get r _ x (fun u hu => by simp; exact h u (by simp [hu])) (fun hm => hx (by simp [hm])), getW_set (by omega), if_neg (fun e => hx (by simp [e]))]
theorem ended_inv {s : Lk} {js : List (List Int)} {K : Nat} (h : LkAll s K) (hj : JInv s js) (u : Int) : LkAll (endedS s js u) K := by
  unfold endedS endedL
  split
  · refine (clear_inv h _ (fun t ht => ?_)).1
    rw [List.getD_eq_getElem?_getD] at ht
    by_cases hu : u.toNat < js.length
    · rw [List.getElem?_eq_getElem hu] at ht
      have h2 := hj.mem _ hu t ht
      exact ⟨h2.1, h2.2.1, (h.one t).resolve_right (by omega)⟩
    · rw [List.getElem?_eq_none (by omega)] at ht; simp at ht
  · exact h
theorem ended_j {s : Lk} {js : List (List Int)} {K : Nat} (h : LkAll s K) (hj : JInv s js) (hl : js.length = s.eff.length) (u : Int) : JInv (endedS s js u) (endedJ s js u) := by
  unfold endedS endedJ endedL
  split
  · rename_i hc
    obtain ⟨q, rfl⟩ : ∃ q : Nat, u = q := ⟨u.toNat, by omega⟩
    have hqj : q < js.length := by omega
    have hww := h.whole.waits
    simp only [Int.toNat_natCast]
    have hge : js.getD q [] = js[q] := by rw [List.getD_eq_getElem?_getD, List.getElem?_eq_getElem hqj]; rfl
    rw [hge]
    refine ⟨fun v hv x hx => ?_, fun v hv => ?_⟩
    · rw [List.getElem_set] at hx
      split at hx
      · simp at hx
      · have hv' : v < js.length := by simpa using hv
        have h1 := hj.mem v hv' x hx
        simp only
        rw [clearW_get _ _ _ (fun t ht => by have := hj.mem q hqj t ht; omega) (fun hm => by have := hj.mem q hqj x hm; omega)]
        exact h1
    · rw [List.getElem_set]
      split
      · simp
      · exact hj.nodup v (by simpa using hv)
  · exact hj

/-- A drop: the locks that a thread owns, passed on one by one. -/
def ownedL (s : Lk) (t : Int) : List Nat := (List.range s.lines.length).filter fun l => getO s.owner l == t
def passAll (s : Lk) (l : List Nat) : Lk := l.foldl passS s
def handL (s : Lk) : List Nat → List (Int × Int)
  | [] => []
  | q :: r => ((q : Int), passN s q) :: handL (passS s q) r
theorem passAll_one (s : Lk) (l : List Nat) (q : Nat) : passAll s (l ++ [q]) = passS (passAll s l) q := by simp [passAll]
theorem handL_one : ∀ (l : List Nat) (s : Lk) (q : Nat), handL s (l ++ [q]) = handL s l ++ [((q : Int), passN (passAll s l) q)]
  | [], s, q => by simp [handL, passAll]
  | p :: r, s, q => by
    rw [List.cons_append, handL, handL_one r (passS s p) q, handL]
    simp [passAll]
theorem handL_len : ∀ (l : List Nat) (s : Lk), (handL s l).length = l.length
  | [], _ => rfl
  | q :: r, s => by rw [handL, List.length_cons, handL_len r, List.length_cons]
/-- Behind a cancel: a join is left. -/
def leaveS (s : Lk) (t : Int) : Lk := if (getW s.waits t).2 ≠ -1 then { s with waits := s.waits.set t.toNat (-1, -1) } else s
def leaveJ (s : Lk) (js : List (List Int)) (t : Int) : List (List Int) := if (getW s.waits t).2 ≠ -1 then js.set (getW s.waits t).2.toNat ((js.getD (getW s.waits t).2.toNat []).filter (fun x => x != t)) else js
def dropS (s : Lk) (t : Int) : Lk := if 0 ≤ t ∧ t < s.eff.length then passAll (leaveS (cancelS s t) t) (ownedL (leaveS (cancelS s t) t) t) else s
def dropJ (s : Lk) (js : List (List Int)) (t : Int) : List (List Int) := if 0 ≤ t ∧ t < s.eff.length then leaveJ (cancelS s t) js t else js
def dropL (s : Lk) (t : Int) : List (Int × Int) := if 0 ≤ t ∧ t < s.eff.length then handL (leaveS (cancelS s t) t) (ownedL (leaveS (cancelS s t) t) t) else []
theorem leave_all {s : Lk} {K : Nat} (h : LkAll s K) (t : Int) (ht : 0 ≤ t ∧ t < s.eff.length) (h1 : (getW s.waits t).1 = -1) : LkAll (leaveS s t) K := by
  unfold leaveS
  split
  · obtain ⟨k, rfl⟩ : ∃ k : Nat, t = k := ⟨t.toNat, by omega⟩
    exact part_inv h k (by omega) h1
  · exact h
theorem leave_j {s : Lk} {js : List (List Int)} {K : Nat} (h : LkAll s K) (hj : JInv s js) (hl : js.length = s.eff.length) (t : Int) (ht : 0 ≤ t ∧ t < s.eff.length) : JInv (leaveS s t) (leaveJ s js t) := by
  unfold leaveS leaveJ
  split
  · rename_i hc
    have hr := h.wrng t
    obtain ⟨k, rfl⟩ : ∃ k : Nat, t = k := ⟨t.toNat, by omega⟩
    obtain ⟨q, hq⟩ : ∃ q : Nat, (getW s.waits k).2 = q := ⟨(getW s.waits k).2.toNat, by omega⟩
    rw [hq]
    simp only [Int.toNat_natCast]
    exact part_j h hj hl k q (by omega) (by omega) hq
  · exact hj
/-- The sizes stay. -/
structure Same (s s' : Lk) : Prop where
  n : s'.eff.length = s.eff.length
  m : s'.lines.length = s.lines.length
theorem Same.trans {s s' s'' : Lk} (h : Same s s') (h' : Same s' s'') : Same s s'' := ⟨h'.n.trans h.n, h'.m.trans h.m⟩
theorem Same.refl (s : Lk) : Same s s := ⟨rfl, rfl⟩
theorem Same.of {s s' : Lk} {K K' : Nat} (h : s.Whole K) (h' : s'.Whole K') (h1 : s'.waits.length = s.waits.length) (h2 : s'.owner.length = s.owner.length) : Same s s' := ⟨by rw [← h'.waits, h1, h.waits], by rw [← h'.owner, h2, h.owner]⟩
theorem pass_same {s : Lk} {K : Nat} (h : LkAll s K) (q : Nat) (hq : q < s.lines.length) : Same s (passS s q) := by
  refine Same.of h.whole (pass_inv h q hq).whole ?_ ?_
  · unfold passS; split
    · rfl
    · simp [worseS, passS1]
  · unfold passS; split
    · simp
    · simp [worseS, passS1]
theorem passAll_ok {s : Lk} {js : List (List Int)} {K : Nat} (h : LkAll s K) (hj : JInv s js) : ∀ (l : List Nat), (∀ q ∈ l, q < s.lines.length) → LkAll (passAll s l) K ∧ JInv (passAll s l) js ∧ Same s (passAll s l) := by
  intro l
  induction hh : l.reverse generalizing l with
  | nil => intro _; rw [List.reverse_eq_nil_iff.1 hh]; exact ⟨h, hj, Same.refl s⟩
  | cons q r ih =>
    intro hl
    have e : l = r.reverse ++ [q] := by have := congrArg List.reverse hh; simpa using this
    subst e
    obtain ⟨h1, h2, h3⟩ := ih r.reverse (by simp) (fun x hx => hl x (by simp at hx ⊢; exact .inl hx))
    have hq : q < (passAll s r.reverse).lines.length := by rw [h3.m]; exact hl q (by simp)
    rw [passAll_one]
    exact ⟨pass_inv h1 q hq, pass_j h1 h2 q hq, h3.trans (pass_same h1 q hq)⟩

end Go.Proofs.YtfoeijiejpenpaaGreatDoor
