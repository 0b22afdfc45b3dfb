/- Waiters in their order and in the order of their coming: the plain law. -/
import Derived.Test.YtfoeijiejpenpaaGreatDoorWait3
namespace Go.Proofs.YtfoeijiejpenpaaGreatDoor

theorem ahead_trans {a b c : WO} (h1 : aheadB a b = true) (h2 : aheadB b c = true) : aheadB a c = true := by
  rw [aheadB_iff] at *; omega
theorem ahead_asymm {a b : WO} (h1 : aheadB a b = true) (h2 : aheadB b a = true) : False := by
  rw [aheadB_iff] at *; omega
theorem ahead_total {a b : WO} (h : a.n ≠ b.n) (h1 : aheadB a b = false) : aheadB b a = true := by
  rw [← Bool.not_eq_true, aheadB_iff] at h1
  rw [aheadB_iff]; omega
theorem insW_perm (x : WO) : ∀ (l : List WO), (insW x l).Perm (x :: l)
  | [] => .refl _
  | y :: t => by
    unfold insW
    split
    · exact .refl _
    · exact ((insW_perm x t).cons y).trans (.swap x y t)
theorem insW_sorted (x : WO) : ∀ (l : List WO), l.Pairwise (fun a b => aheadB a b = true) → (∀ y ∈ l, y.n ≠ x.n) → (insW x l).Pairwise (fun a b => aheadB a b = true)
  | [], _, _ => by simp [insW]
  | y :: t, h, hn => by
    obtain ⟨h1, h2⟩ := List.pairwise_cons.1 h
    unfold insW
    split
    · rename_i ha
      refine List.pairwise_cons.2 ⟨fun z hz => ?_, h⟩
      rcases List.mem_cons.1 hz with rfl | hz
      · exact ha
      · exact ahead_trans ha (h1 z hz)
    · rename_i ha
      have hy := ahead_total (fun e => hn y (by simp) e.symm) (Bool.not_eq_true _ ▸ ha)
      refine List.pairwise_cons.2 ⟨fun z hz => ?_, insW_sorted x t h2 (fun z hz => hn z (by simp [hz]))⟩
      rcases List.mem_cons.1 ((insW_perm x t).mem_iff.1 hz) with rfl | hz
      · exact hy
      · exact h1 z hz

/-- A line's waiters L, and those of the document M, in the order of their coming. -/
structure Inv (L M : List WO) (last : Nat) : Prop where
  perm : L.Perm M
  sorted : L.Pairwise (fun a b => aheadB a b = true)
  come : M.Pairwise (fun a b => a.n < b.n)
  upto : ∀ x ∈ M, x.n ≤ last
  places : M.Pairwise (fun a b => a.p ≠ b.p)
  levels : ∀ x ∈ M, 0 ≤ x.l ∧ x.l ≤ 7
theorem Inv.nil : Inv [] [] 0 := ⟨.refl _, .nil, .nil, by simp, .nil, by simp⟩
theorem Inv.same_place {L M : List WO} {last : Nat} (h : Inv L M last) {x y : WO} (hx : x ∈ M) (hy : y ∈ M) (he : x.p = y.p) : x = y := by
  have hp := h.places
  clear h
  induction hp with
  | nil => cases hx
  | cons h1 _ ih =>
    rcases List.mem_cons.1 hx with rfl | hx2
    · rcases List.mem_cons.1 hy with rfl | hy2
      · rfl
      · exact absurd he (h1 y hy2)
    · rcases List.mem_cons.1 hy with rfl | hy2
      · exact absurd he.symm (h1 x hx2)
      · exact ih hx2 hy2
theorem isP_iff (pl : Int) (x : WO) : isP pl x = true ↔ x.p = pl := by simp [isP]
theorem Inv.find {L M : List WO} {last : Nat} (h : Inv L M last) (pl : Int) : L.find? (isP pl) = M.find? (isP pl) := by
  cases hf : L.find? (isP pl) with
  | none =>
    refine (List.find?_eq_none.2 fun x hx => ?_).symm
    exact List.find?_eq_none.1 hf x (h.perm.mem_iff.2 hx)
  | some x =>
    have hx := h.perm.mem_iff.1 (List.mem_of_find?_eq_some hf)
    have hp := List.find?_some hf
    cases hg : M.find? (isP pl) with
    | none => exact absurd hp (List.find?_eq_none.1 hg x hx)
    | some y =>
      have hy := List.mem_of_find?_eq_some hg
      have hq := List.find?_some hg
      rw [h.same_place hx hy (((isP_iff _ _).1 hp).trans ((isP_iff _ _).1 hq).symm)]
theorem Inv.len {L M : List WO} {last : Nat} (h : Inv L M last) : L.length = M.length := h.perm.length_eq
theorem find_none_iff (pl : Int) (M : List WO) : M.find? (isP pl) = none ↔ ∀ y ∈ M, y.p ≠ pl := by
  rw [List.find?_eq_none]
  exact ⟨fun h y hy e => h y hy ((isP_iff _ _).2 e), fun h y hy e => h y hy ((isP_iff _ _).1 e)⟩
theorem Inv.put {L M : List WO} {last : Nat} (h : Inv L M last) {pl lv : Int} (hf : M.find? (isP pl) = none) (h0 : 0 ≤ lv) (h7 : lv ≤ 7) : Inv (insW ⟨pl, lv, last + 1⟩ L) (M ++ [⟨pl, lv, last + 1⟩]) (last + 1) := by
  have hn := (find_none_iff pl M).1 hf
  refine ⟨((insW_perm _ L).trans (h.perm.cons _)).trans (List.perm_append_comm (l₁ := [_])), insW_sorted _ L h.sorted (fun y hy e => ?_), ?_, ?_, ?_, ?_⟩
  · have := h.upto y (h.perm.mem_iff.1 hy)
    simp only at e; omega
  · rw [List.pairwise_append]
    refine ⟨h.come, by simp, fun a ha b hb => ?_⟩
    simp at hb; subst hb
    have := h.upto a ha
    simp only; omega
  · intro x hx
    rcases List.mem_append.1 hx with hx | hx
    · have := h.upto x hx; omega
    · simp at hx; subst hx; simp
  · rw [List.pairwise_append]
    refine ⟨h.places, by simp, fun a ha b hb => ?_⟩
    simp at hb; subst hb
    exact hn a ha
  · intro x hx
    rcases List.mem_append.1 hx with hx | hx
    · exact h.levels x hx
    · simp at hx; subst hx; exact ⟨h0, h7⟩
theorem one_place {M : List WO} (h : M.Pairwise (fun a b => a.p ≠ b.p)) (pl : Int) : M.Pairwise (fun a b => isP pl a = true → isP pl b = true → False) :=
  h.imp fun hne h1 h2 => hne (((isP_iff _ _).1 h1).trans ((isP_iff _ _).1 h2).symm)
theorem Inv.remove {L M : List WO} {last : Nat} (h : Inv L M last) (pl : Int) : Inv (L.eraseP (isP pl)) (M.eraseP (isP pl)) last := by
  have hs : (M.eraseP (isP pl)).Sublist M := List.eraseP_sublist
  refine ⟨(h.perm.symm.eraseP _ (one_place h.places pl)).symm, h.sorted.sublist List.eraseP_sublist, h.come.sublist hs, fun x hx => h.upto x (hs.subset hx), h.places.sublist hs, fun x hx => h.levels x (hs.subset hx)⟩
/-- A waiter's level is another one. -/
def setL (pl lv : Int) (y : WO) : WO := if y.p = pl then ⟨y.p, lv, y.n⟩ else y
theorem setL_p (pl lv : Int) (y : WO) : (setL pl lv y).p = y.p := by unfold setL; split <;> rfl
theorem setL_n (pl lv : Int) (y : WO) : (setL pl lv y).n = y.n := by unfold setL; split <;> rfl
theorem map_setL_none (pl lv : Int) (M : List WO) (h : ∀ y ∈ M, y.p ≠ pl) : M.map (setL pl lv) = M := by
  conv => rhs; rw [← List.map_id M]
  exact List.map_congr_left fun y hy => by simp [setL, h y hy]
theorem erase_none {M : List WO} (h : M.Pairwise (fun a b => a.p ≠ b.p)) (pl : Int) {x : WO} (hf : M.find? (isP pl) = some x) : M.Perm (x :: M.eraseP (isP pl)) ∧ ∀ y ∈ M.eraseP (isP pl), y.p ≠ pl := by
  induction h with
  | nil => simp at hf
  | @cons a t h1 h2 ih =>
    by_cases ha : isP pl a = true
    · rw [List.find?_cons_of_pos ha] at hf
      injection hf with hf
      subst hf
      rw [List.eraseP_cons_of_pos ha]
      exact ⟨.refl _, fun y hy e => h1 y hy (((isP_iff _ _).1 ha).trans e.symm)⟩
    · rw [List.find?_cons_of_neg ha] at hf
      rw [List.eraseP_cons_of_neg ha]
      obtain ⟨h3, h4⟩ := ih hf
      refine ⟨(h3.cons a).trans (.swap _ _ _), fun y hy => ?_⟩
      rcases List.mem_cons.1 hy with rfl | hy
      · exact fun e => ha ((isP_iff _ _).2 e)
      · exact h4 y hy
theorem Inv.move {L M : List WO} {last : Nat} (h : Inv L M last) {pl lv : Int} {x : WO} (hf : L.find? (isP pl) = some x) (h0 : 0 ≤ lv) (h7 : lv ≤ 7) : Inv (insW ⟨x.p, lv, x.n⟩ (L.eraseP (isP pl))) (M.map (setL pl lv)) last := by
  have hfM := hf
  rw [h.find pl] at hfM
  have hp := (isP_iff _ _).1 (List.find?_some hf)
  obtain ⟨hpm, hno⟩ := erase_none h.places pl hfM
  have hr := h.remove pl
  have hxM := List.mem_of_find?_eq_some hfM
  refine ⟨?_, insW_sorted _ _ hr.sorted (fun y hy e => ?_), ?_, ?_, ?_, ?_⟩
  · refine (insW_perm _ _).trans ((hr.perm.cons _).trans ?_)
    have := hpm.map (setL pl lv)
    rw [List.map_cons, map_setL_none pl lv _ hno] at this
    have hx : setL pl lv x = ⟨x.p, lv, x.n⟩ := by simp [setL, hp]
    rw [hx] at this
    exact this.symm
  · have hy2 := hr.perm.mem_iff.1 hy
    have hyM := List.eraseP_sublist.subset hy2
    have hne : y ≠ x := fun e => hno y hy2 (by rw [e]; exact hp)
    simp only at e
    have := h.come
    clear hr hpm hno hf hfM h hy hy2
    induction this with
    | nil => cases hyM
    | cons h1 _ ih =>
      rcases List.mem_cons.1 hxM with rfl | hx'
      · rcases List.mem_cons.1 hyM with rfl | hy'
        · exact hne rfl
        · have := h1 y hy'; omega
      · rcases List.mem_cons.1 hyM with rfl | hy'
        · have := h1 x hx'; omega
        · exact ih hx' hy'
  · rw [List.pairwise_map]
    exact h.come.imp fun {a b} hab => by rw [setL_n, setL_n]; exact hab
  · intro y hy
    obtain ⟨z, hz, rfl⟩ := List.mem_map.1 hy
    rw [setL_n]; exact h.upto z hz
  · rw [List.pairwise_map]
    exact h.places.imp fun {a b} hab => by rw [setL_p, setL_p]; exact hab
  · intro y hy
    obtain ⟨z, hz, rfl⟩ := List.mem_map.1 hy
    unfold setL
    split
    · exact ⟨h0, h7⟩
    · exact h.levels z hz

/-- Level by level. -/
def levM (M : List WO) (lv : Nat) : List WO := M.filter (fun x => x.l == (lv : Int))
def allM (M : List WO) : List WO := (List.range 8).flatMap (levM M)
theorem allM_perm (M : List WO) (hl : ∀ x ∈ M, 0 ≤ x.l) : ∀ k : Nat, ((List.range k).flatMap (levM M) ++ M.filter (fun x => decide ((k : Int) ≤ x.l))).Perm M
  | 0 => by
    rw [List.range_zero, List.flatMap_nil, List.nil_append, List.filter_eq_self.2 (fun x hx => by simpa using hl x hx)]
  | k + 1 => by
    refine List.Perm.trans ?_ (allM_perm M hl k)
    rw [List.range_succ, List.flatMap_append, List.append_assoc]
    refine List.Perm.append_left _ ?_
    have h := List.filter_append_perm (fun x : WO => x.l == (k : Int)) (M.filter (fun x => decide ((k : Int) ≤ x.l)))
    refine List.Perm.trans (List.Perm.of_eq ?_) h
    rw [List.filter_filter, List.filter_filter]
    congr 1
    · simp only [List.flatMap_cons, List.flatMap_nil, List.append_nil, levM]
      refine List.filter_congr fun x _ => ?_
      rw [Bool.eq_iff_iff]; simp; omega
    · refine List.filter_congr fun x _ => ?_
      rw [Bool.eq_iff_iff]; simp; omega
theorem Inv.all {L M : List WO} {last : Nat} (h : Inv L M last) : L = allM M := by
  have hp : (allM M).Perm M := by
    have := allM_perm M (fun x hx => (h.levels x hx).1) 8
    rw [List.filter_eq_nil_iff.2 (fun x hx => by have := (h.levels x hx).2; simp; omega), List.append_nil] at this
    exact this
  refine List.Perm.eq_of_pairwise (le := fun a b => aheadB a b = true) (fun a b _ _ h1 h2 => (ahead_asymm h1 h2).elim) h.sorted ?_ (h.perm.trans hp.symm)
  unfold allM
  rw [List.pairwise_flatMap]
  refine ⟨fun lv _ => ?_, ?_⟩
  · unfold levM
    have h1 := (h.come.filter (fun x => x.l == (lv : Int)))
    refine List.Pairwise.imp_of_mem (fun {a b} ha hb hab => ?_) h1
    have h2 := (List.mem_filter.1 ha).2
    have h3 := (List.mem_filter.1 hb).2
    simp at h2 h3
    rw [aheadB_iff]; omega
  · refine List.Pairwise.imp (fun {i j} hij x hx y hy => ?_) List.pairwise_lt_range
    have h2 := (List.mem_filter.1 hx).2
    have h3 := (List.mem_filter.1 hy).2
    simp at h2 h3
    rw [aheadB_iff]; omega

end Go.Proofs.YtfoeijiejpenpaaGreatDoor
