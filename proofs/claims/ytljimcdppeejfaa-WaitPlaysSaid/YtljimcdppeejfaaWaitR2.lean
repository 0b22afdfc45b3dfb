/- The document's Put, Move and Remove of a row of waiters. -/
import Derived.Test.YtljimcdppeejfaaWaitR
namespace Go.Proofs.Ytljimcdppeejfaa
open Go.RowKit

theorem atM_none {pl : Int} {M : List WO} {v : Int} (h : AtM pl M v) (hf : M.find? (isP pl) = none) : v = -1 := by
  rcases h with ⟨k, x, rfl, h1, h2, _⟩ | ⟨rfl, _⟩
  · exact absurd h2 (List.find?_eq_none.1 hf x (List.mem_of_getElem? h1))
  · rfl
theorem atM_some {pl : Int} {M : List WO} {v : Int} {x : WO} (h : AtM pl M v) (hf : M.find? (isP pl) = some x) : ∃ k : Nat, v = k ∧ M[k]? = some x ∧ k < M.length ∧ M.eraseP (isP pl) = M.take k ++ M.drop (k + 1) := by
  rcases h with ⟨k, y, rfl, h1, h2, h3⟩ | ⟨rfl, h1⟩
  · obtain ⟨h4, h5⟩ := find_of_idx (isP pl) M k y h1 h2 h3
    rw [h4] at hf
    injection hf with hf
    subst hf
    exact ⟨k, rfl, h1, (List.getElem?_eq_some_iff.1 h1).1, h5⟩
  · have := h1 x (List.mem_of_find?_eq_some hf)
    rw [List.find?_some hf] at this
    cases this

theorem reads_row (w : World) (t : TypeId) (xs : List Value) (k n : Nat) (h : xs.length = n * k) : Reads (w.alloc (.cells xs.toArray t)) k (some ⟨w.heap.size, 0, none⟩) n xs := by
  refine ⟨h, fun _ => ⟨_, rfl, fun j u hu => ?_⟩⟩
  rw [add_mk, Nat.zero_add, (Blk.new w t _).cell]
  simpa using hu
/-- A place or a level is changed. -/
theorem set_rL (M : List WO) (k : Nat) (x : WO) (lv : Int) (h : M[k]? = some x) : (M.flatMap rL).set (k * 2 + 1) (.int .i64 lv) = (M.set k ⟨x.p, lv, x.n⟩).flatMap rL := by
  obtain ⟨hk, rfl⟩ := List.getElem?_eq_some_iff.1 h
  have h1 : M = M.take k ++ M[k] :: M.drop (k + 1) := by
    conv => lhs; rw [← List.take_append_drop k M, List.drop_eq_getElem_cons hk]
  have h2 : M.set k ⟨M[k].p, lv, M[k].n⟩ = M.take k ++ ⟨M[k].p, lv, M[k].n⟩ :: M.drop (k + 1) := by
    rw [List.set_eq_take_append_cons_drop, if_pos hk]
  have h3 : ((M.take k).flatMap rL).length = k * 2 := by rw [flatK_len rL 2 rL_len, List.length_take]; omega
  rw [h2]
  conv => lhs; rw [h1]
  rw [List.flatMap_append, List.flatMap_append, List.set_append_right _ _ (by rw [h3]; omega), h3, show k * 2 + 1 - k * 2 = 1 by omega]
  rfl
theorem map_setL (pl lv : Int) : ∀ (M : List WO) (k : Nat) (x : WO), M.Pairwise (fun a b => a.p ≠ b.p) → M[k]? = some x → x.p = pl → M.map (setL pl lv) = M.set k ⟨x.p, lv, x.n⟩
  | [], k, x, _, h, _ => by simp at h
  | a :: t, 0, x, hp, h, he => by
    simp at h
    subst h
    have := (List.pairwise_cons.1 hp).1
    rw [List.map_cons, map_setL_none pl lv t (fun y hy e => this y hy (he.trans e.symm))]
    simp [setL, he]
  | a :: t, k + 1, x, hp, h, he => by
    have h1 := List.pairwise_cons.1 hp
    have hm : x ∈ t := List.mem_of_getElem? (by simpa using h)
    rw [List.map_cons, map_setL pl lv t k x h1.2 (by simpa using h) he]
    have : a.p ≠ pl := fun e => h1.1 x hm (e.trans he.symm)
    simp [setL, this]

set_option maxHeartbeats 3200000 in
set_option maxRecDepth 100000 in
theorem refPut_new (v : Value) (M : List WO) (pl lev : Int) (nn : Nat) (w : World) (h : RRow w v M) (hl : M.length ≤ 1000) (h0 : 0 ≤ pl) (h1 : pl < 64) (hf : M.find? (isP pl) = none) :
    Calls Try.prog 26 #[v, .int .i64 pl, .int .i64 lev] w fun e w' => ∃ v', e = .returned (.tuple #[v', .int .i64 0]) ∧ RRow w' v' (M ++ [⟨pl, holdL lev, nn⟩]) ∧ Kept [] w w' := by
  obtain ⟨A, c, rfl, hnc, hcm⟩ := h.form
  have HAT := Lib.hid (fun w' hk => refAt_any A c M pl w' (Reads.of_own (h.old hk)) (by omega))
  have HH := Lib.hid (fun w => refHold_any lev w)
  generalize hhv : holdL lev = hv at *
  have HF := Lib.hid hf
  have HR := Lib.hid h
  have d1 : decide (pl < 0) = false := by simp; omega
  have d2 : decide (63 < pl) = false := by simp; omega
  clear h hf hhv
  go_enter Try.func26, Try.ntmps26
  go_wp2_with fail
  refine (HAT.out _ (Kept.refl _ _)).mono ?_
  rintro e w1 ⟨⟨iv, rfl, hat⟩, rfl⟩
  obtain rfl := atM_none hat HF.out
  clear hat
  have HO1 : Hid ((w.alloc (.cells #[] 46)).ownsRow 0 46 2 (.slice (some ⟨w.heap.size, 0, none⟩) 0 0) 0 []) := ⟨rfl, .inr ⟨w.heap.size, 0, #[], rfl, Nat.zero_le _, Blk.new _ _ _, Nat.le_refl _, by simp, rfl, rfl⟩⟩
  have HO2 : Hid (Reads (w.alloc (.cells #[] 46)) 2 A M.length (M.flatMap rL)) := (Reads.of_own HR.out).alloc _
  go_wp2_with (at_builtin; refine wpList_append_any _ rfl (.tmp 20) (.tmp 21) 37 rfl 46 (.agg #[.int .i64 0, .int .i64 0]) 2 16 Try.underlying37 Try.info46 rfl (by decide) (.slice (some ⟨w.heap.size, 0, none⟩) 0 0) 0 [] rfl HO1.out _ M.length c _ rfl HO2.out (rflat_one M) (by simp only [maxLen]; omega) (by omega) ?_; rintro A3 c3 w3 happ; have HA := Lib.hid happ; clear happ)
  refine (HH.out _).mono ?_
  rintro e w4 ⟨rfl, rfl⟩
  have hx := HA.out.1
  rw [Nat.zero_add, List.nil_append] at hx
  have HO3 : Hid ((w3.alloc (.cells #[.int .i64 pl, .int .i64 hv] 46)).ownsRow 0 46 2 (.slice A3 M.length c3) M.length (M.flatMap rL)) := own_kept hx ((Kept.refl [] _).alloc _) (by simp)
  have HO4 : Hid (Reads (w3.alloc (.cells #[.int .i64 pl, .int .i64 hv] 46)) 2 (some ⟨w3.heap.size, 0, none⟩) 1 [.int .i64 pl, .int .i64 hv]) := reads_row _ _ [_, _] 2 1 rfl
  have HS : Hid (∀ k, k ∈ fp (.slice A3 M.length c3) → w.heap.size ≤ k) := fun k hk => by
    rcases HA.out.2.2 k (by rw [fp_slice] at hk ⊢; exact hk) with h5 | h5
    · rw [fp_some] at h5; simp at h5; omega
    · simp at h5; omega
  have HK3 : Hid (Kept [] w w3) := ((Kept.refl [] w).alloc _).trans' HA.out.2.1 (fun k hk => .inr (by rw [fp_some] at hk; simp at hk; omega))
  clear hx
  go_wp2_with (at_builtin; refine wpList_append_any _ rfl _ _ 37 rfl 46 (.agg #[.int .i64 0, .int .i64 0]) 2 16 Try.underlying37 Try.info46 rfl (by decide) (.slice A3 M.length c3) M.length (M.flatMap rL) rfl HO3.out _ 1 1 [.int .i64 pl, .int .i64 hv] rfl HO4.out (by simp [Value.oneCell']) (by simp only [maxLen]; omega) (by omega) ?_; rintro A5 c5 w5 happ; have HA5 := Lib.hid happ; clear happ)
  go_ret2
  refine ⟨_, rfl, ?_, ?_⟩
  · have := HA5.out.1
    unfold RRow
    rw [List.length_append, List.flatMap_append]
    exact this
  · exact (HK3.out.alloc _).trans' HA5.out.2.1 (fun k hk => .inr (HS.out k hk))

end Go.Proofs.Ytljimcdppeejfaa
