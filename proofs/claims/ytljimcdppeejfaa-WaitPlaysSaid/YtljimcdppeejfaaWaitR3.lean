/- The document's Put (refused), Move, Remove and All of a row of waiters. -/
import Derived.Test.YtljimcdppeejfaaWaitR2
namespace Go.Proofs.Ytljimcdppeejfaa
open Go.RowKit

set_option maxHeartbeats 1600000 in
theorem refPut_far (v : Value) (pl lev : Int) (w : World) (h : pl < 0 ∨ (0 ≤ pl ∧ 64 ≤ pl)) : Calls Try.prog 26 #[v, .int .i64 pl, .int .i64 lev] w fun e w' => e = .returned (.tuple #[v, .int .i64 5]) ∧ w = w' := by
  rcases h with h | ⟨h0, h⟩
  · go_enter Try.func26, Try.ntmps26
    go_wp2_with fail
    go_ret2
    exact ⟨rfl, rfl⟩
  · have d1 : decide (pl < 0) = false := by simp; omega
    have d2 : decide (63 < pl) = true := by simp; omega
    go_enter Try.func26, Try.ntmps26
    go_wp2_with fail
    go_ret2
    exact ⟨rfl, rfl⟩
set_option maxHeartbeats 1600000 in
theorem refPut_full (v : Value) (M : List WO) (pl lev : Int) (x : WO) (w : World) (h : RRow w v M) (hl : M.length ≤ 1000) (h0 : 0 ≤ pl) (h1 : pl < 64) (hf : M.find? (isP pl) = some x) :
    Calls Try.prog 26 #[v, .int .i64 pl, .int .i64 lev] w fun e w' => e = .returned (.tuple #[v, .int .i64 6]) ∧ w = w' := by
  obtain ⟨A, c, rfl, hnc, hcm⟩ := h.form
  have HAT := Lib.hid (refAt_any A c M pl w (Reads.of_own h) (by omega))
  have HF := Lib.hid hf
  have d1 : decide (pl < 0) = false := by simp; omega
  have d2 : decide (63 < pl) = false := by simp; omega
  clear h hf
  go_enter Try.func26, Try.ntmps26
  go_wp2_with fail
  refine (HAT.out).mono ?_
  rintro e w1 ⟨⟨iv, rfl, hat⟩, rfl⟩
  obtain ⟨k, rfl, _⟩ := atM_some hat HF.out
  have d3 : (0 : Int) ≤ (k : Int) := by omega
  clear hat
  go_wp2_with fail
  go_ret2
  exact ⟨rfl, rfl⟩

set_option maxHeartbeats 1600000 in
theorem refMove_none (v : Value) (M : List WO) (pl lev : Int) (w : World) (h : RRow w v M) (hl : M.length ≤ 1000) (hf : M.find? (isP pl) = none) :
    Calls Try.prog 27 #[v, .int .i64 pl, .int .i64 lev] w fun e w' => e = .returned (.tuple #[v, .bool false]) ∧ w = w' := by
  obtain ⟨A, c, rfl, hnc, hcm⟩ := h.form
  have HAT := Lib.hid (refAt_any A c M pl w (Reads.of_own h) (by omega))
  have HF := Lib.hid hf
  clear h hf
  go_enter Try.func27, Try.ntmps27
  go_wp2_with fail
  refine (HAT.out).mono ?_
  rintro e w1 ⟨⟨iv, rfl, hat⟩, rfl⟩
  obtain rfl := atM_none hat HF.out
  clear hat
  go_wp2_with fail
  go_ret2
  exact ⟨rfl, rfl⟩
set_option maxHeartbeats 1600000 in
theorem refRemove_none (v : Value) (M : List WO) (pl : Int) (w : World) (h : RRow w v M) (hl : M.length ≤ 1000) (hf : M.find? (isP pl) = none) :
    Calls Try.prog 28 #[v, .int .i64 pl] w fun e w' => e = .returned (.tuple #[v, .bool false]) ∧ w = w' := by
  obtain ⟨A, c, rfl, hnc, hcm⟩ := h.form
  have HAT := Lib.hid (refAt_any A c M pl w (Reads.of_own h) (by omega))
  have HF := Lib.hid hf
  clear h hf
  go_enter Try.func28, Try.ntmps28
  go_wp2_with fail
  refine (HAT.out).mono ?_
  rintro e w1 ⟨⟨iv, rfl, hat⟩, rfl⟩
  obtain rfl := atM_none hat HF.out
  clear hat
  go_wp2_with fail
  go_ret2
  exact ⟨rfl, rfl⟩

set_option maxHeartbeats 3200000 in
set_option maxRecDepth 100000 in
theorem refMove_some (v : Value) (M : List WO) (pl lev : Int) (x : WO) (w : World) (h : RRow w v M) (hl : M.length ≤ 1000) (hp : M.Pairwise (fun a b => a.p ≠ b.p)) (hf : M.find? (isP pl) = some x) :
    Calls Try.prog 27 #[v, .int .i64 pl, .int .i64 lev] w fun e w' => ∃ v', e = .returned (.tuple #[v', .bool true]) ∧ RRow w' v' (M.map (setL pl (holdL lev))) ∧ Kept [] w w' := by
  obtain ⟨A, c, rfl, hnc, hcm⟩ := h.form
  have HAT := Lib.hid (refAt_any A c M pl w (Reads.of_own h) (by omega))
  have HH := Lib.hid (fun w => refHold_any lev w)
  generalize hhv : holdL lev = hv at *
  have HF := Lib.hid hf
  have HP := Lib.hid hp
  have HR := Lib.hid h
  clear h hf hhv hp
  go_enter Try.func27, Try.ntmps27
  go_wp2_with fail
  refine (HAT.out).mono ?_
  rintro e w1 ⟨⟨iv, rfl, hat⟩, rfl⟩
  obtain ⟨k, rfl, hk, hkl, _⟩ := atM_some hat HF.out
  have HM : Hid (M.map (setL pl hv) = M.set k ⟨x.p, hv, x.n⟩) := map_setL pl hv M k x HP.out hk ((isP_iff _ _).1 (List.find?_some HF.out))
  have HX := Lib.hid hk
  clear hat hk
  have d3 : ¬ ((k : Int) < 0) := by omega
  have HO1 : Hid ((w.alloc (.cells #[] 46)).ownsRow 0 46 2 (.slice (some ⟨w.heap.size, 0, none⟩) 0 0) 0 []) := ⟨rfl, .inr ⟨w.heap.size, 0, #[], rfl, Nat.zero_le _, Blk.new _ _ _, Nat.le_refl _, by simp, rfl, rfl⟩⟩
  have HO2 : Hid (Reads (w.alloc (.cells #[] 46)) 2 A M.length (M.flatMap rL)) := (Reads.of_own HR.out).alloc _
  go_wp2_with (at_builtin; refine wpList_append_any _ rfl _ _ 37 rfl 46 (.agg #[.int .i64 0, .int .i64 0]) 2 16 Try.underlying37 Try.info46 rfl (by decide) (.slice (some ⟨w.heap.size, 0, none⟩) 0 0) 0 [] rfl HO1.out _ M.length c _ rfl HO2.out (rflat_one M) (by simp only [maxLen]; omega) (by omega) ?_; rintro A3 c3 w3 happ; have HA := Lib.hid happ; clear happ)
  refine (HH.out _).mono ?_
  rintro e w4 ⟨rfl, rfl⟩
  have hx := HA.out.1
  rw [Nat.zero_add, List.nil_append] at hx
  have HK3 : Hid (Kept [] w w3) := ((Kept.refl [] w).alloc _).trans' HA.out.2.1 (fun k hk => .inr (by rw [fp_some] at hk; simp at hk; omega))
  have hb3 := HA.out.2.2
  rcases hx.2 with ⟨_, h0⟩ | ⟨g, cap, cur, hv3, _, hh, h5, h6, h7, h8⟩
  · omega
  · injection hv3 with e1 e2 e3
    subst e1 e3
    have HB : Hid (Blk w3 g 46 cur) := hh
    have hlen : cur.size = c3 * 2 := h7
    have hg : Hid (w.heap.size ≤ g) := by
      show w.heap.size ≤ g
      rcases hb3 g (by rw [fp_some]; simp) with h9 | h9
      · rw [fp_some] at h9; simp at h9; omega
      · simp at h9; exact Nat.le_of_succ_le h9
    have hc3 : w3.cell? ⟨g, k * 2 + 1, none⟩ = some (.int .i64 x.l) := by
      rw [HB.out.cell, ← Array.getElem?_toList]
      have h9 : (cur.toList.take (M.length * 2))[k * 2 + 1]? = (M.flatMap rL)[k * 2 + 1]? := by rw [h8]
      rw [List.getElem?_take_of_lt (by omega), flatK_get rL 2 rL_len M k 1 hkl (by omega)] at h9
      rw [h9]
      obtain ⟨h10, h11⟩ := List.getElem?_eq_some_iff.1 HX.out
      rw [h11]; rfl
    have hf3 := HB.out.frozen
    have hl3 := HB.out.lt
    have HT : Hid (cur.toList.take (M.length * 2) = M.flatMap rL) := h8
    have d4 : (0 : Int) ≤ (k : Int) := by omega
    have d5 : (k : Int) < (M.length : Int) := by omega
    clear hx hh h8 h7 hb3
    go_wp2_with fail
    go_ret2
    refine ⟨_, rfl, ?_, HK3.out.setCell (.inr hg.out) _⟩
    rw [HM.out]
    have hlm : (M.set k ⟨x.p, hv, x.n⟩).length = M.length := by simp
    unfold RRow
    rw [hlm]
    refine ⟨by rw [flatK_len rL 2 rL_len, hlm], .inr ⟨g, c3, cur.setIfInBounds (k * 2 + 1) (.int .i64 hv), rfl, Nat.zero_le _, HB.out.set _ _, h5, h6, by simpa using hlen, ?_⟩⟩
    rw [Array.toList_setIfInBounds, List.take_set, HT.out]
    exact set_rL M k x hv HX.out

/-- x[:k], elements of any size. -/
theorem run_cutK_h {P : Program} (t e : TypeId) (size : Nat) (ht : P.underlying t = some (.slice e)) (hs : (P.info? e).map (·.size) = some size) (A : Option Addr) (len cap : Nat) (k : IntKind) (x : Int) (n : Nat) (hx : x = n) (h1 : n ≤ cap) (w : World) :
    (Instr.slice t (.slice A len cap) none (some (.int k x)) none).run P w = .ok (.slice A n cap) w := by
  subst hx
  have h2 : (fun x : Addr => x.add 0) = id := by funext x; simp [Addr.add]
  cases hq : P.info? e with
  | none => simp [hq] at hs
  | some i => simp [Instr.slice, Instr.sliceBounds, Instr.sliceBound, run_underlying ht, sizeOf, typeInfo, hq, asIntOf, h1, h2]

set_option maxHeartbeats 3200000 in
set_option maxRecDepth 100000 in
theorem refRemove_some (v : Value) (M : List WO) (pl : Int) (x : WO) (w : World) (h : RRow w v M) (hl : M.length ≤ 1000) (hf : M.find? (isP pl) = some x) :
    Calls Try.prog 28 #[v, .int .i64 pl] w fun e w' => ∃ v', e = .returned (.tuple #[v', .bool true]) ∧ RRow w' v' (M.eraseP (isP pl)) ∧ Kept [] w w' := by
  obtain ⟨A, c, rfl, hnc, hcm⟩ := h.form
  unfold maxLen at hcm
  have HAT := Lib.hid (refAt_any A c M pl w (Reads.of_own h) (by omega))
  have HF := Lib.hid hf
  have HR := Lib.hid h
  clear h hf
  go_enter Try.func28, Try.ntmps28
  go_wp2_with fail
  refine (HAT.out).mono ?_
  rintro e w1 ⟨⟨iv, rfl, hat⟩, rfl⟩
  obtain ⟨k, rfl, hk, hkl, her⟩ := atM_some hat HF.out
  have HER := Lib.hid her
  clear hat hk her
  have d3 : ¬ ((k : Int) < 0) := by omega
  have hs1 : ∀ W, (Instr.slice 37 (.slice A M.length c) none (some (.int .i64 k)) none).run Try.prog W = .ok (.slice A k c) W := fun W => run_cutK_h _ _ 2 Try.underlying37 Try.size46 A M.length c .i64 k k rfl (by omega) W
  have hs2 : ∀ W, (Instr.slice 37 (.slice A M.length c) (some (.int .i64 ((k : Int) + 1))) none none).run Try.prog W = .ok (.slice (cutK A (k + 1) c 2) (M.length - (k + 1)) (c - (k + 1))) W := fun W => run_cutK _ _ 2 Try.underlying37 Try.size46 A M.length c .i64 ((k : Int) + 1) (k + 1) (by omega) (by omega) W
  have HR1 : Hid (∀ W, Kept [] w W → Reads W 2 A k ((M.take k).flatMap rL)) := fun W hk => by
    have := (Reads.of_own (HR.out.old hk)).upto (k := k) (by omega)
    rw [flatK_take rL 2 rL_len] at this
    exact this
  have HR2 : Hid (∀ W, Kept [] w W → Reads W 2 (cutK A (k + 1) c 2) (M.length - (k + 1)) ((M.drop (k + 1)).flatMap rL)) := fun W hk => by
    have := (Reads.of_own (HR.out.old hk)).cut (k := k + 1) (cap := c) (by omega) hnc
    rw [flatK_drop rL 2 rL_len] at this
    exact this
  generalize cutK A (k + 1) c 2 = A2 at *
  have HO1 : Hid ((w.drew.alloc (.cells #[] 46)).ownsRow 0 46 2 (.slice (some ⟨w.heap.size, 0, none⟩) 0 0) 0 []) := ⟨rfl, .inr ⟨w.heap.size, 0, #[], rfl, Nat.zero_le _, Blk.newAt rfl _ _, Nat.le_refl _, by simp, rfl, rfl⟩⟩
  have hw1 : IntKind.i64.wrap ((k : Int) + 1) = (k : Int) + 1 := by rw [IntKind.wrap_i64]; omega
  go_wp2_with fail
  go_region_law (first
    | (refine step_append_any _ rfl (.tmp 13) (.tmp 16) 37 rfl 46 (.agg #[.int .i64 0, .int .i64 0]) 2 16 Try.underlying37 Try.info46 rfl (by decide) (.slice (some ⟨w.heap.size, 0, none⟩) 0 0) 0 [] (by simp [Act.eval, Act.put]) HO1.out A k c ((M.take k).flatMap rL) (by simp [Act.eval, Act.put]) (HR1.out _ ((Kept.refl _ _).drew.alloc _)) (rflat_one _) (by simp only [maxLen]; omega) (by omega) ?_; rintro A3 c3 w3 happ; have HA := Lib.hid happ; clear happ)
    | (refine step_append_any _ rfl (.tmp 17) (.tmp 21) 37 rfl 46 (.agg #[.int .i64 0, .int .i64 0]) 2 16 Try.underlying37 Try.info46 rfl (by decide) (.slice A3 (0 + k) c3) (0 + k) ([] ++ (M.take k).flatMap rL) (by simp [Act.eval, Act.put]) HA.out.1 A2 (M.length - (k + 1)) (c - (k + 1)) ((M.drop (k + 1)).flatMap rL) (by simp [Act.eval, Act.put]) (HR2.out _ (((Kept.refl [] _).drew.alloc _).trans' HA.out.2.1 (fun k hk => .inr (by rw [fp_some] at hk; simp at hk; omega)))) (rflat_one _) (by simp only [maxLen]; omega) (by omega) ?_; rintro A5 c5 w5 happ; have HA5 := Lib.hid happ; clear happ))
  all_goals
    go_wp2_with fail
    go_ret2
    refine ⟨_, rfl, ?_, ?_⟩
    · have e1 := HA5.out.1
      rw [Nat.zero_add, List.nil_append, ← List.flatMap_append] at e1
      have e2 : (M.take k ++ M.drop (k + 1)).length = k + (M.length - (k + 1)) := by rw [List.length_append, List.length_take, List.length_drop]; omega
      rw [HER.out]
      unfold RRow
      rw [e2]
      first | exact e1 | simpa using e1
    · refine (((Kept.refl [] _).drew.alloc _).trans' HA.out.2.1 (fun k hk => .inr (by rw [fp_some] at hk; simp at hk; omega))).trans' HA5.out.2.1 (fun q hq => .inr ?_)
      have hq2 := HA.out.2.2 q (by first | exact hq | simpa using hq)
      rw [fp_some] at hq2
      simp at hq2
      rcases hq2 with h1 | h1
      · omega
      · exact Nat.le_of_succ_le h1

end Go.Proofs.Ytljimcdppeejfaa
