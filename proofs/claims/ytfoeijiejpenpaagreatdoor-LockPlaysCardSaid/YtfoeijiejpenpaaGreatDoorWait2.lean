/- Package wait: put and take of a line's row. -/
import Derived.Test.YtfoeijiejpenpaaGreatDoorWait1
import Derived.Test.YtfoeijiejpenpaaGreatDoorRegion
namespace Go.Proofs.YtfoeijiejpenpaaGreatDoor
open Go.RowKit

/-- Waiters in a line's block. -/
structure IsLine (w : World) (g : Nat) (v : Value) (l : List WO) (last : Nat) : Prop where
  blk : Blk w g 91 #[.func (.func 41) #[] #[], v, .int .u64 last]
  row : Row w v l
theorem IsLine.far {w : World} {g : Nat} {v : Value} {l : List WO} {last : Nat} (h : IsLine w g v l last) : g ∉ fp v := fun hm => own_blk_ne h.row h.blk (by decide) (mem_fp.1 hm)
theorem IsLine.kept {G : List Nat} {w w' : World} {g : Nat} {v : Value} {l : List WO} {last : Nat} (h : IsLine w g v l last) (hk : Kept G w w') (hg : g ∉ G) (hd : ∀ k, k ∈ fp v → k ∉ G) : IsLine w' g v l last := ⟨h.blk.kept hk hg, h.row.kept hk hd⟩
theorem IsLine.old {w w' : World} {g : Nat} {v : Value} {l : List WO} {last : Nat} (h : IsLine w g v l last) (hk : Kept [] w w') : IsLine w' g v l last := h.kept hk (by simp) (by simp)
theorem IsLine.form {w : World} {g : Nat} {v : Value} {l : List WO} {last : Nat} (h : IsLine w g v l last) : ∃ A c, v = .slice A l.length c ∧ l.length ≤ c := by
  obtain ⟨A, c, h1, h2, _⟩ := own_form h.row
  exact ⟨A, c, h1, h2⟩
/-- What a call on a line leaves. -/
def LineGoes (w : World) (g : Nat) (v : Value) (w' : World) (l' : List WO) (last' : Nat) : Prop := ∃ v', IsLine w' g v' l' last' ∧ Kept (g :: fp v) w w' ∧ ∀ k, k ∈ fp v' → k ∈ fp v ∨ w.heap.size ≤ k

/-- A waiter in its place. -/
def insW (x : WO) : List WO → List WO
  | [] => [x]
  | y :: t => if aheadB x y = true then x :: y :: t else y :: insW x t
theorem insW_some (x : WO) : ∀ (l : List WO) (k : Nat) (y : WO), l[k]? = some y → aheadB x y = true → (∀ j z, j < k → l[j]? = some z → aheadB x z = false) → insW x l = l.take k ++ x :: l.drop k
  | [], k, y, h, _, _ => by simp at h
  | z :: t, 0, y, h, ha, _ => by simp at h; subst h; simp [insW, ha]
  | z :: t, k + 1, y, h, ha, hn => by
    have h0 := hn 0 z (by omega) (by simp)
    rw [insW, if_neg (by simp [h0]), insW_some x t k y (by simpa using h) ha (fun j u hj hu => hn (j + 1) u (by omega) (by simpa using hu))]
    simp
theorem insW_none (x : WO) : ∀ (l : List WO), (∀ z ∈ l, aheadB x z = false) → insW x l = l ++ [x]
  | [], _ => rfl
  | z :: t, h => by rw [insW, if_neg (by simp [h z (by simp)]), insW_none x t (fun u hu => h u (by simp [hu]))]; rfl
theorem insW_len (x : WO) : ∀ (l : List WO), (insW x l).length = l.length + 1
  | [] => rfl
  | z :: t => by unfold insW; split <;> simp [insW_len x t]

theorem row_form {w : World} {v : Value} {l : List WO} (h : Row w v l) : ∃ A n c, v = .slice A n c := by
  obtain ⟨A, c, h1, _⟩ := own_form h
  exact ⟨A, _, c, h1⟩
theorem LineGoes.mk_ {w w1 w2 : World} {g : Nat} {A : Option Addr} {n c : Nat} {l l' : List WO} {last : Nat} {A' : Option Addr} {n' c' : Nat} (h : IsLine w1 g (.slice A n c) l last) (hk : Kept [] w w1) (hr : RowGoes w1 (.slice A n c) w2 (.slice A' n' c') l') :
    LineGoes w g (.slice A n c) (w2.setCell ⟨g, 1, none⟩ (.slice A' n' c')) l' last := by
  have hlt := h.blk.lt
  have hfar := h.far
  have hg' : g ∉ fp (.slice A' n' c') := fun hm => by
    rcases hr.2.2 g hm with h1 | h1
    · exact hfar h1
    · omega
  refine ⟨_, ⟨(h.blk.kept hr.2.1 hfar).set 1 _, hr.1.kept ((Kept.refl [g] w2).setCell (.inl (by simp)) _) (fun k hk e => by simp at e; subst e; exact hg' hk)⟩, ?_, fun k hk' => ?_⟩
  · exact ((hk.mono (by simp)).trans' hr.2.1 (fun k hk => .inl (by simp [hk]))).setCell (.inl (by simp)) _
  · rcases hr.2.2 k hk' with h1 | h1
    · exact .inl h1
    · exact .inr (Nat.le_trans hk.size h1)

set_option maxHeartbeats 6400000 in
set_option maxRecDepth 100000 in
theorem rput_any (g : Nat) (v : Value) (l : List WO) (last : Nat) (x : WO) (w : World) (h : IsLine w g v l last) (hl : l.length ≤ 1000) :
    Calls Tryz.prog 93 #[.pointer (some ⟨g, 0, none⟩), .agg (oC x.p x.l x.n)] w fun e w' => e = .returned (.tuple #[]) ∧ LineGoes w g v w' (insW x l) last := by
  obtain ⟨A, c, rfl, hnc⟩ := h.form
  have hg0 := h.blk.cell
  have hg1 := h.blk.frozen
  have hg2 := h.blk.lt
  have H := Lib.hid h
  have HIX := Lib.hid (fun w1 hk hr hx => idx_warput1 (.pointer (some ⟨w.heap.size, 0, none⟩)) (.pointer (some ⟨w.heap.size + 1, 0, none⟩)) (aheadB x) A l.length c l w1 (Reads.of_own (h.row.old hk)) (by omega) (fun y _ w' hk' => put1_any x y w.heap.size (w.heap.size + 1) g _ _ w' (Blk.kept hr hk' (by simp)) (Blk.kept hx hk' (by simp)) (h.blk.kept (hk.trans hk') (by simp))))
  have HB0 : Hid (Blk ((w.alloc (.cells #[.pointer (some ⟨g, 0, none⟩)] 128)).alloc (.cells (oC x.p x.l x.n) 108)) w.heap.size 128 #[.pointer (some ⟨g, 0, none⟩)]) := (Blk.new _ _ _).alloc _
  have HB1 : Hid (Blk ((w.alloc (.cells #[.pointer (some ⟨g, 0, none⟩)] 128)).alloc (.cells (oC x.p x.l x.n) 108)) (w.heap.size + 1) 108 (oC x.p x.l x.n)) := Blk.newAt (by simp) _ _
  clear h
  go_enter Tryz.func93, Tryz.ntmps93
  go_wp2_with fail
  refine (HIX.out _ (((Kept.refl _ _).alloc _).alloc _) HB0.out HB1.out).mono ?_
  rintro e w1 ⟨⟨iv, rfl, hix⟩, hk1⟩
  have HK1 := Lib.hid hk1
  have HIV := Lib.hid hix
  have HL1 := Lib.hid (H.out.old ((((Kept.refl _ _).alloc _).alloc _).trans hk1))
  have HB2 := Lib.hid (HB0.out.kept hk1 (by simp))
  have HB3 := Lib.hid (HB1.out.kept hk1 (by simp))
  clear hk1 hix
  -- where it goes
  obtain ⟨k, hkl, hins, hiv⟩ : ∃ k : Nat, k ≤ l.length ∧ Hid (insW x l = l.take k ++ x :: l.drop k) ∧ ((iv = k) ∨ (iv = -1 ∧ k = l.length)) := by
    rcases HIV.out with ⟨k, y, rfl, h1, h2, h3⟩ | ⟨rfl, h1⟩
    · exact ⟨k, Nat.le_of_lt (List.getElem?_eq_some_iff.1 h1).1, insW_some x l k y h1 h2 h3, .inl rfl⟩
    · exact ⟨l.length, Nat.le_refl _, by rw [Hid, insW_none x l h1]; simp, .inr ⟨rfl, rfl⟩⟩
  have hc1 := HL1.out.blk.cell
  have hf1 := HL1.out.blk.frozen
  have hlt1 := HL1.out.blk.lt
  have hc2 := HB2.out.cell
  have hlt2 := HB2.out.lt
  have hc3 := HB3.out.cell
  have hlt3 := HB3.out.lt
  clear HIX HIV
  have HINS := Lib.hid (insert_any (.slice A l.length c) l k x w1.heap.size 1 ((w1.alloc (.cells (oC x.p x.l x.n) 108)).drew) (HL1.out.row.old ((Kept.refl _ _).alloc _).drew) hkl (by omega) (Blk.new _ _ _).drew (fun hm => by have := own_lt HL1.out.row _ hm; omega))
  have HKW : Hid (Kept [] w ((w1.alloc (.cells (oC x.p x.l x.n) 108)).drew)) := (((((Kept.refl _ _).alloc _).alloc _).trans HK1.out).alloc _).drew
  have HLW := Lib.hid (HL1.out.old (((Kept.refl _ _).alloc (.cells (oC x.p x.l x.n) 108)).drew))
  obtain ⟨xp, xl, xn⟩ := x
  simp only at HINS HKW HLW
  have hmix : Tryz.prog.follows .mixedOrders = true := by kernel_rfl
  have HS0 : Hid (w1.drew.cell? ⟨w.heap.size, 0, none⟩ = some (.pointer (some ⟨g, 0, none⟩)) ∧ w1.drew.cell? ⟨w.heap.size + 1, 0, none⟩ = some (.int .i64 xp) ∧ w1.drew.cell? ⟨w.heap.size + 1, 1, none⟩ = some (.int .i64 xl) ∧ w1.drew.cell? ⟨w.heap.size + 1, 2, none⟩ = some (.int .u64 xn)) := ⟨HB2.out.drew.cell 0, HB3.out.drew.cell 0, HB3.out.drew.cell 1, HB3.out.drew.cell 2⟩
  have HS1 : Hid (((w1.alloc (.cells (oC xp xl xn) 108)).drew).cell? ⟨w.heap.size, 0, none⟩ = some (.pointer (some ⟨g, 0, none⟩)) ∧ ((w1.alloc (.cells (oC xp xl xn) 108)).drew).cell? ⟨w.heap.size + 1, 0, none⟩ = some (.int .i64 xp) ∧ ((w1.alloc (.cells (oC xp xl xn) 108)).drew).cell? ⟨w.heap.size + 1, 1, none⟩ = some (.int .i64 xl) ∧ ((w1.alloc (.cells (oC xp xl xn) 108)).drew).cell? ⟨w.heap.size + 1, 2, none⟩ = some (.int .u64 xn)) := ⟨(HB2.out.alloc _).drew.cell 0, (HB3.out.alloc _).drew.cell 0, (HB3.out.alloc _).drew.cell 1, (HB3.out.alloc _).drew.cell 2⟩
  have hn2 : w.heap.size ∉ fp (.slice A l.length c) := fun hm => by have := own_lt H.out.row _ hm; omega
  have hn3 : w.heap.size + 1 ∉ fp (.slice A l.length c) := fun hm => by have := own_lt H.out.row _ hm; omega
  have HN2 := Lib.hid hn2
  have HN3 := Lib.hid hn3
  clear hn2 hn3
  rcases hiv with rfl | ⟨rfl, rfl⟩
  all_goals
    go_wp2_with fail
    refine wp_region_held_drew (S := fun w' => w'.cell? ⟨w.heap.size, 0, none⟩ = some (.pointer (some ⟨g, 0, none⟩)) ∧ w'.cell? ⟨w.heap.size + 1, 0, none⟩ = some (.int .i64 xp) ∧ w'.cell? ⟨w.heap.size + 1, 1, none⟩ = some (.int .i64 xl) ∧ w'.cell? ⟨w.heap.size + 1, 2, none⟩ = some (.int .u64 xn)) hmix HS0.out (fun hHeld => ?_)
    (refine rtake_0 (v := ?_) (by kernel_rfl) (by kernel_rfl) (by kernel_rfl) (fun _ _ _ h => h) (Or.inl ⟨by rfl, ?_⟩) (by assumption) ?_; rotate_left; focus ((intro w hSw; (try dsimp only at hSw); go_simp); try (with_reducible rfl)); (try simp only [Act.put, List.setIfInBounds_toArray, List.set_cons_zero, List.set_cons_succ]))
    (refine rtake_1 (v := ?_) (by kernel_rfl) (by kernel_rfl) (by kernel_rfl) (fun _ _ _ h => h) (Or.inl ⟨by rfl, ?_⟩) (by assumption) ?_; rotate_left; focus ((intro w hSw; (try dsimp only at hSw); go_simp); try (with_reducible rfl)); (try simp only [Act.put, List.setIfInBounds_toArray, List.set_cons_zero, List.set_cons_succ]))
    (refine rtake_2 (v := ?_) (by kernel_rfl) (by kernel_rfl) (by kernel_rfl) (fun _ _ _ h => h) (Or.inl ⟨by rfl, ?_⟩) (by assumption) ?_; rotate_left; focus ((intro w hSw; (try dsimp only at hSw); go_simp); try (with_reducible rfl)); (try simp only [Act.put, List.setIfInBounds_toArray, List.set_cons_zero, List.set_cons_succ]))
    (refine rtake_3 (v := ?_) (by kernel_rfl) (by kernel_rfl) (by kernel_rfl) (fun _ _ _ h => h) (Or.inl ⟨by rfl, ?_⟩) (by assumption) ?_; rotate_left; focus ((intro w hSw; (try dsimp only at hSw); go_simp); try (with_reducible rfl)); (try simp only [Act.put, List.setIfInBounds_toArray, List.set_cons_zero, List.set_cons_succ]))
    (refine rtake_5 (v := ?_) (by kernel_rfl) (by kernel_rfl) (by kernel_rfl) (fun _ _ _ h => h) (Or.inl ⟨by rfl, ?_⟩) (by assumption) ?_; rotate_left; focus ((intro w hSw; (try dsimp only at hSw); go_simp); try (with_reducible rfl)); (try simp only [Act.put, List.setIfInBounds_toArray, List.set_cons_zero, List.set_cons_succ]))
    (refine rtake_6 (v := ?_) (by kernel_rfl) (by kernel_rfl) (by kernel_rfl) (fun _ _ _ h => h) (Or.inl ⟨by rfl, ?_⟩) (by assumption) ?_; rotate_left; focus ((intro w hSw; (try dsimp only at hSw); go_simp); try (with_reducible rfl)); (try simp only [Act.put, List.setIfInBounds_toArray, List.set_cons_zero, List.set_cons_succ]))
    (refine wpAnyH_ready (rs := [4, 7]) (by kernel_rfl) (by simp) ?_; refine rcons_4 (fun K hK => ?_) (rcons_7 (fun K hK => ?_) (AllReadyH.nil)))
    · go_simp
      refine hK.out _ _ hHeld (fun hHeld => ?_)
      clear hK K
      (refine wpAnyH_ready (rs := [7]) (by kernel_rfl) (by simp) ?_; refine rcons_7 (fun K hK => ?_) (AllReadyH.nil))
      go_simp
      refine hK.out _ _ HS1.out (fun hHeld => ?_)
      clear hK K
      (refine wpAnyH_ready (rs := [8]) (by kernel_rfl) (by simp) ?_; refine rcons_8 (fun K hK => ?_) (AllReadyH.nil))
      go_simp
      (with_reducible refine (HINS.out).mono ?_)
      rintro e w2 ⟨v2, rfl, hrg⟩
      obtain ⟨A2, n2, c2, rfl⟩ := row_form hrg.1
      have HRG := Lib.hid hrg
      have hb4 := HLW.out.blk.kept hrg.2.1 HLW.out.far
      have hc4 := hb4.cell
      have hf4 := hb4.frozen
      have hl4 := hb4.lt
      have HB5 := Lib.hid ((HB2.out.alloc (.cells (oC xp xl xn) 108)).drew.kept hrg.2.1 HN2.out)
      have HB6 := Lib.hid ((HB3.out.alloc (.cells (oC xp xl xn) 108)).drew.kept hrg.2.1 HN3.out)
      clear hrg hb4
      try go_simp
      refine hK.out _ _ ⟨HB5.out.cell 0, HB6.out.cell 0, HB6.out.cell 1, HB6.out.cell 2⟩ (fun hHeld => ?_)
      clear hK K
      (refine rtake_9 (v := ?_) (by kernel_rfl) (by kernel_rfl) (by kernel_rfl) (fun _ _ _ h => h) (Or.inl ⟨by rfl, ?_⟩) (by assumption) ?_; rotate_left; focus ((intro w hSw; (try dsimp only at hSw); go_simp); try (with_reducible rfl)); (try simp only [Act.put, List.setIfInBounds_toArray, List.set_cons_zero, List.set_cons_succ]))
      (refine rtake_10 (v := ?_) (by kernel_rfl) (by kernel_rfl) (by kernel_rfl) (fun _ _ _ h => h) (Or.inl ⟨by rfl, ?_⟩) (by assumption) ?_; rotate_left; focus ((intro w hSw; (try dsimp only at hSw); go_simp); try (with_reducible rfl)); (try simp only [Act.put, List.setIfInBounds_toArray, List.set_cons_zero, List.set_cons_succ]))
      (refine wpAnyH_ready (rs := [11]) (by kernel_rfl) (by simp) ?_; refine rcons_11 (fun K hK => ?_) (AllReadyH.nil))
      go_simp
      refine hK.out _ _ ⟨(HB5.out.far (by simp only; omega) _).cell 0, (HB6.out.far (by simp only; omega) _).cell 0, (HB6.out.far (by simp only; omega) _).cell 1, (HB6.out.far (by simp only; omega) _).cell 2⟩ (fun hHeld => ?_)
      clear hK K
      refine wpAnyH_done (by kernel_rfl) ?_ _
      go_wp2_with fail
      go_end0
      refine ⟨rfl, ?_⟩
      rw [hins.out]
      exact LineGoes.mk_ HLW.out HKW.out HRG.out
    · go_simp
      refine hK.out _ _ HS1.out (fun hHeld => ?_)
      clear hK K
      (refine wpAnyH_ready (rs := [4]) (by kernel_rfl) (by simp) ?_; refine rcons_4 (fun K hK => ?_) (AllReadyH.nil))
      go_simp
      refine hK.out _ _ HS1.out (fun hHeld => ?_)
      clear hK K
      (refine wpAnyH_ready (rs := [8]) (by kernel_rfl) (by simp) ?_; refine rcons_8 (fun K hK => ?_) (AllReadyH.nil))
      go_simp
      (with_reducible refine (HINS.out).mono ?_)
      rintro e w2 ⟨v2, rfl, hrg⟩
      obtain ⟨A2, n2, c2, rfl⟩ := row_form hrg.1
      have HRG := Lib.hid hrg
      have hb4 := HLW.out.blk.kept hrg.2.1 HLW.out.far
      have hc4 := hb4.cell
      have hf4 := hb4.frozen
      have hl4 := hb4.lt
      have HB5 := Lib.hid ((HB2.out.alloc (.cells (oC xp xl xn) 108)).drew.kept hrg.2.1 HN2.out)
      have HB6 := Lib.hid ((HB3.out.alloc (.cells (oC xp xl xn) 108)).drew.kept hrg.2.1 HN3.out)
      clear hrg hb4
      try go_simp
      refine hK.out _ _ ⟨HB5.out.cell 0, HB6.out.cell 0, HB6.out.cell 1, HB6.out.cell 2⟩ (fun hHeld => ?_)
      clear hK K
      (refine rtake_9 (v := ?_) (by kernel_rfl) (by kernel_rfl) (by kernel_rfl) (fun _ _ _ h => h) (Or.inl ⟨by rfl, ?_⟩) (by assumption) ?_; rotate_left; focus ((intro w hSw; (try dsimp only at hSw); go_simp); try (with_reducible rfl)); (try simp only [Act.put, List.setIfInBounds_toArray, List.set_cons_zero, List.set_cons_succ]))
      (refine rtake_10 (v := ?_) (by kernel_rfl) (by kernel_rfl) (by kernel_rfl) (fun _ _ _ h => h) (Or.inl ⟨by rfl, ?_⟩) (by assumption) ?_; rotate_left; focus ((intro w hSw; (try dsimp only at hSw); go_simp); try (with_reducible rfl)); (try simp only [Act.put, List.setIfInBounds_toArray, List.set_cons_zero, List.set_cons_succ]))
      (refine wpAnyH_ready (rs := [11]) (by kernel_rfl) (by simp) ?_; refine rcons_11 (fun K hK => ?_) (AllReadyH.nil))
      go_simp
      refine hK.out _ _ ⟨(HB5.out.far (by simp only; omega) _).cell 0, (HB6.out.far (by simp only; omega) _).cell 0, (HB6.out.far (by simp only; omega) _).cell 1, (HB6.out.far (by simp only; omega) _).cell 2⟩ (fun hHeld => ?_)
      clear hK K
      refine wpAnyH_done (by kernel_rfl) ?_ _
      go_wp2_with fail
      go_end0
      refine ⟨rfl, ?_⟩
      rw [hins.out]
      exact LineGoes.mk_ HLW.out HKW.out HRG.out

end Go.Proofs.YtfoeijiejpenpaaGreatDoor
