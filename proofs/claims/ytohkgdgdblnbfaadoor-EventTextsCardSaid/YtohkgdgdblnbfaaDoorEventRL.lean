/- The document's Line of an event. -/
import Derived.Test.YtohkgdgdblnbfaaDoorEventL
namespace Go.Proofs.YtohkgdgdblnbfaaDoor
open Go.RowKit
attribute [local go_sem ↓] Go.wp_at_zero Go.wp_at_succ

theorem joinR (bk : Nat) (x1 x2 x3 x4 x5 x6 x7 x8 : List UInt8) (w : World) (hB : Blk w bk 9 #[strV x1, strV x2, strV x3, strV x4, strV x5, strV x6, strV x7, strV x8]) (hl : x1.length ≤ 30 ∧ x2.length ≤ 30 ∧ x3.length ≤ 30 ∧ x4.length ≤ 30 ∧ x5.length ≤ 30 ∧ x6.length ≤ 30 ∧ x7.length ≤ 30 ∧ x8.length ≤ 30) :
    Calls Tryd.prog 40 #[.slice (some ⟨bk, 0, none⟩) 8 8, .string ⟨#[32]⟩] w fun e w' => e = .returned (strV (joinS [32] [x1, x2, x3, x4, x5, x6, x7, x8])) ∧ w = w' := by
  have hr : Reads w 1 (some ⟨bk, 0, none⟩) 8 ([x1, x2, x3, x4, x5, x6, x7, x8].map strV) := by
    refine ⟨rfl, fun _ => ⟨_, rfl, fun j u hu => ?_⟩⟩
    rw [add_mk, Nat.zero_add, hB.cell]
    have := List.getElem?_eq_some_iff.1 hu
    obtain ⟨h1, h2⟩ := this
    subst h2
    match j, h1 with
    | 0, _ => rfl
    | 1, _ => rfl
    | 2, _ => rfl
    | 3, _ => rfl
    | 4, _ => rfl
    | 5, _ => rfl
    | 6, _ => rfl
    | 7, _ => rfl
  refine refJoin (some ⟨bk, 0, none⟩) 8 8 [x1, x2, x3, x4, x5, x6, x7, x8] [32] w hr (by simp) (by simp) (fun k => ?_) (fun x hx => ?_)
  · have hj : ∀ ls : List (List UInt8), (∀ x ∈ ls, x.length ≤ 30) → (joinS [32] ls).length ≤ 31 * ls.length := by
      intro ls
      induction ls with
      | nil => simp [joinS]
      | cons a t ih =>
        intro h
        cases t with
        | nil => have := h a (by simp); simp only [joinS, List.length_cons, List.length_nil]; omega
        | cons b t =>
          have h1 := h a (by simp)
          have h2 := ih fun x hx => h x (by simp [hx])
          simp only [joinS, List.length_append, List.length_cons, List.length_nil] at h2 ⊢
          omega
    have h1 : ∀ x ∈ [x1, x2, x3, x4, x5, x6, x7, x8], x.length ≤ 30 := by simp; omega
    have h2 := hj ([x1, x2, x3, x4, x5, x6, x7, x8].take k) fun x hx => h1 x (List.mem_of_mem_take hx)
    have h3 : ([x1, x2, x3, x4, x5, x6, x7, x8].take k).length ≤ 8 := by simp; omega
    omega
  · simp at hx
    rcases hx with rfl | rfl | rfl | rfl | rfl | rfl | rfl | rfl <;> omega

attribute [local irreducible] dec
set_option maxHeartbeats 6400000 in
theorem refLineE_good (s c t d : Nat) (k o : Int) (g n : Nat) (w : World) (hg : goodE ⟨s, c, k, t, g, o, d, n⟩ = true) (hs : s ≤ 9223372036854775807) (hc : c ≤ 63) (ht : t ≤ 63) (hd : d ≤ 15) (hgn : g < 4294967296) (hn : n < 18446744073709551616) :
    Calls Tryd.prog 19 #[.agg (eC s c k t g o d n)] w fun e w' => e = .returned (strV (lineE ⟨s, c, k, t, g, o, d, n⟩)) ∧ Kept [] w w' := by
  have HG : Hid (∀ w, Calls Tryd.prog 21 #[.agg (eC s c k t g o d n)] w fun e w' => e = .returned (.bool true) ∧ Kept [] w w') := fun w => by have := refEgood s c k t g o d n w; rw [hg] at this; exact this
  have HF : Hid (lineE ⟨s, c, k, t, g, o, d, n⟩ = joinS [32] [dec s, dec c, kindD k, dec t, dec g, opE o, dec d, dec n]) := by rw [Hid, lineE, if_pos hg]; simp [wordsE]
  have HN3 := Lib.hid (fun w => refEname k w)
  have HL5 := Lib.hid (fun (x : Nat) w h1 => refPrint x w h1)
  have HO6 := Lib.hid (fun w => refEop o w)
  have l1 := dec_len s (by omega)
  have l2 := dec_len c (by omega)
  have l3 := kindD_len k
  have l4 := dec_len t (by omega)
  have l5 := dec_len g (by omega)
  have l6 := opE_len o
  have l7 := dec_len d (by omega)
  have l8 := dec_len n (by omega)
  generalize kindD k = x3 at *
  generalize opE o = x6 at *
  have HJ : Hid (∀ bk w, Blk w bk 9 #[strV (dec s), strV (dec c), strV x3, strV (dec t), strV (dec g), strV x6, strV (dec d), strV (dec n)] → Calls Tryd.prog 40 #[.slice (some ⟨bk, 0, none⟩) 8 8, .string ⟨#[32]⟩] w fun e w' => e = .returned (strV (joinS [32] [(dec s), (dec c), x3, (dec t), (dec g), x6, (dec d), (dec n)])) ∧ w = w') := fun bk w h => joinR bk (dec s) (dec c) x3 (dec t) (dec g) x6 (dec d) (dec n) w h (by omega)
  generalize joinS [32] [(dec s), (dec c), x3, (dec t), (dec g), x6, (dec d), (dec n)] = res at *
  have hwrg : IntKind.u64.wrap (g : Int) = (g : Int) := IntWalk.u64_in _ (by omega)
  have hwrs : IntKind.u64.wrap (s : Int) = (s : Int) := IntWalk.u64_in _ (by omega)
  have hwrc : IntKind.u64.wrap (c : Int) = (c : Int) := IntWalk.u64_in _ (by omega)
  have hwrt : IntKind.u64.wrap (t : Int) = (t : Int) := IntWalk.u64_in _ (by omega)
  have hwrd : IntKind.u64.wrap (d : Int) = (d : Int) := IntWalk.u64_in _ (by omega)
  clear hg
  go_enter Tryd.func19, Tryd.ntmps19
  go_wp2_with fail
  refine (HG.out _).mono ?_
  rintro e w1 ⟨rfl, hk1⟩
  have hB := Lib.hid ((Blk.new w 30 (eC s c k t g o d n)).kept hk1 (by simp))
  have hK := Lib.hid (((Kept.refl [] w).alloc _).trans hk1)
  have hc := hB.out.cell
  clear hk1
  go_wp2_with fail
  go_region_held3 (fun w' => w'.cell? ⟨w.heap.size, 0, none⟩ = some (.int .i64 s) ∧ w'.cell? ⟨w.heap.size, 1, none⟩ = some (.int .i64 c) ∧ w'.cell? ⟨w.heap.size, 2, none⟩ = some (.int .i64 k) ∧ w'.cell? ⟨w.heap.size, 3, none⟩ = some (.int .i64 t) ∧ w'.cell? ⟨w.heap.size, 4, none⟩ = some (.int .u32 g) ∧ w'.cell? ⟨w.heap.size, 5, none⟩ = some (.int .i64 o) ∧ w'.cell? ⟨w.heap.size, 6, none⟩ = some (.int .i64 d) ∧ w'.cell? ⟨w.heap.size, 7, none⟩ = some (.int .u64 n)) (go_keep) (first | (go_at_call 38; refine (HL5.out _ _ (by omega)).mono ?_; rintro e w1 ⟨rfl, rfl⟩) | (go_at_call 23; refine (HN3.out _).mono ?_; rintro e w1 ⟨rfl, hk1⟩; have hB := Lib.hid (Blk.kept (hk := hk1) (h := by exact hB.out) (hg := by simp)); have hc := hB.out.cell; have hK := Lib.hid (Kept.trans (h := by first | exact hK.out | exact hK.out.drew) (h' := hk1)); clear hk1) | (go_at_call 39; refine (HO6.out _).mono ?_; rintro e w1 ⟨rfl, hk1⟩; have hB := Lib.hid (Blk.kept (hk := hk1) (h := by exact hB.out) (hg := by simp)); have hc := hB.out.cell; have hK := Lib.hid (Kept.trans (h := by first | exact hK.out | exact hK.out.drew) (h' := hk1)); clear hk1))
  all_goals
    go_wp2_with fail
    refine (HJ.out _ _ (by exact Blk.new _ _ _)).mono ?_
    rintro e w2 ⟨rfl, rfl⟩
    go_wp2_with fail
    go_ret
    exact ⟨by rw [HF.out]; rfl, by first | exact hK.out.alloc _ | exact (hK.out.drew).alloc _ | exact (hK.out.alloc _).drew⟩

set_option maxHeartbeats 1600000 in
theorem refLineE_bad (s c k t : Int) (g : Nat) (o d : Int) (n : Nat) (w : World) (hg : goodE ⟨s, c, k, t, g, o, d, n⟩ = false) :
    Calls Tryd.prog 19 #[.agg (eC s c k t g o d n)] w fun e w' => e = .returned (strV (lineE ⟨s, c, k, t, g, o, d, n⟩)) ∧ Kept [] w w' := by
  have HG : Hid (∀ w, Calls Tryd.prog 21 #[.agg (eC s c k t g o d n)] w fun e w' => e = .returned (.bool false) ∧ Kept [] w w') := fun w => by have := refEgood s c k t g o d n w; rw [hg] at this; exact this
  have HF : Hid (lineE ⟨s, c, k, t, g, o, d, n⟩ = [63]) := by rw [Hid, lineE, if_neg (by simp [hg])]
  clear hg
  go_enter Tryd.func19, Tryd.ntmps19
  go_wp2_with fail
  refine (HG.out _).mono ?_
  rintro e w1 ⟨rfl, hk1⟩
  go_wp2_with fail
  go_ret
  exact ⟨by rw [HF.out]; rfl, ((Kept.refl [] w).alloc _).trans hk1⟩

theorem refLineE_any (s c k t : Int) (g : Nat) (o d : Int) (n : Nat) (w : World) (hs : s ≤ 9223372036854775807) (hgn : g < 4294967296) (hn : n < 18446744073709551616) :
    Calls Tryd.prog 19 #[.agg (eC s c k t g o d n)] w fun e w' => e = .returned (strV (lineE ⟨s, c, k, t, g, o, d, n⟩)) ∧ Kept [] w w' := by
  by_cases hg : goodE ⟨s, c, k, t, g, o, d, n⟩ = true
  · have hr := hg
    simp only [goodE, decide_eq_true_eq] at hr
    obtain ⟨s, rfl⟩ := Int.eq_ofNat_of_zero_le hr.1
    obtain ⟨c, rfl⟩ := Int.eq_ofNat_of_zero_le hr.2.1
    obtain ⟨t, rfl⟩ := Int.eq_ofNat_of_zero_le hr.2.2.2.2.2.1
    obtain ⟨d, rfl⟩ := Int.eq_ofNat_of_zero_le hr.2.2.2.2.2.2.2.2.2.1
    exact refLineE_good s c t d k o g n w hg (by omega) (by omega) (by omega) (by omega) hgn hn
  · exact refLineE_bad s c k t g o d n w (by simpa using hg)

end Go.Proofs.YtohkgdgdblnbfaaDoor
