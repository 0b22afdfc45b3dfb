/- Package event: Parse. -/
import Derived.Test.YtohkgdgdblnbfaaDoorEventT2
namespace Go.Proofs.YtohkgdgdblnbfaaDoor
open Go.RowKit

theorem addE_zero (er : Int) : addE er 0 = er := by simp [addE]
theorem pone_kind (g : Nat) (A : Option Addr) (n c : Nat) (ws : List (List UInt8)) (er : Int) (x : List UInt8) (w : World) (h : IsP w g A n c ws er) (hx : ws[2]? = some x) (hws : ws.length ≤ 100000) :
    Calls Tryd.prog 46 #[.pointer (some ⟨g, 0, none⟩), .int .i64 2, .int .i64 1, .int .i64 10, .func (.func 22) #[] #[]] w fun e w' => e = .returned (.int .i64 (kindOf x)) ∧ PGoes w g A n c ws (addE er (kindC x)) w' := by
  refine (pone_eName kindD (fun k w => ename_any k w) 1 10 (by omega) (by omega) g A n c ws er 2 x w h hx hws).mono fun e w' hh => ?_
  rcases hh with ⟨k, h1, h2, h3, h4, h5⟩ | ⟨h1, h4, h5⟩
  · have hk := kindOf_at h1 h2 h3
    rw [kindC, if_neg (by omega), addE_zero, hk]
    exact ⟨h4, h5⟩
  · have hk := kindOf_none (w := x) fun j a b => h1 j a (by omega)
    rw [kindC, if_pos hk, hk]
    exact ⟨h4, h5⟩
theorem pone_op (g : Nat) (A : Option Addr) (n c : Nat) (ws : List (List UInt8)) (er : Int) (x : List UInt8) (w : World) (h : IsP w g A n c ws er) (hx : ws[5]? = some x) (hws : ws.length ≤ 100000) :
    Calls Tryd.prog 46 #[.pointer (some ⟨g, 0, none⟩), .int .i64 5, .int .i64 0, .int .i64 11, .func (.func 37) #[] #[]] w fun e w' => e = .returned (.int .i64 (max 0 (opOfE x))) ∧ PGoes w g A n c ws (addE er (opC x)) w' := by
  refine (pone_eop opE (fun k w => (eop_any k w).mono fun e w' hh => ⟨hh.1, hh.2 ▸ Kept.refl _ _⟩) 0 11 (by omega) (by omega) g A n c ws er 5 x w h hx hws).mono fun e w' hh => ?_
  rcases hh with ⟨k, h1, h2, h3, h4, h5⟩ | ⟨h1, h4, h5⟩
  · have hk := opOfE_at h2 h3
    rw [opC, if_neg (by omega), addE_zero, hk, Int.max_eq_right (by omega)]
    exact ⟨h4, h5⟩
  · have hk := opOfE_none (w := x) fun j a => h1 j (by omega) (by omega)
    rw [opC, if_pos (by omega), hk]
    exact ⟨h4, h5⟩

set_option maxHeartbeats 1600000 in
theorem eparse_no (l : List UInt8) (w : World) (hl : l.length ≤ 100000) (hM : HasMax w) (hw : (words l).length ≠ 8) :
    Calls Tryd.prog 24 #[strV l] w fun e w' => e = .returned (.tuple #[.agg (eC 0 0 0 0 0 0 0 0), .int .i64 3]) ∧ Kept [] w w' := by
  have HW := Lib.hid (fun w h => words_any l w hl h)
  generalize words l = ws at *
  have hb : ((ws.length : Int) != 8) = true := by rw [bne_iff_ne]; omega
  have HM := Lib.hid hM
  clear hM hw
  go_enter Tryd.func24, Tryd.ntmps24
  go_wp2_with fail
  refine (HW.out _ (HM.out.old ((Kept.refl _ _).alloc _))).mono ?_
  rintro e w1 ⟨A, c, rfl, hF⟩
  have hk := hF.2.1
  have hB := (Blk.new w 30 (eC 0 0 0 0 0 0 0 0)).kept hk (by simp)
  have hc := hB.cell
  have hf := hB.frozen
  have hlt := hB.lt
  have HK := Lib.hid (((Kept.refl [] w).alloc _).trans hk)
  clear hF hk hB
  go_wp2_with fail
  refine bodyPost_ret (v := .tuple #[.agg (eC 0 0 0 0 0 0 0 0), .int .i64 3]) (by simp [results, Tryd.results24, go_sem, hc, hlt]) rfl ⟨rfl, ?_⟩
  have hk2 := HK.out
  (repeat (first | (with_reducible exact Kept.refl _ _) | (with_reducible assumption) | (with_reducible refine Kept.alloc ?_ _) | (with_reducible refine Kept.drew ?_) | (with_reducible refine Kept.drewN ?_ _) | (with_reducible refine Kept.setCell ?_ ?_ _) | (exact .inr (Nat.le_refl _)) | (exact .inr (by simp only; omega)) | (exact .inr (by omega))))

set_option maxHeartbeats 6400000 in
theorem eparse_8 (l w0 w1 w2 w3 w4 w5 w6 w7 : List UInt8) (w : World) (hl : l.length ≤ 100000) (hM : HasMax w) (hw : words l = [w0, w1, w2, w3, w4, w5, w6, w7]) (hlen : w0.length ≤ 100000 ∧ w1.length ≤ 100000 ∧ w3.length ≤ 100000 ∧ w4.length ≤ 100000 ∧ w6.length ≤ 100000 ∧ w7.length ≤ 100000) :
    Calls Tryd.prog 24 #[strV l] w fun e w' => e = .returned (.tuple #[.agg (eC (parse8 w0 w1 w2 w3 w4 w5 w6 w7).1.step (parse8 w0 w1 w2 w3 w4 w5 w6 w7).1.cpu (parse8 w0 w1 w2 w3 w4 w5 w6 w7).1.kind (parse8 w0 w1 w2 w3 w4 w5 w6 w7).1.slot (parse8 w0 w1 w2 w3 w4 w5 w6 w7).1.gen (parse8 w0 w1 w2 w3 w4 w5 w6 w7).1.op (parse8 w0 w1 w2 w3 w4 w5 w6 w7).1.code (parse8 w0 w1 w2 w3 w4 w5 w6 w7).1.n), .int .i64 (parse8 w0 w1 w2 w3 w4 w5 w6 w7).2]) ∧ Kept [] w w' := by
  have HW := Lib.hid (fun w h => words_any l w hl h)
  rw [hw] at HW
  simp only [List.length_cons, List.length_nil, Nat.zero_add, Nat.reduceAdd] at HW
  have HM := Lib.hid hM
  obtain ⟨ws, hws⟩ : ∃ ws, ws = [w0, w1, w2, w3, w4, w5, w6, w7] := ⟨_, rfl⟩
  rw [← hws] at HW
  have hwl : ws.length ≤ 100000 := by rw [hws]; simp
  have HN0 := Lib.hid (fun g A c er w h => pnum_any g A 8 c ws er 0 w0 9223372036854775807 w h (by rw [hws]; rfl) (by omega) hwl (by omega))
  have HN1 := Lib.hid (fun g A c er w h => pnum_any g A 8 c ws er 1 w1 63 w h (by rw [hws]; rfl) (by omega) hwl (by omega))
  have HN2 := Lib.hid (fun g A c er w h => pone_kind g A 8 c ws er w2 w h (by rw [hws]; rfl) hwl)
  have HN3 := Lib.hid (fun g A c er w h => pnum_any g A 8 c ws er 3 w3 63 w h (by rw [hws]; rfl) (by omega) hwl (by omega))
  have HN4 := Lib.hid (fun g A c er w h => pnum_any g A 8 c ws er 4 w4 4294967295 w h (by rw [hws]; rfl) (by omega) hwl (by omega))
  have HN5 := Lib.hid (fun g A c er w h => pone_op g A 8 c ws er w5 w h (by rw [hws]; rfl) hwl)
  have HN6 := Lib.hid (fun g A c er w h => pnum_any g A 8 c ws er 6 w6 15 w h (by rw [hws]; rfl) (by omega) hwl (by omega))
  have HN7 := Lib.hid (fun g A c er w h => pnum_any g A 8 c ws er 7 w7 18446744073709551615 w h (by rw [hws]; rfl) (by omega) hwl (by omega))
  have l0 := numE_le w0 9223372036854775807
  have l1 := numE_le w1 63
  have l3 := numE_le w3 63
  have l4 := numE_le w4 4294967295
  have l6 := numE_le w6 15
  have l7 := numE_le w7 18446744073709551615
  obtain ⟨R, hR⟩ : ∃ R, parse8 w0 w1 w2 w3 w4 w5 w6 w7 = R := ⟨_, rfl⟩
  rw [hR]
  unfold parse8 wrongE evOf at hR
  generalize numE w0 9223372036854775807 = m0 at *
  generalize numE w1 63 = m1 at *
  generalize numE w3 63 = m3 at *
  generalize numE w4 4294967295 = m4 at *
  generalize numE w6 15 = m6 at *
  generalize numE w7 18446744073709551615 = m7 at *
  generalize kindOf w2 = k2 at *
  generalize kindC w2 = q2 at *
  generalize max 0 (opOfE w5) = k5 at *
  generalize opC w5 = q5 at *
  obtain ⟨v0, x0⟩ := m0
  obtain ⟨v1, x1⟩ := m1
  obtain ⟨v3, x3⟩ := m3
  obtain ⟨v4, x4⟩ := m4
  obtain ⟨v6, x6⟩ := m6
  obtain ⟨v7, x7⟩ := m7
  simp only at HN0 HN1 HN3 HN4 HN6 HN7 l0 l1 l3 l4 l6 l7 hR
  have HR := Lib.hid hR
  clear hR
  clear hM hw hws hlen
  go_enter Tryd.func24, Tryd.ntmps24
  go_wp2_with fail
  refine (HW.out _ (HM.out.old ((Kept.refl _ _).alloc _))).mono ?_
  rintro e w1' ⟨A, c, rfl, hF⟩
  have hk := hF.2.1
  have hB := (Blk.new w 30 (eC 0 0 0 0 0 0 0 0)).kept hk (by simp)
  have HK := Lib.hid (((Kept.refl [] w).alloc _).trans hk)
  have HB := Lib.hid hB
  have HIP : Hid (IsP (w1'.alloc (.cells #[.slice A 8 c, .int .i64 0] 65)) w1'.heap.size A 8 c ws 0) := ⟨Blk.new _ _ _, (Reads.of_own hF.1).alloc _, fun ad e => by
    subst e
    have := own_lt hF.1 ad.block (by rw [fp_slice]; simp)
    omega⟩
  clear hF hk hB
  go_wp2_with fail
  refine (HN0.out _ _ _ _ _ HIP.out).mono ?_
  rintro e u0 ⟨rfl, hg⟩
  have P0 := Lib.hid hg.1
  have K0 := Lib.hid (hg.2)
  clear hg
  go_wp2_with fail
  refine (HN1.out _ _ _ _ _ P0.out).mono ?_
  rintro e u1 ⟨rfl, hg⟩
  have P1 := Lib.hid hg.1
  have K1 := Lib.hid (K0.out.trans hg.2)
  clear hg
  go_wp2_with fail
  refine (HN2.out _ _ _ _ _ P1.out).mono ?_
  rintro e u2 ⟨rfl, hg⟩
  have P2 := Lib.hid hg.1
  have K2 := Lib.hid (K1.out.trans hg.2)
  clear hg
  go_wp2_with fail
  refine (HN3.out _ _ _ _ _ P2.out).mono ?_
  rintro e u3 ⟨rfl, hg⟩
  have P3 := Lib.hid hg.1
  have K3 := Lib.hid (K2.out.trans hg.2)
  clear hg
  go_wp2_with fail
  refine (HN4.out _ _ _ _ _ P3.out).mono ?_
  rintro e u4 ⟨rfl, hg⟩
  have P4 := Lib.hid hg.1
  have K4 := Lib.hid (K3.out.trans hg.2)
  clear hg
  go_wp2_with fail
  refine (HN5.out _ _ _ _ _ P4.out).mono ?_
  rintro e u5 ⟨rfl, hg⟩
  have P5 := Lib.hid hg.1
  have K5 := Lib.hid (K4.out.trans hg.2)
  clear hg
  go_wp2_with fail
  refine (HN6.out _ _ _ _ _ P5.out).mono ?_
  rintro e u6 ⟨rfl, hg⟩
  have P6 := Lib.hid hg.1
  have K6 := Lib.hid (K5.out.trans hg.2)
  clear hg
  go_wp2_with fail
  refine (HN7.out _ _ _ _ _ P6.out).mono ?_
  rintro e u7 ⟨rfl, hg⟩
  have P7 := Lib.hid hg.1
  have K7 := Lib.hid (K6.out.trans hg.2)
  clear hg
  have hc7 := P7.out.blk.cell
  have hl7 := P7.out.blk.lt
  have hwlt := HB.out.lt
  have HB7 := Lib.hid ((HB.out.alloc _).kept K7.out (by simp; omega))
  have hcb := HB7.out.cell
  have hfb := HB7.out.frozen
  have hlb := HB7.out.lt
  have HKK := Lib.hid ((HK.out.alloc _).trans' K7.out (fun j hj => .inr (by have := HK.out.size; simp at hj; omega)))
  generalize addE (addE (addE (addE (addE (addE (addE (addE 0 x0) x1) q2) x3) x4) q5) x6) x7 = E at *
  by_cases hE : E = 0
  · subst hE
    go_wp2_with fail
    refine bodyPost_ret (v := .tuple #[.agg (eC v0 v1 k2 v3 v4 k5 v6 v7), .int .i64 0]) (by simp [results, Tryd.results24, go_sem, hcb, hlb]) rfl ⟨by rw [← HR.out]; simp only [if_true], ?_⟩
    have hk2 := HKK.out
    (repeat (first | (with_reducible exact Kept.refl _ _) | (with_reducible assumption) | (with_reducible refine Kept.alloc ?_ _) | (with_reducible refine Kept.drew ?_) | (with_reducible refine Kept.drewN ?_ _) | (with_reducible refine Kept.setCell ?_ ?_ _) | (exact .inr (Nat.le_refl _)) | (exact .inr (by simp only; omega)) | (exact .inr (by omega))))
  · have hb : (E != 0) = true := by rw [bne_iff_ne]; exact hE
    have HE := Lib.hid hE
    clear hE
    go_wp2_with fail
    go_region
    all_goals
      go_wp2_with fail
      refine bodyPost_ret (v := .tuple #[.agg (eC 0 0 0 0 0 0 0 0), .int .i64 E]) (by simp [results, Tryd.results24, go_sem, hcb, hlb]) rfl ⟨by rw [← HR.out, if_neg HE.out]; rfl, ?_⟩
      have hk2 := HKK.out
      (repeat (first | (with_reducible exact Kept.refl _ _) | (with_reducible assumption) | (with_reducible refine Kept.alloc ?_ _) | (with_reducible refine Kept.drew ?_) | (with_reducible refine Kept.drewN ?_ _) | (with_reducible refine Kept.setCell ?_ ?_ _) | (exact .inr (Nat.le_refl _)) | (exact .inr (by simp only; omega)) | (exact .inr (by omega))))

theorem wordsF_len : ∀ (l cur : List UInt8), ∀ x ∈ wordsF cur l, x.length ≤ cur.length + l.length
  | [], cur => by
    intro x hx
    simp only [wordsF] at hx
    split at hx
    · simp at hx
    · simp at hx; subst hx; simp
  | a :: t, cur => by
    intro x hx
    simp only [wordsF] at hx
    split at hx
    · split at hx
      · have := wordsF_len t [] x hx
        simp at this ⊢; omega
      · rcases List.mem_cons.1 hx with rfl | hx
        · simp
        · have := wordsF_len t [] x hx
          simp at this ⊢; omega
    · have := wordsF_len t (cur ++ [a]) x hx
      simp at this ⊢; omega
theorem words_len {l x : List UInt8} (h : x ∈ words l) : x.length ≤ l.length := by have := wordsF_len l [] x h; simpa using this

/-- Parse. -/
theorem eparse_any (l : List UInt8) (w : World) (hl : l.length ≤ 100000) (hM : HasMax w) :
    Calls Tryd.prog 24 #[strV l] w fun e w' => e = .returned (.tuple #[.agg (eC (parseE l).1.step (parseE l).1.cpu (parseE l).1.kind (parseE l).1.slot (parseE l).1.gen (parseE l).1.op (parseE l).1.code (parseE l).1.n), .int .i64 (parseE l).2]) ∧ Kept [] w w' := by
  by_cases h8 : (words l).length = 8
  · obtain ⟨w0, w1, w2, w3, w4, w5, w6, w7, hw⟩ := list8 _ h8
    rw [parseE_8 hw]
    have hm : ∀ x ∈ words l, x.length ≤ 100000 := fun x hx => Nat.le_trans (words_len hx) hl
    rw [hw] at hm
    exact eparse_8 l w0 w1 w2 w3 w4 w5 w6 w7 w hl hM hw ⟨hm _ (by simp), hm _ (by simp), hm _ (by simp), hm _ (by simp), hm _ (by simp), hm _ (by simp)⟩
  · rw [parseE_no h8]
    exact eparse_no l w hl hM h8

end Go.Proofs.YtohkgdgdblnbfaaDoor
