/- Law 07: DeedBytes: the walk. -/
import Derived.Test.YtmhlmoojmdfnfaaDoorDeedA
import Derived.Test.YtmhlmoojmdfnfaaDoorDeedGet2
import Derived.Test.YtmhlmoojmdfnfaaDoorDeedPut
import Derived.Test.YtmhlmoojmdfnfaaDoorDeedWR
import Derived.Test.YtmhlmoojmdfnfaaDoorDeedR4
import Derived.Test.YtmhlmoojmdfnfaaDoorRegion
namespace Go.Proofs.YtmhlmoojmdfnfaaDoor
open Go.RowKit
attribute [local go_sem] eqDeed

set_option maxHeartbeats 6400000 in
set_option maxRecDepth 100000 in
theorem deedBytes_bad (o a b r : Int) (n m : Nat) (l : Bool) (w : World) (hg : goodD ⟨o, a, b, r, n, m, l⟩ = false) (hM : HasMax w) (hP : HasPow w) :
    Calls Tryd.prog 13 #[.agg (dC o a b r n m l)] w fun e w' => e = .returned (.bool true) ∧ Kept [] w w' := by
  have HPT := Lib.hid (fun p w => dput_bad p o a b r n m l w hg)
  have HG1 : Hid (∀ w, Calls Tryd.prog 36 #[.agg (dC o a b r n m l)] w fun e w' => e = .returned (.bool false) ∧ Kept [] w w') := fun w => by have := good_any o a b r n m l w; rw [hg] at this; exact this
  have HG2 : Hid (∀ w, Calls Tryd.prog 34 #[.agg (dC o a b r n m l)] w fun e w' => e = .returned (.bool false) ∧ Kept [] w w') := fun w => by have := refGood o a b r n m l w; rw [hg] at this; exact this
  have HM := Lib.hid hM
  have HP := Lib.hid hP
  clear hg hM hP
  go_enter Tryd.func13, Tryd.ntmps13
  go_wp2_with fail
  refine (wnew_any 40 _).mono ?_
  rintro e w1 ⟨rfl, hW1, hk1⟩
  rw [World.size_alloc] at hW1
  have HB1 := Lib.hid ((Blk.new w 41 (dC o a b r n m l)).kept hk1 (by simp))
  have HK1 := Lib.hid (((Kept.refl [] w).alloc _).trans hk1)
  have HW1 := Lib.hid hW1
  have hc1 := HB1.out.cell
  have hl1 := HB1.out.lt
  clear hW1 hk1
  go_wp2_with fail
  refine (HPT.out _ _).mono ?_
  rintro e w2 ⟨rfl, hk2⟩
  have HB2 := Lib.hid (HB1.out.kept hk2 (by simp))
  have HK2 := Lib.hid (HK1.out.trans hk2)
  have HW2 := Lib.hid (HW1.out.kept hk2 (by simp))
  clear hk2 hc1 hl1
  go_wp2_with fail
  refine (wdone_ok _ _ _ [] _ w2 HW2.out (by simp)).mono ?_
  rintro e w3 ⟨v, rfl, hn3⟩
  obtain ⟨Av, cv, rfl, _, _⟩ := own_form hn3.1
  have HB3 := Lib.hid (HB2.out.kept hn3.2.1 (by simp))
  have HK3 := Lib.hid (HK2.out.trans hn3.2.1)
  clear hn3
  simp only [List.length_nil]
  go_wp2_with fail
  refine (awake7 _ (HM.out.old HK3.out) (HP.out.old HK3.out)).mono ?_
  rintro e w4 ⟨rfl, hk4⟩
  have HB4 := Lib.hid (HB3.out.kept hk4 (by simp))
  have HK4 := Lib.hid (HK3.out.trans hk4)
  have hc4 := HB4.out.cell
  have hl4 := HB4.out.lt
  clear hk4
  go_wp2_with fail
  refine (HG2.out _).mono ?_
  rintro e w5 ⟨rfl, hk5⟩
  have HB5 := Lib.hid (HB4.out.kept hk5 (by simp))
  have HK5 := Lib.hid (HK4.out.trans hk5)
  have hc5 := HB5.out.cell
  have hl5 := HB5.out.lt
  clear hk5 hc4 hl4
  go_wp2_with fail
  refine (HG1.out _).mono ?_
  rintro e w6 ⟨rfl, hk6⟩
  have HK6 := Lib.hid (HK5.out.trans hk6)
  clear hk6
  go_wp2_with fail
  go_ret
  exact ⟨rfl, HK6.out⟩

set_option maxHeartbeats 6400000 in
set_option maxRecDepth 100000 in
theorem deedBytes_good (o a b r n m : Nat) (l : Bool) (w : World) (hg : goodD ⟨o, a, b, r, n, m, l⟩ = true) (ho : o < 256) (ha : a < 256) (hb : b < 256) (hr : r < 256) (hn : n < 18446744073709551616) (hm : m < 18446744073709551616) (hM : HasMax w) (hP : HasPow w) :
    Calls Tryd.prog 13 #[.agg (dC o a b r n m l)] w fun e w' => e = .returned (.bool true) ∧ Kept [] w w' := by
  have HPT := Lib.hid (fun g A c w hW => dput_any g A c [] 40 o a b r n m l w hW hg hn hm (by simp) (by omega) (by omega))
  rw [List.nil_append] at HPT
  have HG2 : Hid (∀ w, Calls Tryd.prog 34 #[.agg (dC o a b r n m l)] w fun e w' => e = .returned (.bool true) ∧ Kept [] w w') := fun w => by have := refGood o a b r n m l w; rw [hg] at this; exact this
  have HRB := Lib.hid (fun w => refBytesD o a b r n m l w ho ha hb hr hn hm)
  have hel := encD_len ⟨o, a, b, r, n, m, l⟩
  have hep := encD_pos ⟨o, a, b, r, n, m, l⟩
  have HGE : Hid (getD (0, encD ⟨o, a, b, r, n, m, l⟩) = ((0, []), ⟨o, a, b, r, n, m, l⟩, 0)) := by
    have := get_enc ⟨o, a, b, r, n, m, l⟩ [] hg hn hm
    rw [List.append_nil] at this
    exact this
  have HDG := Lib.hid (fun g A c w h => dget_any g A c (0, encD ⟨o, a, b, r, n, m, l⟩) w h)
  rw [HGE.out] at HDG
  generalize encD ⟨o, a, b, r, n, m, l⟩ = bs at *
  have HM := Lib.hid hM
  have HP := Lib.hid hP
  clear hg hM hP HGE
  go_enter Tryd.func13, Tryd.ntmps13
  go_wp2_with fail
  refine (wnew_any 40 _).mono ?_
  rintro e w1 ⟨rfl, hW1, hk1⟩
  rw [World.size_alloc] at hW1
  have HB1 := Lib.hid ((Blk.new w 41 (dC o a b r n m l)).kept hk1 (by simp))
  have HK1 := Lib.hid (((Kept.refl [] w).alloc _).trans hk1)
  have HW1 := Lib.hid hW1
  have hc1 := HB1.out.cell
  have hl1 := HB1.out.lt
  clear hW1 hk1
  go_wp2_with fail
  refine (HPT.out _ _ _ _ HW1.out).mono ?_
  rintro e w2 ⟨rfl, hgo⟩
  obtain ⟨A2, c2, hW2, hk2, hf2⟩ := hgo
  have HB2 : Hid (Blk w2 w.heap.size 41 (dC o a b r n m l)) := HB1.out.kept hk2 (by simp [fpW])
  have HK2 : Hid (Kept [] w w2) := HK1.out.trans' hk2 (fun k hm => .inr (by simp [fpW] at hm; omega))
  have HW2 := Lib.hid hW2
  clear hW2 hk2 hf2 hc1 hl1
  go_wp2_with fail
  refine (wdone_ok _ _ _ bs _ w2 HW2.out (by omega)).mono ?_
  rintro e w3 ⟨v, rfl, hn3⟩
  obtain ⟨Av, cv, rfl, _, _⟩ := own_form hn3.1
  have HB3 := Lib.hid (HB2.out.kept hn3.2.1 (by simp))
  have HK3 := Lib.hid (HK2.out.trans hn3.2.1)
  have HO3 := Lib.hid hn3.1
  clear hn3
  go_wp2_with fail
  refine (awake7 _ (HM.out.old HK3.out) (HP.out.old HK3.out)).mono ?_
  rintro e w4 ⟨rfl, hk4⟩
  have HB4 := Lib.hid (HB3.out.kept hk4 (by simp))
  have HK4 := Lib.hid (HK3.out.trans hk4)
  have HO4 := Lib.hid (own_kept HO3.out hk4 (by simp))
  have hc4 := HB4.out.cell
  have hl4 := HB4.out.lt
  clear hk4
  go_wp2_with fail
  refine (HG2.out _).mono ?_
  rintro e w5 ⟨rfl, hk5⟩
  have HB5 := Lib.hid (HB4.out.kept hk5 (by simp))
  have HK5 := Lib.hid (HK4.out.trans hk5)
  have HO5 := Lib.hid (own_kept HO4.out hk5 (by simp))
  clear hk5 hc4 hl4
  go_wp2_with fail
  refine (rread_any Av bs.length cv bs _ (Reads.of_own HO5.out) (by omega)).mono ?_
  rintro e w6 ⟨g, A6, c6, rfl, hR6, hk6, hg6, hA6⟩
  have HR6 := Lib.hid hR6
  have HB6 := Lib.hid (HB5.out.kept hk6 (by simp))
  have HK6 := Lib.hid (HK5.out.trans hk6)
  have HO6 := Lib.hid (own_kept HO5.out hk6 (by simp))
  have hlt6 := lt_of_block HB5.out
  have hfv := own_lt HO5.out
  have hg7 : w.heap.size < g := by omega
  have HGF : Hid (∀ k, k ∈ fp (.slice Av bs.length cv) → k ∉ [g]) := fun k hk hm => by have := hfv k hk; simp at hm; omega
  clear hR6 hk6 hA6 hfv
  go_wp2_with fail
  refine (HDG.out g A6 c6 _ HR6.out).mono ?_
  rintro e w7 ⟨rfl, hgo⟩
  obtain ⟨A7, c7, hR7, hk7, _⟩ := hgo
  have HR7 := Lib.hid hR7
  have HB7 : Hid (Blk w7 w.heap.size 41 (dC o a b r n m l)) := HB6.out.kept hk7 (by simp; omega)
  have HK7 : Hid (Kept [] w w7) := HK6.out.trans' hk7 (fun k hm => .inr (by simp at hm; omega))
  have HO7 := Lib.hid (own_kept HO6.out hk7 HGF.out)
  clear hR7 hk7
  simp only [dCd]
  have hc7 := HB7.out.cell
  have hl7 := HB7.out.lt
  go_wp2_with fail
  have HDN := Lib.hid (fun w h => rdone_any g A7 c7 (0, []) w h)
  rw [show doneS (0, []) = 0 from rfl] at HDN
  have hmix : Tryd.prog.follows .mixedOrders = true := by kernel_rfl
  have HBA := Lib.hid ((HB7.out.alloc (.cells (dC o a b r n m l) 41)).drew)
  have HXA := Lib.hid ((Blk.new w7 41 (dC o a b r n m l)).drew)
  have HVA := Lib.hid (Reads.of_own (own_kept HO7.out ((Kept.refl [] w7).alloc (.cells (dC o a b r n m l) 41)).drew (by simp)))
  have HKA := Lib.hid ((HK7.out.alloc (.cells (dC o a b r n m l) 41)).drew)
  have HRA := Lib.hid ((HR7.out.kept ((Kept.refl [] w7).alloc (.cells (dC o a b r n m l) 41)).drew (by simp) (by simp)))
  have HZ : Hid (∀ w' : World, Reads w' 1 Av bs.length (bs.map B) → _) := fun w' h => run_string_of (P := Tryd.prog) (w := w') (c := cv) h 32 9 5 Tryd.underlying32 Tryd.underlying5 Tryd.underlying9
  refine wp_region_held_drew (S := fun w' => (∀ i, w'.cell? ⟨w.heap.size, i, none⟩ = (dC o a b r n m l)[i]?) ∧ (∀ i, w'.cell? ⟨w7.heap.size, i, none⟩ = (dC o a b r n m l)[i]?) ∧ Reads w' 1 Av bs.length (bs.map B)) hmix ⟨HBA.out.cell, HXA.out.cell, HVA.out⟩ (fun hHeld => ?_)
  clear hc7 hl7
  (refine rtake_0 (v := ?_) (by kernel_rfl) (by kernel_rfl) (by kernel_rfl) (fun _ _ _ h => h) (Or.inl ⟨by rfl, ?_⟩) (by assumption) ?_; rotate_left; focus ((intro w hSw; (try dsimp only at hSw); go_simp); try (with_reducible rfl)); (try simp only [Act.put, List.setIfInBounds_toArray, List.set_cons_zero, List.set_cons_succ]))
  (refine rtake_1 (v := ?_) (by kernel_rfl) (by kernel_rfl) (by kernel_rfl) (fun _ _ _ h => h) (Or.inl ⟨by rfl, ?_⟩) (by assumption) ?_; rotate_left; focus ((intro wz hSw; have hst := HZ.out wz hSw.2.2; clear hSw; go_simp); try (with_reducible rfl)); (try simp only [Act.put, List.setIfInBounds_toArray, List.set_cons_zero, List.set_cons_succ]))
  (refine rtake_2 (v := ?_) (by kernel_rfl) (by kernel_rfl) (by kernel_rfl) (fun _ _ _ h => h) (Or.inl ⟨by rfl, ?_⟩) (by assumption) ?_; rotate_left; focus ((intro w hSw; (try dsimp only at hSw); go_simp); try (with_reducible rfl)); (try simp only [Act.put, List.setIfInBounds_toArray, List.set_cons_zero, List.set_cons_succ]))
  (refine wpAnyH_ready (rs := [3]) (by kernel_rfl) (by simp) ?_; refine rcons_3 (fun K hK => ?_) (AllReadyH.nil))
  go_simp
  (with_reducible refine (HRB.out _).mono ?_)
  rintro e w8 ⟨A8, n8, c8, rfl, hf8⟩
  have hst8 := run_string_of (P := Tryd.prog) (c := c8) (Reads.of_own hf8.1) 32 9 5 Tryd.underlying32 Tryd.underlying5 Tryd.underlying9
  have HB8 := Lib.hid (HBA.out.kept hf8.2.1 (by simp))
  have HX8 := Lib.hid (HXA.out.kept hf8.2.1 (by simp))
  have HV8 := Lib.hid (HVA.out.old hf8.2.1)
  have HK8 := Lib.hid (HKA.out.trans hf8.2.1)
  have HR8 := Lib.hid (HRA.out.kept hf8.2.1 (by simp) (by simp))
  clear hf8
  try go_simp
  refine hK.out _ _ ⟨HB8.out.cell, HX8.out.cell, HV8.out⟩ (fun hHeld => ?_)
  clear hK K
  (refine wpAnyH_ready (rs := [4]) (by kernel_rfl) (by simp) ?_; refine rcons_4 (fun K hK => ?_) (AllReadyH.nil))
  go_simp
  refine hK.out _ _ ⟨HB8.out.cell, HX8.out.cell, HV8.out⟩ (fun hHeld => ?_)
  clear hK K hst8
  (refine rtake_5 (v := ?_) (by kernel_rfl) (by kernel_rfl) (by kernel_rfl) (fun _ _ _ h => h) (Or.inl ⟨by rfl, ?_⟩) (by assumption) ?_; rotate_left; focus ((intro w hSw; (try dsimp only at hSw); go_simp); try (with_reducible rfl)); (try simp only [Act.put, List.setIfInBounds_toArray, List.set_cons_zero, List.set_cons_succ]))
  simp only [Act.put, List.setIfInBounds_toArray, List.set_cons_zero, List.set_cons_succ]
  (refine rtake_6 (v := ?_) (by kernel_rfl) (by kernel_rfl) (by kernel_rfl) (fun _ _ _ h => h) (Or.inl ⟨by rfl, ?_⟩) (by assumption) ?_; rotate_left; focus ((intro w hSw; (try dsimp only at hSw); go_simp); try (with_reducible rfl)); (try simp only [Act.put, List.setIfInBounds_toArray, List.set_cons_zero, List.set_cons_succ]))
  simp only [Act.put, List.setIfInBounds_toArray, List.set_cons_zero, List.set_cons_succ]
  (refine rtake_7 (v := ?_) (by kernel_rfl) (by kernel_rfl) (by kernel_rfl) (fun _ _ _ h => h) (Or.inl ⟨by rfl, ?_⟩) (by assumption) ?_; rotate_left; focus ((intro w hSw; (try dsimp only at hSw); go_simp); try (with_reducible rfl)); (try simp only [Act.put, List.setIfInBounds_toArray, List.set_cons_zero, List.set_cons_succ]))
  simp only [Act.put, List.setIfInBounds_toArray, List.set_cons_zero, List.set_cons_succ]
  (refine rtake_8 (v := ?_) (by kernel_rfl) (by kernel_rfl) (by kernel_rfl) (fun _ _ _ h => h) (Or.inl ⟨by rfl, ?_⟩) (by assumption) ?_; rotate_left; focus ((intro w hSw; (try dsimp only at hSw); go_simp); try (with_reducible rfl)); (try simp only [Act.put, List.setIfInBounds_toArray, List.set_cons_zero, List.set_cons_succ]))
  simp only [Act.put, List.setIfInBounds_toArray, List.set_cons_zero, List.set_cons_succ]
  (refine rtake_9 (v := ?_) (by kernel_rfl) (by kernel_rfl) (by kernel_rfl) (fun _ _ _ h => h) (Or.inl ⟨by rfl, ?_⟩) (by assumption) ?_; rotate_left; focus ((intro w hSw; (try dsimp only at hSw); go_simp); try (with_reducible rfl)); (try simp only [Act.put, List.setIfInBounds_toArray, List.set_cons_zero, List.set_cons_succ]))
  simp only [Act.put, List.setIfInBounds_toArray, List.set_cons_zero, List.set_cons_succ]
  (refine rtake_10 (v := ?_) (by kernel_rfl) (by kernel_rfl) (by kernel_rfl) (fun _ _ _ h => h) (Or.inl ⟨by rfl, ?_⟩) (by assumption) ?_; rotate_left; focus ((intro w hSw; (try dsimp only at hSw); go_simp); try (with_reducible rfl)); (try simp only [Act.put, List.setIfInBounds_toArray, List.set_cons_zero, List.set_cons_succ]))
  simp only [Act.put, List.setIfInBounds_toArray, List.set_cons_zero, List.set_cons_succ]
  (refine rtake_11 (v := ?_) (by kernel_rfl) (by kernel_rfl) (by kernel_rfl) (fun _ _ _ h => h) (Or.inl ⟨by rfl, ?_⟩) (by assumption) ?_; rotate_left; focus ((intro w hSw; (try dsimp only at hSw); go_simp); try (with_reducible rfl)); (try simp only [Act.put, List.setIfInBounds_toArray, List.set_cons_zero, List.set_cons_succ]))
  simp only [Act.put, List.setIfInBounds_toArray, List.set_cons_zero, List.set_cons_succ]
  (refine rtake_12 (v := ?_) (by kernel_rfl) (by kernel_rfl) (by kernel_rfl) (fun _ _ _ h => h) (Or.inl ⟨by rfl, ?_⟩) (by assumption) ?_; rotate_left; focus ((intro w hSw; (try dsimp only at hSw); go_simp); try (with_reducible rfl)); (try simp only [Act.put, List.setIfInBounds_toArray, List.set_cons_zero, List.set_cons_succ]))
  simp only [Act.put, List.setIfInBounds_toArray, List.set_cons_zero, List.set_cons_succ]
  (refine rtake_13 (v := ?_) (by kernel_rfl) (by kernel_rfl) (by kernel_rfl) (fun _ _ _ h => h) (Or.inl ⟨by rfl, ?_⟩) (by assumption) ?_; rotate_left; focus ((intro w hSw; (try dsimp only at hSw); go_simp); try (with_reducible rfl)); (try simp only [Act.put, List.setIfInBounds_toArray, List.set_cons_zero, List.set_cons_succ]))
  simp only [Act.put, List.setIfInBounds_toArray, List.set_cons_zero, List.set_cons_succ]
  (refine rtake_14 (v := ?_) (by kernel_rfl) (by kernel_rfl) (by kernel_rfl) (fun _ _ _ h => h) (Or.inl ⟨by rfl, ?_⟩) (by assumption) ?_; rotate_left; focus ((intro w hSw; (try dsimp only at hSw); go_simp); try (with_reducible rfl)); (try simp only [Act.put, List.setIfInBounds_toArray, List.set_cons_zero, List.set_cons_succ]))
  simp only [Act.put, List.setIfInBounds_toArray, List.set_cons_zero, List.set_cons_succ]
  (refine rtake_15 (v := ?_) (by kernel_rfl) (by kernel_rfl) (by kernel_rfl) (fun _ _ _ h => h) (Or.inl ⟨by rfl, ?_⟩) (by assumption) ?_; rotate_left; focus ((intro w hSw; (try dsimp only at hSw); go_simp); try (with_reducible rfl)); (try simp only [Act.put, List.setIfInBounds_toArray, List.set_cons_zero, List.set_cons_succ]))
  simp only [Act.put, List.setIfInBounds_toArray, List.set_cons_zero, List.set_cons_succ]
  (refine rtake_16 (v := ?_) (by kernel_rfl) (by kernel_rfl) (by kernel_rfl) (fun _ _ _ h => h) (Or.inl ⟨by rfl, ?_⟩) (by assumption) ?_; rotate_left; focus ((intro w hSw; (try dsimp only at hSw); go_simp); try (with_reducible rfl)); (try simp only [Act.put, List.setIfInBounds_toArray, List.set_cons_zero, List.set_cons_succ]))
  simp only [Act.put, List.setIfInBounds_toArray, List.set_cons_zero, List.set_cons_succ]
  (refine wpAnyH_ready (rs := [17]) (by kernel_rfl) (by simp) ?_; refine rcons_17 (fun K hK => ?_) (AllReadyH.nil))
  go_simp
  (with_reducible refine (HDN.out _ HR8.out).mono ?_)
  rintro e w9 ⟨rfl, rfl⟩
  try go_simp
  refine hK.out _ _ ⟨HB8.out.cell, HX8.out.cell, HV8.out⟩ (fun hHeld => ?_)
  clear hK K
  (refine rtake_18 (v := ?_) (by kernel_rfl) (by kernel_rfl) (by kernel_rfl) (fun _ _ _ h => h) (Or.inl ⟨by rfl, ?_⟩) (by assumption) ?_; rotate_left; focus ((intro w hSw; (try dsimp only at hSw); go_simp); try (with_reducible rfl)); (try simp only [Act.put, List.setIfInBounds_toArray, List.set_cons_zero, List.set_cons_succ]))
  simp only [Act.put, List.setIfInBounds_toArray, List.set_cons_zero, List.set_cons_succ]
  (refine rtake_19 (v := ?_) (by kernel_rfl) (by kernel_rfl) (by kernel_rfl) (fun _ _ _ h => h) (Or.inl ⟨by rfl, ?_⟩) (by assumption) ?_; rotate_left; focus ((intro w hSw; (try dsimp only at hSw); go_simp); try (with_reducible rfl)); (try simp only [Act.put, List.setIfInBounds_toArray, List.set_cons_zero, List.set_cons_succ]))
  simp only [Act.put, List.setIfInBounds_toArray, List.set_cons_zero, List.set_cons_succ]
  (refine rtake_20 (v := ?_) (by kernel_rfl) (by kernel_rfl) (by kernel_rfl) (fun _ _ _ h => h) (Or.inl ⟨by rfl, ?_⟩) (by assumption) ?_; rotate_left; focus ((intro w hSw; (try dsimp only at hSw); go_simp); try (with_reducible rfl)); (try simp only [Act.put, List.setIfInBounds_toArray, List.set_cons_zero, List.set_cons_succ]))
  simp only [Act.put, List.setIfInBounds_toArray, List.set_cons_zero, List.set_cons_succ]
  refine wpAnyH_done (by kernel_rfl) ?_ _
  go_wp2_with fail
  go_ret
  exact ⟨rfl, HK8.out⟩

end Go.Proofs.YtmhlmoojmdfnfaaDoor
