/- Law 36: what the bounds and the plain duties are, by the runner; Package rack: New; package mem: New. -/
import Derived.Test.YtahpjoknmclbfaaDoorRunH
import Derived.Test.YtahpjoknmclbfaaDoorPlA
import Derived.Test.YtahpjoknmclbfaaDoorBwN
import Derived.Test.YtahpjoknmclbfaaDoorStA
import Derived.LoopN

/- Law 36: what the bounds and the plain duties are, by the runner. -/
namespace Go.Proofs.YtahpjoknmclbfaaDoor
open Go Go.RowKit

namespace Ru
theorem VRel.lits {m : BM} (l : Array Value) (h : l.toList.all litV = true) : VRel m (.agg l) (.agg l) := .agg rfl fun i => .lit (by
  rw [List.getD_eq_getElem?_getD]
  cases hi : l.toList[i]? with
  | none => rfl
  | some v => exact List.all_eq_true.1 h v (List.mem_of_getElem? hi))
set_option maxRecDepth 1000000
noncomputable def vAwB : Code := match bodyK 10 with | some b => b | none => .skip
theorem vAwB_is : bodyK 10 = some vAwB := by kernel_rfl
theorem vAw_tmps : (Nat.ble (tmpsK 10) 65536 && Nat.ble 0 (tmpsK 10)) = true := by kernel_rfl
noncomputable def vWoB : Code := match bodyK 5 with | some b => b | none => .skip
theorem vWoB_is : bodyK 5 = some vWoB := by kernel_rfl
theorem vWo_tmps : (Nat.ble (tmpsK 5) 65536 && Nat.ble 1 (tmpsK 5)) = true := by kernel_rfl
noncomputable def vPlB : Code := match bodyK 23 with | some b => b | none => .skip
theorem vPlB_is : bodyK 23 = some vPlB := by kernel_rfl
theorem vPl_tmps : (Nat.ble (tmpsK 23) 65536 && Nat.ble 2 (tmpsK 23)) = true := by kernel_rfl
noncomputable def vPuB : Code := match bodyK 25 with | some b => b | none => .skip
theorem vPuB_is : bodyK 25 = some vPuB := by kernel_rfl
theorem vPu_tmps : (Nat.ble (tmpsK 25) 65536 && Nat.ble 1 (tmpsK 25)) = true := by kernel_rfl
noncomputable def vTaB : Code := match bodyK 16 with | some b => b | none => .skip
theorem vTaB_is : bodyK 16 = some vTaB := by kernel_rfl
theorem vTa_tmps : (Nat.ble (tmpsK 16) 65536 && Nat.ble 0 (tmpsK 16)) = true := by kernel_rfl
noncomputable def vRoB : Code := match bodyK 22 with | some b => b | none => .skip
theorem vRoB_is : bodyK 22 = some vRoB := by kernel_rfl
theorem vRo_tmps : (Nat.ble (tmpsK 22) 65536 && Nat.ble 0 (tmpsK 22)) = true := by kernel_rfl
noncomputable def vShB : Code := match bodyK 18 with | some b => b | none => .skip
theorem vShB_is : bodyK 18 = some vShB := by kernel_rfl
theorem vSh_tmps : (Nat.ble (tmpsK 18) 65536 && Nat.ble 0 (tmpsK 18)) = true := by kernel_rfl
def plainC (c : Int) : Array Value := #[.int .i64 1, .int .i64 c, .int .i64 4, .int .i64 c, .int .u64 8, .float .f64 4602678819172646912, .float .f64 4611686018427387904, .slice none 0 0, .slice none 0 0]
theorem vAw_fin : isYes (aFin (callK 99 KK 100000) 100000 10 [.code vAwB] ⟨envOf 0 [] .nil, [], H0⟩) = true := by kernel_rfl
theorem awakes36 : Awakes 10 := Awakes.of (callK_ok kok 99 100000) (Reach.start (args := []) (args' := #[]) vAwB_is vAw_tmps .nil) 100000 vAw_fin vAwB_is
theorem vWo2_run : valOf (aFin (callK 99 KK 100000) 100000 5 [.code vWoB] ⟨envOf 0 [.int .i64 2] .nil, [], H0⟩) = some (.int .i64 65) := by kernel_rfl
theorem vPl2_run : valOf (aFin (callK 99 KK 100000) 100000 23 [.code vPlB] ⟨envOf 0 [.int .i64 1, .int .i64 2] .nil, [], H0⟩) = some (.agg (plainC 2)) := by kernel_rfl
theorem vPu2_run : valOf (aFin (callK 99 KK 100000) 100000 25 [.code vPuB] ⟨envOf 0 [.agg (plainC 2)] .nil, [], H0⟩) = some (.int .i64 27) := by kernel_rfl
theorem vWo4_run : valOf (aFin (callK 99 KK 100000) 100000 5 [.code vWoB] ⟨envOf 0 [.int .i64 4] .nil, [], H0⟩) = some (.int .i64 97) := by kernel_rfl
theorem vPl4_run : valOf (aFin (callK 99 KK 100000) 100000 23 [.code vPlB] ⟨envOf 0 [.int .i64 1, .int .i64 4] .nil, [], H0⟩) = some (.agg (plainC 4)) := by kernel_rfl
theorem vPu4_run : valOf (aFin (callK 99 KK 100000) 100000 25 [.code vPuB] ⟨envOf 0 [.agg (plainC 4)] .nil, [], H0⟩) = some (.int .i64 45) := by kernel_rfl
theorem vWo8_run : valOf (aFin (callK 99 KK 100000) 100000 5 [.code vWoB] ⟨envOf 0 [.int .i64 8] .nil, [], H0⟩) = some (.int .i64 161) := by kernel_rfl
theorem vPl8_run : valOf (aFin (callK 99 KK 100000) 100000 23 [.code vPlB] ⟨envOf 0 [.int .i64 1, .int .i64 8] .nil, [], H0⟩) = some (.agg (plainC 8)) := by kernel_rfl
theorem vPu8_run : valOf (aFin (callK 99 KK 100000) 100000 25 [.code vPuB] ⟨envOf 0 [.agg (plainC 8)] .nil, [], H0⟩) = some (.int .i64 81) := by kernel_rfl
theorem vTa_run : valOf (aFin (callK 99 KK 100000) 100000 16 [.code vTaB] ⟨envOf 0 [] .nil, [], H0⟩) = some (.int .i64 5) := by kernel_rfl
theorem vRo_run : valOf (aFin (callK 99 KK 100000) 100000 22 [.code vRoB] ⟨envOf 0 [] .nil, [], H0⟩) = some (.int .i64 6) := by kernel_rfl
theorem vSh_run : valOf (aFin (callK 99 KK 100000) 100000 18 [.code vShB] ⟨envOf 0 [] .nil, [], H0⟩) = some (.int .i64 7) := by kernel_rfl
end Ru
set_option maxRecDepth 100000
theorem words36 (c : Nat) (hc : c = 2 ∨ c = 4 ∨ c = 8) {w : World} (hT : Ru.Tab w) : Calls Tryd.prog 5 #[.int .i64 (c : Nat)] w fun e w' => e = .returned (.int .i64 ((1 + 16 * (2 + c) : Nat) : Int)) ∧ Kept [] w w' := by
  rcases hc with rfl | rfl | rfl
  · exact (Ru.Reach.start (args := [.int .i64 2]) (args' := #[.int .i64 2]) Ru.vWoB_is Ru.vWo_tmps (.cons (.lit rfl) .nil)).value (Ru.callK_ok Ru.kok 99 100000) 100000 Ru.vWo2_run (by kernel_rfl) hT
  · exact (Ru.Reach.start (args := [.int .i64 4]) (args' := #[.int .i64 4]) Ru.vWoB_is Ru.vWo_tmps (.cons (.lit rfl) .nil)).value (Ru.callK_ok Ru.kok 99 100000) 100000 Ru.vWo4_run (by kernel_rfl) hT
  · exact (Ru.Reach.start (args := [.int .i64 8]) (args' := #[.int .i64 8]) Ru.vWoB_is Ru.vWo_tmps (.cons (.lit rfl) .nil)).value (Ru.callK_ok Ru.kok 99 100000) 100000 Ru.vWo8_run (by kernel_rfl) hT
theorem plain36 (c : Nat) (hc : c = 2 ∨ c = 4 ∨ c = 8) {w : World} (hT : Ru.Tab w) : Calls Tryd.prog 23 #[.int .i64 1, .int .i64 (c : Nat)] w fun e w' => e = .returned (.agg (Ru.plainC (c : Nat))) ∧ Kept [] w w' := by
  rcases hc with rfl | rfl | rfl
  · exact (Ru.Reach.start (args := [.int .i64 1, .int .i64 2]) (args' := #[.int .i64 1, .int .i64 2]) Ru.vPlB_is Ru.vPl_tmps (.cons (.lit rfl) (.cons (.lit rfl) .nil))).value (Ru.callK_ok Ru.kok 99 100000) 100000 Ru.vPl2_run (by kernel_rfl) hT
  · exact (Ru.Reach.start (args := [.int .i64 1, .int .i64 4]) (args' := #[.int .i64 1, .int .i64 4]) Ru.vPlB_is Ru.vPl_tmps (.cons (.lit rfl) (.cons (.lit rfl) .nil))).value (Ru.callK_ok Ru.kok 99 100000) 100000 Ru.vPl4_run (by kernel_rfl) hT
  · exact (Ru.Reach.start (args := [.int .i64 1, .int .i64 8]) (args' := #[.int .i64 1, .int .i64 8]) Ru.vPlB_is Ru.vPl_tmps (.cons (.lit rfl) (.cons (.lit rfl) .nil))).value (Ru.callK_ok Ru.kok 99 100000) 100000 Ru.vPl8_run (by kernel_rfl) hT
theorem put36 (c : Nat) (hc : c = 2 ∨ c = 4 ∨ c = 8) {w : World} (hT : Ru.Tab w) : Calls Tryd.prog 25 #[.agg (Ru.plainC (c : Nat))] w fun e w' => e = .returned (.int .i64 ((9 * c + 9 : Nat) : Int)) ∧ Kept [] w w' := by
  rcases hc with rfl | rfl | rfl
  · exact (Ru.Reach.start (args := [.agg (Ru.plainC 2)]) (args' := #[.agg (Ru.plainC 2)]) Ru.vPuB_is Ru.vPu_tmps (.cons (Ru.VRel.lits _ rfl) .nil)).value (Ru.callK_ok Ru.kok 99 100000) 100000 Ru.vPu2_run (by kernel_rfl) hT
  · exact (Ru.Reach.start (args := [.agg (Ru.plainC 4)]) (args' := #[.agg (Ru.plainC 4)]) Ru.vPuB_is Ru.vPu_tmps (.cons (Ru.VRel.lits _ rfl) .nil)).value (Ru.callK_ok Ru.kok 99 100000) 100000 Ru.vPu4_run (by kernel_rfl) hT
  · exact (Ru.Reach.start (args := [.agg (Ru.plainC 8)]) (args' := #[.agg (Ru.plainC 8)]) Ru.vPuB_is Ru.vPu_tmps (.cons (Ru.VRel.lits _ rfl) .nil)).value (Ru.callK_ok Ru.kok 99 100000) 100000 Ru.vPu8_run (by kernel_rfl) hT
theorem take36 {w : World} (hT : Ru.Tab w) : Calls Tryd.prog 16 #[] w fun e w' => e = .returned (.int .i64 5) ∧ Kept [] w w' :=
  (Ru.Reach.start (args := []) (args' := #[]) Ru.vTaB_is Ru.vTa_tmps .nil).value (Ru.callK_ok Ru.kok 99 100000) 100000 Ru.vTa_run (by kernel_rfl) hT
theorem rob36 {w : World} (hT : Ru.Tab w) : Calls Tryd.prog 22 #[] w fun e w' => e = .returned (.int .i64 6) ∧ Kept [] w w' :=
  (Ru.Reach.start (args := []) (args' := #[]) Ru.vRoB_is Ru.vRo_tmps .nil).value (Ru.callK_ok Ru.kok 99 100000) 100000 Ru.vRo_run (by kernel_rfl) hT
theorem shed36 {w : World} (hT : Ru.Tab w) : Calls Tryd.prog 18 #[] w fun e w' => e = .returned (.int .i64 7) ∧ Kept [] w w' :=
  (Ru.Reach.start (args := []) (args' := #[]) Ru.vShB_is Ru.vSh_tmps .nil).value (Ru.callK_ok Ru.kok 99 100000) 100000 Ru.vSh_run (by kernel_rfl) hT
end Go.Proofs.YtahpjoknmclbfaaDoor

/- Package rack: New; package mem: New. -/
namespace Go.Proofs.YtahpjoknmclbfaaDoor
open Go.RowKit

/-- A rack of which the first j deques are laid. -/
def rackP (cap j : Nat) : Array Value := (Value.int .i64 0 :: ((List.range 16).flatMap fun i => if i < j then [Value.int .i64 (atJ cap i), .int .i64 cap] else [Value.int .i64 0, .int .i64 0]) ++ [U64 0, U64 0, .int .i64 0]).toArray
theorem atJ_room' (cap j : Nat) (hj : j < 16) : atJ cap j + 2 + cap ≤ 1 + 16 * (2 + cap) := by
  have := Nat.mul_le_mul_right (2 + cap) (show j + 1 ≤ 16 by omega)
  rw [Nat.add_mul, Nat.one_mul] at this
  unfold atJ
  omega
theorem rackP_all (cap : Nat) : rackP cap 16 = rackC cap 0 0 0 := rfl
theorem rackP_step (cap j : Nat) (hj : j < 16) : ((rackP cap j).setIfInBounds (1 + j * 2) (.int .i64 (atJ cap j))).setIfInBounds (1 + j * 2 + 1) (.int .i64 cap) = rackP cap (j + 1) := by
  have : j = 0 ∨ j = 1 ∨ j = 2 ∨ j = 3 ∨ j = 4 ∨ j = 5 ∨ j = 6 ∨ j = 7 ∨ j = 8 ∨ j = 9 ∨ j = 10 ∨ j = 11 ∨ j = 12 ∨ j = 13 ∨ j = 14 ∨ j = 15 := by omega
  rcases this with rfl | rfl | rfl | rfl | rfl | rfl | rfl | rfl | rfl | rfl | rfl | rfl | rfl | rfl | rfl | rfl <;> rfl
theorem rackP_at (cap j : Nat) (hj : j < 16) : ∃ u v, (rackP cap j)[1 + j * 2]? = some u ∧ (rackP cap j)[1 + j * 2 + 1]? = some v := by
  have : j = 0 ∨ j = 1 ∨ j = 2 ∨ j = 3 ∨ j = 4 ∨ j = 5 ∨ j = 6 ∨ j = 7 ∨ j = 8 ∨ j = 9 ∨ j = 10 ∨ j = 11 ∨ j = 12 ∨ j = 13 ∨ j = 14 ∨ j = 15 := by omega
  rcases this with rfl | rfl | rfl | rfl | rfl | rfl | rfl | rfl | rfl | rfl | rfl | rfl | rfl | rfl | rfl | rfl <;> exact ⟨_, _, rfl, rfl⟩
set_option maxRecDepth 100000 in
set_option maxHeartbeats 6400000 in
theorem kNew_any (cap : Nat) (hc : cap = 2 ∨ cap = 4 ∨ cap = 8) (w : World) (hT : Ru.Tab w) : Calls Tryd.prog 6 #[.int .i64 0, .int .i64 cap] w fun e w' => (∃ g, w.heap.size ≤ g ∧ e = .returned (.pointer (some ⟨g, 0, none⟩)) ∧ Blk w' g 50 (rackC cap 0 0 0)) ∧ Kept [] w w' := by
  have HAt : Hid (∀ (x : Int) (W : World), Kept [] w W → Calls Tryd.prog 13 #[.int .i64 x, .int .i64 cap] W fun e w' => e = .returned (.agg #[.int .i64 x, .int .i64 cap]) ∧ Kept [] W w') := fun x W hk => qAt_any x cap hc (hT.kept hk)
  have HWo : Hid (∀ (W : World), Kept [] w W → Calls Tryd.prog 14 #[.int .i64 cap] W fun e w' => e = .returned (.int .i64 ((cap + 2 : Nat) : Int)) ∧ Kept [] W w') := fun W hk => qWords_any cap hc (hT.kept hk)
  have hcap : cap ≤ 8 := by omega
  clear hT hc
  go_enter Tryd.func6, Tryd.ntmps6
  go_wp2_with fail
  have HG0 : Hid (∀ W, Kept [] w W → Kept [w.heap.size] w W) := fun W h => h.mono (by simp)
  go_loopw [6, 14] (fun av iv wr => ∃ k : Nat, k ≤ 2 ∧ iv = .int .i64 k ∧ av = .int .i64 (atJ cap (k * 8)) ∧ Hid (Blk wr w.heap.size 50 (rackP cap (k * 8))) ∧ Hid (Kept [] w wr)) (fun _ i _ => 2 - (intOf i).toNat)
  case atStart => exact ⟨0, by omega, rfl, by simp [atJ], Blk.new w _ _, (Kept.refl [] w).alloc _⟩
  case round =>
    obtain ⟨k, hk, rfl, rfl, HB, HK⟩ := hrel
    by_cases hk2 : k = 2
    · subst hk2
      go_wp2_with fail
      go_ret
      exact ⟨⟨_, Nat.le_refl _, rfl, rackP_all cap ▸ HB.out⟩, HK.out⟩
    · have hk0 : (0 : Int) ≤ (k : Int) := by omega
      have hk1 : (k : Int) < 2 := by omega
      go_wp2_with fail
      go_loopw [6, 17] (fun av lv wr' => ∃ l : Nat, l ≤ 8 ∧ lv = .int .i64 l ∧ av = .int .i64 (atJ cap (k * 8 + l)) ∧ Hid (Blk wr' w.heap.size 50 (rackP cap (k * 8 + l))) ∧ Hid (Kept [] w wr')) (fun _ i _ => 8 - (intOf i).toNat)
      case atStart => exact ⟨0, by omega, rfl, by simp, (show Hid _ from by rw [Nat.add_zero]; exact HB), HK.out⟩
      case round =>
        obtain ⟨l, hl, rfl, rfl, HB1, HK1⟩ := hrel
        by_cases hl8 : l = 8
        · subst hl8
          go_wp2_with fail
          have e8 : (k + 1) * 8 = k * 8 + 8 := by omega
          refine ⟨⟨k + 1, by omega, by go_num, by rw [e8], by rw [e8]; exact HB1, HK1⟩, ?_⟩
          simp [intOf]
          omega
        · have hl0 : (0 : Int) ≤ (l : Int) := by omega
          have hl1 : (l : Int) < 8 := by omega
          have hj16 : k * 8 + l < 16 := by omega
          obtain ⟨u0, v0, q1, q2⟩ := rackP_at cap (k * 8 + l) hj16
          have hoff : 1 + (k * 8 + l) * 2 = 1 + k * 16 + l * 2 := by omega
          rw [hoff] at q1 q2
          have d1 : wr.cell? ⟨w.heap.size, 1 + k * 16 + l * 2, none⟩ = some u0 := by rw [HB1.out.cell]; exact q1
          have d2 : wr.cell? ⟨w.heap.size, 1 + k * 16 + l * 2 + 1, none⟩ = some v0 := by rw [HB1.out.cell]; exact q2
          have HAt1 := Lib.hid (fun W hk => HAt.out (atJ cap (k * 8 + l)) W (HK1.out.trans hk))
          obtain ⟨aj, haj⟩ : ∃ aj, aj = atJ cap (k * 8 + l) := ⟨_, rfl⟩
          have hajn : aj + (cap + 2) = atJ cap (k * 8 + l + 1) ∧ aj ≤ 200 := by
            have hr := atJ_room' cap (k * 8 + l) hj16
            have h1 : 1 + 16 * (2 + cap) ≤ 161 := by omega
            rw [haj]
            refine ⟨?_, by omega⟩
            have e := Nat.add_mul (k * 8 + l) 1 (2 + cap)
            rw [Nat.one_mul] at e
            unfold atJ
            omega
          simp only [← haj] at HAt1 ⊢
          have HAJ := Lib.hid haj
          clear haj
          go_wp2_with fail
          go_region_with (first
            | (go_at_call 13; refine (HAt1.out _ ((Kept.refl [] wr).drew)).mono ?_; rintro e w1 ⟨rfl, hk1'⟩; have HK2 := Lib.hid (HK1.out.trans ((Kept.refl [] wr).drew.trans hk1')); have hB2 := HB1.out.kept ((Kept.refl [] wr).drew.trans hk1') (by simp); have d1 := hk1'.cell_some (w := wr.drew) d1 (by simp); have d2 := hk1'.cell_some (w := wr.drew) d2 (by simp); have f1 := hB2.frozen (1 + k * 16 + l * 2); have f2 := hB2.frozen (1 + k * 16 + l * 2 + 1); have HB2 := Lib.hid hB2; clear hk1' hB2))
          all_goals
            have HB3 : Hid (Blk ((w1.setCell ⟨w.heap.size, 1 + k * 16 + l * 2, none⟩ (.int .i64 aj)).setCell ⟨w.heap.size, 1 + k * 16 + l * 2 + 1, none⟩ (.int .i64 cap)) w.heap.size 50 (rackP cap (k * 8 + l + 1))) := by
              have h := (HB2.out.set (1 + k * 16 + l * 2) (.int .i64 aj)).set (1 + k * 16 + l * 2 + 1) (.int .i64 cap)
              rw [HAJ.out, ← hoff, rackP_step cap _ hj16] at h
              rw [HAJ.out, ← hoff]
              exact h
            have HK3 : Hid (Kept [] w ((w1.setCell ⟨w.heap.size, 1 + k * 16 + l * 2, none⟩ (.int .i64 aj)).setCell ⟨w.heap.size, 1 + k * 16 + l * 2 + 1, none⟩ (.int .i64 cap))) := (HK2.out.setCell (.inr (Nat.le_refl _)) _).setCell (.inr (Nat.le_refl _)) _
            generalize ((w1.setCell ⟨w.heap.size, 1 + k * 16 + l * 2, none⟩ (.int .i64 aj)).setCell ⟨w.heap.size, 1 + k * 16 + l * 2 + 1, none⟩ (.int .i64 cap)) = w2 at *
            have HWo2 := Lib.hid (HWo.out w2 HK3.out)
            have hwr : IntKind.i64.wrap ((aj : Int) + (cap + 2 : Nat)) = ((aj + (cap + 2) : Nat) : Int) := by rw [IntWalk.i64_in _ (by omega)]; omega
            clear HB2 HK2
            go_wp2_with fail
            refine HWo2.out.mono ?_
            rintro e w3 ⟨rfl, hk3⟩
            have HB4 := Lib.hid (HB3.out.kept hk3 (by simp))
            have HK4 := Lib.hid (HK3.out.trans hk3)
            clear hk3
            go_wp2_with (simp only [hwr])
            refine ⟨⟨l + 1, by omega, by go_num, ?_, HB4, HK4⟩, ?_⟩
            · first | exact congrArg _ (by rw [← Nat.add_assoc, ← hajn.1]; omega) | (rw [← Nat.add_assoc, ← hajn.1]; go_num)
            · simp [intOf]; omega
set_option maxHeartbeats 1600000 in
theorem clamp36 (n : Nat) (hn : n ≤ 1000) (w : World) : Calls Tryd.prog 11 #[.int .i64 n, .int .i64 0, .int .i64 524288] w fun e w' => e = .returned (.int .i64 (n : Nat)) ∧ w = w' := by
  have h1 : ¬ (n : Int) < 0 := by omega
  have HN := Lib.hid hn
  clear hn
  go_enter Tryd.func11, Tryd.ntmps11
  go_wp2
  all_goals
    go_ret
    first
      | exact ⟨rfl, rfl⟩
      | (have := HN.out; exfalso; omega)
set_option maxRecDepth 100000 in
set_option maxHeartbeats 1600000 in
theorem mNew_any (n : Nat) (hn : 1 ≤ n ∧ n ≤ 1000) (w : World) : Calls Tryd.prog 4 #[.int .i64 n] w fun e w' => (∃ mb wb, w.heap.size ≤ mb ∧ w.heap.size ≤ wb ∧ e = .returned (.pointer (some ⟨mb, 0, none⟩)) ∧ Blk w' mb 43 #[.slice (some ⟨wb, 0, none⟩) n n, .int .u64 0] ∧ Blk w' wb 30 (zeros (U64 0) n)) ∧ Kept [] w w' := by
  have hmk : ∀ W, (Instr.makeSlice 31 (.int .i64 (n : Int)) (.int .i64 (n : Int))).run Tryd.prog W = .ok (.slice (some ⟨W.heap.size, 0, none⟩) n n) (W.alloc (.cells (zeros (U64 0) n) 30)) := fun W => run_make_n 31 30 (U64 0) 8 Tryd.underlying31 (by kernel_rfl) rfl n n rfl (by omega) (by omega) W
  have HC := Lib.hid (clamp36 n hn.2 w)
  have hn0 : (0 : Int) ≤ (n : Int) := by omega
  go_enter Tryd.func4, Tryd.ntmps4
  go_wp2_with fail
  refine HC.out.mono ?_
  rintro e w1 ⟨rfl, rfl⟩
  go_wp2_with (simp only [hmk])
  go_ret
  exact ⟨⟨w.heap.size + 1, w.heap.size, by omega, Nat.le_refl _, rfl, Blk.newAt (by simp) _ _, (Blk.new w _ _).alloc _⟩, ((Kept.refl [] w).alloc _).alloc _⟩
end Go.Proofs.YtahpjoknmclbfaaDoor

