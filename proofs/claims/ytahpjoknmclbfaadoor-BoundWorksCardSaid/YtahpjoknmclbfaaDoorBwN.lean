/- Package deque: At, Words for the capacities 2, 4, 8: runs; Push, Pop, Steal. -/
import Derived.Test.YtahpjoknmclbfaaDoorRunH
import Derived.Test.YtahpjoknmclbfaaDoorPlA
namespace Go.Proofs.YtahpjoknmclbfaaDoor
open Go Go.RowKit

namespace Ru
noncomputable def qAtB : Code := match bodyK 13 with | some b => b | none => .skip
noncomputable def qWoB : Code := match bodyK 14 with | some b => b | none => .skip
set_option maxRecDepth 1000000
theorem qAtB_is : bodyK 13 = some qAtB := by kernel_rfl
theorem qWoB_is : bodyK 14 = some qWoB := by kernel_rfl
theorem qAt_tmps : (Nat.ble (tmpsK 13) 65536 && Nat.ble 2 (tmpsK 13)) = true := by kernel_rfl
theorem qWo_tmps : (Nat.ble (tmpsK 14) 65536 && Nat.ble 1 (tmpsK 14)) = true := by kernel_rfl
theorem qAt2_run (x : Int) : valOf (aFin (callK 99 KK 100000) 100000 13 [.code qAtB] ⟨envOf 0 [.int .i64 x, .int .i64 2] .nil, [], H0⟩) = some (.agg #[.int .i64 x, .int .i64 2]) := by kernel_rfl
theorem qWo2_run : valOf (aFin (callK 99 KK 100000) 100000 14 [.code qWoB] ⟨envOf 0 [.int .i64 2] .nil, [], H0⟩) = some (.int .i64 4) := by kernel_rfl
theorem qAt4_run (x : Int) : valOf (aFin (callK 99 KK 100000) 100000 13 [.code qAtB] ⟨envOf 0 [.int .i64 x, .int .i64 4] .nil, [], H0⟩) = some (.agg #[.int .i64 x, .int .i64 4]) := by kernel_rfl
theorem qWo4_run : valOf (aFin (callK 99 KK 100000) 100000 14 [.code qWoB] ⟨envOf 0 [.int .i64 4] .nil, [], H0⟩) = some (.int .i64 6) := by kernel_rfl
theorem qAt8_run (x : Int) : valOf (aFin (callK 99 KK 100000) 100000 13 [.code qAtB] ⟨envOf 0 [.int .i64 x, .int .i64 8] .nil, [], H0⟩) = some (.agg #[.int .i64 x, .int .i64 8]) := by kernel_rfl
theorem qWo8_run : valOf (aFin (callK 99 KK 100000) 100000 14 [.code qWoB] ⟨envOf 0 [.int .i64 8] .nil, [], H0⟩) = some (.int .i64 10) := by kernel_rfl
end Ru
set_option maxRecDepth 100000
theorem qAt_any (x : Int) (c : Nat) (hc : c = 2 ∨ c = 4 ∨ c = 8) {w : World} (hT : Ru.Tab w) : Calls Tryd.prog 13 #[.int .i64 x, .int .i64 c] w fun e w' => e = .returned (.agg #[.int .i64 x, .int .i64 c]) ∧ Kept [] w w' := by
  rcases hc with rfl | rfl | rfl
  · exact (Ru.Reach.start (args := [.int .i64 x, .int .i64 2]) (args' := #[.int .i64 x, .int .i64 2]) Ru.qAtB_is Ru.qAt_tmps (.cons (.lit rfl) (.cons (.lit rfl) .nil))).value (Ru.callK_ok Ru.kok 99 100000) 100000 (Ru.qAt2_run x) (by kernel_rfl) hT
  · exact (Ru.Reach.start (args := [.int .i64 x, .int .i64 4]) (args' := #[.int .i64 x, .int .i64 4]) Ru.qAtB_is Ru.qAt_tmps (.cons (.lit rfl) (.cons (.lit rfl) .nil))).value (Ru.callK_ok Ru.kok 99 100000) 100000 (Ru.qAt4_run x) (by kernel_rfl) hT
  · exact (Ru.Reach.start (args := [.int .i64 x, .int .i64 8]) (args' := #[.int .i64 x, .int .i64 8]) Ru.qAtB_is Ru.qAt_tmps (.cons (.lit rfl) (.cons (.lit rfl) .nil))).value (Ru.callK_ok Ru.kok 99 100000) 100000 (Ru.qAt8_run x) (by kernel_rfl) hT
theorem qWords_any (c : Nat) (hc : c = 2 ∨ c = 4 ∨ c = 8) {w : World} (hT : Ru.Tab w) : Calls Tryd.prog 14 #[.int .i64 c] w fun e w' => e = .returned (.int .i64 ((c + 2 : Nat) : Int)) ∧ Kept [] w w' := by
  rcases hc with rfl | rfl | rfl
  · exact (Ru.Reach.start (args := [.int .i64 2]) (args' := #[.int .i64 2]) Ru.qWoB_is Ru.qWo_tmps (.cons (.lit rfl) .nil)).value (Ru.callK_ok Ru.kok 99 100000) 100000 Ru.qWo2_run (by kernel_rfl) hT
  · exact (Ru.Reach.start (args := [.int .i64 4]) (args' := #[.int .i64 4]) Ru.qWoB_is Ru.qWo_tmps (.cons (.lit rfl) .nil)).value (Ru.callK_ok Ru.kok 99 100000) 100000 Ru.qWo4_run (by kernel_rfl) hT
  · exact (Ru.Reach.start (args := [.int .i64 8]) (args' := #[.int .i64 8]) Ru.qWoB_is Ru.qWo_tmps (.cons (.lit rfl) .nil)).value (Ru.callK_ok Ru.kok 99 100000) 100000 Ru.qWo8_run (by kernel_rfl) hT
set_option maxHeartbeats 1600000 in
theorem qSteal_any (base cap : Nat) (w : World) : Calls Tryd.prog 43 #[.agg #[.int .i64 base, .int .i64 cap]] w fun e w' => (∃ g, w.heap.size ≤ g ∧ e = .returned (.pointer (some ⟨g, 0, none⟩)) ∧ Blk w' g 88 (opC ⟨base, cap, 2, 0, 0, 0, 0, false, false, 0⟩)) ∧ Kept [] w w' := by
  go_enter Tryd.func43, Tryd.ntmps43
  go_wp2
  go_ret
  exact ⟨⟨w.heap.size + 1, by omega, rfl, Blk.newAt (by simp) _ _⟩, ((Kept.refl [] w).alloc _).alloc _⟩
set_option maxHeartbeats 1600000 in
theorem qPop_any (base cap : Nat) (w : World) : Calls Tryd.prog 46 #[.agg #[.int .i64 base, .int .i64 cap]] w fun e w' => (∃ g, w.heap.size ≤ g ∧ e = .returned (.pointer (some ⟨g, 0, none⟩)) ∧ Blk w' g 88 (opC ⟨base, cap, 1, 0, 0, 0, 0, false, false, 0⟩)) ∧ Kept [] w w' := by
  go_enter Tryd.func46, Tryd.ntmps46
  go_wp2
  go_ret
  exact ⟨⟨w.heap.size + 1, by omega, rfl, Blk.newAt (by simp) _ _⟩, ((Kept.refl [] w).alloc _).alloc _⟩
set_option maxHeartbeats 1600000 in
theorem qPush_any (base cap x : Nat) (w : World) : Calls Tryd.prog 37 #[.agg #[.int .i64 base, .int .i64 cap], U64 x] w fun e w' => (∃ g, w.heap.size ≤ g ∧ e = .returned (.pointer (some ⟨g, 0, none⟩)) ∧ Blk w' g 88 (opC ⟨base, cap, 0, 0, 0, 0, x, false, false, 0⟩)) ∧ Kept [] w w' := by
  go_enter Tryd.func37, Tryd.ntmps37
  go_wp2
  go_ret
  exact ⟨⟨w.heap.size + 1, by omega, rfl, Blk.newAt (by simp) _ _⟩, ((Kept.refl [] w).alloc _).alloc _⟩
end Go.Proofs.YtahpjoknmclbfaaDoor
