/- Package duty: of, numbers; the document's numbers and small. -/
import Derived.Test.YtladfdpcdjjifaaGreatDoorDeedC
import Derived.Laws.Externs
import Derived.Deep.RegionHeld3
namespace Go.Proofs.YtladfdpcdjjifaaGreatDoor
open Go.RowKit

theorem from_run (n : Nat) (w : World) : (callFunc 36 #[.int .u64 (n : Int)]).run Tryz.prog w = .ok (.value (.float .f64 n)) w := by
  rw [run_callFunc_extern Tryz.func36 (by kernel_rfl) (by kernel_rfl) (by kernel_rfl) (e := Extern.MathFloatBits.float64frombits) (by kernel_rfl)]
  rfl
theorem bits_run (b : Nat) (w : World) : (callFunc 43 #[.float .f64 b]).run Tryz.prog w = .ok (.value (.int .u64 (b : Int))) w := by
  rw [run_callFunc_extern Tryz.func43 (by kernel_rfl) (by kernel_rfl) (by kernel_rfl) (e := Extern.MathFloatBits.float64bits) (by kernel_rfl)]
  rfl

theorem run_store_float {P : Program} {w : World} {a : Addr} {m : Mode} (k : FloatKind) (b : Nat) : (store a (.float k b) m).run P w = stored P w a (.float k b) m := run_store P w a _ m rfl

/-- A number, held. -/
def smallN (x : Nat) : Int := (min x 2147483647 : Nat)
theorem of1_any (x : Nat) (w : World) (hx : x < 18446744073709551616) : Calls Tryz.prog 57 #[.int .u64 x] w fun e w' => e = .returned (.int .i64 (smallN x)) ∧ w = w' := by
  unfold smallN
  go_enter Tryz.func57, Tryz.ntmps57
  go_wp2_with fail
  go_ret
  refine ⟨ret_int ?_, rfl⟩
  omega
theorem refSmall9 (x : Nat) (w : World) (hx : x < 18446744073709551616) : Calls Tryz.prog 35 #[.int .u64 x] w fun e w' => e = .returned (.int .i64 (smallN x)) ∧ w = w' := by
  unfold smallN
  by_cases h : 2147483647 < x
  · have b1 : decide ((2147483647 : Int) < (x : Int)) = true := by simp; omega
    go_enter Tryz.func35, Tryz.ntmps35
    go_wp2_with fail
    go_ret
    exact ⟨ret_int (by omega), rfl⟩
  · have b1 : decide ((2147483647 : Int) < (x : Int)) = false := by simp; omega
    have hw : IntKind.i64.wrap (x : Int) = (x : Int) := IntWalk.i64_in _ (by omega)
    go_enter Tryz.func35, Tryz.ntmps35
    go_wp2_with fail
    go_ret
    exact ⟨ret_int (by omega), rfl⟩

attribute [local go_sem] from_run bits_run run_store_float
set_option maxHeartbeats 3200000 in
set_option maxRecDepth 100000 in
theorem of_any (x0 x1 x2 x3 x4 x5 x6 : Nat) (w : World) (h0 : x0 < 18446744073709551616) (h1 : x1 < 18446744073709551616) (h2 : x2 < 18446744073709551616) (h3 : x3 < 18446744073709551616) :
    Calls Tryz.prog 24 #[.agg #[.int .u64 x0, .int .u64 x1, .int .u64 x2, .int .u64 x3, .int .u64 x4, .int .u64 x5, .int .u64 x6]] w fun e w' => e = .returned (.agg (uC ⟨smallN x0, smallN x1, smallN x2, smallN x3, x4, x5, x6, [], []⟩ none 0 0 none 0 0)) ∧ Kept [] w w' := by
  have H0 := Lib.hid (fun w => of1_any x0 w h0)
  have H1 := Lib.hid (fun w => of1_any x1 w h1)
  have H2 := Lib.hid (fun w => of1_any x2 w h2)
  have H3 := Lib.hid (fun w => of1_any x3 w h3)
  simp only [uC]
  generalize smallN x0 = y0 at *
  generalize smallN x1 = y1 at *
  generalize smallN x2 = y2 at *
  generalize smallN x3 = y3 at *
  go_enter Tryz.func24, Tryz.ntmps24
  go_wp2_with fail
  have HA : Hid (Blk ((w.alloc (.cells #[.int .u64 (x0 : Int), .int .u64 x1, .int .u64 x2, .int .u64 x3, .int .u64 x4, .int .u64 x5, .int .u64 x6] 44)).alloc (.cells #[.int .i64 0, .int .i64 0, .int .i64 0, .int .i64 0, .int .u64 0, .float .f64 0, .float .f64 0, .slice none 0 0, .slice none 0 0] 27)) w.heap.size 44 #[.int .u64 (x0 : Int), .int .u64 x1, .int .u64 x2, .int .u64 x3, .int .u64 x4, .int .u64 x5, .int .u64 x6]) := (Blk.new w _ _).alloc _
  have HR : Hid (Blk ((w.alloc (.cells #[.int .u64 (x0 : Int), .int .u64 x1, .int .u64 x2, .int .u64 x3, .int .u64 x4, .int .u64 x5, .int .u64 x6] 44)).alloc (.cells #[.int .i64 0, .int .i64 0, .int .i64 0, .int .i64 0, .int .u64 0, .float .f64 0, .float .f64 0, .slice none 0 0, .slice none 0 0] 27)) (w.heap.size + 1) 27 #[.int .i64 0, .int .i64 0, .int .i64 0, .int .i64 0, .int .u64 0, .float .f64 0, .float .f64 0, .slice none 0 0, .slice none 0 0]) := Blk.newAt (by simp) _ _
  have HK : Hid (Kept [] w ((w.alloc (.cells #[.int .u64 (x0 : Int), .int .u64 x1, .int .u64 x2, .int .u64 x3, .int .u64 x4, .int .u64 x5, .int .u64 x6] 44)).alloc (.cells #[.int .i64 0, .int .i64 0, .int .i64 0, .int .i64 0, .int .u64 0, .float .f64 0, .float .f64 0, .slice none 0 0, .slice none 0 0] 27))) := ((Kept.refl _ _).alloc _).alloc _
  generalize (w.alloc (.cells #[.int .u64 (x0 : Int), .int .u64 x1, .int .u64 x2, .int .u64 x3, .int .u64 x4, .int .u64 x5, .int .u64 x6] 44)).alloc (.cells #[.int .i64 0, .int .i64 0, .int .i64 0, .int .i64 0, .int .u64 0, .float .f64 0, .float .f64 0, .slice none 0 0, .slice none 0 0] 27) = w2 at *
  have hcA := HA.out.cell
  have hcR := HR.out.cell
  have hfR := HR.out.frozen
  have hlR := HR.out.lt
  go_region_held3 (fun w' => w'.cell? ⟨w.heap.size, 0, none⟩ = some (.int .u64 x0) ∧ w'.cell? ⟨w.heap.size, 1, none⟩ = some (.int .u64 x1) ∧ w'.cell? ⟨w.heap.size, 2, none⟩ = some (.int .u64 x2) ∧ w'.cell? ⟨w.heap.size, 3, none⟩ = some (.int .u64 x3) ∧ w'.cell? ⟨w.heap.size, 4, none⟩ = some (.int .u64 x4) ∧ w'.cell? ⟨w.heap.size, 5, none⟩ = some (.int .u64 x5) ∧ w'.cell? ⟨w.heap.size, 6, none⟩ = some (.int .u64 x6)) (go_keep) (first | (go_at_call 57; first | (refine (H0.out _).mono ?_; rintro e w4 ⟨rfl, rfl⟩) | (refine (H1.out _).mono ?_; rintro e w4 ⟨rfl, rfl⟩) | (refine (H2.out _).mono ?_; rintro e w4 ⟨rfl, rfl⟩) | (refine (H3.out _).mono ?_; rintro e w4 ⟨rfl, rfl⟩)))
  all_goals
    have hF := ((((((((((HR.out.set 0 (.int .i64 y0)).set 1 (.int .i64 y1)).set 2 (.int .i64 y2)).set 3 (.int .i64 y3)).set 4 (.int .u64 (x4 : Int))).set 5 (.float .f64 x5)).set 6 (.float .f64 x6)).set 7 (.slice none 0 0)).set 8 (.slice none 0 0))).drew.cell
    have hFK := ((((((((((HK.out.setCell (p := ⟨w.heap.size + 1, 0, none⟩) (.inr (by simp)) (.int .i64 y0)).setCell (p := ⟨w.heap.size + 1, 1, none⟩) (.inr (by simp)) (.int .i64 y1)).setCell (p := ⟨w.heap.size + 1, 2, none⟩) (.inr (by simp)) (.int .i64 y2)).setCell (p := ⟨w.heap.size + 1, 3, none⟩) (.inr (by simp)) (.int .i64 y3)).setCell (p := ⟨w.heap.size + 1, 4, none⟩) (.inr (by simp)) (.int .u64 (x4 : Int))).setCell (p := ⟨w.heap.size + 1, 5, none⟩) (.inr (by simp)) (.float .f64 x5)).setCell (p := ⟨w.heap.size + 1, 6, none⟩) (.inr (by simp)) (.float .f64 x6)).setCell (p := ⟨w.heap.size + 1, 7, none⟩) (.inr (by simp)) (.slice none 0 0)).setCell (p := ⟨w.heap.size + 1, 8, none⟩) (.inr (by simp)) (.slice none 0 0))).drew
    go_wp2_with fail
    refine bodyPost_ret (v := .agg #[.int .i64 y0, .int .i64 y1, .int .i64 y2, .int .i64 y3, .int .u64 (x4 : Int), .float .f64 x5, .float .f64 x6, .slice none 0 0, .slice none 0 0]) (by simp [results, Tryz.results24, go_sem, hF]) rfl ?_
    exact ⟨rfl, hFK⟩

/-- A duty's numbers. -/
def numsC (d : Du) : Array Value := #[.int .u64 (IntKind.u64.wrap d.cpus), .int .u64 (IntKind.u64.wrap d.threads), .int .u64 (IntKind.u64.wrap d.locks), .int .u64 (IntKind.u64.wrap d.cap), .int .u64 (d.boost : Int), .int .u64 (d.keep : Int), .int .u64 (d.ratio : Int)]

set_option maxHeartbeats 3200000 in
set_option maxRecDepth 100000 in
theorem unumbers_any (d : Du) (A : Option Addr) (n c : Nat) (B : Option Addr) (m e : Nat) (w : World) : Calls Tryz.prog 45 #[.agg (uC d A n c B m e)] w fun e w' => e = .returned (.agg (numsC d)) ∧ Kept [] w w' := by
  obtain ⟨cpus, threads, locks, cap, boost, keep, ratio, progs, starts⟩ := d
  simp only [uC, numsC]
  go_enter Tryz.func45, Tryz.ntmps45
  go_wp2_with fail
  have HA : Hid (Blk ((w.alloc (.cells #[.int .i64 cpus, .int .i64 threads, .int .i64 locks, .int .i64 cap, .int .u64 boost, .float .f64 keep, .float .f64 ratio, .slice A n c, .slice B m e] 27)).alloc (.cells #[.int .u64 0, .int .u64 0, .int .u64 0, .int .u64 0, .int .u64 0, .int .u64 0, .int .u64 0] 44)) w.heap.size 27 #[.int .i64 cpus, .int .i64 threads, .int .i64 locks, .int .i64 cap, .int .u64 boost, .float .f64 keep, .float .f64 ratio, .slice A n c, .slice B m e]) := (Blk.new w _ _).alloc _
  have HR : Hid (Blk ((w.alloc (.cells #[.int .i64 cpus, .int .i64 threads, .int .i64 locks, .int .i64 cap, .int .u64 boost, .float .f64 keep, .float .f64 ratio, .slice A n c, .slice B m e] 27)).alloc (.cells #[.int .u64 0, .int .u64 0, .int .u64 0, .int .u64 0, .int .u64 0, .int .u64 0, .int .u64 0] 44)) (w.heap.size + 1) 44 #[.int .u64 0, .int .u64 0, .int .u64 0, .int .u64 0, .int .u64 0, .int .u64 0, .int .u64 0]) := Blk.newAt (by simp) _ _
  have HK : Hid (Kept [] w ((w.alloc (.cells #[.int .i64 cpus, .int .i64 threads, .int .i64 locks, .int .i64 cap, .int .u64 boost, .float .f64 keep, .float .f64 ratio, .slice A n c, .slice B m e] 27)).alloc (.cells #[.int .u64 0, .int .u64 0, .int .u64 0, .int .u64 0, .int .u64 0, .int .u64 0, .int .u64 0] 44))) := ((Kept.refl _ _).alloc _).alloc _
  generalize (w.alloc (.cells #[.int .i64 cpus, .int .i64 threads, .int .i64 locks, .int .i64 cap, .int .u64 boost, .float .f64 keep, .float .f64 ratio, .slice A n c, .slice B m e] 27)).alloc (.cells #[.int .u64 0, .int .u64 0, .int .u64 0, .int .u64 0, .int .u64 0, .int .u64 0, .int .u64 0] 44) = w2 at *
  have hcA := HA.out.cell
  have hcR := HR.out.cell
  have hfR := HR.out.frozen
  have hlR := HR.out.lt
  go_region_held3 (fun w' => w'.cell? ⟨w.heap.size, 0, none⟩ = some (.int .i64 cpus) ∧ w'.cell? ⟨w.heap.size, 1, none⟩ = some (.int .i64 threads) ∧ w'.cell? ⟨w.heap.size, 2, none⟩ = some (.int .i64 locks) ∧ w'.cell? ⟨w.heap.size, 3, none⟩ = some (.int .i64 cap) ∧ w'.cell? ⟨w.heap.size, 4, none⟩ = some (.int .u64 (boost : Int)) ∧ w'.cell? ⟨w.heap.size, 5, none⟩ = some (.float .f64 keep) ∧ w'.cell? ⟨w.heap.size, 6, none⟩ = some (.float .f64 ratio)) (go_keep) (fail)
  all_goals
    have hF := ((((((((HR.out.set 0 (.int .u64 (IntKind.u64.wrap cpus))).set 1 (.int .u64 (IntKind.u64.wrap threads))).set 2 (.int .u64 (IntKind.u64.wrap locks))).set 3 (.int .u64 (IntKind.u64.wrap cap))).set 4 (.int .u64 (boost : Int))).set 5 (.int .u64 (keep : Int))).set 6 (.int .u64 (ratio : Int)))).drew.cell
    have hFK := ((((((((HK.out.setCell (p := ⟨w.heap.size + 1, 0, none⟩) (.inr (by simp)) (.int .u64 (IntKind.u64.wrap cpus))).setCell (p := ⟨w.heap.size + 1, 1, none⟩) (.inr (by simp)) (.int .u64 (IntKind.u64.wrap threads))).setCell (p := ⟨w.heap.size + 1, 2, none⟩) (.inr (by simp)) (.int .u64 (IntKind.u64.wrap locks))).setCell (p := ⟨w.heap.size + 1, 3, none⟩) (.inr (by simp)) (.int .u64 (IntKind.u64.wrap cap))).setCell (p := ⟨w.heap.size + 1, 4, none⟩) (.inr (by simp)) (.int .u64 (boost : Int))).setCell (p := ⟨w.heap.size + 1, 5, none⟩) (.inr (by simp)) (.int .u64 (keep : Int))).setCell (p := ⟨w.heap.size + 1, 6, none⟩) (.inr (by simp)) (.int .u64 (ratio : Int)))).drew
    go_wp2_with fail
    refine bodyPost_ret (v := .agg #[.int .u64 (IntKind.u64.wrap cpus), .int .u64 (IntKind.u64.wrap threads), .int .u64 (IntKind.u64.wrap locks), .int .u64 (IntKind.u64.wrap cap), .int .u64 (boost : Int), .int .u64 (keep : Int), .int .u64 (ratio : Int)]) (by simp [results, Tryz.results45, go_sem, hF]) rfl ?_
    exact ⟨rfl, hFK⟩
set_option maxHeartbeats 3200000 in
set_option maxRecDepth 100000 in
theorem R9numbers_any (d : Du) (A : Option Addr) (n c : Nat) (B : Option Addr) (m e : Nat) (w : World) : Calls Tryz.prog 17 #[.agg (uC d A n c B m e)] w fun e w' => e = .returned (.agg (numsC d)) ∧ Kept [] w w' := by
  obtain ⟨cpus, threads, locks, cap, boost, keep, ratio, progs, starts⟩ := d
  simp only [uC, numsC]
  go_enter Tryz.func17, Tryz.ntmps17
  go_wp2_with fail
  have HA : Hid (Blk ((w.alloc (.cells #[.int .i64 cpus, .int .i64 threads, .int .i64 locks, .int .i64 cap, .int .u64 boost, .float .f64 keep, .float .f64 ratio, .slice A n c, .slice B m e] 27)).alloc (.cells #[.int .u64 0, .int .u64 0, .int .u64 0, .int .u64 0, .int .u64 0, .int .u64 0, .int .u64 0] 44)) w.heap.size 27 #[.int .i64 cpus, .int .i64 threads, .int .i64 locks, .int .i64 cap, .int .u64 boost, .float .f64 keep, .float .f64 ratio, .slice A n c, .slice B m e]) := (Blk.new w _ _).alloc _
  have HR : Hid (Blk ((w.alloc (.cells #[.int .i64 cpus, .int .i64 threads, .int .i64 locks, .int .i64 cap, .int .u64 boost, .float .f64 keep, .float .f64 ratio, .slice A n c, .slice B m e] 27)).alloc (.cells #[.int .u64 0, .int .u64 0, .int .u64 0, .int .u64 0, .int .u64 0, .int .u64 0, .int .u64 0] 44)) (w.heap.size + 1) 44 #[.int .u64 0, .int .u64 0, .int .u64 0, .int .u64 0, .int .u64 0, .int .u64 0, .int .u64 0]) := Blk.newAt (by simp) _ _
  have HK : Hid (Kept [] w ((w.alloc (.cells #[.int .i64 cpus, .int .i64 threads, .int .i64 locks, .int .i64 cap, .int .u64 boost, .float .f64 keep, .float .f64 ratio, .slice A n c, .slice B m e] 27)).alloc (.cells #[.int .u64 0, .int .u64 0, .int .u64 0, .int .u64 0, .int .u64 0, .int .u64 0, .int .u64 0] 44))) := ((Kept.refl _ _).alloc _).alloc _
  generalize (w.alloc (.cells #[.int .i64 cpus, .int .i64 threads, .int .i64 locks, .int .i64 cap, .int .u64 boost, .float .f64 keep, .float .f64 ratio, .slice A n c, .slice B m e] 27)).alloc (.cells #[.int .u64 0, .int .u64 0, .int .u64 0, .int .u64 0, .int .u64 0, .int .u64 0, .int .u64 0] 44) = w2 at *
  have hcA := HA.out.cell
  have hcR := HR.out.cell
  have hfR := HR.out.frozen
  have hlR := HR.out.lt
  go_region_held3 (fun w' => w'.cell? ⟨w.heap.size, 0, none⟩ = some (.int .i64 cpus) ∧ w'.cell? ⟨w.heap.size, 1, none⟩ = some (.int .i64 threads) ∧ w'.cell? ⟨w.heap.size, 2, none⟩ = some (.int .i64 locks) ∧ w'.cell? ⟨w.heap.size, 3, none⟩ = some (.int .i64 cap) ∧ w'.cell? ⟨w.heap.size, 4, none⟩ = some (.int .u64 (boost : Int)) ∧ w'.cell? ⟨w.heap.size, 5, none⟩ = some (.float .f64 keep) ∧ w'.cell? ⟨w.heap.size, 6, none⟩ = some (.float .f64 ratio)) (go_keep) (fail)
  all_goals
    have hF := ((((((((HR.out.set 0 (.int .u64 (IntKind.u64.wrap cpus))).set 1 (.int .u64 (IntKind.u64.wrap threads))).set 2 (.int .u64 (IntKind.u64.wrap locks))).set 3 (.int .u64 (IntKind.u64.wrap cap))).set 4 (.int .u64 (boost : Int))).set 5 (.int .u64 (keep : Int))).set 6 (.int .u64 (ratio : Int)))).drew.cell
    have hFK := ((((((((HK.out.setCell (p := ⟨w.heap.size + 1, 0, none⟩) (.inr (by simp)) (.int .u64 (IntKind.u64.wrap cpus))).setCell (p := ⟨w.heap.size + 1, 1, none⟩) (.inr (by simp)) (.int .u64 (IntKind.u64.wrap threads))).setCell (p := ⟨w.heap.size + 1, 2, none⟩) (.inr (by simp)) (.int .u64 (IntKind.u64.wrap locks))).setCell (p := ⟨w.heap.size + 1, 3, none⟩) (.inr (by simp)) (.int .u64 (IntKind.u64.wrap cap))).setCell (p := ⟨w.heap.size + 1, 4, none⟩) (.inr (by simp)) (.int .u64 (boost : Int))).setCell (p := ⟨w.heap.size + 1, 5, none⟩) (.inr (by simp)) (.int .u64 (keep : Int))).setCell (p := ⟨w.heap.size + 1, 6, none⟩) (.inr (by simp)) (.int .u64 (ratio : Int)))).drew
    go_wp2_with fail
    refine bodyPost_ret (v := .agg #[.int .u64 (IntKind.u64.wrap cpus), .int .u64 (IntKind.u64.wrap threads), .int .u64 (IntKind.u64.wrap locks), .int .u64 (IntKind.u64.wrap cap), .int .u64 (boost : Int), .int .u64 (keep : Int), .int .u64 (ratio : Int)]) (by simp [results, Tryz.results17, go_sem, hF]) rfl ?_
    exact ⟨rfl, hFK⟩

end Go.Proofs.YtladfdpcdjjifaaGreatDoor
