/- Package audit: Text of a fault. -/
import Derived.Test.YthahmfeaekddnaaGreatDoorAuT
namespace Go.Proofs.YthahmfeaekddnaaGreatDoor
open Go.RowKit Go.Sort
attribute [local go_sem ↓] Go.wp_at_zero Go.wp_at_succ

attribute [local irreducible] dec
set_option maxRecDepth 100000 in
set_option maxHeartbeats 6400000 in
theorem auText_good1 (s c : Nat) (w : World) (hs : s ≤ 9223372036854775807) (hcc : c ≤ 9223372036854775807) (hP : HasPow w) :
    Calls Tryz.prog 30 #[.agg #[.int .i64 1, .int .i64 s, .int .i64 c]] w fun e w' => e = .returned (strV (textD 1 s c)) ∧ Kept [] w w' := by
  have HF : Hid (textD 1 s c = (((faultD 1 ++ [32]) ++ dec s) ++ [32]) ++ dec c) := by
    show textD 1 s c = _
    rw [textD, if_pos (by omega)]; rfl
  have HL := Lib.hid (fun (x : Nat) w h1 h2 => itoa_any x w h1 h2)
  have l1 := decs_len s (by omega)
  have l2 := decs_len c (by omega)
  have HP := Lib.hid hP
  have hB := Lib.hid (Blk.new w 67 #[.int .i64 1, .int .i64 s, .int .i64 c])
  have hK := Lib.hid ((Kept.refl [] w).alloc (.cells #[.int .i64 1, .int .i64 s, .int .i64 c] 67))
  have hc := hB.out.cell
  have HA1 := Lib.hid (str_append (faultD 1) [32])
  have HA2 := Lib.hid (str_append (faultD 1 ++ [32]) (dec s))
  have HA3 := Lib.hid (str_append ((faultD 1 ++ [32]) ++ dec s) [32])
  have HA4 := Lib.hid (str_append (((faultD 1 ++ [32]) ++ dec s) ++ [32]) (dec c))
  have hix : ∀ W, (Instr.index 140 (.agg #[.string { data := #[] }, .string { data := #[108, 111, 115, 116] }, .string { data := #[116, 119, 105, 99, 101] }, .string { data := #[97, 115, 116, 114, 97, 121] }, .string { data := #[99, 114, 111, 119, 100] }]) (.int .i64 1)).run Tryz.prog W = .ok (strV (faultD 1)) W := fun _ => by kernel_rfl
  have l0 : (faultD 1).length ≤ 8 := by decide
  have n1 : ¬ 9223372036854775807 < (faultD 1).length + 1 := by omega
  have n2 : ¬ 9223372036854775807 < (faultD 1).length + 1 + (dec s).length := by omega
  have n3 : ¬ 9223372036854775807 < (faultD 1).length + 1 + (dec s).length + 1 := by omega
  have n4 : ¬ 9223372036854775807 < (faultD 1).length + 1 + (dec s).length + 1 + (dec c).length := by omega
  generalize faultD 1 = fd at *
  clear hP
  go_enter Tryz.func30, Tryz.ntmps30
  go_wp2_with fail
  go_region_held3 (fun w' => w'.cell? ⟨w.heap.size, 0, none⟩ = some (.int .i64 1) ∧ w'.cell? ⟨w.heap.size, 1, none⟩ = some (.int .i64 s) ∧ w'.cell? ⟨w.heap.size, 2, none⟩ = some (.int .i64 c)) (go_keep) (first | (go_at_call 72; refine (HL.out _ _ (by omega) (by first | exact HP.out.old hK.out | exact HP.out.old hK.out.drew)).mono ?_; rintro e w1 ⟨rfl, hk1⟩; have hB := Lib.hid (Blk.kept (hk := hk1) (h := by exact hB.out) (hg := by simp)); have hc := hB.out.cell; have hK := Lib.hid (Kept.trans (h := by first | exact hK.out | exact hK.out.drew) (h' := hk1)); clear hk1) | fail)
  all_goals
    go_wp2_with fail
    go_ret
    exact ⟨by rw [HF.out]; rfl, hK.out⟩
set_option maxRecDepth 100000 in
set_option maxHeartbeats 6400000 in
theorem auText_good2 (s c : Nat) (w : World) (hs : s ≤ 9223372036854775807) (hcc : c ≤ 9223372036854775807) (hP : HasPow w) :
    Calls Tryz.prog 30 #[.agg #[.int .i64 2, .int .i64 s, .int .i64 c]] w fun e w' => e = .returned (strV (textD 2 s c)) ∧ Kept [] w w' := by
  have HF : Hid (textD 2 s c = (((faultD 2 ++ [32]) ++ dec s) ++ [32]) ++ dec c) := by
    show textD 2 s c = _
    rw [textD, if_pos (by omega)]; rfl
  have HL := Lib.hid (fun (x : Nat) w h1 h2 => itoa_any x w h1 h2)
  have l1 := decs_len s (by omega)
  have l2 := decs_len c (by omega)
  have HP := Lib.hid hP
  have hB := Lib.hid (Blk.new w 67 #[.int .i64 2, .int .i64 s, .int .i64 c])
  have hK := Lib.hid ((Kept.refl [] w).alloc (.cells #[.int .i64 2, .int .i64 s, .int .i64 c] 67))
  have hc := hB.out.cell
  have HA1 := Lib.hid (str_append (faultD 2) [32])
  have HA2 := Lib.hid (str_append (faultD 2 ++ [32]) (dec s))
  have HA3 := Lib.hid (str_append ((faultD 2 ++ [32]) ++ dec s) [32])
  have HA4 := Lib.hid (str_append (((faultD 2 ++ [32]) ++ dec s) ++ [32]) (dec c))
  have hix : ∀ W, (Instr.index 140 (.agg #[.string { data := #[] }, .string { data := #[108, 111, 115, 116] }, .string { data := #[116, 119, 105, 99, 101] }, .string { data := #[97, 115, 116, 114, 97, 121] }, .string { data := #[99, 114, 111, 119, 100] }]) (.int .i64 2)).run Tryz.prog W = .ok (strV (faultD 2)) W := fun _ => by kernel_rfl
  have l0 : (faultD 2).length ≤ 8 := by decide
  have n1 : ¬ 9223372036854775807 < (faultD 2).length + 1 := by omega
  have n2 : ¬ 9223372036854775807 < (faultD 2).length + 1 + (dec s).length := by omega
  have n3 : ¬ 9223372036854775807 < (faultD 2).length + 1 + (dec s).length + 1 := by omega
  have n4 : ¬ 9223372036854775807 < (faultD 2).length + 1 + (dec s).length + 1 + (dec c).length := by omega
  generalize faultD 2 = fd at *
  clear hP
  go_enter Tryz.func30, Tryz.ntmps30
  go_wp2_with fail
  go_region_held3 (fun w' => w'.cell? ⟨w.heap.size, 0, none⟩ = some (.int .i64 2) ∧ w'.cell? ⟨w.heap.size, 1, none⟩ = some (.int .i64 s) ∧ w'.cell? ⟨w.heap.size, 2, none⟩ = some (.int .i64 c)) (go_keep) (first | (go_at_call 72; refine (HL.out _ _ (by omega) (by first | exact HP.out.old hK.out | exact HP.out.old hK.out.drew)).mono ?_; rintro e w1 ⟨rfl, hk1⟩; have hB := Lib.hid (Blk.kept (hk := hk1) (h := by exact hB.out) (hg := by simp)); have hc := hB.out.cell; have hK := Lib.hid (Kept.trans (h := by first | exact hK.out | exact hK.out.drew) (h' := hk1)); clear hk1) | fail)
  all_goals
    go_wp2_with fail
    go_ret
    exact ⟨by rw [HF.out]; rfl, hK.out⟩
set_option maxRecDepth 100000 in
set_option maxHeartbeats 6400000 in
theorem auText_good3 (s c : Nat) (w : World) (hs : s ≤ 9223372036854775807) (hcc : c ≤ 9223372036854775807) (hP : HasPow w) :
    Calls Tryz.prog 30 #[.agg #[.int .i64 3, .int .i64 s, .int .i64 c]] w fun e w' => e = .returned (strV (textD 3 s c)) ∧ Kept [] w w' := by
  have HF : Hid (textD 3 s c = (((faultD 3 ++ [32]) ++ dec s) ++ [32]) ++ dec c) := by
    show textD 3 s c = _
    rw [textD, if_pos (by omega)]; rfl
  have HL := Lib.hid (fun (x : Nat) w h1 h2 => itoa_any x w h1 h2)
  have l1 := decs_len s (by omega)
  have l2 := decs_len c (by omega)
  have HP := Lib.hid hP
  have hB := Lib.hid (Blk.new w 67 #[.int .i64 3, .int .i64 s, .int .i64 c])
  have hK := Lib.hid ((Kept.refl [] w).alloc (.cells #[.int .i64 3, .int .i64 s, .int .i64 c] 67))
  have hc := hB.out.cell
  have HA1 := Lib.hid (str_append (faultD 3) [32])
  have HA2 := Lib.hid (str_append (faultD 3 ++ [32]) (dec s))
  have HA3 := Lib.hid (str_append ((faultD 3 ++ [32]) ++ dec s) [32])
  have HA4 := Lib.hid (str_append (((faultD 3 ++ [32]) ++ dec s) ++ [32]) (dec c))
  have hix : ∀ W, (Instr.index 140 (.agg #[.string { data := #[] }, .string { data := #[108, 111, 115, 116] }, .string { data := #[116, 119, 105, 99, 101] }, .string { data := #[97, 115, 116, 114, 97, 121] }, .string { data := #[99, 114, 111, 119, 100] }]) (.int .i64 3)).run Tryz.prog W = .ok (strV (faultD 3)) W := fun _ => by kernel_rfl
  have l0 : (faultD 3).length ≤ 8 := by decide
  have n1 : ¬ 9223372036854775807 < (faultD 3).length + 1 := by omega
  have n2 : ¬ 9223372036854775807 < (faultD 3).length + 1 + (dec s).length := by omega
  have n3 : ¬ 9223372036854775807 < (faultD 3).length + 1 + (dec s).length + 1 := by omega
  have n4 : ¬ 9223372036854775807 < (faultD 3).length + 1 + (dec s).length + 1 + (dec c).length := by omega
  generalize faultD 3 = fd at *
  clear hP
  go_enter Tryz.func30, Tryz.ntmps30
  go_wp2_with fail
  go_region_held3 (fun w' => w'.cell? ⟨w.heap.size, 0, none⟩ = some (.int .i64 3) ∧ w'.cell? ⟨w.heap.size, 1, none⟩ = some (.int .i64 s) ∧ w'.cell? ⟨w.heap.size, 2, none⟩ = some (.int .i64 c)) (go_keep) (first | (go_at_call 72; refine (HL.out _ _ (by omega) (by first | exact HP.out.old hK.out | exact HP.out.old hK.out.drew)).mono ?_; rintro e w1 ⟨rfl, hk1⟩; have hB := Lib.hid (Blk.kept (hk := hk1) (h := by exact hB.out) (hg := by simp)); have hc := hB.out.cell; have hK := Lib.hid (Kept.trans (h := by first | exact hK.out | exact hK.out.drew) (h' := hk1)); clear hk1) | fail)
  all_goals
    go_wp2_with fail
    go_ret
    exact ⟨by rw [HF.out]; rfl, hK.out⟩
set_option maxRecDepth 100000 in
set_option maxHeartbeats 6400000 in
theorem auText_good4 (s c : Nat) (w : World) (hs : s ≤ 9223372036854775807) (hcc : c ≤ 9223372036854775807) (hP : HasPow w) :
    Calls Tryz.prog 30 #[.agg #[.int .i64 4, .int .i64 s, .int .i64 c]] w fun e w' => e = .returned (strV (textD 4 s c)) ∧ Kept [] w w' := by
  have HF : Hid (textD 4 s c = (((faultD 4 ++ [32]) ++ dec s) ++ [32]) ++ dec c) := by
    show textD 4 s c = _
    rw [textD, if_pos (by omega)]; rfl
  have HL := Lib.hid (fun (x : Nat) w h1 h2 => itoa_any x w h1 h2)
  have l1 := decs_len s (by omega)
  have l2 := decs_len c (by omega)
  have HP := Lib.hid hP
  have hB := Lib.hid (Blk.new w 67 #[.int .i64 4, .int .i64 s, .int .i64 c])
  have hK := Lib.hid ((Kept.refl [] w).alloc (.cells #[.int .i64 4, .int .i64 s, .int .i64 c] 67))
  have hc := hB.out.cell
  have HA1 := Lib.hid (str_append (faultD 4) [32])
  have HA2 := Lib.hid (str_append (faultD 4 ++ [32]) (dec s))
  have HA3 := Lib.hid (str_append ((faultD 4 ++ [32]) ++ dec s) [32])
  have HA4 := Lib.hid (str_append (((faultD 4 ++ [32]) ++ dec s) ++ [32]) (dec c))
  have hix : ∀ W, (Instr.index 140 (.agg #[.string { data := #[] }, .string { data := #[108, 111, 115, 116] }, .string { data := #[116, 119, 105, 99, 101] }, .string { data := #[97, 115, 116, 114, 97, 121] }, .string { data := #[99, 114, 111, 119, 100] }]) (.int .i64 4)).run Tryz.prog W = .ok (strV (faultD 4)) W := fun _ => by kernel_rfl
  have l0 : (faultD 4).length ≤ 8 := by decide
  have n1 : ¬ 9223372036854775807 < (faultD 4).length + 1 := by omega
  have n2 : ¬ 9223372036854775807 < (faultD 4).length + 1 + (dec s).length := by omega
  have n3 : ¬ 9223372036854775807 < (faultD 4).length + 1 + (dec s).length + 1 := by omega
  have n4 : ¬ 9223372036854775807 < (faultD 4).length + 1 + (dec s).length + 1 + (dec c).length := by omega
  generalize faultD 4 = fd at *
  clear hP
  go_enter Tryz.func30, Tryz.ntmps30
  go_wp2_with fail
  go_region_held3 (fun w' => w'.cell? ⟨w.heap.size, 0, none⟩ = some (.int .i64 4) ∧ w'.cell? ⟨w.heap.size, 1, none⟩ = some (.int .i64 s) ∧ w'.cell? ⟨w.heap.size, 2, none⟩ = some (.int .i64 c)) (go_keep) (first | (go_at_call 72; refine (HL.out _ _ (by omega) (by first | exact HP.out.old hK.out | exact HP.out.old hK.out.drew)).mono ?_; rintro e w1 ⟨rfl, hk1⟩; have hB := Lib.hid (Blk.kept (hk := hk1) (h := by exact hB.out) (hg := by simp)); have hc := hB.out.cell; have hK := Lib.hid (Kept.trans (h := by first | exact hK.out | exact hK.out.drew) (h' := hk1)); clear hk1) | fail)
  all_goals
    go_wp2_with fail
    go_ret
    exact ⟨by rw [HF.out]; rfl, hK.out⟩
end Go.Proofs.YthahmfeaekddnaaGreatDoor
