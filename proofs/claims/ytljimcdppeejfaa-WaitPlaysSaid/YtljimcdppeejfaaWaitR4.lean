/- The document's All of a row of waiters: level by level. -/
import Derived.Test.YtljimcdppeejfaaWaitR2
namespace Go.Proofs.Ytljimcdppeejfaa
open Go.RowKit

theorem levM_len (M : List WO) (lv : Nat) : (levM M lv).length ≤ M.length := List.length_filter_le _ _
theorem levM_snoc (M : List WO) (lv i : Nat) (x : WO) (h : M[i]? = some x) : levM (M.take (i + 1)) lv = levM (M.take i) lv ++ if x.l = lv then [x] else [] := by
  unfold levM
  rw [List.take_add_one, h, List.filter_append]
  by_cases he : x.l = lv
  · simp [he]
  · simp [he]
def allU (M : List WO) (lv : Nat) : List WO := (List.range lv).flatMap (levM M)
theorem allU_succ (M : List WO) (lv : Nat) : allU M (lv + 1) = allU M lv ++ levM M lv := by simp [allU, List.range_succ, List.flatMap_append]
theorem allU_len (M : List WO) : ∀ lv, (allU M lv).length ≤ lv * M.length
  | 0 => by simp [allU]
  | lv + 1 => by
    rw [allU_succ, List.length_append, Nat.add_mul]
    have := allU_len M lv
    have := levM_len M lv
    omega

set_option maxHeartbeats 3200000 in
set_option maxRecDepth 100000 in
theorem refAll_any (v : Value) (M : List WO) (w : World) (h : RRow w v M) (hl : M.length ≤ 1000) :
    Calls Try.prog 13 #[v] w fun e w' => ∃ A n c, e = .returned (.slice A n c) ∧ FreshI w w' ((allM M).map WO.p) A n c := by
  obtain ⟨A, c, rfl, hnc, hcm⟩ := h.form
  have HR := Lib.hid h
  clear h
  go_enter Try.func13, Try.ntmps13
  go_wp2_with fail
  go_loopw [3, 4] (fun ov lv wr => ∃ (j : Nat) (A' : Option Addr) (n' c' : Nat), j ≤ 8 ∧ lv = .int .i64 j ∧ ov = .slice A' n' c' ∧ n' ≤ j * M.length ∧ Hid (FreshI w wr ((allU M j).map WO.p) A' n' c')) (fun _ l _ => 8 - (intOf l).toNat)
  case atStart => exact ⟨0, none, 0, 0, by omega, rfl, rfl, by omega, World.ownsRow_nil _ _ _ _, Kept.refl _ _, by simp [fp, Value.ownBlock]⟩
  case round =>
    obtain ⟨j, A', n', c', hj, rfl, rfl, hn', HF⟩ := hrel
    by_cases hlt : j < 8
    · have hj8 : (j : Int) < 8 := by omega
      go_wp2_with fail
      go_loopw [3, 5] (fun ov iv wr => ∃ (i : Nat) (A' : Option Addr) (n' c' : Nat), i ≤ M.length ∧ iv = .int .i64 i ∧ ov = .slice A' n' c' ∧ n' ≤ j * M.length + i ∧ Hid (FreshI w wr ((allU M j ++ levM (M.take i) j).map WO.p) A' n' c')) (fun _ i _ => M.length - (intOf i).toNat)
      case atStart => exact ⟨0, A', n', c', by omega, rfl, rfl, by omega, by rw [Hid]; simpa [levM] using HF.out⟩
      case round =>
        clear HF hn'
        obtain ⟨i, A', n', c', hi, rfl, rfl, hn', HF⟩ := hrel
        have hjm : j * M.length ≤ 8 * 1000 := Nat.mul_le_mul (by omega) hl
        by_cases hil : i < M.length
        · obtain ⟨x, hx⟩ : ∃ x, M[i]? = some x := ⟨M[i], List.getElem?_eq_getElem hil⟩
          have HSN := Lib.hid (levM_snoc M j i x hx)
          have HLR := Lib.hid (HR.out.old HF.out.2.1)
          obtain ⟨b, o, rfl, hbl, hcc⟩ := (Reads.of_own HLR.out).cellsK rL 2 rL_len (by omega) (by omega)
          have hc2 : wr.cell? ⟨b, o + i * 2, none⟩ = some (.int .i64 x.p) := hcc i x hx 0 (by omega)
          have hc3 : wr.cell? ⟨b, o + i * 2 + 1, none⟩ = some (.int .i64 x.l) := hcc i x hx 1 (by omega)
          have hi0 : (0 : Int) ≤ (i : Int) := by omega
          have hi1 : (i : Int) < (M.length : Int) := by omega
          clear hcc hx
          obtain ⟨xp, xl, xn⟩ := x
          simp only at hc2 hc3 HSN
          by_cases he : xl = (j : Int)
          · have hb1 : (xl == (j : Int)) = true := beq_iff_eq.2 he
            rw [if_pos he] at HSN
            clear he
            have HOW : Hid ((wr.alloc (.cells #[.int .i64 xp] 3)).ownsRow 0 3 1 (.slice A' n' c') n' (((allU M j ++ levM (M.take i) j).map WO.p).map (Value.int .i64))) := own_kept HF.out.1 ((Kept.refl [] _).alloc _) (by simp)
            have HRD : Hid (Reads (wr.alloc (.cells #[.int .i64 xp] 3)) 1 (some ⟨wr.heap.size, 0, none⟩) 1 [.int .i64 xp]) := reads_one wr 3 (.int .i64 xp)
            go_wp2_with (at_builtin; refine wpList_append_any _ rfl _ _ 26 rfl 3 (.int .i64 0) 1 8 Try.underlying26 Try.infoI rfl (by decide) _ n' _ rfl HOW.out _ 1 1 [.int .i64 xp] rfl HRD.out (by simp [Value.oneCell']) (by simp only [maxLen]; omega) (by omega) ?_; rintro A2 c2 w2 happ; have HA := Lib.hid happ; clear happ)
            have HF2 : Hid (FreshI w w2 ((allU M j ++ levM (M.take (i + 1)) j).map WO.p) A2 (n' + 1) c2) := by
              rw [HSN.out, ← List.append_assoc]
              exact (HF.out.old ((Kept.refl [] _).alloc _)).append (by rw [List.map_append, List.map_append]; exact HA.out)
            go_roundw
            case rel => exact ⟨i + 1, A2, n' + 1, c2, by omega, by go_num, rfl, by omega, HF2⟩
            case measure => simp [intOf]; omega
          · have hb1 : (xl == (j : Int)) = false := beq_eq_false_iff_ne.2 he
            rw [if_neg he, List.append_nil] at HSN
            clear he
            go_wp2_with fail
            go_roundw
            case rel => exact ⟨i + 1, A', n', c', by omega, by go_num, rfl, by omega, by rw [HSN.out]; exact HF⟩
            case measure => simp [intOf]; omega
        · obtain rfl : i = M.length := by omega
          rw [List.take_of_length_le (Nat.le_refl _), ← allU_succ] at HF
          go_wp2_with fail
          go_roundw
          case rel => exact ⟨j + 1, A', n', c', by omega, by go_num, rfl, by rw [Nat.add_mul]; omega, HF⟩
          case measure => simp [intOf]; omega
    · obtain rfl : j = 8 := by omega
      go_wp2_with fail
      go_ret
      exact ⟨_, _, _, rfl, HF.out⟩

end Go.Proofs.Ytljimcdppeejfaa
