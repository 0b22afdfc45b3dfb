/- Package event: Answers; the law's few. -/
import Derived.Test.YtohkgdgdblnbfaaDoorEventS
namespace Go.Proofs.YtohkgdgdblnbfaaDoor
open Go.RowKit

theorem Tryd.info27 : (Tryd.prog.info? 27).map (fun i => (i.zero, i.size, i.bytes)) = some (some (.int .i64 0), 1, 8) := by kernel_rfl
/-- Error numbers as cells. -/
def cL (l : List Int) : List Value := l.map (Value.int .i64)
theorem cL_one (l : List Int) : ∀ u ∈ cL l, u.oneCell' = true := by
  intro u hu
  obtain ⟨b, _, rfl⟩ := List.mem_map.1 hu
  rfl
/-- A slice of error numbers that was made after w. -/
def FreshC (w w' : World) (l : List Int) (A : Option Addr) (n c : Nat) : Prop :=
  w'.ownsRow 0 27 1 (.slice A n c) n (cL l) ∧ Kept [] w w' ∧ ∀ k, k ∈ fp (.slice A n c) → w.heap.size ≤ k
/-- What calls of an id returned with. -/
def ansE (t : Int) (g : Nat) (l : List Ev) : List Int := ((l.filter fun e => e.slot == t && e.gen == g).filter fun e => e.kind == 3).map (·.code)

set_option maxHeartbeats 3200000 in
set_option maxRecDepth 100000 in
theorem answers_any (t : Int) (g : Nat) (A : Option Addr) (n c : Nat) (l : List Ev) (w : World) (hr : ReadsE w A n l) (hl : l.length ≤ 1000) :
    Calls Tryd.prog 10 #[.slice A n c, .agg #[.int .i64 t, .int .u32 g]] w fun e w' => ∃ A' n' c', e = .returned (.slice A' n' c') ∧ n' = (ansE t g l).length ∧ FreshC w w' (ansE t g l) A' n' c' := by
  have HO := Lib.hid (fun w h => of_any t g A n c l w h hl)
  have HR := Lib.hid hr
  have hlf : (l.filter fun e => e.slot == t && e.gen == g).length ≤ 1000 := Nat.le_trans (List.length_filter_le _ _) hl
  unfold ansE
  generalize (l.filter fun e => e.slot == t && e.gen == g) = l2 at *
  clear hr hl
  go_enter Tryd.func10, Tryd.ntmps10
  go_wp2_with fail
  refine (HO.out _ (HR.out.old ((Kept.refl _ _).alloc _))).mono ?_
  rintro e w1 ⟨A1, n1, c1, rfl, h1, h2⟩
  have hr1 : ReadsE w1 A1 n1 l2 := Reads.of_own h2.1
  have HR1 := Lib.hid hr1
  have HK1 := Lib.hid (((Kept.refl [] w).alloc _).trans h2.2.1)
  subst h1
  clear h2 hr1
  go_wp2_with fail
  go_loopw [5, 12] (fun ov iv wr => ∃ (k : Nat) (A' : Option Addr) (n' c' : Nat), k ≤ l2.length ∧ iv = .int .i64 k ∧ ov = .slice A' n' c' ∧ n' ≤ k ∧ Hid (n' = (((l2.take k).filter fun e => e.kind == 3).map (·.code)).length) ∧ Hid (FreshC w1 wr (((l2.take k).filter fun e => e.kind == 3).map (·.code)) A' n' c')) (fun _ i _ => l2.length - (intOf i).toNat)
  case atStart => exact ⟨0, none, 0, 0, by omega, rfl, rfl, by omega, rfl, World.ownsRow_nil _ _ _ _, Kept.refl _ _, by simp [fp, Value.ownBlock]⟩
  case round =>
    obtain ⟨k, A', n', c', hk, rfl, rfl, hnk, HN, HF⟩ := hrel
    by_cases hlt : k < l2.length
    · obtain ⟨e, he⟩ : ∃ e, l2[k] = e := ⟨_, rfl⟩
      obtain ⟨b, o, rfl, hb, hcell⟩ := ReadsE.cells (HR1.out.old HF.out.2.1) (by omega)
      have hcs := hcell k e (by rw [List.getElem?_eq_getElem hlt, he])
      have c0 : wr.cell? ⟨b, o + k * 8, none⟩ = some (.int .i64 e.step) := hcs 0 (by omega)
      have c1 : wr.cell? ⟨b, o + k * 8 + 1, none⟩ = some (.int .i64 e.cpu) := hcs 1 (by omega)
      have c2 : wr.cell? ⟨b, o + k * 8 + 2, none⟩ = some (.int .i64 e.kind) := hcs 2 (by omega)
      have c3 : wr.cell? ⟨b, o + k * 8 + 3, none⟩ = some (.int .i64 e.slot) := hcs 3 (by omega)
      have c4 : wr.cell? ⟨b, o + k * 8 + 4, none⟩ = some (.int .u32 e.gen) := hcs 4 (by omega)
      have c5 : wr.cell? ⟨b, o + k * 8 + 5, none⟩ = some (.int .i64 e.op) := hcs 5 (by omega)
      have c6 : wr.cell? ⟨b, o + k * 8 + 6, none⟩ = some (.int .i64 e.code) := hcs 6 (by omega)
      have c7 : wr.cell? ⟨b, o + k * 8 + 7, none⟩ = some (.int .u64 e.n) := hcs 7 (by omega)
      have HTK : Hid (((l2.take (k + 1)).filter fun e => e.kind == 3).map (·.code) = ((l2.take k).filter fun e => e.kind == 3).map (·.code) ++ if e.kind == 3 then [e.code] else []) := by
        rw [Hid, List.take_succ_eq_append_getElem hlt, he, List.filter_append]; cases h : (e.kind == 3) <;> simp [h]
      clear hcell hcs he
      cases hpe : (e.kind == 3)
      · rw [hpe] at HTK
        simp only [Bool.false_eq_true, if_false, List.append_nil] at HTK
        go_wp2_with fail
        go_roundw
        case rel => exact ⟨k + 1, A', n', c', by omega, by go_num, rfl, by omega, by rw [Hid, HTK.out]; exact HN.out, by rw [HTK.out]; exact ⟨HF.out.1.alloc _, HF.out.2.1.alloc _, HF.out.2.2⟩⟩
        case measure => simp [intOf]; omega
      · rw [hpe] at HTK
        simp only [if_true] at HTK
        go_wp2_with (at_builtin; go_must (refine wpList_append_any _ rfl _ _ _ rfl 27 (.int .i64 0) 1 8 Tryd.underlying33 Tryd.info27 rfl (by omega) (.slice A' n' c') n' (cL (((l2.take k).filter fun e => e.kind == 3).map (·.code))) rfl ((HF.out.1.alloc _).alloc _) (some ⟨wr.heap.size + 1, 0, none⟩) 1 1 [.int .i64 e.code] rfl (by have := reads_one (wr.alloc (.cells (eC e.step e.cpu e.kind e.slot e.gen e.op e.code e.n) 30)) 27 (.int .i64 e.code); simpa using this) (by simp; rfl) (by simp only [maxLen]; omega) (by omega) ?_); intro A2 c2 w3 happ; have HA := Lib.hid happ; clear happ)
        go_roundw
        case rel =>
          have happ := HA.out
          have hkb : Kept (fp (.slice A' n' c')) wr w3 := ((((Kept.refl _ _).alloc _).alloc _).trans happ.2.1)
          refine ⟨k + 1, A2, n' + 1, c2, by omega, by go_num, rfl, by omega, by rw [Hid, HTK.out, List.length_append, ← HN.out]; rfl, ?_, ?_, ?_⟩
          · rw [HTK.out]; simpa [cL] using happ.1
          · exact HF.out.2.1.trans' hkb fun q hq => .inr (HF.out.2.2 q hq)
          · intro q hq
            have := HF.out.2.1.size
            rcases happ.2.2 q hq with h | h
            · exact HF.out.2.2 q h
            · simp at h; omega
        case measure => simp [intOf]; omega
    · obtain rfl : k = l2.length := by omega
      have hN := HN.out
      have hF := HF.out
      rw [List.take_of_length_le (Nat.le_refl _)] at hN hF
      have HN2 := Lib.hid hN
      have HF2 := Lib.hid hF
      clear hN hF
      go_wp2_with fail
      go_ret
      refine ⟨A', n', c', rfl, HN2.out, HF2.out.1, HK1.out.trans HF2.out.2.1, fun q hq => ?_⟩
      have := HF2.out.2.2 q hq
      have := HK1.out.size
      omega

end Go.Proofs.YtohkgdgdblnbfaaDoor
