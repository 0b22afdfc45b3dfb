/- Package wait: Len, Best, Pop, Level, All. -/
import Derived.Test.YtfoeijiejpenpaaGreatDoorWait5
namespace Go.Proofs.YtfoeijiejpenpaaGreatDoor
open Go.RowKit

theorem len_any (g : Nat) (v : Value) (l : List WO) (last : Nat) (w : World) (h : IsLine w g v l last) : Calls Tryz.prog 115 #[.pointer (some ⟨g, 0, none⟩)] w fun e w' => e = .returned (.int .i64 l.length) ∧ w = w' := by
  obtain ⟨A, c, rfl, hnc⟩ := h.form
  have hc := h.blk.cell
  clear h
  go_enter Tryz.func115, Tryz.ntmps115
  go_wp2
  go_ret
  exact ⟨rfl, rfl⟩
theorem len_nil (w : World) : Calls Tryz.prog 115 #[.pointer none] w fun e w' => e = .returned (.int .i64 0) ∧ w = w' := by
  go_enter Tryz.func115, Tryz.ntmps115
  go_wp2
  go_ret
  exact ⟨rfl, rfl⟩

theorem best_none (g : Nat) (v : Value) (last : Nat) (w : World) (h : IsLine w g v [] last) : Calls Tryz.prog 99 #[.pointer (some ⟨g, 0, none⟩)] w fun e w' => e = .returned (.tuple #[.int .i64 0, .bool false]) ∧ w = w' := by
  have HL := Lib.hid (len_any g v [] last w h)
  simp only [List.length_nil, Int.cast_ofNat_Int] at HL
  clear h
  go_enter Tryz.func99, Tryz.ntmps99
  go_wp2_with fail
  refine (HL.out).mono ?_
  rintro e w' ⟨rfl, rfl⟩
  go_wp2_with fail
  go_ret2
  exact ⟨rfl, rfl⟩
set_option maxHeartbeats 800000 in
theorem best_some (g : Nat) (v : Value) (x : WO) (t : List WO) (last : Nat) (w : World) (h : IsLine w g v (x :: t) last) : Calls Tryz.prog 99 #[.pointer (some ⟨g, 0, none⟩)] w fun e w' => e = .returned (.tuple #[.int .i64 x.p, .bool true]) ∧ w = w' := by
  have HL := Lib.hid (len_any g v (x :: t) last w h)
  obtain ⟨A, c, rfl, hnc⟩ := h.form
  have hc := h.blk.cell
  obtain ⟨b, o, rfl, hbl, hcc⟩ := (Reads.of_own h.row).cellsK oL 3 oL_len (by omega) (by simp)
  have hc0 : w.cell? ⟨b, o, none⟩ = some (.int .i64 x.p) := by have := hcc 0 x (by simp) 0 (by omega); rw [Nat.zero_mul, Nat.add_zero] at this; exact this
  have hn : 0 < (x :: t).length := by simp
  generalize (x :: t).length = n at *
  have hb : ((n : Int) == 0) = false := beq_eq_false_iff_ne.2 (by omega)
  have hi : (0 : Int) < (n : Int) := by omega
  clear h hcc
  go_enter Tryz.func99, Tryz.ntmps99
  go_wp2_with fail
  refine (HL.out).mono ?_
  rintro e w' ⟨rfl, rfl⟩
  go_wp2_with fail
  go_ret2
  exact ⟨rfl, rfl⟩
theorem best_nil (w : World) : Calls Tryz.prog 99 #[.pointer none] w fun e w' => e = .returned (.tuple #[.int .i64 0, .bool false]) ∧ w = w' := by
  go_enter Tryz.func99, Tryz.ntmps99
  go_wp2_with fail
  refine (len_nil _).mono ?_
  rintro e w' ⟨rfl, rfl⟩
  go_wp2_with fail
  go_ret2
  exact ⟨rfl, rfl⟩

theorem pop_none (g : Nat) (v : Value) (last : Nat) (w : World) (h : IsLine w g v [] last) : Calls Tryz.prog 77 #[.pointer (some ⟨g, 0, none⟩)] w fun e w' => e = .returned (.tuple #[.int .i64 0, .bool false]) ∧ w = w' := by
  have HB := Lib.hid (best_none g v last w h)
  clear h
  go_enter Tryz.func77, Tryz.ntmps77
  go_wp2_with fail
  refine (HB.out).mono ?_
  rintro e w' ⟨rfl, rfl⟩
  go_wp2_with fail
  go_ret2
  exact ⟨rfl, rfl⟩
theorem pop_nil (w : World) : Calls Tryz.prog 77 #[.pointer none] w fun e w' => e = .returned (.tuple #[.int .i64 0, .bool false]) ∧ w = w' := by
  go_enter Tryz.func77, Tryz.ntmps77
  go_wp2_with fail
  refine (best_nil _).mono ?_
  rintro e w' ⟨rfl, rfl⟩
  go_wp2_with fail
  go_ret2
  exact ⟨rfl, rfl⟩
theorem pop_some (g : Nat) (v : Value) (x : WO) (t : List WO) (last : Nat) (w : World) (h : IsLine w g v (x :: t) last) (hl : (x :: t).length ≤ 1000) :
    Calls Tryz.prog 77 #[.pointer (some ⟨g, 0, none⟩)] w fun e w' => e = .returned (.tuple #[.int .i64 x.p, .bool true]) ∧ LineGoes w g v w' t last := by
  have HB := Lib.hid (best_some g v x t last w h)
  have hp : isP x.p x = true := by simp [isP]
  have HR := Lib.hid (remove_some g v (x :: t) last x.p x w h hl (by simp [findW, hp]))
  rw [List.eraseP_cons_of_pos hp] at HR
  clear h
  go_enter Tryz.func77, Tryz.ntmps77
  go_wp2_with fail
  refine (HB.out).mono ?_
  rintro e w' ⟨rfl, rfl⟩
  go_wp2_with fail
  refine (HR.out).mono ?_
  rintro e w1 ⟨rfl, hg⟩
  have HG := Lib.hid hg
  clear hg
  go_wp2_with fail
  go_ret2
  exact ⟨rfl, HG.out⟩

theorem Tryz.infoI : (Tryz.prog.info? 3).map (fun i => (i.zero, i.size, i.bytes)) = some (some (.int .i64 0), 1, 8) := by kernel_rfl
/-- A slice of numbers that was made after w. -/
def FreshI (w w' : World) (l : List Int) (A : Option Addr) (n c : Nat) : Prop :=
  w'.ownsRow 0 3 1 (.slice A n c) n (l.map (Value.int .i64)) ∧ Kept [] w w' ∧ ∀ k, k ∈ fp (.slice A n c) → w.heap.size ≤ k
theorem FreshI.reads {w w' : World} {l : List Int} {A : Option Addr} {n c : Nat} (h : FreshI w w' l A n c) : Reads w' 1 A n (l.map (Value.int .i64)) := Reads.of_own h.1
theorem FreshI.len {w w' : World} {l : List Int} {A : Option Addr} {n c : Nat} (h : FreshI w w' l A n c) : n = l.length := by have := h.1.1; simp at this; omega
theorem FreshI.old {w wr w2 : World} {l : List Int} {A : Option Addr} {n c : Nat} (h : FreshI w wr l A n c) (hk : Kept [] wr w2) : FreshI w w2 l A n c := ⟨own_kept h.1 hk (by simp), h.2.1.trans hk, h.2.2⟩
theorem FreshI.append {w wr w2 : World} {l l2 : List Int} {A A' : Option Addr} {n c m c' : Nat} (h : FreshI w wr l A n c) (ha : Appended wr w2 3 1 (.slice A n c) (.slice A' m c') m (l2.map (Value.int .i64))) : FreshI w w2 l2 A' m c' :=
  ⟨ha.1, h.2.1.trans' ha.2.1 (fun k hk => .inr (h.2.2 k hk)), fun k hk => by
    rcases ha.2.2 k hk with h1 | h1
    · exact h.2.2 k h1
    · exact Nat.le_trans h.2.1.size h1⟩

set_option maxHeartbeats 3200000 in
set_option maxRecDepth 100000 in
theorem all_any (g : Nat) (v : Value) (l : List WO) (last : Nat) (w : World) (h : IsLine w g v l last) (hl : l.length ≤ 1000) :
    Calls Tryz.prog 73 #[.pointer (some ⟨g, 0, none⟩)] w fun e w' => ∃ A n c, e = .returned (.slice A n c) ∧ FreshI w w' (l.map WO.p) A n c := by
  obtain ⟨A, c, rfl, hnc⟩ := h.form
  have hg0 := h.blk.cell
  have H := Lib.hid h
  clear h
  go_enter Tryz.func73, Tryz.ntmps73
  go_wp2_with fail
  go_loopw [3, 15] (fun ov iv wr => ∃ (k : Nat) (A' : Option Addr) (n' c' : Nat), k ≤ l.length ∧ iv = .int .i64 k ∧ ov = .slice A' n' c' ∧ n' = k ∧ Hid (FreshI w wr ((l.take k).map WO.p) A' n' c')) (fun _ i _ => l.length - (intOf i).toNat)
  case atStart => exact ⟨0, none, 0, 0, by omega, rfl, rfl, rfl, World.ownsRow_nil _ _ _ _, Kept.refl _ _, by simp [fp, Value.ownBlock]⟩
  case round =>
    obtain ⟨k, A', n', c', hk1, rfl, rfl, rfl, HF⟩ := hrel
    by_cases hlt : n' < l.length
    · obtain ⟨x, hx⟩ : ∃ x, l[n']? = some x := ⟨l[n'], List.getElem?_eq_getElem hlt⟩
      have hsn : (l.take (n' + 1)).map WO.p = (l.take n').map WO.p ++ [x.p] := by rw [List.take_add_one, hx]; simp
      have HSN := Lib.hid hsn
      have HLR := Lib.hid (H.out.old HF.out.2.1)
      obtain ⟨b, o, rfl, hbl, hcc⟩ := (Reads.of_own HLR.out.row).cellsK oL 3 oL_len (by omega) (by omega)
      have hc2 : wr.cell? ⟨b, o + n' * 3, none⟩ = some (.int .i64 x.p) := hcc n' x hx 0 (by omega)
      have hc3 : wr.cell? ⟨b, o + n' * 3 + 1, none⟩ = some (.int .i64 x.l) := hcc n' x hx 1 (by omega)
      have hc4 : wr.cell? ⟨b, o + n' * 3 + 2, none⟩ = some (.int .u64 x.n) := hcc n' x hx 2 (by omega)
      clear hcc hx hsn
      obtain ⟨xp, xl, xn⟩ := x
      have HOW : Hid (((wr.alloc (.cells (oC xp xl xn) 108)).alloc (.cells #[.int .i64 xp] 3)).ownsRow 0 3 1 (.slice A' n' c') n' (((l.take n').map WO.p).map (Value.int .i64))) := own_kept HF.out.1 (((Kept.refl [] _).alloc _).alloc _) (by simp)
      have HRD : Hid (Reads ((wr.alloc (.cells (oC xp xl xn) 108)).alloc (.cells #[.int .i64 xp] 3)) 1 (some ⟨wr.heap.size + 1, 0, none⟩) 1 [.int .i64 xp]) := by
        have := reads_one (wr.alloc (.cells (oC xp xl xn) 108)) 3 (.int .i64 xp)
        rw [World.size_alloc] at this
        exact this
      go_wp2_with (at_builtin; refine wpList_append_any _ rfl _ _ 27 rfl 3 (.int .i64 0) 1 8 Tryz.underlying27 Tryz.infoI rfl (by decide) _ n' _ rfl HOW.out _ 1 1 [.int .i64 xp] rfl HRD.out (by simp [Value.oneCell']) (by simp only [maxLen]; omega) (by omega) ?_; rintro A2 c2 w2 happ; have HA := Lib.hid happ; clear happ)
      have HF2 : Hid (FreshI w w2 ((l.take (n' + 1)).map WO.p) A2 (n' + 1) c2) := by
        rw [HSN.out]
        exact (HF.out.old (((Kept.refl [] _).alloc _).alloc _)).append (by rw [List.map_append]; exact HA.out)
      go_roundw
      case rel => exact ⟨n' + 1, A2, n' + 1, c2, by omega, by go_num, rfl, rfl, HF2⟩
      case measure => simp [intOf]; omega
    · obtain rfl : n' = l.length := by omega
      have hfin : l.take l.length = l := List.take_of_length_le (Nat.le_refl _)
      rw [hfin] at HF
      clear hfin
      go_wp2_with fail
      go_ret
      exact ⟨_, _, _, rfl, HF.out⟩

theorem all_nil (w : World) : Calls Tryz.prog 73 #[.pointer none] w fun e w' => e = .returned (.slice none 0 0) ∧ w = w' := by
  go_enter Tryz.func73, Tryz.ntmps73
  go_wp2
  go_ret
  exact ⟨rfl, rfl⟩

end Go.Proofs.YtfoeijiejpenpaaGreatDoor
