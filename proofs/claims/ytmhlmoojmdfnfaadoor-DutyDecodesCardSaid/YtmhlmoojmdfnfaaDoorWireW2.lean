/- The writer of package wire, continued: Num, Truth, Bytes, Done. -/
import Derived.Test.YtmhlmoojmdfnfaaDoorWireW
import Derived.Deep.QuietTactic
import Derived.BigQuiet
namespace Go.Proofs.YtmhlmoojmdfnfaaDoor
open Go.RowKit

set_option maxHeartbeats 400000 in
theorem wnum_any (g : Nat) (A0 : Option Addr) (c0 : Nat) (err : Int) (bs : List UInt8) (room : Nat) (x : Nat) (w : World) (hW : IsW w g A0 c0 err bs room) (hx : x < 18446744073709551616)
    (hb : bs.length ≤ 999999990) (hroom : room ≤ 9223372036854775807) :
    Calls Tryd.prog 113 #[.pointer (some ⟨g, 0, none⟩), .int .u64 x] w fun e w' => e = .returned (.tuple #[]) ∧ WGoes w g A0 (putS (err, bs, room) (encNum x)) w' := by
  have HW := Lib.hid hW
  clear hW
  have hl : (encNum x).length ≤ 9 := by rw [encNum_len]; have := be_len x; omega
  go_enter Tryd.func113, Tryd.ntmps113
  go_wp2_with fail
  refine (number_any x _ hx).mono ?_
  rintro e w1 ⟨v, rfl, hown, hk, _⟩
  obtain ⟨A1, c1, rfl, _, _⟩ := own_form hown
  have HO := Lib.hid hown
  clear hown
  go_wp2_with fail
  refine (put_any g A0 c0 err bs room A1 _ c1 (encNum x) _ (HW.out.kept hk (by simp)) (Reads.of_own HO.out) (by omega) hroom).mono ?_
  rintro e w' ⟨rfl, hg⟩
  go_wp2_with fail
  go_end0
  exact ⟨rfl, hg.ahead hk⟩

set_option maxHeartbeats 400000 in
theorem wtruth_any (g : Nat) (A0 : Option Addr) (c0 : Nat) (err : Int) (bs : List UInt8) (room : Nat) (b : Bool) (w : World) (hW : IsW w g A0 c0 err bs room)
    (hb : bs.length ≤ 999999990) (hroom : room ≤ 9223372036854775807) :
    Calls Tryd.prog 114 #[.pointer (some ⟨g, 0, none⟩), .bool b] w fun e w' => e = .returned (.tuple #[]) ∧ WGoes w g A0 (putS (err, bs, room) (encTruth b)) w' := by
  have HW := Lib.hid hW
  clear hW
  cases b
  · go_enter Tryd.func114, Tryd.ntmps114
    go_wp2_with fail
    have hW1 : IsW (w.alloc (.cells #[.int .u8 0] 5)) g A0 c0 err bs room := HW.out.kept ((Kept.refl [] w).alloc _) (by simp)
    refine (put_any g A0 c0 err bs room _ 1 1 [0] _ hW1 (reads_one w 5 (.int .u8 0)) (by simp; omega) hroom).mono ?_
    rintro e w' ⟨rfl, hg⟩
    go_wp2_with fail
    go_end0
    exact ⟨rfl, hg.ahead ((Kept.refl _ _).alloc _)⟩
  · go_enter Tryd.func114, Tryd.ntmps114
    go_wp2_with fail
    have hW1 : IsW (w.alloc (.cells #[.int .u8 1] 5)) g A0 c0 err bs room := HW.out.kept ((Kept.refl [] w).alloc _) (by simp)
    refine (put_any g A0 c0 err bs room _ 1 1 [1] _ hW1 (reads_one w 5 (.int .u8 1)) (by simp; omega) hroom).mono ?_
    rintro e w' ⟨rfl, hg⟩
    go_wp2_with fail
    ((try simp only [Exit.inBlock, Exit.then]); refine bodyPost_ret (results_none rfl _ _ _) rfl ?_)
    exact ⟨rfl, hg.ahead ((Kept.refl _ _).alloc _)⟩

/-- A slice of bytes that was made anew. -/
def NewBytes (w w' : World) (l : List UInt8) (v : Value) : Prop := w'.ownsRow 0 5 1 v l.length (l.map B) ∧ Kept [] w w' ∧ ∀ k, k ∈ fp v → w.heap.size ≤ k

set_option maxHeartbeats 400000 in
theorem wdone_ok (g : Nat) (A0 : Option Addr) (c0 : Nat) (bs : List UInt8) (room : Nat) (w : World) (hW : IsW w g A0 c0 0 bs room) (hb : bs.length ≤ 999999990) :
    Calls Tryd.prog 55 #[.pointer (some ⟨g, 0, none⟩)] w fun e w' => ∃ v, e = .returned (.tuple #[v, .int .i64 0]) ∧ NewBytes w w' bs v := by
  obtain ⟨hB, hown⟩ := hW
  have hc := hB.cell
  have hlt := hB.lt
  have HO := Lib.hid hown
  clear hB hown
  have hc0 : w.cell? ⟨g, 0, none⟩ = some (.int .i64 0) := by rw [hc]; rfl
  go_enter Tryd.func55, Tryd.ntmps55
  go_wp2_with (first | (go_at_call 107; refine (well_any _ _ _ hc0).mono ?_; rintro e w' ⟨rfl, rfl⟩) | (at_builtin; go_must (refine wpList_append_any _ rfl _ _ _ rfl 5 (.int .u8 0) 1 1 Tryd.underlying32 Tryd.info5 rfl (by omega) (.slice (some ⟨w.heap.size, 0, none⟩) 0 0) 0 [] rfl (World.ownsRow_made w #[] 0 (Nat.zero_le _) (Nat.zero_le _) rfl) A0 bs.length c0 (bs.map B) rfl ((Reads.of_own HO.out).alloc _) (B_one bs) (by simp only [maxLen]; omega) (by omega) ?_); intro A2 c2 w2 happ))
  go_ret2
  refine ⟨.slice A2 bs.length c2, rfl, by simpa using happ.1, ((Kept.refl _ _).alloc _).trans' happ.2.1 fun k hm => .inr (by simp [fp, Value.ownBlock] at hm; omega), fun k hm => ?_⟩
  rcases happ.2.2 k (by rw [fp_slice] at hm ⊢; exact hm) with h | h
  · simp [fp, Value.ownBlock] at h; omega
  · simp at h; omega

set_option maxHeartbeats 400000 in
theorem wdone_err (g : Nat) (A0 : Option Addr) (c0 : Nat) (err : Int) (bs : List UInt8) (room : Nat) (w : World) (hW : IsW w g A0 c0 err bs room) (herr : err ≠ 0) :
    Calls Tryd.prog 55 #[.pointer (some ⟨g, 0, none⟩)] w fun e w' => e = .returned (.tuple #[.slice none 0 0, .int .i64 err]) ∧ Kept [] w w' := by
  obtain ⟨hB, _⟩ := hW
  have hc := hB.cell
  clear hB
  have hc0 : w.cell? ⟨g, 0, none⟩ = some (.int .i64 err) := by rw [hc]; rfl
  have hb : (err == 0) = false := beq_eq_false_iff_ne.2 herr
  go_enter Tryd.func55, Tryd.ntmps55
  go_wp2_with (first | (go_at_call 107; refine (well_any _ _ _ hc0).mono ?_; rintro e w' ⟨rfl, rfl⟩))
  go_quiet (fail)
  go_wp2
  go_ret2
  exact ⟨rfl, (Kept.refl _ _).drewN _⟩

end Go.Proofs.YtmhlmoojmdfnfaaDoor
