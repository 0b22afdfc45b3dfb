/- Law 31: EventReads: the walk. -/
import Derived.Test.YtohkgdgdblnbfaaDoorEventParsesW
import Derived.Test.YtohkgdgdblnbfaaDoorEventRd
import Derived.Test.YtohkgdgdblnbfaaDoorEventS
namespace Go.Proofs.YtohkgdgdblnbfaaDoor
open Go.RowKit

theorem reads_fresh {w w' : World} {l : List Ev} {A : Option Addr} {n c : Nat} (h : FreshE w w' l A n c) : ReadsE w' A n l := Reads.of_own h.1

set_option maxHeartbeats 3200000 in
set_option maxRecDepth 100000 in
theorem eventReads_in (l : List UInt8) (w : World) (hl : l.length ≤ 2000) (hM : HasMax w) :
    ∃ r : List Ev × Int × Int, r.1.length ≤ 100000 ∧ (Calls Tryd.prog 26 #[strV l] w fun e w' => ∃ A n c, e = .returned (.tuple #[.slice A n c, .int .i64 r.2.1, .int .i64 r.2.2]) ∧ FreshE w w' r.1 A n c) ∧
      ∀ w1, Kept [] w w1 → Calls Tryd.prog 27 #[strV l] w1 fun e w' => ∃ A n c, e = .returned (.tuple #[.slice A n c, .int .i64 r.2.1, .int .i64 r.2.2]) ∧ FreshE w1 w' r.1 A n c := by
  refine ⟨readsE [] (linesF [] l), ?_, readE_any l w (by omega) hM, fun w1 _ => refReadE l w1 (by omega)⟩
  have h1 := readsE_len (linesF [] l) []
  have h2 := (linesF_len l []).1
  simp at h1
  omega

set_option maxHeartbeats 3200000 in
set_option maxRecDepth 100000 in
theorem eventReads_walk (l : List UInt8) (w : World) (hl : l.length ≤ 9223372036854775807) (hM : HasMax w) (hP : HasPow w) :
    Calls Tryd.prog 6 #[strV l] w fun e w' => e = .returned (.bool true) ∧ Kept [] w w' := by
  have hlt : (l.take 2000).length ≤ 2000 := by simp; omega
  obtain ⟨⟨es, nn, ec⟩, hel, h1, h2⟩ := eventReads_in (l.take 2000) w hlt hM
  simp only at hel h1 h2
  have H1 := Lib.hid h1
  have H2 := Lib.hid h2
  have HP := Lib.hid hP
  clear hM hP h1 h2
  by_cases h : 2000 < l.length
  · have hx := str_extract l 0 2000
    simp only [List.drop_zero, Nat.sub_zero] at hx
    generalize l.take 2000 = l4 at *
    go_enter Tryd.func6, Tryd.ntmps6
    go_wp2_with fail
    try rw [hx]
    refine (H1.out).mono ?_
    rintro e w1 ⟨A1, n1, c1, rfl, hf1⟩
    have HF1 := Lib.hid hf1
    clear hf1
    go_wp2_with fail
    try rw [hx]
    refine (H2.out _ HF1.out.2.1).mono ?_
    rintro e w2 ⟨A2, n2, c2, rfl, hf2⟩
    have HF2 := Lib.hid hf2
    have HK2 := Lib.hid (HF1.out.2.1.trans hf2.2.1)
    have HR := Lib.hid (refSameE A1 n1 c1 A2 n2 c2 es _ ((reads_fresh HF1.out).old hf2.2.1) (reads_fresh hf2) hel)
    clear hf2
    go_wp2_with fail
    refine (HR.out).mono ?_
    rintro e w3 ⟨rfl, hk3⟩
    have HK3 := Lib.hid (HK2.out.trans hk3)
    clear hk3
    go_wp2_with fail
    refine (awake31 _ (HP.out.old HK3.out)).mono ?_
    rintro e w4 ⟨rfl, hk4⟩
    have HK4 := Lib.hid (HK3.out.trans hk4)
    clear hk4
    go_wp2_with fail
    go_ret
    exact ⟨rfl, HK4.out⟩
  · have hx : l.take 2000 = l := List.take_of_length_le (by omega)
    rw [hx] at H1 H2
    go_enter Tryd.func6, Tryd.ntmps6
    go_wp2_with fail
    refine (H1.out).mono ?_
    rintro e w1 ⟨A1, n1, c1, rfl, hf1⟩
    have HF1 := Lib.hid hf1
    clear hf1
    go_wp2_with fail
    refine (H2.out _ HF1.out.2.1).mono ?_
    rintro e w2 ⟨A2, n2, c2, rfl, hf2⟩
    have HF2 := Lib.hid hf2
    have HK2 := Lib.hid (HF1.out.2.1.trans hf2.2.1)
    have HR := Lib.hid (refSameE A1 n1 c1 A2 n2 c2 es _ ((reads_fresh HF1.out).old hf2.2.1) (reads_fresh hf2) hel)
    clear hf2
    go_wp2_with fail
    refine (HR.out).mono ?_
    rintro e w3 ⟨rfl, hk3⟩
    have HK3 := Lib.hid (HK2.out.trans hk3)
    clear hk3
    go_wp2_with fail
    refine (awake31 _ (HP.out.old HK3.out)).mono ?_
    rintro e w4 ⟨rfl, hk4⟩
    have HK4 := Lib.hid (HK3.out.trans hk4)
    clear hk4
    go_wp2_with fail
    go_ret
    exact ⟨rfl, HK4.out⟩

end Go.Proofs.YtohkgdgdblnbfaaDoor
