/- Law 03: awake. -/
import Derived.Test.YtkgnfnliboahaaaDoorNumsI
namespace Go.Proofs.YtkgnfnliboahaaaDoor
open Go.RowKit

theorem reads_two (w : World) (t : TypeId) (x y : Value) : Reads (w.alloc (.cells #[x, y] t)) 1 (some ⟨w.heap.size, 0, none⟩) 2 [x, y] :=
  Reads.of_own (own_of_blk (Blk.new w t #[x, y]) rfl (by simp only [maxLen, List.length_cons, List.length_nil]; omega))

set_option maxHeartbeats 800000 in
theorem awake3 (w : World) (hM : HasMax w) : Calls Tryd.prog 12 #[] w fun e w' => e = .returned (.bool true) ∧ Kept [] w w' := by
  have HR1 : Hid (∀ w, Calls Tryd.prog 16 #[.string ⟨#[48, 48, 55]⟩] w fun e w' => e = .returned (.tuple #[.int .u64 0, .int .i64 3]) ∧ Kept [] w w') := by
    intro w
    have := read_any [48, 48, 55] w (by decide)
    rw [show readD [48, 48, 55] = (0, 3) by decide] at this
    exact this
  have HR2 : Hid (∀ w, Calls Tryd.prog 16 #[.string ⟨#[49, 56, 52, 52, 54, 55, 52, 52, 48, 55, 51, 55, 48, 57, 53, 53, 49, 54, 49, 54]⟩] w fun e w' => e = .returned (.tuple #[.int .u64 0, .int .i64 5]) ∧ Kept [] w w') := by
    intro w
    have := read_any [49, 56, 52, 52, 54, 55, 52, 52, 48, 55, 51, 55, 48, 57, 53, 53, 49, 54, 49, 54] w (by decide)
    rw [show readD [49, 56, 52, 52, 54, 55, 52, 52, 48, 55, 51, 55, 48, 57, 53, 53, 49, 54, 49, 54] = (0, 5) by decide] at this
    exact this
  have HH : Hid (∀ w, Calls Tryd.prog 15 #[.int .u64 255] w fun e w' => e = .returned (.string ⟨#[48, 48, 48, 48, 48, 48, 48, 48, 48, 48, 48, 48, 48, 48, 102, 102]⟩) ∧ Kept [] w w') := by
    intro w
    have := hex_any 255 w (by decide)
    rw [show hex 255 = [48, 48, 48, 48, 48, 48, 48, 48, 48, 48, 48, 48, 48, 48, 102, 102] by decide] at this
    exact this
  have HW : Hid (∀ w, HasMax w → Calls Tryd.prog 8 #[.string ⟨#[32, 97, 32, 32, 98, 99, 32]⟩] w fun e w' => ∃ A c, e = .returned (.slice A 2 c) ∧ FreshS w w' [[97], [98, 99]] A 2 c) := by
    intro w hM
    have := words_any [32, 97, 32, 32, 98, 99, 32] w (by decide) hM
    rw [show words [32, 97, 32, 32, 98, 99, 32] = [[97], [98, 99]] by decide] at this
    exact this
  have HM := Lib.hid hM
  clear hM
  go_enter Tryd.func12, Tryd.ntmps12
  go_wp2_with fail
  refine (HR1.out _).mono ?_
  rintro e w1 ⟨rfl, hk1⟩
  go_wp2_with fail
  refine (HR2.out _).mono ?_
  rintro e w2 ⟨rfl, hk2⟩
  go_wp2_with fail
  refine (HH.out _).mono ?_
  rintro e w3 ⟨rfl, hk3⟩
  go_wp2_with fail
  refine (HW.out _ (((HM.out.old hk1).old hk2).old hk3)).mono ?_
  rintro e w4 ⟨A, c, rfl, hf4⟩
  have HF4 := Lib.hid hf4
  clear hf4
  go_wp2_with fail
  refine (refSame _ _ _ _ _ _ [[97], [98, 99]] [[97], [98, 99]] _ ((Reads.of_own HF4.out.1).alloc _) (reads_two _ _ _ _) (by decide) (by decide)).mono ?_
  rintro e w5 ⟨rfl, hk5⟩
  go_wp2_with fail
  go_ret
  exact ⟨rfl, (((hk1.trans hk2).trans hk3).trans HF4.out.2.1).trans (((Kept.refl _ _).alloc _).trans hk5)⟩

end Go.Proofs.YtkgnfnliboahaaaDoor
