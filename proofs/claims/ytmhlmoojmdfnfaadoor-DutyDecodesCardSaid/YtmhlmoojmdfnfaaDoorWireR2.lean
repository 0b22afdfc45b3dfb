/- The reader of package wire, continued: Bytes and Read; nil writers and readers. -/
import Derived.Test.YtmhlmoojmdfnfaaDoorWireR
namespace Go.Proofs.YtmhlmoojmdfnfaaDoor
open Go.RowKit

/-- What Bytes hands back: a slice that reads as l, in the memory of the slice at A. -/
def Handed (w' : World) (A : Option Addr) (l : List UInt8) (v : Value) : Prop :=
  ∃ A' m c', v = .slice A' m c' ∧ Reads w' 1 A' m (l.map B) ∧ ∀ ad, A' = some ad → ∃ a0, A = some a0 ∧ ad.block = a0.block

theorem handed_nil (w' : World) (A : Option Addr) : Handed w' A [] (.slice none 0 0) := ⟨none, 0, 0, rfl, Reads.none_, by simp⟩

theorem takeS_none_int {s : RS} {n : Nat} (h : (takeS s n).2 = none) (h0 : s.1 = 0) : s.2.length < n := by
  simp only [takeS, h0, ne_eq, not_true_eq_false, if_false] at h
  split at h
  · assumption
  · simp at h

theorem RGoes.into2 {w w1 : World} {g : Nat} {A : Option Addr} {s : RS} (h : RGoes w g A s w1) :
    ∃ A1 c1, IsR w1 g A1 c1 s ∧ Kept [g] w w1 ∧ (∀ ad, A1 = some ad → ∃ a0, A = some a0 ∧ ad.block = a0.block) ∧ ∀ s' w2, RGoes w1 g A1 s' w2 → RGoes w g A s' w2 := by
  obtain ⟨A1, c1, h1, h2, h3⟩ := h
  exact ⟨A1, c1, h1, h2, h3, fun s' w2 hh => RGoes.next ⟨A1, c1, h1, h2, h3⟩ (fun A' c' hR => by
    obtain ⟨A2, c2, k1, k2, k3⟩ := hh
    have e1 := hR.1
    have e2 := h1.1
    unfold Blk at e1 e2
    rw [e1] at e2
    injection e2 with e2
    injection e2 with e2
    simp only [Array.mk.injEq, List.cons.injEq, Value.slice.injEq, true_and, and_true] at e2
    rw [e2.1]
    exact ⟨A2, c2, k1, k2, k3⟩)⟩

theorem takeS_some {s1 s2 : RS} {n : Nat} {l : List UInt8} (ho : takeS s1 n = (s2, some l)) : ∃ bs, s1 = (0, bs) ∧ n ≤ bs.length ∧ s2 = (0, bs.drop n) ∧ l = bs.take n := by
  obtain ⟨e1, bs⟩ := s1
  unfold takeS at ho
  split at ho
  · simp at ho
  · split at ho
    · simp at ho
    · next h1 h2 =>
      simp only [ne_eq, Decidable.not_not] at h1
      subst h1
      simp at ho h2
      exact ⟨bs, rfl, h2, ho.1.symm, ho.2.symm⟩

set_option maxHeartbeats 400000 in
theorem rread_any (A : Option Addr) (m c : Nat) (l : List UInt8) (w : World) (hr : Reads w 1 A m (l.map B)) (hb : l.length ≤ 1000000000) :
    Calls Tryd.prog 45 #[.slice A m c] w fun e w' => ∃ g A' c', e = .returned (.pointer (some ⟨g, 0, none⟩)) ∧ IsR w' g A' c' (0, l) ∧ Kept [] w w' ∧ w.heap.size ≤ g ∧ ∀ ad, A' = some ad → w.heap.size ≤ ad.block := by
  have hm : m = l.length := by have := hr.1; simpa using this.symm
  subst hm
  have HR := Lib.hid hr
  clear hr
  go_enter Tryd.func45, Tryd.ntmps45
  go_wp2_with (at_builtin; go_must (refine wpList_append_any _ rfl _ _ _ rfl 5 (.int .u8 0) 1 1 Tryd.underlying32 Tryd.info5 rfl (by omega) (.slice (some ⟨w.heap.size, 0, none⟩) 0 0) 0 [] rfl (World.ownsRow_made w #[] 0 (Nat.zero_le _) (Nat.zero_le _) rfl) A l.length c (l.map B) rfl (HR.out.alloc _) (B_one l) (by simp only [maxLen]; omega) (by omega) ?_); intro A2 c2 w2 happ)
  go_ret
  have ho : w2.ownsRow 0 5 1 (.slice A2 l.length c2) l.length (l.map B) := by simpa using happ.1
  have hk : Kept [] w w2 := ((Kept.refl _ _).alloc _).trans' happ.2.1 fun k hm => .inr (by simp [fp, Value.ownBlock] at hm; omega)
  have hnew : ∀ ad, A2 = some ad → w.heap.size ≤ ad.block := by
    rintro ad rfl
    rcases happ.2.2 ad.block (by simp [fp_slice]) with h | h
    · simp [fp, Value.ownBlock] at h; omega
    · simp at h; omega
  have hlt2 : ∀ ad, A2 = some ad → ad.block < w2.heap.size := by
    rintro ad rfl
    exact own_lt ho ad.block (by simp [fp_slice])
  obtain ⟨A3, c3, hv, hlc, hcm⟩ := own_form ho
  injection hv with hA hn hc
  subst hA hc
  refine ⟨w2.heap.size, A2, c2, rfl, ⟨Blk.new _ _ _, (Reads.of_own ho).alloc _, hlc, hcm, fun ad e => ?_⟩, hk.alloc _, hk.size, hnew⟩
  have := hlt2 ad e
  exact ⟨by omega, by simp; omega⟩

end Go.Proofs.YtmhlmoojmdfnfaaDoor
