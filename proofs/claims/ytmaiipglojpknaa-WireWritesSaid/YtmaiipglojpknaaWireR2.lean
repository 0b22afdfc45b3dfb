/- The reader of package wire, continued: Bytes and Read; nil writers and readers. -/
import Derived.Test.YtmaiipglojpknaaWireR
namespace Go.Proofs.Ytmaiipglojpknaa
open Go.RowKit

/-- What Bytes hands back: a slice that reads as l, in the memory of the slice at A. -/
def Handed (w' : World) (A : Option Addr) (l : List UInt8) (v : Value) : Prop :=
  ∃ A' m c', v = .slice A' m c' ∧ Reads w' 1 A' m (l.map B) ∧ ∀ ad, A' = some ad → ∃ a0, A = some a0 ∧ ad.block = a0.block

theorem handed_nil (w' : World) (A : Option Addr) : Handed w' A [] (.slice none 0 0) := ⟨none, 0, 0, rfl, Reads.none_, by simp⟩

theorem takeS_none_int {s : RS} {n : Nat} (h : (takeS s n).2 = none) (h0 : s.1 = 0) : s.2.length < n := by
  simp only [takeS, h0, ne_eq, not_true_eq_false, if_false] at h
  split at h
  · assumption
  · simp at h

theorem RGoes.into2 {w w1 : World} {g : Nat} {A : Option Addr} {s : RS} (h : RGoes w g A s w1) :
    ∃ A1 c1, IsR w1 g A1 c1 s ∧ Kept [g] w w1 ∧ (∀ ad, A1 = some ad → ∃ a0, A = some a0 ∧ ad.block = a0.block) ∧ ∀ s' w2, RGoes w1 g A1 s' w2 → RGoes w g A s' w2 := by
  obtain ⟨A1, c1, h1, h2, h3⟩ := h
  exact ⟨A1, c1, h1, h2, h3, fun s' w2 hh => RGoes.next ⟨A1, c1, h1, h2, h3⟩ (fun A' c' hR => by
    obtain ⟨A2, c2, k1, k2, k3⟩ := hh
    have e1 := hR.1
    have e2 := h1.1
    unfold Blk at e1 e2
    rw [e1] at e2
    injection e2 with e2
    injection e2 with e2
    simp only [Array.mk.injEq, List.cons.injEq, Value.slice.injEq, true_and, and_true] at e2
    rw [e2.1]
    exact ⟨A2, c2, k1, k2, k3⟩)⟩

theorem takeS_some {s1 s2 : RS} {n : Nat} {l : List UInt8} (ho : takeS s1 n = (s2, some l)) : ∃ bs, s1 = (0, bs) ∧ n ≤ bs.length ∧ s2 = (0, bs.drop n) ∧ l = bs.take n := by
  obtain ⟨e1, bs⟩ := s1
  unfold takeS at ho
  split at ho
  · simp at ho
  · split at ho
    · simp at ho
    · next h1 h2 =>
      simp only [ne_eq, Decidable.not_not] at h1
      subst h1
      simp at ho h2
      exact ⟨bs, rfl, h2, ho.1.symm, ho.2.symm⟩

set_option maxHeartbeats 800000 in
theorem rbytes_any (g : Nat) (A : Option Addr) (c : Nat) (s : RS) (most : Int) (w : World) (h : IsR w g A c s) (hm : most ≤ 9223372036854775807) (_hm0 : -9223372036854775808 ≤ most) :
    Calls Try.prog 23 #[.pointer (some ⟨g, 0, none⟩), .int .i64 most] w fun e w' => ∃ v, e = .returned v ∧ Handed w' A (bytesS s most).2 v ∧ RGoes w g A (bytesS s most).1 w' := by
  have HN := rnum_any g A c s w h
  have hlt := numS_lt s
  obtain ⟨r, hr0⟩ : ∃ r, bytesS s most = r := ⟨_, rfl⟩
  rw [hr0]
  unfold bytesS at hr0
  obtain ⟨s1, x, hs⟩ : ∃ s1 x, numS s = (s1, x) := ⟨_, _, rfl⟩
  rw [hs] at HN hr0 hlt
  simp only at HN hr0 hlt
  have HR := Lib.hid hr0
  have HC := Lib.hid HN
  clear h hs hr0 HN
  by_cases h0 : s1.1 = 0
  · have hb : (s1.1 == 0) = true := by simp [h0]
    have H0 := Lib.hid h0
    clear h0
    by_cases hmx : most < x
    · have HR2 : Hid (r = (failS s1 5, [])) := by
        rw [← HR.out, if_neg (by simpa using H0.out), if_pos hmx]; exact rfl
      clear HR
      by_cases hneg : most < 0
      all_goals
        go_enter Try.func23, Try.ntmps23
        go_wp2_with fail
        refine HC.out.mono ?_
        rintro e w1 ⟨rfl, hgo⟩
        obtain ⟨A1, c1, hR1, hk1, hgo1⟩ := hgo.into
        have H1 := Lib.hid hgo1
        clear hgo hgo1 hk1
        go_wp2_with fail
        refine (rwell_any g A1 c1 s1 w1 hR1).mono ?_
        rintro e w2 ⟨rfl, rfl⟩
        go_wp2_with fail
        refine (rfail_any g A1 c1 s1 5 w1 hR1).mono ?_
        rintro e w3 ⟨rfl, hgo2⟩
        go_wp2_with fail
        go_ret
        rw [HR2.out]
        exact ⟨_, rfl, handed_nil _ _, H1.out _ _ hgo2⟩
    · obtain ⟨s2, o, ho⟩ : ∃ s2 o, takeS s1 x = (s2, o) := ⟨_, _, rfl⟩
      have hr1 := HR.out
      rw [if_neg (by simpa using H0.out), if_neg hmx, ho] at hr1
      clear HR
      have hx63 : x ≤ 9223372036854775807 := by omega
      cases o with
      | none =>
        have HR2 : Hid (r = (s2, [])) := hr1.symm
        have HO : Hid (takeS s1 x = (s2, none)) := ho
        clear hr1 ho
        go_enter Try.func23, Try.ntmps23
        go_wp2_with fail
        refine HC.out.mono ?_
        rintro e w1 ⟨rfl, hgo⟩
        obtain ⟨A1, c1, hR1, hk1, ha1, hgo1⟩ := hgo.into2
        have H1 := Lib.hid hgo1
        clear hgo hgo1 hk1
        go_wp2_with fail
        refine (rwell_any g A1 c1 s1 w1 hR1).mono ?_
        rintro e w2 ⟨rfl, rfl⟩
        go_wp2_with fail
        refine (take_no g A1 c1 s1 x w1 hR1 (by rw [HO.out]) (by omega)).mono ?_
        rintro e w3 ⟨rfl, hgo2⟩
        rw [HO.out] at hgo2
        go_wp2_with fail
        go_ret
        rw [HR2.out]
        exact ⟨_, rfl, handed_nil _ _, H1.out _ _ hgo2⟩
      | some l =>
        have HR2 : Hid (r = (s2, l)) := hr1.symm
        clear hr1
        obtain ⟨bs, rfl, hnl, rfl, rfl⟩ := takeS_some ho
        clear ho
        go_enter Try.func23, Try.ntmps23
        go_wp2_with fail
        refine HC.out.mono ?_
        rintro e w1 ⟨rfl, hgo⟩
        obtain ⟨A1, c1, hR1, hk1, ha1, hgo1⟩ := hgo.into2
        have H1 := Lib.hid hgo1
        have HA := Lib.hid ha1
        clear hgo hgo1 hk1 ha1
        go_wp2_with fail
        refine (rwell_any g A1 c1 (0, bs) w1 hR1).mono ?_
        rintro e w2 ⟨rfl, rfl⟩
        go_wp2_with fail
        refine (take_ok g A1 c1 bs x w1 hR1 hnl).mono ?_
        rintro e w3 ⟨rfl, hgo2⟩
        have hk2 : Kept [g] w1 w3 := by obtain ⟨_, _, _, hk, _⟩ := hgo2; exact hk
        have hr2 : Reads w3 1 A1 x ((bs.take x).map B) := by
          have := (hR1.2.1.upto hnl).kept hk2 (fun ad e => by simpa using (hR1.2.2.2.2 ad e).1)
          simpa [List.map_take] using this
        have HR3 := Lib.hid hr2
        clear hr2
        go_wp2_with fail
        go_ret
        rw [HR2.out]
        exact ⟨_, rfl, ⟨A1, x, x, rfl, HR3.out, HA.out⟩, H1.out _ _ hgo2⟩
  · have hb : (s1.1 == 0) = false := beq_eq_false_iff_ne.2 h0
    have HR2 : Hid (r = (s1, [])) := by
      rw [← HR.out, if_pos h0]; exact rfl
    clear HR h0
    go_enter Try.func23, Try.ntmps23
    go_wp2_with fail
    refine HC.out.mono ?_
    rintro e w1 ⟨rfl, hgo⟩
    obtain ⟨A1, c1, hR1, hk1, ha1⟩ := id hgo
    go_wp2_with fail
    refine (rwell_any g A1 c1 s1 w1 hR1).mono ?_
    rintro e w2 ⟨rfl, rfl⟩
    go_wp2_with fail
    go_ret
    rw [HR2.out]
    exact ⟨_, rfl, handed_nil _ _, hgo⟩

set_option maxHeartbeats 400000 in
theorem rread_any (A : Option Addr) (m c : Nat) (l : List UInt8) (w : World) (hr : Reads w 1 A m (l.map B)) (hb : l.length ≤ 1000000000) :
    Calls Try.prog 13 #[.slice A m c] w fun e w' => ∃ g A' c', e = .returned (.pointer (some ⟨g, 0, none⟩)) ∧ IsR w' g A' c' (0, l) ∧ Kept [] w w' ∧ w.heap.size ≤ g ∧ ∀ ad, A' = some ad → w.heap.size ≤ ad.block := by
  have hm : m = l.length := by have := hr.1; simpa using this.symm
  subst hm
  have HR := Lib.hid hr
  clear hr
  go_enter Try.func13, Try.ntmps13
  go_wp2_with (at_builtin; go_must (refine wpList_append_any _ rfl _ _ _ rfl 5 (.int .u8 0) 1 1 Try.underlying25 Try.info5 rfl (by omega) (.slice (some ⟨w.heap.size, 0, none⟩) 0 0) 0 [] rfl (World.ownsRow_made w #[] 0 (Nat.zero_le _) (Nat.zero_le _) rfl) A l.length c (l.map B) rfl (HR.out.alloc _) (B_one l) (by simp only [maxLen]; omega) (by omega) ?_); intro A2 c2 w2 happ)
  go_ret
  have ho : w2.ownsRow 0 5 1 (.slice A2 l.length c2) l.length (l.map B) := by simpa using happ.1
  have hk : Kept [] w w2 := ((Kept.refl _ _).alloc _).trans' happ.2.1 fun k hm => .inr (by simp [fp, Value.ownBlock] at hm; omega)
  have hnew : ∀ ad, A2 = some ad → w.heap.size ≤ ad.block := by
    rintro ad rfl
    rcases happ.2.2 ad.block (by simp [fp_slice]) with h | h
    · simp [fp, Value.ownBlock] at h; omega
    · simp at h; omega
  have hlt2 : ∀ ad, A2 = some ad → ad.block < w2.heap.size := by
    rintro ad rfl
    exact own_lt ho ad.block (by simp [fp_slice])
  obtain ⟨A3, c3, hv, hlc, hcm⟩ := own_form ho
  injection hv with hA hn hc
  subst hA hc
  refine ⟨w2.heap.size, A2, c2, rfl, ⟨Blk.new _ _ _, (Reads.of_own ho).alloc _, hlc, hcm, fun ad e => ?_⟩, hk.alloc _, hk.size, hnew⟩
  have := hlt2 ad e
  exact ⟨by omega, by simp; omega⟩

end Go.Proofs.Ytmaiipglojpknaa
