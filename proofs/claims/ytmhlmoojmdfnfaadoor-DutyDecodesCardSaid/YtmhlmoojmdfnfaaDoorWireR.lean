/- The reader of package wire: what each of its functions does to memory. -/
import Derived.Test.YtmhlmoojmdfnfaaDoorWireW2
import Derived.Laws.BitsAllLaws
namespace Go.Proofs.YtmhlmoojmdfnfaaDoor
open Go.RowKit

/-- A reader: the block of its struct, its slice, what is wrong, what is left. -/
def IsR (w : World) (g : Nat) (A : Option Addr) (c : Nat) (s : RS) : Prop :=
  Blk w g 125 #[.int .i64 s.1, .slice A s.2.length c] ∧ Reads w 1 A s.2.length (s.2.map B) ∧ s.2.length ≤ c ∧ c ≤ maxLen ∧ ∀ ad, A = some ad → ad.block ≠ g ∧ ad.block < w.heap.size

/-- The reader at g with its slice at A is in w' one with state s; nothing else has turned. -/
def RGoes (w : World) (g : Nat) (A : Option Addr) (s : RS) (w' : World) : Prop :=
  ∃ A' c', IsR w' g A' c' s ∧ Kept [g] w w' ∧ ∀ ad, A' = some ad → ∃ a0, A = some a0 ∧ ad.block = a0.block

theorem IsR.kept {w w' : World} {g : Nat} {A : Option Addr} {c : Nat} {s : RS} {G : List Nat} (h : IsR w g A c s) (hk : Kept G w w') (hg : g ∉ G) (hA : ∀ ad, A = some ad → ad.block ∉ G) : IsR w' g A c s :=
  ⟨h.1.kept hk hg, h.2.1.kept hk hA, h.2.2.1, h.2.2.2.1, fun ad e => ⟨(h.2.2.2.2 ad e).1, Nat.lt_of_lt_of_le (h.2.2.2.2 ad e).2 hk.size⟩⟩

theorem RGoes.next {w w1 w' : World} {g : Nat} {A : Option Addr} {s s' : RS} (h : RGoes w g A s w1) (h' : ∀ A' c', IsR w1 g A' c' s → RGoes w1 g A' s' w') : RGoes w g A s' w' := by
  obtain ⟨A', c', h1, h2, h3⟩ := h
  obtain ⟨A2, c2, k1, k2, k3⟩ := h' A' c' h1
  refine ⟨A2, c2, k1, h2.trans k2, fun ad hm => ?_⟩
  obtain ⟨a1, e1, b1⟩ := k3 ad hm
  obtain ⟨a0, e0, b0⟩ := h3 a1 e1
  exact ⟨a0, e0, b1.trans b0⟩

theorem IsR.same {w : World} {g : Nat} {A : Option Addr} {c : Nat} {s : RS} (h : IsR w g A c s) : RGoes w g A s w := ⟨A, c, h, Kept.refl _ _, fun ad h => ⟨ad, h, rfl⟩⟩

theorem IsR.fails {w : World} {g : Nat} {A : Option Addr} {c : Nat} {s : RS} (h : IsR w g A c s) (e : Int) : RGoes w g A (failS s e) (if s.1 == 0 then w.setCell ⟨g, 0, none⟩ (.int .i64 e) else w) := by
  by_cases h0 : s.1 = 0
  · have hk : Kept [g] w (w.setCell ⟨g, 0, none⟩ (.int .i64 e)) := (Kept.refl _ _).setCell (.inl (by simp)) _
    rw [if_pos (by simp [h0])]
    refine ⟨A, c, ?_, hk, fun ad h => ⟨ad, h, rfl⟩⟩
    have : failS s e = (e, s.2) := by simp [failS, h0]
    rw [this]
    exact ⟨h.1.set 0 _, h.2.1.kept hk (fun ad e => by simpa using (h.2.2.2.2 ad e).1), h.2.2.1, h.2.2.2.1, fun ad e => ⟨(h.2.2.2.2 ad e).1, Nat.lt_of_lt_of_le (h.2.2.2.2 ad e).2 hk.size⟩⟩
  · rw [if_neg (by simp [h0])]
    have : failS s e = s := by simp [failS, h0]
    rw [this]
    exact h.same

set_option maxHeartbeats 400000 in
theorem rfail_any (g : Nat) (A : Option Addr) (c : Nat) (s : RS) (e0 : Int) (w : World) (h : IsR w g A c s) :
    Calls Tryd.prog 130 #[.pointer (some ⟨g, 0, none⟩), .int .i64 e0] w fun e w' => e = .returned (.tuple #[]) ∧ RGoes w g A (failS s e0) w' :=
  (fail_any g 0 s.1 e0 w (by rw [h.1.cell]; rfl) (h.1.frozen 0)).mono fun _ _ ⟨he, hw⟩ => ⟨he, hw ▸ h.fails e0⟩

theorem rwell_any (g : Nat) (A : Option Addr) (c : Nat) (s : RS) (w : World) (h : IsR w g A c s) :
    Calls Tryd.prog 107 #[.pointer (some ⟨g, 0, none⟩)] w fun e w' => e = .returned (.bool (s.1 == 0)) ∧ w = w' := well_any _ _ _ (by rw [h.1.cell]; rfl)

set_option maxHeartbeats 400000 in
theorem take_ok (g : Nat) (A : Option Addr) (c : Nat) (bs : List UInt8) (n : Nat) (w : World) (h : IsR w g A c (0, bs)) (hn : n ≤ bs.length) :
    Calls Tryd.prog 120 #[.pointer (some ⟨g, 0, none⟩), .int .i64 n] w fun e w' => e = .returned (.tuple #[.slice A n n, .bool true]) ∧ RGoes w g A (0, bs.drop n) w' := by
  have HR := Lib.hid h
  obtain ⟨hB, hr, hl, hm, hne⟩ := h
  simp only at hl hm hB hr
  unfold maxLen at hm
  have hc := hB.cell
  have hf := hB.frozen
  have hw := rwell_any g A c (0, bs) w HR.out
  have HW := Lib.hid hw
  have H1 := run_cut_hm (P := Tryd.prog) 32 5 (.int .u8 0) 1 Tryd.underlying32 Tryd.info5 A bs.length c .i64 n n rfl (by omega)
  have H2 := run_cut_lo (P := Tryd.prog) 32 5 (.int .u8 0) 1 Tryd.underlying32 Tryd.info5 A bs.length c .i64 n n rfl (by omega)
  clear hB hr hw
  go_enter Tryd.func120, Tryd.ntmps120
  go_wp2_with (first | (go_at_call 107; refine HW.out.mono ?_; rintro e w' ⟨rfl, rfl⟩))
  go_ret2
  refine ⟨rfl, cutA A n c, c - n, ?_, (Kept.refl _ _).setCell (.inl (by simp)) _, fun ad h => cutA_block h⟩
  obtain ⟨hB, hr, _⟩ := HR.out
  have hk : Kept [g] w (w.setCell ⟨g, 1, none⟩ (.slice (cutA A n c) (bs.length - n) (c - n))) := (Kept.refl _ _).setCell (.inl (by simp)) _
  refine ⟨?_, ?_, by simp; omega, by simp only [maxLen]; omega, fun ad hA => ?_⟩
  · simp only [List.length_drop]; exact hB.set 1 _
  · simp only [List.length_drop, List.map_drop]
    exact (hr.cutA hn hl).kept hk fun ad hA => by
      obtain ⟨a0, e0, b0⟩ := cutA_block hA
      rw [b0]; simpa using (hne a0 e0).1
  · obtain ⟨a0, e0, b0⟩ := cutA_block hA
    rw [b0]; exact ⟨(hne a0 e0).1, Nat.lt_of_lt_of_le (hne a0 e0).2 hk.size⟩

set_option maxHeartbeats 400000 in
theorem take_no (g : Nat) (A : Option Addr) (c : Nat) (s : RS) (n : Nat) (w : World) (h : IsR w g A c s) (hn : (takeS s n).2 = none) (hn8 : n ≤ 9223372036854775807) :
    Calls Tryd.prog 120 #[.pointer (some ⟨g, 0, none⟩), .int .i64 n] w fun e w' => e = .returned (.tuple #[.slice none 0 0, .bool false]) ∧ RGoes w g A (takeS s n).1 w' := by
  have HR := Lib.hid h
  obtain ⟨hB, hr, hl, hm, hne⟩ := h
  unfold maxLen at hm
  have hc := hB.cell
  have hf := hB.frozen
  have hw := rwell_any g A c s w HR.out
  have HW := Lib.hid hw
  have HN := Lib.hid hn
  clear hB hr hw hn
  by_cases h0 : s.1 = 0
  · have h1 : s.2.length < n := by
      have := HN.out
      simp only [takeS, h0, ne_eq, not_true_eq_false, if_false] at this
      split at this
      · assumption
      · simp at this
    have h0b : (s.1 == 0) = true := by simp [h0]
    have HF := Lib.hid (rfail_any g A c s 2 w HR.out)
    have HE : Hid (failS s 2 = (takeS s n).1) := by simp [Hid, failS, takeS, h0, h1]
    clear h0
    go_enter Tryd.func120, Tryd.ntmps120
    go_wp2_with (first | (go_at_call 107; refine HW.out.mono ?_; rintro e w' ⟨rfl, rfl⟩) | (go_at_call 130; refine HF.out.mono ?_; rintro e w' ⟨rfl, hgo⟩))
    go_ret2
    exact ⟨rfl, HE.out ▸ hgo⟩
  · have h0b : (s.1 == 0) = false := beq_eq_false_iff_ne.2 h0
    have HE : Hid (s = (takeS s n).1) := by simp [Hid, takeS, h0]
    clear h0
    go_enter Tryd.func120, Tryd.ntmps120
    go_wp2_with (first | (go_at_call 107; refine HW.out.mono ?_; rintro e w' ⟨rfl, rfl⟩))
    go_ret2
    exact ⟨rfl, HE.out ▸ HR.out.same⟩

/-- How a byte is read: either there is none, or it is the first one. -/
theorem byteS_cases (s : RS) : ((takeS s 1).2 = none ∧ byteS s = ((takeS s 1).1, 0)) ∨ ∃ b bs, s = (0, b :: bs) ∧ byteS s = ((0, bs), b) := by
  obtain ⟨e, l⟩ := s
  by_cases h0 : e = 0
  · subst h0
    cases l with
    | nil => left; simp [takeS, byteS]
    | cons b bs => right; exact ⟨b, bs, rfl, by simp [takeS, byteS]⟩
  · left; simp [takeS, byteS, h0]

theorem byteS_none {s : RS} (h : (takeS s 1).2 = none) : byteS s = ((takeS s 1).1, 0) := by
  rcases byteS_cases s with h1 | ⟨b, bs, rfl, _⟩
  · exact h1.2
  · simp [takeS] at h

set_option maxHeartbeats 400000 in
theorem rbyte_any (g : Nat) (A : Option Addr) (c : Nat) (s : RS) (w : World) (h : IsR w g A c s) :
    Calls Tryd.prog 67 #[.pointer (some ⟨g, 0, none⟩)] w fun e w' => e = .returned (.int .u8 ((byteS s).2.toNat : Int)) ∧ RGoes w g A (byteS s).1 w' := by
  rcases byteS_cases s with ⟨h1, h2⟩ | ⟨b, bs, rfl, h2⟩
  · have HT := Lib.hid (take_no g A c s 1 w h h1 (by omega))
    have HE := Lib.hid h2
    clear h h1 h2
    go_enter Tryd.func67, Tryd.ntmps67
    go_wp2_with (first | (go_at_call 120; refine HT.out.mono ?_; rintro e w' ⟨rfl, hgo⟩))
    go_ret
    rw [HE.out]
    exact ⟨rfl, hgo⟩
  · have HT := Lib.hid (take_ok g A c (b :: bs) 1 w h (by simp))
    have hr := h.2.1
    obtain ⟨ab, ao, rfl, hlt, hcell⟩ := hr.addr (by simp) (by omega)
    have hne := (h.2.2.2.2 _ rfl).1
    have hc0 := hcell 0 (B b) (by simp)
    rw [Nat.add_zero] at hc0
    have HE := Lib.hid h2
    unfold B at hc0
    clear h h2 hr hcell
    go_enter Tryd.func67, Tryd.ntmps67
    go_wp2_with (first | (go_at_call 120; refine HT.out.mono ?_; rintro e w' ⟨rfl, hgo⟩; have hc1 : w'.cell? ⟨ab, ao, none⟩ = some (.int .u8 b.toNat) := (by obtain ⟨_, _, _, hk, _⟩ := hgo; exact hk.cell_some hc0 (by simpa using hne))))
    go_ret
    rw [HE.out]
    exact ⟨rfl, hgo⟩

theorem rnum_step {l : List UInt8} {k : Nat} (h : k < l.length) : valN (l.take (k + 1)) = valN (l.take k) * 256 + (l[k]).toNat := by
  rw [List.take_succ_eq_append_getElem h, valN_snoc]
theorem shl_or (x c : Nat) (hx : x < 72057594037927936) (hc : c < 256) : bits .or .u64 ((x : Int) * 256) (c : Int) = ((x * 256 + c : Nat) : Int) := by
  have h := u64_or_nat (x * 256) c (by omega) (by omega)
  have e : ((x * 256 : Nat) : Int) = (x : Int) * 256 := by omega
  rw [e] at h
  rw [h, Nat.mul_comm x 256, show (256 : Nat) = 2 ^ 8 from rfl, Nat.two_pow_add_eq_or_of_lt (by simpa using hc)]

/-- A reader's state goes on by another contract. -/
theorem RGoes.into {w w1 : World} {g : Nat} {A : Option Addr} {s : RS} (h : RGoes w g A s w1) : ∃ A1 c1, IsR w1 g A1 c1 s ∧ Kept [g] w w1 ∧ ∀ s' w2, RGoes w1 g A1 s' w2 → RGoes w g A s' w2 := by
  obtain ⟨A1, c1, h1, h2, h3⟩ := h
  refine ⟨A1, c1, h1, h2, fun s' w2 hh => ?_⟩
  obtain ⟨A2, c2, k1, k2, k3⟩ := hh
  refine ⟨A2, c2, k1, h2.trans k2, fun ad hm => ?_⟩
  obtain ⟨a1, e1, b1⟩ := k3 ad hm
  obtain ⟨a0, e0, b0⟩ := h3 a1 e1
  exact ⟨a0, e0, b1.trans b0⟩

set_option maxHeartbeats 800000 in
theorem rnum_any (g : Nat) (A : Option Addr) (c : Nat) (s : RS) (w : World) (h : IsR w g A c s) :
    Calls Tryd.prog 90 #[.pointer (some ⟨g, 0, none⟩)] w fun e w' => e = .returned (.int .u64 ((numS s).2 : Int)) ∧ RGoes w g A (numS s).1 w' := by
  have HB := rbyte_any g A c s w h
  obtain ⟨s1, b, hs⟩ : ∃ s1 b, byteS s = (s1, b) := ⟨_, _, rfl⟩
  obtain ⟨r, hr0⟩ : ∃ r, numS s = r := ⟨_, rfl⟩
  rw [hr0]
  have HN : Hid ((if 8 < b.toNat then (failS s1 3, 0) else match takeS s1 b.toNat with
    | (s', none) => (s', 0)
    | (s', some l) => if l.headD 1 = 0 then (failS s' 3, 0) else (s', valN l)) = r) := by rw [← hr0]; unfold numS; rw [hs]; exact rfl
  rw [hs] at HB
  simp only at HB
  clear hs h hr0
  have hb256 := b.toNat_lt
  generalize b.toNat = n at *
  have HB' := Lib.hid HB
  clear HB
  by_cases h8 : 8 < n
  · have HR : Hid (r = (failS s1 3, 0)) := by rw [← HN.out, if_pos h8]; exact rfl
    clear HN
    go_enter Tryd.func90, Tryd.ntmps90
    go_wp2_with fail
    refine HB'.out.mono ?_
    rintro e w1 ⟨rfl, hgo⟩
    obtain ⟨A1, c1, hR1, hk1, hgo1⟩ := hgo.into
    have H1 := Lib.hid hgo1
    clear hgo hgo1 hk1
    go_wp2_with fail
    refine (rfail_any g A1 c1 s1 3 w1 hR1).mono ?_
    rintro e w2 ⟨rfl, hgo2⟩
    go_wp2_with fail
    go_ret
    rw [HR.out]
    exact ⟨rfl, H1.out _ _ hgo2⟩
  · obtain ⟨s2, o, ho⟩ : ∃ s2 o, takeS s1 n = (s2, o) := ⟨_, _, rfl⟩
    have HN1 := HN.out
    rw [if_neg h8, ho] at HN1
    clear HN
    cases o with
    | none =>
      have HR : Hid (r = (s2, 0)) := HN1.symm
      clear HN1
      have HO := Lib.hid ho
      clear ho
      go_enter Tryd.func90, Tryd.ntmps90
      go_wp2_with fail
      refine HB'.out.mono ?_
      rintro e w1 ⟨rfl, hgo⟩
      obtain ⟨A1, c1, hR1, hk1, hgo1⟩ := hgo.into
      have H1 := Lib.hid hgo1
      clear hgo hgo1 hk1
      go_wp2_with fail
      refine (take_no g A1 c1 s1 n w1 hR1 (by rw [HO.out]) (by omega)).mono ?_
      rintro e w2 ⟨rfl, hgo2⟩
      rw [HO.out] at hgo2
      go_wp2_with fail
      go_ret
      rw [HR.out]
      exact ⟨rfl, H1.out _ _ hgo2⟩
    | some l =>
      simp only at HN1
      have HR0 := Lib.hid HN1
      clear HN1
      obtain ⟨bs, rfl, hnl, rfl, rfl⟩ : ∃ bs, s1 = (0, bs) ∧ n ≤ bs.length ∧ s2 = (0, bs.drop n) ∧ l = bs.take n := by
        obtain ⟨e1, bs⟩ := s1
        unfold takeS at ho
        split at ho
        · simp at ho
        · split at ho
          · simp at ho
          · next h1 h2 =>
            simp only [ne_eq, Decidable.not_not] at h1
            subst h1
            simp at ho h2
            exact ⟨bs, rfl, h2, ho.1.symm, ho.2.symm⟩
      clear ho
      go_enter Tryd.func90, Tryd.ntmps90
      go_wp2_with fail
      refine HB'.out.mono ?_
      rintro e w1 ⟨rfl, hgo⟩
      obtain ⟨A1, c1, hR1, hk1, hgo1⟩ := hgo.into
      have H1 := Lib.hid hgo1
      clear hgo hgo1 hk1
      have hr1 := hR1.2.1
      have hne1 := hR1.2.2.2.2
      go_wp2_with fail
      refine (take_ok g A1 c1 bs n w1 hR1 hnl).mono ?_
      rintro e w2 ⟨rfl, hgo2⟩
      have hk2 : Kept [g] w1 w2 := by obtain ⟨_, _, _, hk, _⟩ := hgo2; exact hk
      have hr2 : Reads w2 1 A1 n ((bs.take n).map B) := by
        have := (hr1.upto hnl).kept hk2 (fun ad e => by simpa using (hne1 ad e).1)
        simpa [List.map_take] using this
      clear hr1 hne1 hR1 hk2
      have hll : (bs.take n).length = n := by simp; omega
      generalize bs.take n = l at *
      cases l with
      | nil =>
        simp at hll
        subst hll
        go_wp2_with fail
        refine wp_loop_rounds 1 ?_; rw [rounds_succ]
        go_wp2_with fail
        go_ret
        rw [← HR0.out]
        exact ⟨rfl, H1.out _ _ hgo2⟩
      | cons b0 l =>
        obtain ⟨ab, ao, rfl, hlt, hcell⟩ := hr2.addr (by simp at hll; omega) (by omega)
        have hc0 := hcell 0 (B b0) rfl
        rw [Nat.add_zero] at hc0
        unfold B at hc0
        have hn0 : 0 < n := by simp at hll; omega
        by_cases hz : b0 = 0
        · subst hz
          obtain ⟨A2, c2, hR2, hk2, hgo3⟩ := hgo2.into
          have H2 := Lib.hid hgo3
          have HF := Lib.hid (rfail_any g A2 c2 (0, bs.drop n) 3 w2 hR2)
          clear hgo2 hgo3 hk2 hR2 hcell hr2
          go_wp2_with (first | (go_at_call 130; refine HF.out.mono ?_; rintro e w3 ⟨rfl, hgo4⟩))
          go_ret
          rw [← HR0.out]
          exact ⟨rfl, H1.out _ _ (H2.out _ _ hgo4)⟩
        · have hz1 : ¬ b0.toNat = 0 := fun e => hz (UInt8.toNat_inj.1 (by simpa using e))
          have hz2 : ((b0.toNat : Int) == 0) = false := by simp; omega
          have HL : Hid ((b0 :: l).length = n) := hll
          have HC := Lib.hid hcell
          have HZ : Hid (¬ (b0 :: l).headD 1 = 0) := by simpa [Hid] using hz
          generalize b0 :: l = l1 at *
          clear hr2 hcell hz hll
          go_wp2_with fail
          go_loop [6, 40] (fun x i => ∃ k : Nat, k ≤ n ∧ i = .int .i64 k ∧ x = .int .u64 (valN (l1.take k) : Nat)) (fun _ i => n - (intOf i).toNat)
          case atStart => exact ⟨0, by omega, rfl, rfl⟩
          case round =>
            obtain ⟨k, hk, rfl, rfl⟩ := hrel
            by_cases hlt2 : k < n
            · have hkl : k < l1.length := by rw [HL.out]; exact hlt2
              have hck := HC.out k (B l1[k]) (by simp [List.getElem?_eq_getElem hkl])
              unfold B at hck
              have hst := rnum_step hkl
              have hb1 := valN_lt (l1.take k)
              have hb2 : (l1.take k).length ≤ 7 := by simp; omega
              have hb3 : 256 ^ (l1.take k).length ≤ 256 ^ 7 := Nat.pow_le_pow_right (by omega) hb2
              have hb4 : valN (l1.take k) < 72057594037927936 := by omega
              have hb5 := (l1[k]).toNat_lt
              generalize valN (l1.take k) = x at *
              generalize (l1[k]).toNat = y at *
              have HS := Lib.hid hst
              clear hst hb1 hb2 hb3
              go_wp2_with fail
              go_round
              case rel => exact ⟨k + 1, by omega, by go_num, by rw [HS.out, shl_or x y hb4 hb5]⟩
              case measure => simp [intOf]; omega
            · obtain rfl : k = n := by omega
              go_wp2_with fail
              go_ret
              have hr1 := HR0.out
              rw [if_neg HZ.out] at hr1
              rw [← hr1]
              have := HL.out
              rw [List.take_of_length_le (by omega)]
              exact ⟨rfl, H1.out _ _ hgo2⟩

set_option maxHeartbeats 400000 in
theorem rtruth_any (g : Nat) (A : Option Addr) (c : Nat) (s : RS) (w : World) (h : IsR w g A c s) :
    Calls Tryd.prog 144 #[.pointer (some ⟨g, 0, none⟩)] w fun e w' => e = .returned (.bool (truthS s).2) ∧ RGoes w g A (truthS s).1 w' := by
  have HN := rbyte_any g A c s w h
  obtain ⟨r, hr0⟩ : ∃ r, truthS s = r := ⟨_, rfl⟩
  rw [hr0]
  unfold truthS at hr0
  obtain ⟨s1, x, hs⟩ : ∃ s1 x, byteS s = (s1, x) := ⟨_, _, rfl⟩
  rw [hs] at HN hr0
  simp only at HN hr0
  have hlt := x.toNat_lt
  generalize x.toNat = x at *
  have HR := Lib.hid hr0
  have HC := Lib.hid HN
  clear h hs hr0 HN
  by_cases hm : 1 < x
  · have hb : ((x : Int) == 1) = false := by simp; omega
    go_enter Tryd.func144, Tryd.ntmps144
    go_wp2_with fail
    refine HC.out.mono ?_
    rintro e w1 ⟨rfl, hgo⟩
    obtain ⟨A1, c1, hR1, hk1, hgo1⟩ := hgo.into
    have H1 := Lib.hid hgo1
    clear hgo hgo1 hk1
    go_wp2_with fail
    refine (rfail_any g A1 c1 s1 3 w1 hR1).mono ?_
    rintro e w2 ⟨rfl, hgo2⟩
    go_wp2_with fail
    go_ret
    rw [← HR.out, if_pos hm]
    have : (x == 1) = false := by simp; omega
    rw [this]
    exact ⟨rfl, H1.out _ _ hgo2⟩
  · go_enter Tryd.func144, Tryd.ntmps144
    go_wp2_with fail
    refine HC.out.mono ?_
    rintro e w1 ⟨rfl, hgo⟩
    go_wp2_with fail
    go_ret
    rw [← HR.out, if_neg hm]
    refine ⟨?_, hgo⟩
    have : ((x : Int) == 1) = (x == 1) := by rw [Bool.eq_iff_iff]; simp; omega
    exact congrArg (fun b => Ending.returned (.bool b)) this

set_option maxHeartbeats 400000 in
theorem rleft_any (g : Nat) (A : Option Addr) (c : Nat) (s : RS) (w : World) (h : IsR w g A c s) :
    Calls Tryd.prog 48 #[.pointer (some ⟨g, 0, none⟩)] w fun e w' => e = .returned (.int .i64 (leftS s : Int)) ∧ w = w' := by
  have HW := Lib.hid (rwell_any g A c s w h)
  have hc := h.1.cell
  obtain ⟨r, hr0⟩ : ∃ r, leftS s = r := ⟨_, rfl⟩
  rw [hr0]
  unfold leftS at hr0
  have HR := Lib.hid hr0
  clear h hr0
  by_cases h0 : s.1 = 0
  · have hb : (s.1 == 0) = true := by simp [h0]
    have HE := Lib.hid h0
    clear h0
    go_enter Tryd.func48, Tryd.ntmps48
    go_wp2_with (first | (go_at_call 107; refine HW.out.mono ?_; rintro e w' ⟨rfl, rfl⟩))
    go_ret
    rw [← HR.out, if_pos HE.out]
    exact ⟨rfl, rfl⟩
  · have hb : (s.1 == 0) = false := beq_eq_false_iff_ne.2 h0
    have HE := Lib.hid h0
    clear h0
    go_enter Tryd.func48, Tryd.ntmps48
    go_wp2_with (first | (go_at_call 107; refine HW.out.mono ?_; rintro e w' ⟨rfl, rfl⟩))
    go_ret
    rw [← HR.out, if_neg HE.out]
    exact ⟨rfl, rfl⟩

set_option maxHeartbeats 400000 in
theorem rerr_any (g : Nat) (A : Option Addr) (c : Nat) (s : RS) (w : World) (h : IsR w g A c s) :
    Calls Tryd.prog 103 #[.pointer (some ⟨g, 0, none⟩)] w fun e w' => e = .returned (.int .i64 s.1) ∧ w = w' := by
  have hc := h.1.cell
  clear h
  go_enter Tryd.func103, Tryd.ntmps103
  go_wp2
  go_ret
  exact ⟨rfl, rfl⟩

set_option maxHeartbeats 400000 in
theorem rdone_any (g : Nat) (A : Option Addr) (c : Nat) (s : RS) (w : World) (h : IsR w g A c s) :
    Calls Tryd.prog 57 #[.pointer (some ⟨g, 0, none⟩)] w fun e w' => e = .returned (.int .i64 (doneS s)) ∧ w = w' := by
  have HL := Lib.hid (rleft_any g A c s w h)
  have HE := Lib.hid (rerr_any g A c s w h)
  obtain ⟨r, hr0⟩ : ∃ r, doneS s = r := ⟨_, rfl⟩
  rw [hr0]
  unfold doneS at hr0
  have HR := Lib.hid hr0
  clear h hr0
  by_cases h0 : 0 < leftS s
  · go_enter Tryd.func57, Tryd.ntmps57
    go_wp2_with (first | (go_at_call 48; refine HL.out.mono ?_; rintro e w' ⟨rfl, rfl⟩) | (go_at_call 103; refine HE.out.mono ?_; rintro e w' ⟨rfl, rfl⟩))
    go_ret
    rw [← HR.out, if_pos h0]
    exact ⟨rfl, rfl⟩
  · go_enter Tryd.func57, Tryd.ntmps57
    go_wp2_with (first | (go_at_call 48; refine HL.out.mono ?_; rintro e w' ⟨rfl, rfl⟩) | (go_at_call 103; refine HE.out.mono ?_; rintro e w' ⟨rfl, rfl⟩))
    go_ret
    rw [← HR.out, if_neg h0]
    exact ⟨rfl, rfl⟩

end Go.Proofs.YtmhlmoojmdfnfaaDoor
