/- Package prog: Get, Decode. -/
import Derived.Test.YtmhlmoojmdfnfaaDoorDeedGet2
import Derived.Test.YtmhlmoojmdfnfaaDoorPgC
namespace Go.Proofs.YtmhlmoojmdfnfaaDoor
open Go.RowKit

/-- n deeds are read. -/
def getPk : Nat → RS → List Dd → RS × List Dd × Int
  | 0, s, acc => (s, acc, 0)
  | n + 1, s, acc => if (getD s).2.2 ≠ 0 then ((getD s).1, [], (getD s).2.2) else getPk n (getD s).1 (acc ++ [(getD s).2.1])
/-- A program is read. -/
def getPr (s : RS) : RS × List Dd × Int :=
  if (numS s).1.1 ≠ 0 then ((numS s).1, [], (numS s).1.1) else if 256 < (numS s).2 then ((numS s).1, [], 4) else getPk (numS s).2 (numS s).1 []
theorem getPk_len : ∀ (n : Nat) (s : RS) (acc : List Dd), (getPk n s acc).2.1.length ≤ acc.length + n
  | 0, _, _ => by simp [getPk]
  | n + 1, s, acc => by
    rw [getPk]
    split
    · simp
    · have := getPk_len n (getD s).1 (acc ++ [(getD s).2.1])
      simp at this
      omega
theorem getPr_len (s : RS) : (getPr s).2.1.length ≤ 256 := by
  unfold getPr
  split
  · simp
  · split
    · simp
    · have := getPk_len (numS s).2 (numS s).1 []
      simp at this
      omega

/-- A reader that has gone on since w. -/
structure RInv (w : World) (g : Nat) (A0 : Option Addr) (wr : World) (A' : Option Addr) (c' : Nat) (s : RS) : Prop where
  isR : IsR wr g A' c' s
  kept : Kept [g] w wr
  from_ : ∀ ad, A' = some ad → ∃ a0, A0 = some a0 ∧ ad.block = a0.block
theorem RInv.goes {w wr : World} {g : Nat} {A0 A' : Option Addr} {c' : Nat} {s : RS} (h : RInv w g A0 wr A' c' s) : RGoes w g A0 s wr := ⟨A', c', h.isR, h.kept, h.from_⟩
theorem RInv.next {w wr w2 : World} {g : Nat} {A0 A' : Option Addr} {c' : Nat} {s s' : RS} (h : RInv w g A0 wr A' c' s) (hg : RGoes wr g A' s' w2) : ∃ A2 c2, RInv w g A0 w2 A2 c2 s' := by
  obtain ⟨A2, c2, h1, h2, h3⟩ := hg
  exact ⟨A2, c2, h1, h.kept.trans h2, fun ad e => by
    obtain ⟨a1, e1, b1⟩ := h3 ad e
    obtain ⟨a0, e0, b0⟩ := h.from_ a1 e1
    exact ⟨a0, e0, b1.trans b0⟩⟩
theorem RInv.old {w wr w2 : World} {g : Nat} {A0 A' : Option Addr} {c' : Nat} {s : RS} (h : RInv w g A0 wr A' c' s) (hk : Kept [] wr w2) : RInv w g A0 w2 A' c' s := ⟨h.isR.kept hk (by simp) (by simp), h.kept.trans (hk.mono (by simp)), h.from_⟩
theorem RInv.far {w wr w2 : World} {G : List Nat} {g : Nat} {A0 A' : Option Addr} {c0 c' : Nat} {s0 s : RS} (h0 : IsR w g A0 c0 s0) (h : RInv w g A0 wr A' c' s) (hk : Kept G wr w2) (hG : ∀ k, k ∈ G → w.heap.size ≤ k) : RInv w g A0 w2 A' c' s := by
  have hg := h0.1.lt
  refine ⟨h.isR.kept hk (fun hm => by have := hG g hm; omega) (fun ad e hm => ?_), h.kept.trans' hk (fun k hm => .inr (hG k hm)), h.from_⟩
  obtain ⟨a0, e0, b0⟩ := h.from_ ad e
  have h1 := (h0.2.2.2.2 a0 e0).2
  have h2 := hG _ hm
  omega
/-- A slice of deeds that was made after w. -/
def RowD (w w' : World) (l : List Dd) (A : Option Addr) (n c : Nat) : Prop := w'.ownsRow 0 41 7 (.slice A n c) n (l.flatMap dL) ∧ ∀ k, k ∈ fp (.slice A n c) → w.heap.size ≤ k
theorem RowD.nil (w w' : World) : RowD w w' [] none 0 0 := ⟨World.ownsRow_nil _ _ _ _, by simp [fp, Value.ownBlock]⟩
theorem RowD.kept {w wr w2 : World} {G : List Nat} {l : List Dd} {A : Option Addr} {n c : Nat} (h : RowD w wr l A n c) (hk : Kept G wr w2) (hG : ∀ k, k ∈ G → k < w.heap.size) : RowD w w2 l A n c :=
  ⟨own_kept h.1 hk (fun k hk' hm => by have h1 := h.2 k hk'; have h2 := hG k hm; omega), h.2⟩
theorem RowD.reads {w w' : World} {l : List Dd} {A : Option Addr} {n c : Nat} (h : RowD w w' l A n c) : ReadsD w' A n l := Reads.of_own h.1
theorem RowD.append {w wr w2 : World} {l : List Dd} {d : Dd} {A A' : Option Addr} {n c c' : Nat} (h : RowD w wr l A n c) (hw : w.heap.size ≤ wr.heap.size) (ha : Appended wr w2 41 7 (.slice A n c) (.slice A' (n + 1) c') (n + 1) (l.flatMap dL ++ dL d)) : RowD w w2 (l ++ [d]) A' (n + 1) c' :=
  ⟨by have := ha.1; simpa using this, fun k hk' => by
    rcases ha.2.2 k hk' with h1 | h1
    · exact h.2 k h1
    · omega⟩
/-- What Get of a program leaves. -/
def GotP (w : World) (g : Nat) (A0 : Option Addr) (x : RS × List Dd × Int) (e : Ending) (w' : World) : Prop :=
  ∃ A n c, e = .returned (.tuple #[.slice A n c, .int .i64 x.2.2]) ∧ RGoes w g A0 x.1 w' ∧ RowD w w' x.2.1 A n c

theorem reads_dd (w : World) (t : TypeId) (d : Dd) : Reads (w.alloc (.cells (dC d.op d.a d.b d.r d.n d.mask d.loose) t)) 7 (some ⟨w.heap.size, 0, none⟩) 1 (dL d) := by
  refine ⟨by simp [dL_len], fun _ => ⟨_, rfl, fun j u hu => ?_⟩⟩
  rw [add_mk, Nat.zero_add, (Blk.new w t _).cell]
  rw [dL, Array.getElem?_toList] at hu
  exact hu

set_option maxHeartbeats 3200000 in
set_option maxRecDepth 100000 in
theorem pget_any (g : Nat) (A0 : Option Addr) (c0 : Nat) (s : RS) (w : World) (h : IsR w g A0 c0 s) :
    Calls Tryd.prog 68 #[.pointer (some ⟨g, 0, none⟩)] w (GotP w g A0 (getPr s)) := by
  have HN := Lib.hid (rnum_any g A0 c0 s w h)
  have hnl := numS_lt s
  have H0 := Lib.hid h
  have HU : Hid (getPr s = if (numS s).1.1 ≠ 0 then ((numS s).1, [], (numS s).1.1) else if 256 < (numS s).2 then ((numS s).1, [], 4) else getPk (numS s).2 (numS s).1 []) := rfl
  generalize (numS s).2 = N at *
  generalize (numS s).1 = s1 at *
  clear h
  have HEr := Lib.hid (fun A1 c1 w1 h => rerr_any g A1 c1 s1 w1 h)
  by_cases h1 : s1.1 = 0
  · have hb : (s1.1 != 0) = false := by simp [h1]
    rw [if_neg (by simp [h1])] at HU
    clear h1
    by_cases h2 : 256 < N
    · rw [if_pos h2] at HU
      have d1 : decide ((256 : Int) < (N : Int)) = true := by simp; omega
      go_enter Tryd.func68, Tryd.ntmps68
      go_wp2_with fail
      refine (HN.out).mono ?_
      rintro e w1 ⟨rfl, A1, c1, hR1, hk1, hA1⟩
      have HI1 : Hid (RInv w g A0 w1 A1 c1 s1) := ⟨hR1, hk1, hA1⟩
      clear hR1 hk1 hA1
      go_wp2_with fail
      refine (HEr.out A1 c1 _ HI1.out.isR).mono ?_
      rintro e w2 ⟨rfl, rfl⟩
      go_wp2_with fail
      go_ret2
      rw [HU.out]
      exact ⟨none, 0, 0, rfl, HI1.out.goes, RowD.nil _ _⟩
    · rw [if_neg h2] at HU
      have d1 : decide ((256 : Int) < (N : Int)) = false := by simp; omega
      go_enter Tryd.func68, Tryd.ntmps68
      go_wp2_with fail
      refine (HN.out).mono ?_
      rintro e w1 ⟨rfl, A1, c1, hR1, hk1, hA1⟩
      have HI1 : Hid (RInv w g A0 w1 A1 c1 s1) := ⟨hR1, hk1, hA1⟩
      clear hR1 hk1 hA1
      go_wp2_with fail
      refine (HEr.out A1 c1 _ HI1.out.isR).mono ?_
      rintro e w2 ⟨rfl, rfl⟩
      go_wp2_with fail
      go_loopw [6, 19] (fun ov kv wr => ∃ (k : Nat) (sx : RS) (acc : List Dd) (A' : Option Addr) (c' : Nat) (Av : Option Addr) (cv : Nat), k ≤ N ∧ kv = .int .u64 (k : Nat) ∧ ov = .slice Av k cv ∧ Hid (getPr s = getPk (N - k) sx acc) ∧ Hid (RInv w g A0 wr A' c' sx) ∧ Hid (RowD w wr acc Av k cv)) (fun _ k _ => N - (intOf k).toNat)
      case atStart => exact ⟨0, s1, [], A1, c1, none, 0, by omega, rfl, rfl, HU, HI1, RowD.nil _ _⟩
      case round =>
        clear HI1 HU
        obtain ⟨k, sx, acc, A', c', Av, cv, hk, rfl, rfl, HU, HI, HRW⟩ := hrel
        by_cases hlt : k < N
        · have HDG := Lib.hid (dget_any g A' c' sx wr HI.out.isR)
          obtain ⟨j, hj⟩ : ∃ j, N - k = j + 1 := ⟨N - k - 1, by omega⟩
          have HU2 : Hid (getPr s = if (getD sx).2.2 ≠ 0 then ((getD sx).1, [], (getD sx).2.2) else getPk (N - (k + 1)) (getD sx).1 (acc ++ [(getD sx).2.1])) := by
            show _ = _
            rw [HU.out, hj, getPk, show N - (k + 1) = j by omega]
          generalize getD sx = x at *
          obtain ⟨s2, ⟨o2, a2, b2, r2, n2, m2, l2⟩, ev⟩ := x
          simp only at HU2
          have hi1 : (k : Int) < (N : Int) := by omega
          clear hj HU
          by_cases h3 : ev = 0
          · have hb3 : (ev != 0) = false := by simp [h3]
            rw [if_neg (by simp [h3])] at HU2
            clear h3
            go_wp2_with fail
            refine (HDG.out).mono ?_
            rintro e w3 ⟨rfl, hgo⟩
            have hkg : Kept [g] wr w3 := by obtain ⟨_, _, _, hk, _⟩ := hgo; exact hk
            obtain ⟨A3, c3, hI3⟩ := HI.out.next hgo
            have HI3 := Lib.hid hI3
            have hgl := H0.out.1.lt
            have HRW3 := Lib.hid (HRW.out.kept hkg (fun k hm => by simp at hm; omega))
            clear hgo hkg hI3
            simp only [dCd]
            have HOW : Hid (((w3.alloc (.cells (dC o2 a2 b2 r2 n2 m2 l2) 41)).alloc (.cells (dC o2 a2 b2 r2 n2 m2 l2) 41)).ownsRow 0 41 7 (.slice Av k cv) k (acc.flatMap dL)) := own_kept HRW3.out.1 (((Kept.refl [] _).alloc _).alloc _) (by simp)
            have HRD : Hid (Reads ((w3.alloc (.cells (dC o2 a2 b2 r2 n2 m2 l2) 41)).alloc (.cells (dC o2 a2 b2 r2 n2 m2 l2) 41)) 7 (some ⟨w3.heap.size + 1, 0, none⟩) 1 (dL ⟨o2, a2, b2, r2, n2, m2, l2⟩)) := by
              have := reads_dd (w3.alloc (.cells (dC o2 a2 b2 r2 n2 m2 l2) 41)) 41 ⟨o2, a2, b2, r2, n2, m2, l2⟩
              rw [World.size_alloc] at this
              exact this
            go_wp2_with (at_builtin; refine wpList_append_any _ rfl _ _ 22 rfl 41 (.agg (dC 0 0 0 0 0 0 false)) 7 56 Tryd.underlying22 Tryd.info41 rfl (by decide) (.slice Av k cv) k _ rfl HOW.out _ 1 1 (dL ⟨o2, a2, b2, r2, n2, m2, l2⟩) rfl HRD.out (dL_one _) (by simp only [maxLen]; omega) (by omega) ?_; rintro A5 c5 w5 happ; have HA5 := Lib.hid happ; clear happ)
            go_roundw
            case rel =>
              have hk2 : Kept [] w3 ((w3.alloc (.cells (dC o2 a2 b2 r2 n2 m2 l2) 41)).alloc (.cells (dC o2 a2 b2 r2 n2 m2 l2) 41)) := ((Kept.refl [] _).alloc _).alloc _
              have hI4 := RInv.far H0.out (HI3.out.old hk2) HA5.out.2.1 (fun q hq => HRW3.out.2 q hq)
              have hR4 : RowD w ((w3.alloc (.cells (dC o2 a2 b2 r2 n2 m2 l2) 41)).alloc (.cells (dC o2 a2 b2 r2 n2 m2 l2) 41)) acc Av k cv := ⟨HOW.out, HRW3.out.2⟩
              exact ⟨k + 1, s2, acc ++ [⟨o2, a2, b2, r2, n2, m2, l2⟩], A3, c3, A5, c5, by omega, by go_num, rfl, HU2, hI4, hR4.append (by have := HI3.out.kept.size; simp; omega) HA5.out⟩
            case measure => simp [intOf]; omega
          · have hb3 : (ev != 0) = true := by simp [h3]
            rw [if_pos h3] at HU2
            clear h3
            go_wp2_with fail
            refine (HDG.out).mono ?_
            rintro e w3 ⟨rfl, hgo⟩
            obtain ⟨A3, c3, hI3⟩ := HI.out.next hgo
            have HI3 := Lib.hid hI3
            clear hgo hI3
            simp only [dCd]
            go_wp2_with fail
            go_ret2
            rw [HU2.out]
            exact ⟨none, 0, 0, rfl, (HI3.out.old ((Kept.refl [] _).alloc _)).goes, RowD.nil _ _⟩
        · obtain rfl : k = N := by omega
          rw [Nat.sub_self] at HU
          go_wp2_with fail
          go_ret2
          rw [HU.out]
          exact ⟨_, _, _, rfl, HI.out.goes, HRW.out⟩
  · have hb : (s1.1 != 0) = true := by simp [h1]
    rw [if_pos h1] at HU
    clear h1
    go_enter Tryd.func68, Tryd.ntmps68
    go_wp2_with fail
    refine (HN.out).mono ?_
    rintro e w1 ⟨rfl, A1, c1, hR1, hk1, hA1⟩
    have HI1 : Hid (RInv w g A0 w1 A1 c1 s1) := ⟨hR1, hk1, hA1⟩
    clear hR1 hk1 hA1
    go_wp2_with fail
    refine (HEr.out A1 c1 _ HI1.out.isR).mono ?_
    rintro e w2 ⟨rfl, rfl⟩
    go_wp2_with fail
    go_ret2
    rw [HU.out]
    exact ⟨none, 0, 0, rfl, HI1.out.goes, RowD.nil _ _⟩

end Go.Proofs.YtmhlmoojmdfnfaaDoor
