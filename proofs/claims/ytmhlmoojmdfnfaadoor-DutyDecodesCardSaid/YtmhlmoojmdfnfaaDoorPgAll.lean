/- The document's Same of programs; Package prog: Get, Decode; A program's bytes: prog.Put, Encode; the plain law; The document's Same and Bytes of programs; prog.Decode; The document's Get and Decode of programs. -/
import Derived.Test.YtmhlmoojmdfnfaaDoorPgC
import Derived.Deep.QuietTactic
import Derived.BigQuiet
import Derived.Test.YtmhlmoojmdfnfaaDoorDeedGet2
import Derived.Test.YtmhlmoojmdfnfaaDoorPgRow
import Derived.Test.YtmhlmoojmdfnfaaDoorDeedPut
import Derived.Test.YtmhlmoojmdfnfaaDoorDeedWR
import Derived.Test.YtmhlmoojmdfnfaaDoorDeedRG

/- The document's Same of programs. -/
namespace Go.Proofs.YtmhlmoojmdfnfaaDoor
open Go.RowKit
attribute [local go_sem] eqDeed

set_option maxHeartbeats 3200000 in
set_option maxRecDepth 100000 in
theorem refSameD (A : Option Addr) (n c : Nat) (A2 : Option Addr) (m d : Nat) (l : List Dd) (w : World) (ha : ReadsD w A n l) (hb : ReadsD w A2 m l) (hl : l.length ≤ 100000) :
    Calls Tryd.prog 28 #[.slice A n c, .slice A2 m d] w fun e w' => e = .returned (.bool true) ∧ Kept [] w w' := by
  have hn := ha.len
  have hm := hb.len
  subst hn hm
  have HA := Lib.hid ha
  have HB := Lib.hid hb
  have hbn : ((l.length : Int) != (l.length : Int)) = false := by simp
  clear ha hb
  go_enter Tryd.func28, Tryd.ntmps28
  go_wp2_with fail
  go_loopw [5] (fun iv wr => ∃ k : Nat, k ≤ l.length ∧ iv = .int .i64 k ∧ Hid (Kept [] w wr)) (fun i _ => l.length - (intOf i).toNat)
  case atStart => exact ⟨0, by omega, rfl, Kept.refl _ _⟩
  case round =>
    obtain ⟨k, hk, rfl, HK⟩ := hrel
    by_cases hlt : k < l.length
    · obtain ⟨e, b, o, rfl, hx, hb, hc0, hc1, hc2, hc3, hc4, hc5, hc6⟩ := (HA.out.old HK.out).at_ hlt
      obtain ⟨e2, b2, o2, rfl, hx2, hb2, hd0, hd1, hd2, hd3, hd4, hd5, hd6⟩ := (HB.out.old HK.out).at_ hlt
      rw [hx] at hx2
      injection hx2 with hx2
      subst hx2
      obtain ⟨o1, a1, b1, r1, n1, m1, l1⟩ := e
      simp only at hc0 hc1 hc2 hc3 hc4 hc5 hc6 hd0 hd1 hd2 hd3 hd4 hd5 hd6
      have hi0 : (0 : Int) ≤ (k : Int) := by omega
      have hi1 : (k : Int) < (l.length : Int) := by omega
      clear hx
      go_wp2_with fail
      go_quiet (fail)
      go_wp2_with fail
      go_roundw
      case rel => exact ⟨k + 1, by omega, by go_num, HK.out.trans (by (repeat (first | (with_reducible exact Kept.refl _ _) | (with_reducible assumption) | (with_reducible refine Kept.alloc ?_ _) | (with_reducible refine Kept.drew ?_) | (with_reducible refine Kept.drewN ?_ _) | (with_reducible refine Kept.setCell ?_ ?_ _) | (exact .inr (Nat.le_refl _)) | (exact .inr (by simp only; omega)) | (exact .inr (by omega)))))⟩
      case measure => simp [intOf]; omega
    · obtain rfl : k = l.length := by omega
      go_wp2_with fail
      go_ret
      exact ⟨rfl, HK.out⟩

end Go.Proofs.YtmhlmoojmdfnfaaDoor

/- Package prog: Get, Decode. -/
namespace Go.Proofs.YtmhlmoojmdfnfaaDoor
open Go.RowKit

/-- n deeds are read. -/
def getPk : Nat → RS → List Dd → RS × List Dd × Int
  | 0, s, acc => (s, acc, 0)
  | n + 1, s, acc => if (getD s).2.2 ≠ 0 then ((getD s).1, [], (getD s).2.2) else getPk n (getD s).1 (acc ++ [(getD s).2.1])
/-- A program is read. -/
def getPr (s : RS) : RS × List Dd × Int :=
  if (numS s).1.1 ≠ 0 then ((numS s).1, [], (numS s).1.1) else if 256 < (numS s).2 then ((numS s).1, [], 4) else getPk (numS s).2 (numS s).1 []
theorem getPk_len : ∀ (n : Nat) (s : RS) (acc : List Dd), (getPk n s acc).2.1.length ≤ acc.length + n
  | 0, _, _ => by simp [getPk]
  | n + 1, s, acc => by
    rw [getPk]
    split
    · simp
    · have := getPk_len n (getD s).1 (acc ++ [(getD s).2.1])
      simp at this
      omega
theorem getPr_len (s : RS) : (getPr s).2.1.length ≤ 256 := by
  unfold getPr
  split
  · simp
  · split
    · simp
    · have := getPk_len (numS s).2 (numS s).1 []
      simp at this
      omega

/-- A reader that has gone on since w. -/
structure RInv (w : World) (g : Nat) (A0 : Option Addr) (wr : World) (A' : Option Addr) (c' : Nat) (s : RS) : Prop where
  isR : IsR wr g A' c' s
  kept : Kept [g] w wr
  from_ : ∀ ad, A' = some ad → ∃ a0, A0 = some a0 ∧ ad.block = a0.block
theorem RInv.goes {w wr : World} {g : Nat} {A0 A' : Option Addr} {c' : Nat} {s : RS} (h : RInv w g A0 wr A' c' s) : RGoes w g A0 s wr := ⟨A', c', h.isR, h.kept, h.from_⟩
theorem RInv.next {w wr w2 : World} {g : Nat} {A0 A' : Option Addr} {c' : Nat} {s s' : RS} (h : RInv w g A0 wr A' c' s) (hg : RGoes wr g A' s' w2) : ∃ A2 c2, RInv w g A0 w2 A2 c2 s' := by
  obtain ⟨A2, c2, h1, h2, h3⟩ := hg
  exact ⟨A2, c2, h1, h.kept.trans h2, fun ad e => by
    obtain ⟨a1, e1, b1⟩ := h3 ad e
    obtain ⟨a0, e0, b0⟩ := h.from_ a1 e1
    exact ⟨a0, e0, b1.trans b0⟩⟩
theorem RInv.old {w wr w2 : World} {g : Nat} {A0 A' : Option Addr} {c' : Nat} {s : RS} (h : RInv w g A0 wr A' c' s) (hk : Kept [] wr w2) : RInv w g A0 w2 A' c' s := ⟨h.isR.kept hk (by simp) (by simp), h.kept.trans (hk.mono (by simp)), h.from_⟩
theorem RInv.far {w wr w2 : World} {G : List Nat} {g : Nat} {A0 A' : Option Addr} {c0 c' : Nat} {s0 s : RS} (h0 : IsR w g A0 c0 s0) (h : RInv w g A0 wr A' c' s) (hk : Kept G wr w2) (hG : ∀ k, k ∈ G → w.heap.size ≤ k) : RInv w g A0 w2 A' c' s := by
  have hg := h0.1.lt
  refine ⟨h.isR.kept hk (fun hm => by have := hG g hm; omega) (fun ad e hm => ?_), h.kept.trans' hk (fun k hm => .inr (hG k hm)), h.from_⟩
  obtain ⟨a0, e0, b0⟩ := h.from_ ad e
  have h1 := (h0.2.2.2.2 a0 e0).2
  have h2 := hG _ hm
  omega
/-- What Get of a program leaves. -/
def GotP (w : World) (g : Nat) (A0 : Option Addr) (x : RS × List Dd × Int) (e : Ending) (w' : World) : Prop :=
  ∃ A n c, e = .returned (.tuple #[.slice A n c, .int .i64 x.2.2]) ∧ RGoes w g A0 x.1 w' ∧ RowD w w' x.2.1 A n c

set_option maxHeartbeats 3200000 in
set_option maxRecDepth 100000 in
theorem pget_any (g : Nat) (A0 : Option Addr) (c0 : Nat) (s : RS) (w : World) (h : IsR w g A0 c0 s) :
    Calls Tryd.prog 68 #[.pointer (some ⟨g, 0, none⟩)] w (GotP w g A0 (getPr s)) := by
  have HN := Lib.hid (rnum_any g A0 c0 s w h)
  have hnl := numS_lt s
  have H0 := Lib.hid h
  have HU : Hid (getPr s = if (numS s).1.1 ≠ 0 then ((numS s).1, [], (numS s).1.1) else if 256 < (numS s).2 then ((numS s).1, [], 4) else getPk (numS s).2 (numS s).1 []) := rfl
  generalize (numS s).2 = N at *
  generalize (numS s).1 = s1 at *
  clear h
  have HEr := Lib.hid (fun A1 c1 w1 h => rerr_any g A1 c1 s1 w1 h)
  by_cases h1 : s1.1 = 0
  · have hb : (s1.1 != 0) = false := by simp [h1]
    rw [if_neg (by simp [h1])] at HU
    clear h1
    by_cases h2 : 256 < N
    · rw [if_pos h2] at HU
      have d1 : decide ((256 : Int) < (N : Int)) = true := by simp; omega
      go_enter Tryd.func68, Tryd.ntmps68
      go_wp2_with fail
      refine (HN.out).mono ?_
      rintro e w1 ⟨rfl, A1, c1, hR1, hk1, hA1⟩
      have HI1 : Hid (RInv w g A0 w1 A1 c1 s1) := ⟨hR1, hk1, hA1⟩
      clear hR1 hk1 hA1
      go_wp2_with fail
      refine (HEr.out A1 c1 _ HI1.out.isR).mono ?_
      rintro e w2 ⟨rfl, rfl⟩
      go_wp2_with fail
      go_ret2
      rw [HU.out]
      exact ⟨none, 0, 0, rfl, HI1.out.goes, RowD.nil _ _⟩
    · rw [if_neg h2] at HU
      have d1 : decide ((256 : Int) < (N : Int)) = false := by simp; omega
      go_enter Tryd.func68, Tryd.ntmps68
      go_wp2_with fail
      refine (HN.out).mono ?_
      rintro e w1 ⟨rfl, A1, c1, hR1, hk1, hA1⟩
      have HI1 : Hid (RInv w g A0 w1 A1 c1 s1) := ⟨hR1, hk1, hA1⟩
      clear hR1 hk1 hA1
      go_wp2_with fail
      refine (HEr.out A1 c1 _ HI1.out.isR).mono ?_
      rintro e w2 ⟨rfl, rfl⟩
      go_wp2_with fail
      go_loopw [6, 19] (fun ov kv wr => ∃ (k : Nat) (sx : RS) (acc : List Dd) (A' : Option Addr) (c' : Nat) (Av : Option Addr) (cv : Nat), k ≤ N ∧ kv = .int .u64 (k : Nat) ∧ ov = .slice Av k cv ∧ Hid (getPr s = getPk (N - k) sx acc) ∧ Hid (RInv w g A0 wr A' c' sx) ∧ Hid (RowD w wr acc Av k cv)) (fun _ k _ => N - (intOf k).toNat)
      case atStart => exact ⟨0, s1, [], A1, c1, none, 0, by omega, rfl, rfl, HU, HI1, RowD.nil _ _⟩
      case round =>
        clear HI1 HU
        obtain ⟨k, sx, acc, A', c', Av, cv, hk, rfl, rfl, HU, HI, HRW⟩ := hrel
        by_cases hlt : k < N
        · have HDG := Lib.hid (dget_any g A' c' sx wr HI.out.isR)
          obtain ⟨j, hj⟩ : ∃ j, N - k = j + 1 := ⟨N - k - 1, by omega⟩
          have HU2 : Hid (getPr s = if (getD sx).2.2 ≠ 0 then ((getD sx).1, [], (getD sx).2.2) else getPk (N - (k + 1)) (getD sx).1 (acc ++ [(getD sx).2.1])) := by
            show _ = _
            rw [HU.out, hj, getPk, show N - (k + 1) = j by omega]
          generalize getD sx = x at *
          obtain ⟨s2, ⟨o2, a2, b2, r2, n2, m2, l2⟩, ev⟩ := x
          simp only at HU2
          have hi1 : (k : Int) < (N : Int) := by omega
          clear hj HU
          by_cases h3 : ev = 0
          · have hb3 : (ev != 0) = false := by simp [h3]
            rw [if_neg (by simp [h3])] at HU2
            clear h3
            go_wp2_with fail
            refine (HDG.out).mono ?_
            rintro e w3 ⟨rfl, hgo⟩
            have hkg : Kept [g] wr w3 := by obtain ⟨_, _, _, hk, _⟩ := hgo; exact hk
            obtain ⟨A3, c3, hI3⟩ := HI.out.next hgo
            have HI3 := Lib.hid hI3
            have hgl := H0.out.1.lt
            have HRW3 := Lib.hid (HRW.out.kept hkg (fun k hm => by simp at hm; omega))
            clear hgo hkg hI3
            simp only [dCd]
            have HOW : Hid (((w3.alloc (.cells (dC o2 a2 b2 r2 n2 m2 l2) 41)).alloc (.cells (dC o2 a2 b2 r2 n2 m2 l2) 41)).ownsRow 0 41 7 (.slice Av k cv) k (acc.flatMap dL)) := own_kept HRW3.out.1 (((Kept.refl [] _).alloc _).alloc _) (by simp)
            have HRD : Hid (Reads ((w3.alloc (.cells (dC o2 a2 b2 r2 n2 m2 l2) 41)).alloc (.cells (dC o2 a2 b2 r2 n2 m2 l2) 41)) 7 (some ⟨w3.heap.size + 1, 0, none⟩) 1 (dL ⟨o2, a2, b2, r2, n2, m2, l2⟩)) := by
              have := reads_dd (w3.alloc (.cells (dC o2 a2 b2 r2 n2 m2 l2) 41)) 41 ⟨o2, a2, b2, r2, n2, m2, l2⟩
              rw [World.size_alloc] at this
              exact this
            go_wp2_with (at_builtin; refine wpList_append_any _ rfl _ _ 22 rfl 41 (.agg (dC 0 0 0 0 0 0 false)) 7 56 Tryd.underlying22 Tryd.info41 rfl (by decide) (.slice Av k cv) k _ rfl HOW.out _ 1 1 (dL ⟨o2, a2, b2, r2, n2, m2, l2⟩) rfl HRD.out (dL_one _) (by simp only [maxLen]; omega) (by omega) ?_; rintro A5 c5 w5 happ; have HA5 := Lib.hid happ; clear happ)
            go_roundw
            case rel =>
              have hk2 : Kept [] w3 ((w3.alloc (.cells (dC o2 a2 b2 r2 n2 m2 l2) 41)).alloc (.cells (dC o2 a2 b2 r2 n2 m2 l2) 41)) := ((Kept.refl [] _).alloc _).alloc _
              have hI4 := RInv.far H0.out (HI3.out.old hk2) HA5.out.2.1 (fun q hq => HRW3.out.2 q hq)
              have hR4 : RowD w ((w3.alloc (.cells (dC o2 a2 b2 r2 n2 m2 l2) 41)).alloc (.cells (dC o2 a2 b2 r2 n2 m2 l2) 41)) acc Av k cv := ⟨HOW.out, HRW3.out.2⟩
              exact ⟨k + 1, s2, acc ++ [⟨o2, a2, b2, r2, n2, m2, l2⟩], A3, c3, A5, c5, by omega, by go_num, rfl, HU2, hI4, hR4.append (by have := HI3.out.kept.size; simp; omega) HA5.out⟩
            case measure => simp [intOf]; omega
          · have hb3 : (ev != 0) = true := by simp [h3]
            rw [if_pos h3] at HU2
            clear h3
            go_wp2_with fail
            refine (HDG.out).mono ?_
            rintro e w3 ⟨rfl, hgo⟩
            obtain ⟨A3, c3, hI3⟩ := HI.out.next hgo
            have HI3 := Lib.hid hI3
            clear hgo hI3
            simp only [dCd]
            go_wp2_with fail
            go_ret2
            rw [HU2.out]
            exact ⟨none, 0, 0, rfl, (HI3.out.old ((Kept.refl [] _).alloc _)).goes, RowD.nil _ _⟩
        · obtain rfl : k = N := by omega
          rw [Nat.sub_self] at HU
          go_wp2_with fail
          go_ret2
          rw [HU.out]
          exact ⟨_, _, _, rfl, HI.out.goes, HRW.out⟩
  · have hb : (s1.1 != 0) = true := by simp [h1]
    rw [if_pos h1] at HU
    clear h1
    go_enter Tryd.func68, Tryd.ntmps68
    go_wp2_with fail
    refine (HN.out).mono ?_
    rintro e w1 ⟨rfl, A1, c1, hR1, hk1, hA1⟩
    have HI1 : Hid (RInv w g A0 w1 A1 c1 s1) := ⟨hR1, hk1, hA1⟩
    clear hR1 hk1 hA1
    go_wp2_with fail
    refine (HEr.out A1 c1 _ HI1.out.isR).mono ?_
    rintro e w2 ⟨rfl, rfl⟩
    go_wp2_with fail
    go_ret2
    rw [HU.out]
    exact ⟨none, 0, 0, rfl, HI1.out.goes, RowD.nil _ _⟩

end Go.Proofs.YtmhlmoojmdfnfaaDoor

/- A program's bytes: prog.Put, Encode; the plain law. -/
namespace Go.Proofs.YtmhlmoojmdfnfaaDoor
open Go.RowKit

/-- A program's bytes. -/
def encP (p : List Dd) : List UInt8 := encNum p.length ++ p.flatMap encD
def encK (n : Nat) (p : List Dd) : List UInt8 := encNum n ++ p.flatMap encD
theorem encK_snoc (n : Nat) (p : List Dd) (d : Dd) : encK n (p ++ [d]) = encK n p ++ encD d := by simp [encK]
theorem encK_len (n : Nat) : ∀ p : List Dd, (encK n p).length ≤ 9 + 46 * p.length
  | [] => by simp [encK]; exact encNum_le9 n
  | d :: t => by
    have h1 := encK_len n t
    have h2 := encD_len d
    simp only [encK, List.flatMap_cons, List.length_append, List.length_cons] at *
    omega
/-- A good deed's bytes are few. -/
theorem encD_small {d : Dd} (_h : goodD d = true) : (encD d).length ≤ 16 := by
  have h1 := encNum_le9 d.n
  have h2 := encNum_le9 d.mask
  have h3 : (encTruth d.loose).length = 1 := by cases d.loose <;> rfl
  rcases partsL_cases d.op with h | h | h | h | h | h | h | h <;> simp [encD, h, pieceB, h3] <;> omega
theorem encK_small (n : Nat) : ∀ p : List Dd, (∀ d ∈ p, goodD d = true) → (encK n p).length ≤ 9 + 16 * p.length
  | [], _ => by simp [encK]; exact encNum_le9 n
  | d :: t, h => by
    have h1 := encK_small n t fun x hx => h x (by simp [hx])
    have h2 := encD_small (h d (by simp))
    simp only [encK, List.flatMap_cons, List.length_append, List.length_cons] at *
    omega

set_option maxHeartbeats 3200000 in
set_option maxRecDepth 100000 in
theorem pput_any (g : Nat) (A0 : Option Addr) (c0 : Nat) (bs : List UInt8) (room : Nat) (A : Option Addr) (n c : Nat) (l : List Dd) (w : World) (hW : IsW w g A0 c0 0 bs room) (hr : ReadsD w A n l) (hfar : ∀ ad, A = some ad → ad.block ∉ fpW g A0)
    (hc : checkP l = 0) (hok : ∀ d ∈ l, d.n < 18446744073709551616 ∧ d.mask < 18446744073709551616) (hbs : bs.length ≤ 800000000) (hroom : room ≤ 9223372036854775807) (hr2 : 16 * l.length + 25 ≤ room) :
    Calls Tryd.prog 65 #[.pointer (some ⟨g, 0, none⟩), .slice A n c] w fun e w' => e = .returned (.tuple #[]) ∧ WGoes w g A0 (0, bs ++ encP l, room - (encP l).length) w' := by
  obtain rfl := hr.len
  obtain ⟨hl, hgood⟩ := checkP_zero hc
  have HCK := Lib.hid (pcheck_any A l.length c l w hr (by omega))
  rw [hc] at HCK
  have HR := Lib.hid hr
  have HOK := Lib.hid hok
  have HGD := Lib.hid hgood
  have HFAR := Lib.hid hfar
  have HW := Lib.hid hW
  have HWL := Lib.hid (fpW_lt hW)
  have hls : ∀ k, k ≤ l.length → (encK l.length (l.take k)).length ≤ 9 + 16 * k := fun k hk => by
    have := encK_small l.length (l.take k) (fun d hd => hgood d (List.mem_of_mem_take hd))
    rw [List.length_take, Nat.min_eq_left hk] at this
    exact this
  have HLS := Lib.hid hls
  clear hr hok hgood hc hfar hW hls
  go_enter Tryd.func65, Tryd.ntmps65
  go_wp2_with fail
  refine (HCK.out).mono ?_
  rintro e w1 ⟨rfl, hk1⟩
  have HK1 := Lib.hid hk1
  have HW1 := Lib.hid (HW.out.kept hk1 (by simp))
  clear hk1
  go_wp2_with fail
  refine (wnum_ok g A0 c0 bs room l.length w1 HW1.out (by omega) (by omega) hroom (by omega)).mono ?_
  rintro e w2 ⟨rfl, hg2⟩
  have HG2 : Hid (WGoes w g A0 (0, bs ++ encK l.length [], room - (encK l.length []).length) w2) := (hg2.ahead HK1.out).eq (by simp [encK]) (by simp [encK])
  clear hg2
  go_wp2_with fail
  go_loopw [16] (fun kv wr => ∃ k : Nat, k ≤ l.length ∧ kv = .int .i64 k ∧ Hid (WGoes w g A0 (0, bs ++ encK l.length (l.take k), room - (encK l.length (l.take k)).length) wr)) (fun k _ => l.length - (intOf k).toNat)
  case atStart => exact ⟨0, by omega, rfl, HG2⟩
  case round =>
    clear HG2
    obtain ⟨k, hk1, rfl, HG⟩ := hrel
    have hlk := HLS.out k hk1
    by_cases hlt : k < l.length
    · obtain ⟨A2, c2, hW2, hk2, hf2, hT2⟩ := HG.out.into
      have hrd : ReadsD wr A l.length l := Reads.kept HR.out hk2 (fun ad e => HFAR.out ad e)
      obtain ⟨d, b, o, rfl, hx, hb, hc0, hc1, hc2, hc3, hc4, hc5, hc6⟩ := hrd.at_ hlt
      have hi0 : (0 : Int) ≤ (k : Int) := by omega
      have hi1 : (k : Int) < (l.length : Int) := by omega
      have hxm := List.mem_of_getElem? hx
      have hgd := HGD.out d hxm
      have hdo := HOK.out d hxm
      have HSN : Hid (encK l.length (l.take (k + 1)) = encK l.length (l.take k) ++ encD d) := by show _ = _; rw [take_snoc hx]; exact encK_snoc _ _ _
      have hed := encD_small hgd
      obtain ⟨o1, a1, b1, r1, n1, m1, l1⟩ := d
      simp only at hc0 hc1 hc2 hc3 hc4 hc5 hc6 hdo
      have HPD := Lib.hid (fun A c w hW => dput_any g A c (bs ++ encK l.length (l.take k)) (room - (encK l.length (l.take k)).length) o1 a1 b1 r1 n1 m1 l1 w hW hgd hdo.1 hdo.2 (by rw [List.length_append]; omega) (by omega) (by omega))
      generalize encD ⟨o1, a1, b1, r1, n1, m1, l1⟩ = ed at *
      generalize encK l.length (l.take k) = ek at *
      have HW2 := Lib.hid (hW2.kept ((Kept.refl [] wr).alloc (.cells (dC o1 a1 b1 r1 n1 m1 l1) 41)) (by simp))
      have HT2 := Lib.hid hT2
      clear hx hxm hgd hdo hW2 hk2 hf2 hT2 hrd
      go_wp2_with fail
      refine (HPD.out A2 c2 _ HW2.out).mono ?_
      rintro e w3 ⟨rfl, hg3⟩
      have HG3 : Hid (WGoes w g A0 (0, bs ++ (ek ++ ed), room - (ek ++ ed).length) w3) := (HT2.out _ _ (hg3.ahead ((Kept.refl [] wr).alloc (.cells (dC o1 a1 b1 r1 n1 m1 l1) 41)))).eq (by simp) (by simp; omega)
      clear hg3
      go_wp2_with fail
      go_roundw
      case rel => exact ⟨k + 1, by omega, by go_num, by rw [HSN.out]; exact HG3⟩
      case measure => simp [intOf]; omega
    · obtain rfl : k = l.length := by omega
      have hfin : l.take l.length = l := List.take_of_length_le (Nat.le_refl _)
      rw [hfin] at HG
      clear hfin
      go_wp2_with fail
      go_end0
      exact ⟨rfl, HG.out⟩

theorem newbytes_ahead {w w1 w' : World} {l : List UInt8} {v : Value} (h : NewBytes w1 w' l v) (hk : Kept [] w w1) : NewBytes w w' l v := ⟨h.1, hk.trans h.2.1, fun k hm => Nat.le_trans hk.size (h.2.2 k hm)⟩
theorem newbytes_ahead2 {w w1 w' : World} {l : List UInt8} {v : Value} (h : NewBytes w1 w' l v) (hk : Kept [] w w1) : Kept [] w w' := hk.trans h.2.1

set_option maxHeartbeats 3200000 in
set_option maxRecDepth 100000 in
theorem pencode_ok (A : Option Addr) (n c : Nat) (l : List Dd) (w : World) (hr : ReadsD w A n l) (hA : ∀ ad, A = some ad → ad.block < w.heap.size) (hc : checkP l = 0) (hok : ∀ d ∈ l, d.n < 18446744073709551616 ∧ d.mask < 18446744073709551616) :
    Calls Tryd.prog 24 #[.slice A n c] w fun e w' => ∃ v, e = .returned (.tuple #[v, .int .i64 0]) ∧ NewBytes w w' (encP l) v := by
  obtain rfl := hr.len
  obtain ⟨hl, hgood⟩ := checkP_zero hc
  have HCK := Lib.hid (pcheck_any A l.length c l w hr (by omega))
  rw [hc] at HCK
  have HPP := Lib.hid (fun g A0 c0 room w' hW hr' hfar h1 h2 => pput_any g A0 c0 [] room A l.length c l w' hW hr' hfar hc hok (by simp) h1 h2)
  rw [List.nil_append] at HPP
  have hel := encK_small l.length l hgood
  have HEL : Hid ((encP l).length ≤ 9 + 16 * l.length) := hel
  have HR := Lib.hid hr
  have HA := Lib.hid hA
  have hw1 : (0 : Int) ≤ (l.length : Int) + 1 := by omega
  have hmx : (max (32 * ((l.length : Int) + 1)) 0).toNat = 32 * (l.length + 1) := by omega
  have HMX := Lib.hid hmx
  clear hr hc hok hgood hA hel hmx
  go_enter Tryd.func24, Tryd.ntmps24
  go_wp2_with fail
  refine (HCK.out).mono ?_
  rintro e w1 ⟨rfl, hk1⟩
  have HK1 := Lib.hid hk1
  clear hk1
  go_wp2_with fail
  refine (wnew_any _ w1).mono ?_
  rintro e w2 ⟨rfl, hW2, hk2⟩
  rw [HMX.out] at hW2
  have HW2 := Lib.hid hW2
  have HK2 := Lib.hid (HK1.out.trans hk2)
  have hs1 := HK1.out.size
  clear hW2 hk2
  go_wp2_with fail
  have hff : ∀ ad, A = some ad → ad.block ∉ fpW w1.heap.size none := by
    intro ad e hm
    have h1 := HA.out ad e
    simp only [fpW, Option.map_none, Option.toList_none, List.mem_cons, List.not_mem_nil, or_false] at hm
    omega
  have HFF := Lib.hid hff
  clear hff
  refine (HPP.out w1.heap.size none 0 (32 * (l.length + 1)) w2 HW2.out (HR.out.old HK2.out) HFF.out (by omega) (by omega)).mono ?_
  rintro e w3 ⟨rfl, hg3⟩
  obtain ⟨A3, c3, hW3, hk3, hf3⟩ := hg3
  have HW3 := Lib.hid hW3
  have HK3 : Hid (Kept [] w w3) := HK2.out.trans' hk3 (fun k hm => .inr (by
    simp only [fpW, Option.map_none, Option.toList_none, List.mem_cons, List.not_mem_nil, or_false] at hm
    omega))
  clear hW3 hk3 hf3
  go_wp2_with fail
  refine (wdone_ok w1.heap.size A3 c3 (encP l) _ w3 HW3.out (by have := HEL.out; omega)).mono ?_
  rintro e w4 ⟨v, rfl, hn4⟩
  have HN4 := Lib.hid (newbytes_ahead hn4 HK3.out)
  clear hn4
  go_wp2_with fail
  go_ret2
  exact ⟨v, rfl, HN4.out⟩
theorem ret_nilerr {a b : Int} (h : a = b) : Ending.returned (.tuple #[.slice none 0 0, .int .i64 a]) = .returned (.tuple #[.slice none 0 0, .int .i64 b]) := by rw [h]
set_option maxHeartbeats 1600000 in
theorem pencode_no (A : Option Addr) (n c : Nat) (l : List Dd) (w : World) (hr : ReadsD w A n l) (hn : n ≤ 9223372036854775807) (hc : checkP l ≠ 0) :
    Calls Tryd.prog 24 #[.slice A n c] w fun e w' => e = .returned (.tuple #[.slice none 0 0, .int .i64 (checkP l)]) ∧ Kept [] w w' := by
  have HCK := Lib.hid (pcheck_any A n c l w hr hn)
  generalize checkP l = ck at *
  have hb : (ck != 0) = true := by simp [hc]
  clear hr hc
  go_enter Tryd.func24, Tryd.ntmps24
  go_wp2_with fail
  refine (HCK.out).mono ?_
  rintro e w1 ⟨rfl, hk1⟩
  have HK1 := Lib.hid hk1
  clear hk1
  go_wp2_with fail
  go_ret2
  exact ⟨rfl, HK1.out⟩

end Go.Proofs.YtmhlmoojmdfnfaaDoor

/- The document's Same and Bytes of programs; prog.Decode. -/
namespace Go.Proofs.YtmhlmoojmdfnfaaDoor
open Go.RowKit
attribute [local go_sem] eqDeed

set_option maxHeartbeats 3200000 in
set_option maxRecDepth 100000 in
theorem refBytesP (A : Option Addr) (n c : Nat) (l : List Dd) (w : World) (hr : ReadsD w A n l) (hc : checkP l = 0) (hok : ∀ d ∈ l, d.n < 18446744073709551616 ∧ d.mask < 18446744073709551616) :
    Calls Tryd.prog 27 #[.slice A n c] w fun e w' => ∃ A' n' c', e = .returned (.slice A' n' c') ∧ Fresh w w' (encP l) A' n' c' := by
  obtain rfl := hr.len
  obtain ⟨hl, hgood⟩ := checkP_zero hc
  have HR := Lib.hid hr
  have HOK := Lib.hid hok
  have HGD := Lib.hid hgood
  have HNU := Lib.hid (fun w => refNum_any l.length w (by omega))
  have en := encNum_le9 l.length
  have HLS : Hid (∀ k, k ≤ l.length → (encK l.length (l.take k)).length ≤ 9 + 16 * k) := fun k hk => by
    have := encK_small l.length (l.take k) (fun d hd => hgood d (List.mem_of_mem_take hd))
    rw [List.length_take, Nat.min_eq_left hk] at this
    exact this
  clear hr hok hgood hc
  go_enter Tryd.func27, Tryd.ntmps27
  go_wp2_with fail
  refine (HNU.out _).mono ?_
  rintro e w1 ⟨A1, c1, rfl, hf1⟩
  have HF1 : Hid (Fresh w w1 (encK l.length []) A1 (encNum l.length).length c1) := by rw [show encK l.length [] = encNum l.length by simp [encK]]; exact hf1
  clear hf1
  generalize (encNum l.length).length = n1 at *
  go_wp2_with fail
  go_loopw [3, 4] (fun bv iv wr => ∃ (k : Nat) (A' : Option Addr) (n' c' : Nat), k ≤ l.length ∧ iv = .int .i64 k ∧ bv = .slice A' n' c' ∧ Hid (Fresh w wr (encK l.length (l.take k)) A' n' c')) (fun _ i _ => l.length - (intOf i).toNat)
  case atStart => exact ⟨0, A1, n1, c1, by omega, rfl, rfl, HF1⟩
  case round =>
    clear HF1
    obtain ⟨k, A', n', c', hk, rfl, rfl, HF⟩ := hrel
    have hlk := HLS.out k hk
    have hnl := HF.out.len
    by_cases hlt : k < l.length
    · obtain ⟨d, b, o, rfl, hx, hb, hc0, hc1, hc2, hc3, hc4, hc5, hc6⟩ := (HR.out.old HF.out.2.1).at_ hlt
      have hi0 : (0 : Int) ≤ (k : Int) := by omega
      have hi1 : (k : Int) < (l.length : Int) := by omega
      have hxm := List.mem_of_getElem? hx
      have hgd := HGD.out d hxm
      have hdo := HOK.out d hxm
      have hed := encD_small hgd
      have HSN : Hid (encK l.length (l.take (k + 1)) = encK l.length (l.take k) ++ encD d) := by show _ = _; rw [take_snoc hx]; exact encK_snoc _ _ _
      obtain ⟨h1, h2, h3, h4, h5, h6, h7, h8⟩ := goodD_bounds hgd
      obtain ⟨o1, a1, b1, r1, n2, m1, l1⟩ := d
      simp only at hc0 hc1 hc2 hc3 hc4 hc5 hc6 hdo h1 h2 h3 h4 h5 h6 h7 h8
      obtain ⟨o1, rfl⟩ := Int.eq_ofNat_of_zero_le (show 0 ≤ o1 by omega)
      obtain ⟨a1, rfl⟩ := Int.eq_ofNat_of_zero_le h1
      obtain ⟨b1, rfl⟩ := Int.eq_ofNat_of_zero_le h3
      obtain ⟨r1, rfl⟩ := Int.eq_ofNat_of_zero_le h5
      have HBD := Lib.hid (fun w => refBytesD o1 a1 b1 r1 n2 m1 l1 w (by omega) (by omega) (by omega) (by omega) hdo.1 hdo.2)
      generalize encD ⟨(o1 : Int), (a1 : Int), (b1 : Int), (r1 : Int), n2, m1, l1⟩ = ed at *
      have HNL := Lib.hid hnl
      clear hx hxm hgd hdo hnl
      go_wp2_with fail
      refine (HBD.out _).mono ?_
      rintro e w2 ⟨A2, n3, c2, rfl, hf2⟩
      have hn3 := hf2.len
      have HF2 := Lib.hid hf2
      have HOW : Hid (w2.ownsRow 0 5 1 (.slice A' n' c') n' ((encK l.length (l.take k)).map B)) := own_kept HF.out.1 hf2.2.1 (by simp)
      have hb1 : n' + n3 ≤ 100000 := by rw [hn3, HNL.out]; omega
      have HN3 := Lib.hid hn3
      clear hf2 hn3
      go_wp2_with (at_builtin; refine wpList_append_any _ rfl _ _ 32 rfl 5 (.int .u8 0) 1 1 Tryd.underlying32 Tryd.info5 rfl (by decide) (.slice A' n' c') n' _ rfl HOW.out A2 n3 c2 (ed.map B) rfl (Reads.of_own HF2.out.1) (B_one _) (by simp only [maxLen]; omega) (by omega) ?_; rintro A3 c3 w3 happ; have HP3 := Lib.hid happ; clear happ)
      go_roundw
      case rel => exact ⟨k + 1, A3, n' + n3, c3, by omega, by go_num, rfl, HF.out.append HF2.out.2.1 (by rw [HSN.out, List.map_append]; exact HP3.out)⟩
      case measure => simp [intOf]; omega
    · obtain rfl : k = l.length := by omega
      rw [List.take_of_length_le (Nat.le_refl _)] at HF
      go_wp2_with fail
      go_ret
      exact ⟨_, _, _, rfl, HF.out⟩

/-- Bytes' program. -/
def decP (l : List UInt8) : List Dd × Int :=
  if (getPr (0, l)).2.2 ≠ 0 then ([], (getPr (0, l)).2.2) else if doneS (getPr (0, l)).1 ≠ 0 then ([], doneS (getPr (0, l)).1) else ((getPr (0, l)).2.1, 0)
theorem decP_len (l : List UInt8) : (decP l).1.length ≤ 256 := by
  unfold decP
  split
  · simp
  · split
    · simp
    · exact getPr_len _

set_option maxHeartbeats 3200000 in
set_option maxRecDepth 100000 in
theorem pdecode_any (A : Option Addr) (m c : Nat) (l : List UInt8) (w : World) (hr : Reads w 1 A m (l.map B)) (hb : l.length ≤ 1000000000) :
    Calls Tryd.prog 26 #[.slice A m c] w fun e w' => ∃ A' n' c', e = .returned (.tuple #[.slice A' n' c', .int .i64 (decP l).2]) ∧ RowD w w' (decP l).1 A' n' c' ∧ Kept [] w w' := by
  have HRD := Lib.hid (rread_any A m c l w hr hb)
  have HG := Lib.hid (fun g A c w h => pget_any g A c (0, l) w h)
  have HU : Hid (decP l = if (getPr (0, l)).2.2 ≠ 0 then ([], (getPr (0, l)).2.2) else if doneS (getPr (0, l)).1 ≠ 0 then ([], doneS (getPr (0, l)).1) else ((getPr (0, l)).2.1, 0)) := rfl
  generalize getPr (0, l) = x at *
  obtain ⟨s2, p, ev⟩ := x
  simp only at HU
  clear hr
  by_cases h1 : ev = 0
  · have hb1 : (ev == 0) = true := by simp [h1]
    rw [if_neg (by simp [h1])] at HU
    obtain ⟨dn, hdn⟩ : ∃ dn, doneS s2 = dn := ⟨_, rfl⟩
    rw [hdn] at HU
    have HDN := Lib.hid (fun g A c w h => rdone_any g A c s2 w h)
    rw [hdn] at HDN
    clear hdn h1
    by_cases h2 : dn = 0
    · have hb2 : (dn != 0) = false := by simp [h2]
      rw [if_neg (by simp [h2])] at HU
      clear h2
      go_enter Tryd.func26, Tryd.ntmps26
      go_wp2_with fail
      refine (HRD.out).mono ?_
      rintro e w1 ⟨g, A1, c1, rfl, hR1, hk1, hg1, hA1⟩
      have HR1 := Lib.hid hR1
      have HK1 := Lib.hid hk1
      have hs1 := hk1.size
      clear hR1 hk1 hA1
      go_wp2_with fail
      refine (HG.out g A1 c1 _ HR1.out).mono ?_
      rintro e w2 ⟨Av, nv, cv, rfl, hgo, hrow⟩
      obtain ⟨A2, c2, hR2, hk2, _⟩ := hgo
      have HR2 := Lib.hid hR2
      have HK2 : Hid (Kept [] w w2) := HK1.out.trans' hk2 (fun k hm => .inr (by simp at hm; omega))
      have HRW : Hid (RowD w w2 p Av nv cv) := ⟨hrow.1, fun k hk => Nat.le_trans hs1 (hrow.2 k hk)⟩
      clear hR2 hk2 hrow
      go_wp2_with fail
      refine (HDN.out g A2 c2 _ HR2.out).mono ?_
      rintro e w3 ⟨rfl, rfl⟩
      go_wp2_with fail
      go_ret2
      rw [HU.out]
      exact ⟨Av, nv, cv, rfl, HRW.out, HK2.out⟩
    · have hb2 : (dn != 0) = true := by simp [h2]
      rw [if_pos h2] at HU
      clear h2
      go_enter Tryd.func26, Tryd.ntmps26
      go_wp2_with fail
      refine (HRD.out).mono ?_
      rintro e w1 ⟨g, A1, c1, rfl, hR1, hk1, hg1, hA1⟩
      have HR1 := Lib.hid hR1
      have HK1 := Lib.hid hk1
      clear hR1 hk1 hA1
      go_wp2_with fail
      refine (HG.out g A1 c1 _ HR1.out).mono ?_
      rintro e w2 ⟨Av, nv, cv, rfl, hgo, hrow⟩
      obtain ⟨A2, c2, hR2, hk2, _⟩ := hgo
      have HR2 := Lib.hid hR2
      have HK2 : Hid (Kept [] w w2) := HK1.out.trans' hk2 (fun k hm => .inr (by simp at hm; omega))
      clear hR2 hk2 hrow
      go_wp2_with fail
      refine (HDN.out g A2 c2 _ HR2.out).mono ?_
      rintro e w3 ⟨rfl, rfl⟩
      go_wp2_with fail
      go_ret2
      rw [HU.out]
      exact ⟨none, 0, 0, rfl, RowD.nil _ _, HK2.out⟩
  · have hb1 : (ev == 0) = false := by simp [h1]
    have hb2 : (ev != 0) = true := by simp [h1]
    rw [if_pos h1] at HU
    clear h1
    go_enter Tryd.func26, Tryd.ntmps26
    go_wp2_with fail
    refine (HRD.out).mono ?_
    rintro e w1 ⟨g, A1, c1, rfl, hR1, hk1, hg1, hA1⟩
    have HR1 := Lib.hid hR1
    have HK1 := Lib.hid hk1
    clear hR1 hk1 hA1
    go_wp2_with fail
    refine (HG.out g A1 c1 _ HR1.out).mono ?_
    rintro e w2 ⟨Av, nv, cv, rfl, hgo, hrow⟩
    obtain ⟨A2, c2, hR2, hk2, _⟩ := hgo
    have HK2 : Hid (Kept [] w w2) := HK1.out.trans' hk2 (fun k hm => .inr (by simp at hm; omega))
    clear hR2 hk2 hrow
    go_wp2_with fail
    go_ret2
    rw [HU.out]
    exact ⟨none, 0, 0, rfl, RowD.nil _ _, HK2.out⟩

/-- A deed's words are words. -/
def okD (d : Dd) : Prop := d.n < 18446744073709551616 ∧ d.mask < 18446744073709551616
theorem getP_ok (x : RS × Dd) (c : UInt8) (h : okD x.2) : okD (getP x c).2 := by
  have := numS_lt x.1
  unfold getP okD at *
  (repeat' split) <;> simp_all
theorem fold_ok : ∀ (ps : List UInt8) (x : RS × Dd), okD x.2 → okD (ps.foldl getP x).2
  | [], _, h => h
  | c :: t, x, h => fold_ok t (getP x c) (getP_ok x c h)
theorem getD_okD (s : RS) : okD (getD s).2.1 := by
  have hz : okD Dd.zero := ⟨by simp [Dd.zero], by simp [Dd.zero]⟩
  have hr : okD (readP (byteS s).1 (byteS s).2.toNat).2 := fold_ok _ _ ⟨by simp, by simp⟩
  unfold getD
  (repeat' split) <;> assumption

theorem getPk_once : ∀ (n : Nat) (s s' : RS) (acc p : List Dd), s.1 = 0 → getPk n s acc = (s', p, 0) → ∃ q, p = acc ++ q ∧ q.length = n ∧ (∀ d ∈ q, goodD d = true ∧ okD d) ∧ s.2 = q.flatMap encD ++ s'.2 ∧ s'.1 = 0
  | 0, s, s', acc, p, h0, h => by
    injection h with h1 h2
    injection h2 with h2 h3
    subst h1 h2
    exact ⟨[], by simp, rfl, by simp, by simp, h0⟩
  | n + 1, s, s', acc, p, h0, h => by
    rw [getPk] at h
    split at h
    · rename_i h1
      exact absurd (congrArg (fun y : RS × List Dd × Int => y.2.2) h) h1
    · rename_i h1
      have h1 : (getD s).2.2 = 0 := by simpa using h1
      obtain ⟨_, h2, h3, h4⟩ := get_once (s := s) (s' := (getD s).1) (d := (getD s).2.1) (by rw [← h1])
      obtain ⟨q, hq1, hq2, hq3, hq4, hq5⟩ := getPk_once n (getD s).1 s' (acc ++ [(getD s).2.1]) p h2 h
      refine ⟨(getD s).2.1 :: q, by rw [hq1]; simp, by simp [hq2], ?_, by rw [h4, hq4]; simp, hq5⟩
      intro d hd
      rcases List.mem_cons.1 hd with rfl | hd
      · exact ⟨h3, getD_okD s⟩
      · exact hq3 d hd
theorem getPr_once {s s' : RS} {p : List Dd} (h : getPr s = (s', p, 0)) : s.1 = 0 ∧ s'.1 = 0 ∧ checkP p = 0 ∧ (∀ d ∈ p, okD d) ∧ s.2 = encP p ++ s'.2 := by
  unfold getPr at h
  split at h
  · rename_i h1
    exact absurd (congrArg (fun y : RS × List Dd × Int => y.2.2) h) h1
  · rename_i h1
    have h1 : (numS s).1.1 = 0 := by simpa using h1
    split at h
    · exact absurd (congrArg (fun y : RS × List Dd × Int => y.2.2) h) (by simp)
    · rename_i h2
      obtain ⟨h3, h4⟩ := numS_once h1
      obtain ⟨q, hq1, hq2, hq3, hq4, hq5⟩ := getPk_once _ _ _ _ _ h1 h
      obtain rfl : p = q := by simpa using hq1
      refine ⟨h3, hq5, checkP_good (by omega) (fun d hd => (hq3 d hd).1), fun d hd => (hq3 d hd).2, ?_⟩
      rw [h4, hq4, encP, hq2, List.append_assoc]
theorem decP_once {l : List UInt8} (h : (decP l).2 = 0) : checkP (decP l).1 = 0 ∧ (∀ d ∈ (decP l).1, okD d) ∧ l = encP (decP l).1 := by
  unfold decP at h ⊢
  split at h
  · rename_i h1; exact absurd h h1
  · rename_i h1
    rw [if_neg h1]
    split at h
    · rename_i h2; exact absurd h h2
    · rename_i h2
      rw [if_neg h2]
      have h1 : (getPr (0, l)).2.2 = 0 := by simpa using h1
      obtain ⟨_, g1, g2, g3, g4⟩ := getPr_once (s := (0, l)) (s' := (getPr (0, l)).1) (p := (getPr (0, l)).2.1) (Prod.ext rfl (Prod.ext rfl h1))
      have h3 : (getPr (0, l)).1.2 = [] := by
        have h2 : doneS (getPr (0, l)).1 = 0 := by simpa using h2
        unfold doneS leftS at h2
        rw [if_pos g1] at h2
        split at h2
        · cases h2
        · rename_i h5; exact List.length_eq_zero_iff.1 (by omega)
      rw [h3, List.append_nil] at g4
      exact ⟨g2, g3, g4⟩
theorem decP_err {l : List UInt8} (h : (decP l).2 ≠ 0) : (decP l).1 = [] := by
  unfold decP at h ⊢
  split
  · rfl
  · rename_i h1
    split
    · rfl
    · rename_i h2; rw [if_neg h1, if_neg h2] at h; exact absurd rfl h

theorem getPk_back : ∀ (q : List Dd) (acc : List Dd) (l : List UInt8), (∀ d ∈ q, goodD d = true) → (∀ d ∈ q, okD d) → getPk q.length (0, q.flatMap encD ++ l) acc = ((0, l), acc ++ q, 0)
  | [], acc, l, _, _ => by simp [getPk]
  | d :: t, acc, l, hg, ho => by
    have h1 := get_enc d (t.flatMap encD ++ l) (hg d (by simp)) (ho d (by simp)).1 (ho d (by simp)).2
    rw [List.length_cons, getPk, List.flatMap_cons, List.append_assoc, h1]
    simp only
    rw [if_neg (by simp), getPk_back t (acc ++ [d]) l (fun x hx => hg x (by simp [hx])) (fun x hx => ho x (by simp [hx]))]
    simp
theorem getPr_back {p : List Dd} (l : List UInt8) (hc : checkP p = 0) (ho : ∀ d ∈ p, okD d) : getPr (0, encP p ++ l) = ((0, l), p, 0) := by
  obtain ⟨h1, h2⟩ := checkP_zero hc
  unfold getPr encP
  rw [List.append_assoc, num_back _ _ (by omega)]
  simp only
  rw [if_neg (by simp), if_neg (by omega), getPk_back p [] l h2 ho]
  rfl
theorem decP_back {p : List Dd} (hc : checkP p = 0) (ho : ∀ d ∈ p, okD d) : decP (encP p) = (p, 0) := by
  have h := getPr_back [] hc ho
  rw [List.append_nil] at h
  unfold decP
  rw [h]
  simp [doneS, leftS]

end Go.Proofs.YtmhlmoojmdfnfaaDoor

/- The document's Get and Decode of programs. -/
namespace Go.Proofs.YtmhlmoojmdfnfaaDoor
open Go.RowKit

/-- The document's reader behind a program. -/
def refSP (x : RS × List Dd × Int) : RS := if x.2.2 = 0 then x.1 else (x.2.2, [])
/-- What the document's Get of a program hands back. -/
def GivesP (w : World) (b0 : Nat) (s : RS) (l : List Dd) (e : Ending) (w' : World) : Prop :=
  ∃ A m c Av n cv, e = .returned (.tuple #[.agg #[.slice A m c, .int .i64 s.1], .slice Av n cv]) ∧ IsD w' b0 A m c s ∧ RowD w w' l Av n cv ∧ Kept [] w w'

theorem getD_ok {s : RS} (h : (getD s).2.2 = 0) : (getD s).1.1 = 0 := by
  unfold getD at h ⊢
  split at h
  · rename_i h1; exact absurd h h1
  · rename_i h1
    rw [if_neg h1]
    split at h
    · simp at h
    · rename_i h2
      rw [if_neg h2]
      split at h
      · rename_i h3; exact absurd h h3
      · rename_i h3
        rw [if_neg h3]
        split at h
        · rename_i h4; rw [if_pos h4]; simpa using h3
        · simp at h

set_option maxHeartbeats 3200000 in
set_option maxRecDepth 100000 in
theorem refGetP_err (b0 : Nat) (A : Option Addr) (m c : Nat) (s : RS) (w : World) (h : IsD w b0 A m c s) (hb0 : b0 ≤ w.heap.size) (h1 : (numS s).1.1 ≠ 0) :
    Calls Tryd.prog 70 #[.agg #[.slice A m c, .int .i64 s.1]] w (GivesP w b0 (refSP (getPr s)) (getPr s).2.1) := by
  have hE : getPr s = ((numS s).1, [], (numS s).1.1) := by unfold getPr; rw [if_pos h1]
  have HE := Lib.hid (show refSP (getPr s) = ((numS s).1.1, []) from by rw [hE, refSP, if_neg h1])
  have HE2 := Lib.hid (show (getPr s).2.1 = [] from by rw [hE])
  have HB := Lib.hid (fun w' (hk : Kept [] w w') => refGetNum b0 A m c s w' (h.old hk) (by have := hk.size; omega))
  have hN := numS_err s h1
  rw [hN] at HB
  clear hN
  generalize (numS s).1 = s1 at *
  have hb : (s1.1 == 0) = false := beq_eq_false_iff_ne.2 h1
  have hb2 : (s1.1 != 0) = true := by simp [h1]
  have H1 := Lib.hid h1
  clear hE h1 h
  go_enter Tryd.func70, Tryd.ntmps70
  go_wp2_with fail
  refine (HB.out _ (((Kept.refl [] w).alloc _).alloc _)).mono ?_
  rintro e w1 ⟨A1, m1, c1, rfl, hD1, hk1⟩
  have HD1 := Lib.hid hD1
  have HK1 := Lib.hid (((Kept.refl [] w).alloc _).alloc _ |>.trans hk1)
  have HX1 : Hid (Blk w1 w.heap.size 62 #[.slice A m c, .int .i64 s.1]) := ((Blk.new w _ _).alloc _).kept hk1 (by simp)
  have HY1 : Hid (Blk w1 (w.heap.size + 1) 62 #[.slice none 0 0, .int .i64 0]) := (Blk.newAt (w := w.alloc _) (by simp) _ _).kept hk1 (by simp)
  have hx1 := HX1.out.cell
  have hxf1 := HX1.out.frozen
  have hxl1 := HX1.out.lt
  have hy1 := HY1.out.cell
  have hyf1 := HY1.out.frozen
  have hyl1 := HY1.out.lt
  clear hD1 hk1
  go_wp2_with fail
  go_loopw [6] (fun iv wr => iv = .int .u64 0 ∧ Hid (Blk wr w.heap.size 62 #[.slice A1 m1 c1, .int .i64 s1.1]) ∧ Hid (Blk wr (w.heap.size + 1) 62 #[.slice none 0 0, .int .i64 0]) ∧ Hid (IsD wr b0 A1 m1 c1 s1) ∧ Hid (Kept [] w wr)) (fun _ _ => 0)
  case atStart => exact ⟨rfl, (HX1.out.set 0 _).set 1 _, (HY1.out.far (p := ⟨w.heap.size, 0, none⟩) (by simp) _).far (p := ⟨w.heap.size, 1, none⟩) (by simp) _, (HD1.out.set (p := ⟨w.heap.size, 0, none⟩) hb0 _).set (p := ⟨w.heap.size, 1, none⟩) hb0 _, HK1.out.set2 (Nat.le_refl _) _ _⟩
  case round =>
    obtain ⟨rfl, HX, HY, HD, HK⟩ := hrel
    have hx := HX.out.cell
    have hxf := HX.out.frozen
    have hxl := HX.out.lt
    have hy := HY.out.cell
    have hyf := HY.out.frozen
    have hyl := HY.out.lt
    clear hx1 hxf1 hxl1 hy1 hyf1 hyl1
    go_wp2_with fail
    refine bodyPost_ret (v := .tuple #[.agg #[.slice A1 m1 c1, .int .i64 s1.1], .slice none 0 0]) (by simp [results, Tryd.results70, go_sem, hy]) rfl ?_
    rw [HE.out, HE2.out]
    exact ⟨A1, m1, c1, none, 0, 0, rfl, IsD.kept (G := [w.heap.size + 1]) (HD.out.err rfl H1.out) (by (repeat (first | (with_reducible exact Kept.refl _ _) | (with_reducible refine Kept.setCell ?_ ?_ _) | (exact .inl (by simp))))) (by simp; omega), RowD.nil _ _, HK.out.set2 (by omega) _ _⟩

set_option maxHeartbeats 3200000 in
set_option maxRecDepth 100000 in
theorem refGetP_long (b0 : Nat) (A : Option Addr) (m c : Nat) (s : RS) (w : World) (h : IsD w b0 A m c s) (hb0 : b0 ≤ w.heap.size) (h1 : (numS s).1.1 = 0) (h2 : 256 < (numS s).2) :
    Calls Tryd.prog 70 #[.agg #[.slice A m c, .int .i64 s.1]] w (GivesP w b0 (refSP (getPr s)) (getPr s).2.1) := by
  have hE : getPr s = ((numS s).1, [], 4) := by unfold getPr; rw [if_neg (by simp [h1]), if_pos h2]
  have HE := Lib.hid (show refSP (getPr s) = (4, []) from by rw [hE]; rfl)
  have HE2 := Lib.hid (show (getPr s).2.1 = [] from by rw [hE])
  have HB := Lib.hid (fun w' (hk : Kept [] w w') => refGetNum b0 A m c s w' (h.old hk) (by have := hk.size; omega))
  generalize (numS s).2 = N at *
  generalize (numS s).1 = s1 at *
  have hb : (s1.1 == 0) = true := beq_iff_eq.2 h1
  have d1 : decide ((256 : Int) < (N : Int)) = true := by simp; omega
  clear hE h1 h h2
  go_enter Tryd.func70, Tryd.ntmps70
  go_wp2_with fail
  refine (HB.out _ (((Kept.refl [] w).alloc _).alloc _)).mono ?_
  rintro e w1 ⟨A1, m1, c1, rfl, hD1, hk1⟩
  have HK1 := Lib.hid (((Kept.refl [] w).alloc _).alloc _ |>.trans hk1)
  have HX1 : Hid (Blk w1 w.heap.size 62 #[.slice A m c, .int .i64 s.1]) := ((Blk.new w _ _).alloc _).kept hk1 (by simp)
  have HY1 : Hid (Blk w1 (w.heap.size + 1) 62 #[.slice none 0 0, .int .i64 0]) := (Blk.newAt (w := w.alloc _) (by simp) _ _).kept hk1 (by simp)
  have hx1 := HX1.out.cell
  have hxf1 := HX1.out.frozen
  have hxl1 := HX1.out.lt
  have hy1 := HY1.out.cell
  have hyf1 := HY1.out.frozen
  have hyl1 := HY1.out.lt
  clear hD1 hk1
  go_wp2_with fail
  refine bodyPost_ret (v := .tuple #[.agg #[.slice none 0 0, .int .i64 4], .slice none 0 0]) (by simp [results, Tryd.results70, go_sem, hy1]) rfl ?_
  rw [HE.out, HE2.out]
  exact ⟨none, 0, 0, none, 0, 0, rfl, isD_err _ _ (by simp), RowD.nil _ _, (HK1.out.set2 (Nat.le_refl _) _ _).set2 (by omega) _ _⟩

set_option maxHeartbeats 3200000 in
set_option maxRecDepth 100000 in
theorem refGetP_run (b0 : Nat) (A : Option Addr) (m c : Nat) (s : RS) (w : World) (h : IsD w b0 A m c s) (hb0 : b0 ≤ w.heap.size) (h1 : (numS s).1.1 = 0) (h2 : ¬ 256 < (numS s).2) :
    Calls Tryd.prog 70 #[.agg #[.slice A m c, .int .i64 s.1]] w (GivesP w b0 (refSP (getPr s)) (getPr s).2.1) := by
  have HU := Lib.hid (show getPr s = getPk (numS s).2 (numS s).1 [] from by unfold getPr; rw [if_neg (by simp [h1]), if_neg h2])
  have HB := Lib.hid (fun w' (hk : Kept [] w w') => refGetNum b0 A m c s w' (h.old hk) (by have := hk.size; omega))
  have hnl := numS_lt s
  generalize (numS s).2 = N at *
  generalize (numS s).1 = s1 at *
  have hb : (s1.1 == 0) = true := beq_iff_eq.2 h1
  have d1 : decide ((256 : Int) < (N : Int)) = false := by simp; omega
  have H1 := Lib.hid h1
  clear h1 h
  go_enter Tryd.func70, Tryd.ntmps70
  go_wp2_with fail
  refine (HB.out _ (((Kept.refl [] w).alloc _).alloc _)).mono ?_
  rintro e w1 ⟨A1, m1, c1, rfl, hD1, hk1⟩
  have HD1 := Lib.hid hD1
  have HK1 := Lib.hid (((Kept.refl [] w).alloc _).alloc _ |>.trans hk1)
  have HX1 : Hid (Blk w1 w.heap.size 62 #[.slice A m c, .int .i64 s.1]) := ((Blk.new w _ _).alloc _).kept hk1 (by simp)
  have HY1 : Hid (Blk w1 (w.heap.size + 1) 62 #[.slice none 0 0, .int .i64 0]) := (Blk.newAt (w := w.alloc _) (by simp) _ _).kept hk1 (by simp)
  have hx1 := HX1.out.cell
  have hxf1 := HX1.out.frozen
  have hxl1 := HX1.out.lt
  have hy1 := HY1.out.cell
  have hyf1 := HY1.out.frozen
  have hyl1 := HY1.out.lt
  clear hD1 hk1
  go_wp2_with fail
  go_loopw [5, 6] (fun pv iv wr => ∃ (k : Nat) (sx : RS) (acc : List Dd) (A' : Option Addr) (m' c' : Nat) (Av : Option Addr) (cv : Nat), k ≤ N ∧ iv = .int .u64 (k : Nat) ∧ pv = .slice Av k cv ∧ Hid ((sx.1 = 0 ∧ getPr s = getPk (N - k) sx acc) ∨ (sx.1 ≠ 0 ∧ (getPr s).2 = ([], sx.1))) ∧ Hid (IsD wr b0 A' m' c' sx) ∧ Hid (Blk wr w.heap.size 62 #[.slice A' m' c', .int .i64 sx.1]) ∧ Hid (Blk wr (w.heap.size + 1) 62 #[.slice none 0 0, .int .i64 0]) ∧ Hid (RowD w wr acc Av k cv ∧ ∀ q, q ∈ fp (.slice Av k cv) → w.heap.size + 1 < q) ∧ Hid (Kept [] w wr)) (fun _ i _ => N - (intOf i).toNat)
  case atStart => exact ⟨0, s1, [], A1, m1, c1, none, 0, by omega, rfl, rfl, .inl ⟨H1.out, HU.out⟩, (HD1.out.set (p := ⟨w.heap.size, 0, none⟩) hb0 _).set (p := ⟨w.heap.size, 1, none⟩) hb0 _, (HX1.out.set 0 _).set 1 _, (HY1.out.far (p := ⟨w.heap.size, 0, none⟩) (by simp) _).far (p := ⟨w.heap.size, 1, none⟩) (by simp) _, ⟨RowD.nil _ _, by simp [fp, Value.ownBlock]⟩, HK1.out.set2 (Nat.le_refl _) _ _⟩
  case round =>
    clear HU H1 HD1 HX1 HY1 HK1
    obtain ⟨k, sx, acc, A', m', c', Av, cv, hk, rfl, rfl, HU, HD, HX, HY, HRW, HK⟩ := hrel
    have hx := HX.out.cell
    have hxf := HX.out.frozen
    have hxl := HX.out.lt
    have hy := HY.out.cell
    have hyf := HY.out.frozen
    have hyl := HY.out.lt
    clear hx1 hxf1 hxl1 hy1 hyf1 hyl1
    by_cases h3 : sx.1 = 0
    · have b3 : (sx.1 == 0) = true := beq_iff_eq.2 h3
      have b4 : (sx.1 != 0) = false := by simp [h3]
      have HP : Hid (getPr s = getPk (N - k) sx acc) := by
        rcases HU.out with h | h
        · exact h.2
        · exact absurd h3 h.1
      clear HU
      by_cases hlt : k < N
      · have hi1 : (k : Int) < (N : Int) := by omega
        have HDG := Lib.hid (refGetD b0 A' m' c' sx wr HD.out (Nat.le_trans hb0 HK.out.size))
        obtain ⟨j, hj⟩ : ∃ j, N - k = j + 1 := ⟨N - k - 1, by omega⟩
        have HU2 : Hid (((refS (getD sx)).1 = 0 ∧ getPr s = getPk (N - (k + 1)) (refS (getD sx)) (acc ++ [(getD sx).2.1])) ∨ ((refS (getD sx)).1 ≠ 0 ∧ (getPr s).2 = ([], (refS (getD sx)).1))) := by
          show _ ∨ _
          rw [HP.out, hj, getPk, show N - (k + 1) = j by omega]
          by_cases h4 : (getD sx).2.2 = 0
          · rw [refS, if_pos h4, if_neg (by simp [h4])]
            exact .inl ⟨getD_ok h4, rfl⟩
          · rw [refS, if_neg h4, if_pos h4]
            exact .inr ⟨h4, rfl⟩
        generalize refS (getD sx) = s2 at *
        generalize (getD sx).2.1 = d at *
        obtain ⟨o2, a2, b2, r2, n2, mm2, l2⟩ := d
        clear hj HP h3
        go_wp2_with fail
        refine (HDG.out).mono ?_
        rintro e w3 ⟨A3, m3, c3, rfl, hd3, hk3⟩
        have HD3 := Lib.hid hd3
        have HX3 := Lib.hid (HX.out.kept hk3 (by simp))
        have HY3 := Lib.hid (HY.out.kept hk3 (by simp))
        have HRW3 := Lib.hid (HRW.out.1.kept hk3 (by simp))
        have HK3 := Lib.hid (HK.out.trans hk3)
        have hx3 := HX3.out.cell
        have hxf3 := HX3.out.frozen
        have hxl3 := HX3.out.lt
        clear hd3 hk3 hx hxf hxl hy hyf hyl
        simp only [dCd]
        have HKA : Hid (Kept [] w (((((w3.setCell ⟨w.heap.size, 0, none⟩ (.slice A3 m3 c3)).setCell ⟨w.heap.size, 1, none⟩ (.int .i64 s2.1)).alloc (.cells #[.slice A3 m3 c3, .int .i64 s2.1] 62)).alloc (.cells (dC o2 a2 b2 r2 n2 mm2 l2) 41)).alloc (.cells (dC o2 a2 b2 r2 n2 mm2 l2) 41))) := (((HK3.out.set2 (Nat.le_refl _) _ _).alloc _).alloc _).alloc _
        have HKB : Hid (Kept [w.heap.size] w3 (((((w3.setCell ⟨w.heap.size, 0, none⟩ (.slice A3 m3 c3)).setCell ⟨w.heap.size, 1, none⟩ (.int .i64 s2.1)).alloc (.cells #[.slice A3 m3 c3, .int .i64 s2.1] 62)).alloc (.cells (dC o2 a2 b2 r2 n2 mm2 l2) 41)).alloc (.cells (dC o2 a2 b2 r2 n2 mm2 l2) 41))) := (((((Kept.refl _ _).setCell (.inl (by simp)) _).setCell (.inl (by simp)) _).alloc _).alloc _).alloc _
        have HXA : Hid (Blk (((((w3.setCell ⟨w.heap.size, 0, none⟩ (.slice A3 m3 c3)).setCell ⟨w.heap.size, 1, none⟩ (.int .i64 s2.1)).alloc (.cells #[.slice A3 m3 c3, .int .i64 s2.1] 62)).alloc (.cells (dC o2 a2 b2 r2 n2 mm2 l2) 41)).alloc (.cells (dC o2 a2 b2 r2 n2 mm2 l2) 41)) w.heap.size 62 #[.slice A3 m3 c3, .int .i64 s2.1]) := ((((HX3.out.set 0 _).set 1 _).alloc _).alloc _).alloc _
        have HRD : Hid (Reads (((((w3.setCell ⟨w.heap.size, 0, none⟩ (.slice A3 m3 c3)).setCell ⟨w.heap.size, 1, none⟩ (.int .i64 s2.1)).alloc (.cells #[.slice A3 m3 c3, .int .i64 s2.1] 62)).alloc (.cells (dC o2 a2 b2 r2 n2 mm2 l2) 41)).alloc (.cells (dC o2 a2 b2 r2 n2 mm2 l2) 41)) 7 (some ⟨w3.heap.size + 1 + 1, 0, none⟩) 1 (dL ⟨o2, a2, b2, r2, n2, mm2, l2⟩)) := by
          have := reads_dd (((((w3.setCell ⟨w.heap.size, 0, none⟩ (.slice A3 m3 c3)).setCell ⟨w.heap.size, 1, none⟩ (.int .i64 s2.1)).alloc (.cells #[.slice A3 m3 c3, .int .i64 s2.1] 62)).alloc (.cells (dC o2 a2 b2 r2 n2 mm2 l2) 41))) 41 ⟨o2, a2, b2, r2, n2, mm2, l2⟩
          simp only [World.size_alloc, World.size_setCell] at this
          exact this
        have HSA : Hid (w3.heap.size ≤ (((((w3.setCell ⟨w.heap.size, 0, none⟩ (.slice A3 m3 c3)).setCell ⟨w.heap.size, 1, none⟩ (.int .i64 s2.1)).alloc (.cells #[.slice A3 m3 c3, .int .i64 s2.1] 62)).alloc (.cells (dC o2 a2 b2 r2 n2 mm2 l2) 41)).alloc (.cells (dC o2 a2 b2 r2 n2 mm2 l2) 41)).heap.size) := HKB.out.size
        simp only [dC] at HKA HKB HXA HRD HSA
        go_wp2_with (
          at_builtin
          generalize (((((w3.setCell ⟨w.heap.size, 0, none⟩ (.slice A3 m3 c3)).setCell ⟨w.heap.size, 1, none⟩ (.int .i64 s2.1)).alloc (.cells #[.slice A3 m3 c3, .int .i64 s2.1] 62)).alloc (.cells #[.int .i64 o2, .int .i64 a2, .int .i64 b2, .int .i64 r2, .int .u64 n2, .int .u64 mm2, .bool l2] 41)).alloc (.cells #[.int .i64 o2, .int .i64 a2, .int .i64 b2, .int .i64 r2, .int .u64 n2, .int .u64 mm2, .bool l2] 41)) = wA at *
          have HRWA := Lib.hid (own_kept HRW3.out.1 HKB.out (fun q hq hm => by have h5 := HRW.out.2 q hq; simp at hm; omega))
          refine wpList_append_any _ rfl _ _ 22 rfl 41 (.agg (dC 0 0 0 0 0 0 false)) 7 56 Tryd.underlying22 Tryd.info41 rfl (by decide) (.slice Av k cv) k _ rfl HRWA.out _ 1 1 (dL ⟨o2, a2, b2, r2, n2, mm2, l2⟩) rfl HRD.out (dL_one _) (by simp only [maxLen]; omega) (by omega) ?_
          rintro A5 c5 w5 happ
          have HA5 := Lib.hid happ
          clear happ)
        have HF : Hid (∀ q, q ∈ fp (.slice Av k cv) → w.heap.size + 1 < q) := HRW.out.2
        have hl3 : w.heap.size ≤ w3.heap.size := HK3.out.size
        have hyl4 : w.heap.size + 1 < w3.heap.size := HY3.out.lt
        go_roundw
        case rel =>
          have hYA : Blk wA (w.heap.size + 1) 62 #[.slice none 0 0, .int .i64 0] := HY3.out.kept HKB.out (by simp)
          exact ⟨k + 1, s2, acc ++ [⟨o2, a2, b2, r2, n2, mm2, l2⟩], A3, m3, c3, A5, c5, by omega, by go_num, rfl, HU2, (HD3.out.kept HKB.out (by simpa using hb0)).kept HA5.out.2.1 (fun q hq => by have := HF.out q hq; omega), HXA.out.kept HA5.out.2.1 (fun hq => by have := HF.out _ hq; omega), hYA.kept HA5.out.2.1 (fun hq => by have := HF.out _ hq; omega), ⟨RowD.append ⟨HRWA.out, HRW3.out.2⟩ (by have := HSA.out; omega) HA5.out, fun q hq => by
            rcases HA5.out.2.2 q hq with h6 | h6
            · exact HF.out q h6
            · have := HSA.out; omega⟩, HKA.out.trans' HA5.out.2.1 (fun q hq => .inr (by have := HF.out q hq; omega))⟩
        case measure => simp [intOf]; omega
      · obtain rfl : k = N := by omega
        rw [Nat.sub_self] at HP
        have HE := Lib.hid (show refSP (getPr s) = sx from by rw [HP.out]; rfl)
        have HE2 := Lib.hid (show (getPr s).2.1 = acc from by rw [HP.out]; rfl)
        clear h3
        go_wp2_with fail
        refine bodyPost_ret (v := .tuple #[.agg #[.slice A' m' c', .int .i64 sx.1], .slice Av k cv]) (by simp [results, Tryd.results70, go_sem, hy]) rfl ?_
        rw [HE.out, HE2.out]
        exact ⟨A', m', c', Av, k, cv, rfl, IsD.kept (G := [w.heap.size + 1]) HD.out (by (repeat (first | (with_reducible exact Kept.refl _ _) | (with_reducible refine Kept.setCell ?_ ?_ _) | (exact .inl (by simp))))) (by simp; omega), ⟨own_kept HRW.out.1.1 (Kept.setCell (Kept.setCell (Kept.refl [w.heap.size + 1] wr) (.inl (by simp)) _) (.inl (by simp)) _) (fun q hq hm => by have h5 := HRW.out.2 q hq; simp at hm; omega), HRW.out.1.2⟩, HK.out.set2 (by omega) _ _⟩
    · have b3 : (sx.1 == 0) = false := beq_eq_false_iff_ne.2 h3
      have b4 : (sx.1 != 0) = true := by simp [h3]
      have HP : Hid ((getPr s).2 = ([], sx.1)) := by
        rcases HU.out with h | h
        · exact absurd h.1 h3
        · exact h.2
      have HE := Lib.hid (show refSP (getPr s) = (sx.1, []) from by rw [refSP, HP.out, if_neg h3])
      have HE2 := Lib.hid (show (getPr s).2.1 = [] from by rw [HP.out])
      have H3 := Lib.hid h3
      clear h3 HU
      by_cases hlt : k < N
      · have d5 : decide ((k : Int) < (N : Int)) = true := by simp; omega
        go_wp2_with fail
        refine bodyPost_ret (v := .tuple #[.agg #[.slice A' m' c', .int .i64 sx.1], .slice none 0 0]) (by simp [results, Tryd.results70, go_sem, hy]) rfl ?_
        rw [HE.out, HE2.out]
        exact ⟨A', m', c', none, 0, 0, rfl, IsD.kept (G := [w.heap.size + 1]) (HD.out.err rfl H3.out) (by (repeat (first | (with_reducible exact Kept.refl _ _) | (with_reducible refine Kept.setCell ?_ ?_ _) | (exact .inl (by simp))))) (by simp; omega), RowD.nil _ _, HK.out.set2 (by omega) _ _⟩
      · have d5 : decide ((k : Int) < (N : Int)) = false := by simp; omega
        go_wp2_with fail
        refine bodyPost_ret (v := .tuple #[.agg #[.slice A' m' c', .int .i64 sx.1], .slice none 0 0]) (by simp [results, Tryd.results70, go_sem, hy]) rfl ?_
        rw [HE.out, HE2.out]
        exact ⟨A', m', c', none, 0, 0, rfl, IsD.kept (G := [w.heap.size + 1]) (HD.out.err rfl H3.out) (by (repeat (first | (with_reducible exact Kept.refl _ _) | (with_reducible refine Kept.setCell ?_ ?_ _) | (exact .inl (by simp))))) (by simp; omega), RowD.nil _ _, HK.out.set2 (by omega) _ _⟩

theorem refGetP (b0 : Nat) (A : Option Addr) (m c : Nat) (s : RS) (w : World) (h : IsD w b0 A m c s) (hb0 : b0 ≤ w.heap.size) :
    Calls Tryd.prog 70 #[.agg #[.slice A m c, .int .i64 s.1]] w (GivesP w b0 (refSP (getPr s)) (getPr s).2.1) := by
  by_cases h1 : (numS s).1.1 = 0
  · by_cases h2 : 256 < (numS s).2
    · exact refGetP_long b0 A m c s w h hb0 h1 h2
    · exact refGetP_run b0 A m c s w h hb0 h1 h2
  · exact refGetP_err b0 A m c s w h hb0 h1

theorem doneS_err (e : Int) : doneS (e, []) = e := by simp [doneS, leftS]

set_option maxHeartbeats 3200000 in
set_option maxRecDepth 100000 in
theorem refDecodeP (A : Option Addr) (m c : Nat) (l : List UInt8) (w : World) (hD : IsD w w.heap.size A m c (0, l)) :
    Calls Tryd.prog 29 #[.slice A m c] w fun e w' => ∃ A' n' c', e = .returned (.tuple #[.slice A' n' c', .int .i64 (decP l).2]) ∧ RowD w w' (decP l).1 A' n' c' ∧ Kept [] w w' := by
  have HG := Lib.hid (refGetP w.heap.size A m c (0, l) w hD (Nat.le_refl _))
  have HU : Hid (decP l = if (getPr (0, l)).2.2 ≠ 0 then ([], (getPr (0, l)).2.2) else if doneS (getPr (0, l)).1 ≠ 0 then ([], doneS (getPr (0, l)).1) else ((getPr (0, l)).2.1, 0)) := rfl
  obtain ⟨s2, p, ev, hx⟩ : ∃ s2 p ev, getPr (0, l) = (s2, p, ev) := ⟨_, _, _, rfl⟩
  rw [hx] at HG HU
  simp only at HG HU
  clear hx hD
  have HX : Hid ((doneS (refSP (s2, p, ev)) ≠ 0 ∧ decP l = ([], doneS (refSP (s2, p, ev)))) ∨ (doneS (refSP (s2, p, ev)) = 0 ∧ decP l = (p, 0))) := by
    show _ ∨ _
    by_cases h1 : ev = 0
    · rw [show refSP (s2, p, ev) = s2 from by rw [refSP, if_pos h1]]
      by_cases h2 : doneS s2 = 0
      · exact .inr ⟨h2, by rw [HU.out, if_neg (by simp [h1]), if_neg (by simp [h2])]⟩
      · exact .inl ⟨h2, by rw [HU.out, if_neg (by simp [h1]), if_pos h2]⟩
    · rw [show refSP (s2, p, ev) = (ev, []) from by rw [refSP, if_neg h1], doneS_err]
      exact .inl ⟨h1, by rw [HU.out, if_pos h1]⟩
  clear HU
  generalize refSP (s2, p, ev) = s3 at *
  have HDN := Lib.hid (fun b0 A m c w h => refDone b0 A m c s3 w h)
  generalize doneS s3 = dn at *
  rcases HX.out with ⟨h1, h2⟩ | ⟨h1, h2⟩
  · have hb : (dn != 0) = true := by simp [h1]
    have H2 := Lib.hid h2
    clear h1 h2 HX
    go_enter Tryd.func29, Tryd.ntmps29
    go_wp2_with fail
    refine (HG.out).mono ?_
    rintro e w1 ⟨A1, m1, c1, Av, nv, cv, rfl, hd1, hrow1, hk1⟩
    have HK1 := Lib.hid (hk1.alloc (.cells #[.slice A1 m1 c1, .int .i64 s3.1] 62))
    have HD1 := Lib.hid (hd1.old ((Kept.refl [] _).alloc (.cells #[.slice A1 m1 c1, .int .i64 s3.1] 62)))
    clear hd1 hrow1 hk1
    go_wp2_with fail
    refine (HDN.out _ A1 m1 c1 _ HD1.out).mono ?_
    rintro e w2 ⟨rfl, hk2⟩
    have HX2 : Hid (Blk w2 w1.heap.size 62 #[.slice A1 m1 c1, .int .i64 s3.1]) := (Blk.new w1 _ _).kept hk2 (by simp)
    have HK2 := Lib.hid (HK1.out.trans hk2)
    have HD2 := Lib.hid (HD1.out.old hk2)
    have hx2 := HX2.out.cell
    have hxl2 := HX2.out.lt
    clear hk2
    go_wp2_with fail
    refine (HDN.out _ A1 m1 c1 _ HD2.out).mono ?_
    rintro e w3 ⟨rfl, hk3⟩
    go_wp2_with fail
    go_ret2
    rw [H2.out]
    exact ⟨none, 0, 0, rfl, RowD.nil _ _, HK2.out.trans hk3⟩
  · have hb : (dn != 0) = false := by simp [h1]
    have H2 := Lib.hid h2
    clear h1 h2 HX
    go_enter Tryd.func29, Tryd.ntmps29
    go_wp2_with fail
    refine (HG.out).mono ?_
    rintro e w1 ⟨A1, m1, c1, Av, nv, cv, rfl, hd1, hrow1, hk1⟩
    have HK1 := Lib.hid (hk1.alloc (.cells #[.slice A1 m1 c1, .int .i64 s3.1] 62))
    have HD1 := Lib.hid (hd1.old ((Kept.refl [] _).alloc (.cells #[.slice A1 m1 c1, .int .i64 s3.1] 62)))
    have HR1 := Lib.hid (hrow1.kept ((Kept.refl [] _).alloc (.cells #[.slice A1 m1 c1, .int .i64 s3.1] 62)) (by simp))
    clear hd1 hrow1 hk1
    go_wp2_with fail
    refine (HDN.out _ A1 m1 c1 _ HD1.out).mono ?_
    rintro e w2 ⟨rfl, hk2⟩
    go_wp2_with fail
    go_ret2
    rw [H2.out]
    exact ⟨Av, nv, cv, rfl, HR1.out.kept hk2 (by simp), HK1.out.trans hk2⟩

end Go.Proofs.YtmhlmoojmdfnfaaDoor

