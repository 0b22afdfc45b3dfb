/- The walk of WireOnce. -/
import Derived.Test.YtmaiipglojpknaaWireL
import Derived.Test.YtmaiipglojpknaaWireTh
import Derived.Test.YtmaiipglojpknaaWirePlain2
namespace Go.Proofs.Ytmaiipglojpknaa
open Go.RowKit

/-- A reader and a writer side by side: what was read and written is the first part of l. -/
structure ORel (w wr : World) (l : List UInt8) (g : Nat) (A : Option Addr) (c : Nat) (gw : Nat) (Aw : Option Addr) (cw : Nat) (dn rest : List UInt8) : Prop where
  isR : IsR wr g A c (0, rest)
  isW : IsW wr gw Aw cw 0 dn (200 - dn.length)
  all : l = dn ++ rest
  kept : Kept [] w wr
  newG : w.heap.size ≤ g
  newA : ∀ ad, A = some ad → w.heap.size ≤ ad.block
  newW : ∀ q, q ∈ fpW gw Aw → w.heap.size ≤ q
  apart : g ∉ fpW gw Aw
  apartA : ∀ ad, A = some ad → ad.block ∉ fpW gw Aw

theorem leftS_ok (l : List UInt8) : leftS (0, l) = l.length := by simp [leftS]

/-- The reader has gone on, then the writer. -/
theorem ORel.step {w wr w2 w3 : World} {l : List UInt8} {g : Nat} {A : Option Addr} {c gw : Nat} {Aw : Option Addr} {cw : Nat} {dn rest rest' e : List UInt8} {s : RS}
    (h : ORel w wr l g A c gw Aw cw dn rest) (hR : RGoes wr g A s w2) (hW : WGoes w2 gw Aw (putS (0, dn, 200 - dn.length) e) w3) (hs : s = (0, rest')) (he : rest = e ++ rest') (hl : l.length ≤ 200) :
    ∃ A' c' Aw' cw', ORel w w3 l g A' c' gw Aw' cw' (dn ++ e) rest' := by
  subst hs
  obtain ⟨A1, c1, r1, r2, r3⟩ := hR
  obtain ⟨A2, c2, k1, k2, k3⟩ := hW
  have hlen : dn.length + rest.length ≤ 200 := by have := h.all; subst this; simpa using hl
  have hle : e.length ≤ 200 - dn.length := by subst he; simp at hlen; omega
  have hst : putS (0, dn, 200 - dn.length) e = (0, dn ++ e, 200 - dn.length - e.length) := by
    unfold putS; rw [if_neg (by simp), if_neg (by simp only; omega)]
  rw [hst] at k1
  have hk : Kept [] w w2 := h.kept.trans' r2 fun q hq => .inr (by simp at hq; subst hq; exact h.newG)
  have hs2 := hk.size
  have hA1 : ∀ ad, A1 = some ad → ad.block ∉ fpW gw Aw ∧ w.heap.size ≤ ad.block ∧ ad.block < w2.heap.size := fun ad e => by
    obtain ⟨a0, e0, b0⟩ := r3 ad e
    rw [b0]
    have := r2.size
    have := (h.isR.2.2.2.2 a0 e0).2
    exact ⟨h.apartA a0 e0, h.newA a0 e0, by omega⟩
  refine ⟨A1, c1, A2, c2, ?_⟩
  exact {
    isR := r1.kept k2 h.apart fun ad e => (hA1 ad e).1
    isW := by rw [List.length_append, Nat.sub_add_eq]; exact k1
    all := by rw [h.all, he, List.append_assoc]
    kept := hk.trans' k2 fun q hq => .inr (h.newW q hq)
    newG := h.newG
    newA := fun ad e => (hA1 ad e).2.1
    newW := fun q hq => by
      rcases k3 q hq with hh | hh
      · exact h.newW q hh
      · omega
    apart := fun hq => by
      rcases k3 _ hq with hh | hh
      · exact h.apart hh
      · have := r1.1.lt; omega
    apartA := fun ad e hq => by
      rcases k3 _ hq with hh | hh
      · exact (hA1 ad e).1 hh
      · have := (hA1 ad e).2.2; omega }

theorem failS_left (s : RS) : s.1 ≠ 0 → leftS s = 0 := fun h => by simp [leftS, h]

set_option maxHeartbeats 1000000 in
theorem wireOnce_any (A : Option Addr) (m c : Nat) (l0 : List UInt8) (w : World) (hr : Reads w 1 A m (l0.map B)) (hmc : m ≤ c) (hc : c ≤ maxLen) :
    Calls Try.prog 4 #[.slice A m c] w fun e w' => e = .returned (.bool true) ∧ Kept [] w w' := by
  have hm : m = l0.length := by have := hr.1; simpa using this.symm
  subst hm
  unfold maxLen at hc
  obtain ⟨l, n, hl, hlen, hcase⟩ : ∃ (l : List UInt8) (n : Nat), Hid (Reads w 1 A n (l.map B)) ∧ l.length ≤ 200 ∧ (200 < l0.length ∧ n = 200 ∨ l0.length ≤ 200 ∧ n = l0.length) := by
    by_cases h : 200 < l0.length
    · refine ⟨l0.take 200, 200, ?_, by simp; omega, .inl ⟨h, rfl⟩⟩
      have := hr.upto (k := 200) (by omega)
      simpa [Hid, List.map_take] using this
    · exact ⟨l0, l0.length, hr, by omega, .inr ⟨by omega, rfl⟩⟩
  have hsl : 200 < l0.length → _ := fun h => run_cut_h (P := Try.prog) 25 5 (.int .u8 0) 1 Try.underlying25 Try.info5 A l0.length c .i64 200 200 rfl (by omega)
  clear hr
  rcases hcase with ⟨h200, rfl⟩ | ⟨h200, rfl⟩
  case' inl => have hsl := hsl h200
  all_goals
    go_enter Try.func4, Try.ntmps4
    go_wp2_with fail
    refine (rread_any A _ c l w hl.out (by omega)).mono ?_
    rintro e w1 ⟨g, A1, c1, rfl, hR1, hk1, hg1, hA1⟩
    have H1 := Lib.hid hR1
    clear hR1
    go_wp2_with fail
    refine (wnew_any 200 w1).mono ?_
    rintro e w2 ⟨rfl, hW2, hk2⟩
    have hrel : ORel w w2 l g A1 c1 w1.heap.size none 0 [] l := {
      isR := H1.out.kept hk2 (by simp) (by simp)
      isW := hW2
      all := rfl
      kept := hk1.trans hk2
      newG := hg1
      newA := hA1
      newW := fun q hq => by simp [fpW] at hq; subst hq; exact hk1.size
      apart := by have := H1.out.1.lt; simp [fpW]; omega
      apartA := fun ad e => by have := (H1.out.2.2.2.2 ad e).2; simp [fpW]; omega }
    generalize w1.heap.size = gw at *
    have HR := Lib.hid hrel
    clear hrel hW2 hk1 hk2 H1 hg1 hA1
    go_wp2_with fail
    refine (rleft_any g A1 c1 (0, l) w2 HR.out.isR).mono ?_
    rintro e w3 ⟨rfl, rfl⟩
    rw [leftS_ok]
    go_wp2_with fail
    go_loopw [5] (fun left wr => ∃ (A2 : Option Addr) (c2 : Nat) (Aw : Option Addr) (cw : Nat) (dn rest : List UInt8), left = .int .i64 rest.length ∧ ORel w wr l g A2 c2 gw Aw cw dn rest) (fun left _ => (intOf left).toNat)
    case atStart => exact ⟨A1, c1, none, 0, [], l, rfl, HR.out⟩
    case round =>
      obtain ⟨A2, c2, Aw, cw, dn, rest, rfl, hrel⟩ := hrel
      have hlen2 : dn.length + rest.length ≤ 200 := by have := hrel.all; subst this; simpa using hlen
      have HO := Lib.hid hrel
      clear hrel HR
      by_cases h0 : 0 < rest.length
      · obtain ⟨s', x, hx⟩ : ∃ s' x, numS (0, rest) = (s', x) := ⟨_, _, rfl⟩
        have hx64 : x < 18446744073709551616 := by have := numS_lt (0, rest); rw [hx] at this; exact this
        have HX := Lib.hid hx
        clear hx
        go_wp2_with fail
        refine (rnum_any g A2 c2 (0, rest) wr HO.out.isR).mono ?_
        rintro e w4 ⟨rfl, hgo⟩
        rw [HX.out] at hgo ⊢
        obtain ⟨A4, c4, hR4, hk4, hA4⟩ := id hgo
        have hW4 : IsW w4 gw Aw cw 0 dn (200 - dn.length) := HO.out.isW.kept hk4 (fun q hq hm => by simp at hm; subst hm; exact HO.out.apart hq)
        go_wp2_with fail
        refine (wnum_any gw Aw cw 0 dn (200 - dn.length) x w4 hW4 hx64 (by omega) (by omega)).mono ?_
        rintro e w5 ⟨rfl, hgo5⟩
        have hR5 : IsR w5 g A4 c4 s' := by
          obtain ⟨_, _, _, hk5, _⟩ := hgo5
          exact hR4.kept hk5 HO.out.apart (fun ad e => by obtain ⟨a0, e0, b0⟩ := hA4 ad e; rw [b0]; exact HO.out.apartA a0 e0)
        have hk5 : Kept [] w w5 := by
          obtain ⟨_, _, _, hk5, _⟩ := hgo5
          exact (HO.out.kept.trans' hk4 fun q hq => .inr (by simp at hq; subst hq; exact HO.out.newG)).trans' hk5 fun q hq => .inr (HO.out.newW q hq)
        have HG := Lib.hid hgo
        have HG5 := Lib.hid hgo5
        have HR5 := Lib.hid hR5
        clear hgo hgo5 hR5 hR4 hk4 hA4 hW4
        obtain ⟨se, sl⟩ := s'
        go_wp2_with fail
        refine (rerr_any g A4 c4 (se, sl) w5 HR5.out).mono ?_
        rintro e w6 ⟨rfl, rfl⟩
        by_cases hse : se = 0
        · subst hse
          have he := num_once HX.out
          have hle : sl.length < rest.length := by rw [he, List.length_append, encNum_len]; omega
          have HE := Lib.hid he
          clear he
          go_wp2_with fail
          refine (rleft_any g A4 c4 (0, sl) w5 HR5.out).mono ?_
          rintro e w6 ⟨rfl, rfl⟩
          rw [leftS_ok]
          go_wp2_with fail
          refine (rleft_any g A4 c4 (0, sl) w5 HR5.out).mono ?_
          rintro e w6 ⟨rfl, rfl⟩
          rw [leftS_ok]
          go_wp2_with fail
          go_roundw
          case rel =>
            obtain ⟨A', c', Aw', cw', hh⟩ := HO.out.step HG.out HG5.out rfl HE.out hlen
            exact ⟨A', c', Aw', cw', _, sl, rfl, hh⟩
          case measure => simp [intOf]; omega
        · have hb : (se != 0) = true := by simpa using hse
          have hb2 : (se == 0) = false := by simpa using hse
          clear hse
          go_wp2_with fail
          refine (rleft_any g A4 c4 (se, sl) w5 HR5.out).mono ?_
          rintro e w6 ⟨rfl, rfl⟩
          rw [show leftS (se, sl) = 0 from failS_left _ (by simpa using hb2)]
          go_wp2_with (first | (go_at_call 12; refine (awake4 _).mono ?_; rintro e w' ⟨rfl, hk3⟩))
          go_ret
          exact ⟨rfl, hk5.trans hk3⟩
      · obtain rfl : rest = [] := List.eq_nil_of_length_eq_zero (by omega)
        have hall := HO.out.all
        rw [List.append_nil] at hall
        subst hall
        have hkw := HO.out.kept
        go_wp2_with fail
        refine (wdone_ok gw Aw cw l (200 - l.length) wr HO.out.isW (by omega)).mono ?_
        rintro e w4 ⟨v, rfl, hown, hk4, hnew4⟩
        obtain ⟨A4, c4, rfl, _, _⟩ := own_form hown
        have hr1 := run_string_of (P := Try.prog) (c := c4) (Reads.of_own hown) 25 9 5 Try.underlying25 Try.underlying5 Try.underlying9
        have hr2 := run_string_of (P := Try.prog) (c := c) (hl.out.old (hkw.trans hk4)) 25 9 5 Try.underlying25 Try.underlying5 Try.underlying9
        have HK := Lib.hid (hkw.trans hk4)
        have HD := Lib.hid (rdone_any g A2 c2 (0, []) w4 (HO.out.isR.kept hk4 (by simp) (by simp)))
        clear hown hnew4 hk4 hkw
        go_wp2_with (first | (go_at_call 12; refine (awake4 _).mono ?_; rintro e w' ⟨rfl, hk3⟩) | (go_at_call 18; refine HD.out.mono ?_; rintro e w5 ⟨rfl, rfl⟩; rw [show doneS (0, []) = 0 from rfl]))
        go_ret
        exact ⟨rfl, HK.out.trans hk3⟩

end Go.Proofs.Ytmaiipglojpknaa
