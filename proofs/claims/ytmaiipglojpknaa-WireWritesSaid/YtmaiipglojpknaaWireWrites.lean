/- The walk of WireWrites. -/
import Derived.Test.YtmaiipglojpknaaWireT
import Derived.Test.YtmaiipglojpknaaWireTh
namespace Go.Proofs.Ytmaiipglojpknaa
open Go.RowKit

def stW (most : Int) (ts : List Th) : Int × List UInt8 × Nat := ts.foldl (fun s t => putS s (encT t.kind t.x t.b)) (0, [], (max most 0).toNat)

/-- What holds of the program's writer and of the wanted bytes at the head of each round. -/
structure WRel (w wr : World) (most : Int) (ts : List Th) (k g : Nat) (A0 : Option Addr) (c0 : Nat) (A1 : Option Addr) (n1 c1 : Nat) (full : Bool) (s : Int × List UInt8 × Nat) : Prop where
  st : s = stW most (ts.take k)
  isW : IsW wr g A0 c0 s.1 s.2.1 s.2.2
  own : wr.ownsRow 0 5 1 (.slice A1 n1 c1) n1 (s.2.1.map B)
  full : full = decide (s.1 ≠ 0)
  err : s.1 = 0 ∨ s.1 = 4
  room : s.2.1.length + s.2.2 = (max most 0).toNat
  len : s.2.1.length ≤ 69 * k
  kept : Kept [] w wr
  newW : ∀ q, q ∈ fpW g A0 → w.heap.size ≤ q
  new1 : ∀ q, q ∈ fp (.slice A1 n1 c1) → w.heap.size ≤ q
  apart : ∀ q, q ∈ fpW g A0 → q ∉ fp (.slice A1 n1 c1)

theorem WRel.len1 {w wr : World} {most : Int} {ts : List Th} {k g : Nat} {A0 : Option Addr} {c0 : Nat} {A1 : Option Addr} {n1 c1 : Nat} {full : Bool} {s : Int × List UInt8 × Nat} (h : WRel w wr most ts k g A0 c0 A1 n1 c1 full s) : n1 = s.2.1.length := by
  have := h.own.1; simpa using this.symm

theorem stW_step (most : Int) {ts : List Th} {k : Nat} {t : Th} (h : ts[k]? = some t) : stW most (ts.take (k + 1)) = putS (stW most (ts.take k)) (encT t.kind t.x t.b) := by
  obtain ⟨hk, rfl⟩ := List.getElem?_eq_some_iff.1 h
  unfold stW
  rw [List.take_succ_eq_append_getElem hk, List.foldl_append]
  rfl

section
variable {w wr w2 w3 w4 : World} {most : Int} {ts : List Th} {k g : Nat} {A0 : Option Addr} {c0 : Nat} {A1 : Option Addr} {n1 c1 : Nat} {full : Bool} {s : Int × List UInt8 × Nat} {t : Th} {l : List UInt8}
theorem WRel.isFull (h : WRel w wr most ts k g A0 c0 A1 n1 c1 full s) (ht : ts[k]? = some t) (hl : encT t.kind t.x t.b = l) (hgo : WGoes wr g A0 (putS s l) w2) (hk : Kept [] w2 w3) (hc : full = true ∨ s.2.2 < l.length) :
    ∃ A0' c0', WRel w w3 most ts (k + 1) g A0' c0' A1 n1 c1 true (putS s l) := by
  obtain ⟨A', c', hW, hk2, hn2⟩ := hgo
  have hs1 := h.kept.size
  have hs2 := hk2.size
  have hst : putS s l = (if s.1 ≠ 0 then s else (4, s.2)) := by
    unfold putS
    split
    · rfl
    · next h0 =>
      rcases hc with hc | hc
      · rw [h.full] at hc; simp at hc h0; exact absurd h0 hc
      · rw [if_pos hc]
  have herr : (putS s l).1 = 4 := by
    rw [hst]
    rcases h.err with e | e <;> simp [e]
  have h2 : (putS s l).2 = s.2 := by rw [hst]; split <;> rfl
  refine ⟨A', c', ?_⟩
  exact {
    st := by rw [stW_step most ht, ← h.st, hl]
    isW := hW.kept hk (by simp)
    own := by rw [h2]; exact own_kept (own_kept h.own hk2 (fun q hq hm => h.apart q hm hq)) hk (by simp)
    full := by rw [herr]; rfl
    err := .inr herr
    room := by rw [h2]; exact h.room
    len := by rw [h2]; have := h.len; omega
    kept := (h.kept.trans' hk2 fun q hq => .inr (h.newW q hq)).trans hk
    newW := fun q hq => by
      rcases hn2 q hq with hh | hh
      · exact h.newW q hh
      · omega
    new1 := h.new1
    apart := fun q hq hm => by
      rcases hn2 q hq with hh | hh
      · exact h.apart q hh hm
      · have := own_lt h.own q hm; omega }

theorem WRel.wider (h : WRel w wr most ts k g A0 c0 A1 n1 c1 full s) (ht : ts[k]? = some t) (hl : encT t.kind t.x t.b = l) (hgo : WGoes wr g A0 (putS s l) w2) (hk : Kept [] w2 w3) (hf : full = false) (hc : l.length ≤ s.2.2)
    {A4 : Option Addr} {c4 : Nat} (happ : Appended w3 w4 5 1 (.slice A1 n1 c1) (.slice A4 (n1 + l.length) c4) (n1 + l.length) (s.2.1.map B ++ l.map B)) :
    ∃ A0' c0', WRel w w4 most ts (k + 1) g A0' c0' A4 (n1 + l.length) c4 false (putS s l) := by
  obtain ⟨A', c', hW, hk2, hn2⟩ := hgo
  have hs1 := h.kept.size
  have hs2 := hk2.size
  have hs3 := hk.size
  have h0 : s.1 = 0 := by have := h.full; rw [hf] at this; simpa using this.symm
  have hst : putS s l = (0, s.2.1 ++ l, s.2.2 - l.length) := by
    unfold putS
    rw [if_neg (by simp [h0]), if_neg (by omega)]
  have hl69 : l.length ≤ 69 := by rw [← hl]; exact encT_len _ _ _
  have hlt1 : ∀ q, q ∈ fp (.slice A1 n1 c1) → q < wr.heap.size := own_lt h.own
  refine ⟨A', c', ?_⟩
  have hapart : ∀ q, q ∈ fpW g A' → q ∉ fp (.slice A1 n1 c1) := fun q hq hm => by
      rcases hn2 q hq with hh | hh
      · exact h.apart q hh hm
      · have := hlt1 q hm; omega
  have hW3 := hW.kept hk (by simp)
  exact {
    st := by rw [stW_step most ht, ← h.st, hl]
    isW := hW3.kept happ.2.1 hapart
    own := by rw [hst]; simpa using happ.1
    full := by rw [hst]; rfl
    err := .inl (by rw [hst])
    room := by rw [hst]; have := h.room; simp; omega
    len := by rw [hst]; have := h.len; simp; omega
    kept := ((h.kept.trans' hk2 fun q hq => .inr (h.newW q hq)).trans hk).trans' happ.2.1 fun q hq => .inr (h.new1 q hq)
    newW := fun q hq => by
      rcases hn2 q hq with hh | hh
      · exact h.newW q hh
      · omega
    new1 := fun q hq => by
      rcases happ.2.2 q hq with hh | hh
      · exact h.new1 q hh
      · omega
    apart := fun q hq hm => by
      rcases happ.2.2 q hm with hh | hh
      · exact hapart q hq hh
      · have := fpW_lt hW3 q hq; omega }
end

set_option maxHeartbeats 1000000 in
theorem wireWrites_any (most : Int) (A : Option Addr) (n c : Nat) (ts : List Th) (w : World) (hT : Things w A ts) (hn : ts.length = n) (hm0 : -9223372036854775808 ≤ most) (hm1 : most ≤ 9223372036854775807) :
    Calls Try.prog 3 #[.int .i64 most, .slice A n c] w fun e w' => e = .returned (.bool true) ∧ Kept [] w w' := by
  subst hn
  have hsm := hT.small
  have HT := Lib.hid hT
  clear hT
  go_enter Try.func3, Try.ntmps3
  go_wp2_with fail
  refine (wnew_any most w).mono ?_
  rintro e w1 ⟨rfl, hW1, hk1⟩
  have HW1 := Lib.hid hW1
  clear hW1
  go_wp2_with fail
  obtain ⟨g, hg⟩ : ∃ g, w.heap.size = g := ⟨_, rfl⟩
  rw [hg]
  have HG := Lib.hid hg
  have hgw : w.heap.size ≤ g := by omega
  clear hg
  go_loopw [6, 7, 8] (fun want full i wr => ∃ (k : Nat) (A0 : Option Addr) (c0 : Nat) (A1 : Option Addr) (n1 c1 : Nat) (fb : Bool) (s : Int × List UInt8 × Nat), k ≤ 30 ∧ k ≤ ts.length ∧ i = .int .i64 k ∧ want = .slice A1 n1 c1 ∧ full = .bool fb ∧ WRel w wr most ts k g A0 c0 A1 n1 c1 fb s) (fun _ _ i _ => 30 - (intOf i).toNat)
  case atStart =>
    refine ⟨0, none, 0, none, 0, 0, false, (0, [], (max most 0).toNat), by omega, by omega, rfl, rfl, rfl, ?_⟩
    refine ⟨rfl, HG.out ▸ HW1.out, World.ownsRow_nil _ _ _ _, rfl, .inl rfl, by simp, by simp, hk1, ?_, by simp [fp, Value.ownBlock], by simp [fp, Value.ownBlock]⟩
    intro q hq; simp [fpW] at hq; omega
  case round =>
    obtain ⟨k, A0, c0, A1, n1, c1, fb, s, hk30, hkn, rfl, rfl, rfl, hR⟩ := hrel
    have HR := Lib.hid hR
    clear hR
    by_cases hlt : k < ts.length ∧ k < 30
    · obtain ⟨hl1, hl2⟩ := hlt
      obtain ⟨t, ht⟩ : ∃ t, ts[k]? = some t := ⟨_, List.getElem?_eq_getElem hl1⟩
      have HTK := Lib.hid ht
      obtain ⟨b, o, rfl, hlt, h0, h1, h2, h3, hok⟩ := (HT.out.old HR.out.kept).at_ k t ht
      have HOK := Lib.hid hok
      clear ht hok
      obtain ⟨l, hl⟩ : ∃ l, encT t.kind t.x t.b = l := ⟨_, rfl⟩
      have hl69 : l.length ≤ 69 := by rw [← hl]; exact encT_len _ _ _
      have HL := Lib.hid hl
      clear hl
      have hn1 := HR.out.len1
      have hlen := HR.out.len
      have hroom := HR.out.room
      have hr1 : s.2.2 ≤ 9223372036854775807 := by omega
      have hl1' : s.2.1.length ≤ 100000 := by omega
      have HN1 := Lib.hid hn1
      have hn1a : n1 ≤ s.2.1.length := by omega
      have hn1b : s.2.1.length ≤ n1 := by omega
      have HRM := Lib.hid hroom
      clear hn1 hroom
      go_wp2_with fail
      refine (write4 g A0 c0 s.1 s.2.1 s.2.2 t.kind t.x t.A t.m t.c t.most t.b wr HR.out.isW hl1' hr1 HOK.out.kind HOK.out.x HOK.out.reads HOK.out.mc HOK.out.cm).mono ?_
      rintro e w2 ⟨rfl, hgo⟩
      rw [HL.out] at hgo
      have HGO := Lib.hid hgo
      have hk2 : Kept [] w w2 := by obtain ⟨_, _, _, hk, _⟩ := hgo; exact HR.out.kept.trans' hk fun q hq => .inr (HR.out.newW q hq)
      obtain ⟨b', o', hbo, hlt2, h02, h12, h22, h32, hok2⟩ := (HT.out.old hk2).at_ k t HTK.out
      simp only [Option.some.injEq, Addr.mk.injEq, and_true] at hbo
      obtain ⟨rfl, rfl⟩ := hbo
      have HOK2 := Lib.hid hok2
      clear hgo hok2 h0 h1 h2 h3 hlt
      go_wp2_with fail
      refine (laid4 t.kind t.x t.A t.m t.c t.most t.b w2 HOK2.out.kind HOK2.out.x HOK2.out.reads HOK2.out.mc HOK2.out.cm).mono ?_
      rintro e w3 ⟨A3, c3, rfl, hF⟩
      rw [HL.out] at hF ⊢
      have HF := Lib.hid hF
      clear hF h02 h12 h22 h32 hlt2
      have hk3 := HF.out.2.1
      by_cases hfull : fb = true
      · subst hfull
        go_wp2_with fail
        go_roundw
        case rel =>
          obtain ⟨A0', c0', hR'⟩ := HR.out.isFull HTK.out HL.out HGO.out hk3 (.inl rfl)
          exact ⟨k + 1, A0', c0', A1, n1, c1, true, _, by omega, by omega, by go_num, rfl, rfl, hR'⟩
        case measure => simp [intOf]; omega
      · obtain rfl : fb = false := by simpa using hfull
        by_cases hroom2 : s.2.2 < l.length
        · have hmm : (if most < 0 then 0 else most) - (n1 : Int) < (l.length : Int) := by have := HRM.out; split <;> omega
          go_wp2_with fail
          go_roundw
          case rel =>
            obtain ⟨A0', c0', hR'⟩ := HR.out.isFull HTK.out HL.out HGO.out hk3 (.inr hroom2)
            exact ⟨k + 1, A0', c0', A1, n1, c1, true, _, by omega, by omega, by go_num, rfl, rfl, hR'⟩
          case measure => simp [intOf]; omega
        · have hmm : ¬ (if most < 0 then 0 else most) - (n1 : Int) < (l.length : Int) := by have := HRM.out; split <;> omega
          have ho3 : w3.ownsRow 0 5 1 (.slice A1 n1 c1) n1 (s.2.1.map B) := by
            obtain ⟨_, _, _, hk, _⟩ := HGO.out
            exact own_kept (own_kept HR.out.own hk (fun q hq hm => HR.out.apart q hm hq)) hk3 (by simp)
          have HO3 := Lib.hid ho3
          clear ho3
          go_wp2_with (at_builtin; go_must (refine wpList_append_any _ rfl _ _ _ rfl 5 (.int .u8 0) 1 1 Try.underlying25 Try.info5 rfl (by omega) (.slice A1 n1 c1) n1 (s.2.1.map B) rfl HO3.out A3 l.length c3 (l.map B) rfl (Reads.of_own HF.out.1) (B_one l) (by simp only [maxLen]; omega) (by omega) ?_); intro A4 c4 w4 happ; have HA := Lib.hid happ; clear happ)
          go_roundw
          case rel =>
            obtain ⟨A0', c0', hR'⟩ := HR.out.wider HTK.out HL.out HGO.out hk3 rfl (by omega) HA.out
            exact ⟨k + 1, A0', c0', A4, _, c4, false, _, by omega, by omega, by go_num, rfl, rfl, hR'⟩
          case measure => simp [intOf]; omega
    · have hlen := HR.out.len
      have hkw := HR.out.kept
      have hcase : (30 ≤ k ∧ k < ts.length) ∨ ts.length ≤ k := by omega
      clear hlt
      rcases hcase with ⟨hc1, hc2⟩ | hc1
      all_goals
        go_wp2_with fail
        by_cases h0 : s.1 = 0
        · obtain rfl : fb = false := by rw [HR.out.full, h0]; rfl
          have hW := HR.out.isW
          rw [h0] at hW
          refine (wdone_ok g A0 c0 s.2.1 s.2.2 wr hW (by omega)).mono ?_
          rintro e w2 ⟨v, rfl, hown, hk2, hnew2⟩
          obtain ⟨A2, c2, rfl, _, _⟩ := own_form hown
          have hr1 := run_string_of (P := Try.prog) (c := c2) (Reads.of_own hown) 25 9 5 Try.underlying25 Try.underlying5 Try.underlying9
          have hr2 := run_string_of (P := Try.prog) (c := c1) (Reads.of_own (own_kept HR.out.own hk2 (by simp))) 25 9 5 Try.underlying25 Try.underlying5 Try.underlying9
          have HK := Lib.hid (hkw.trans hk2)
          clear hW h0 hown hnew2 hk2 hkw
          generalize s.2.1 = bs at *
          go_wp2_with (first | (go_at_call 12; refine (awake4 _).mono ?_; rintro e w' ⟨rfl, hk3⟩))
          go_ret
          exact ⟨rfl, HK.out.trans hk3⟩
        · have h4 : s.1 = 4 := by rcases HR.out.err with h | h; exact absurd h h0; exact h
          obtain rfl : fb = true := by rw [HR.out.full]; simp [h0]
          refine (wdone_err g A0 c0 s.1 s.2.1 s.2.2 wr HR.out.isW h0).mono ?_
          rintro e w2 ⟨rfl, hk2⟩
          have HK := Lib.hid (hkw.trans hk2)
          clear h0 hk2 hkw
          rw [h4]
          go_wp2_with (first | (go_at_call 12; refine (awake4 _).mono ?_; rintro e w' ⟨rfl, hk3⟩))
          go_ret
          exact ⟨rfl, HK.out.trans hk3⟩

end Go.Proofs.Ytmaiipglojpknaa
