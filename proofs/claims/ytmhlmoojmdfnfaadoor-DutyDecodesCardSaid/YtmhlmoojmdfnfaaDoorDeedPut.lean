/- Package deed: Put (printed by a program: gen/deedput.py). -/
import Derived.Test.YtmhlmoojmdfnfaaDoorDeedG
import Derived.Test.YtmhlmoojmdfnfaaDoorDeedWP
import Derived.Test.YtmhlmoojmdfnfaaDoorWireW2
namespace Go.Proofs.YtmhlmoojmdfnfaaDoor
open Go.RowKit

/-- A writer's state goes on by another contract. -/
theorem WGoes.into {w w1 : World} {g : Nat} {A : Option Addr} {s : Int × List UInt8 × Nat} (h : WGoes w g A s w1) :
    ∃ A1 c1, IsW w1 g A1 c1 s.1 s.2.1 s.2.2 ∧ Kept (fpW g A) w w1 ∧ (∀ k, k ∈ fpW g A1 → k ∈ fpW g A ∨ w.heap.size ≤ k) ∧ ∀ s' w2, WGoes w1 g A1 s' w2 → WGoes w g A s' w2 := by
  obtain ⟨A1, c1, h1, h2, h3⟩ := h
  refine ⟨A1, c1, h1, h2, h3, fun s' w2 hh => ?_⟩
  obtain ⟨A2, c2, k1, k2, k3⟩ := hh
  have := h2.size
  refine ⟨A2, c2, k1, h2.trans' k2 h3, fun k hm => ?_⟩
  rcases k3 k hm with h | h
  · exact h3 k h
  · exact .inr (by omega)
theorem WGoes.eq {w w1 : World} {g : Nat} {A : Option Addr} {bs bs' : List UInt8} {room room' : Nat} (h : WGoes w g A (0, bs, room) w1) (h1 : bs = bs') (h2 : room = room') : WGoes w g A (0, bs', room') w1 := by subst h1 h2; exact h
theorem putS_ok {bs l : List UInt8} {room : Nat} (h : l.length ≤ room) : putS (0, bs, room) l = (0, bs ++ l, room - l.length) := by
  rw [putS, if_neg (by simp), if_neg (by simp only; omega)]
theorem wbyte_ok (g : Nat) (A0 : Option Addr) (c0 : Nat) (bs : List UInt8) (room n : Nat) (w : World) (hW : IsW w g A0 c0 0 bs room) (h1 : n < 256) (hb : bs.length ≤ 999999990) (hroom : room ≤ 9223372036854775807) (h : 1 ≤ room) :
    Calls Tryd.prog 66 #[.pointer (some ⟨g, 0, none⟩), .int .u8 n] w fun e w' => e = .returned (.tuple #[]) ∧ WGoes w g A0 (0, bs ++ [UInt8.ofNat n], room - 1) w' := by
  have := wbyte_any g A0 c0 0 bs room n w hW (by omega) (by omega) (by omega) hroom
  rw [putS_ok (by simpa using h)] at this
  simpa using this
theorem wnum_ok (g : Nat) (A0 : Option Addr) (c0 : Nat) (bs : List UInt8) (room x : Nat) (w : World) (hW : IsW w g A0 c0 0 bs room) (h1 : x < 18446744073709551616) (hb : bs.length ≤ 999999990) (hroom : room ≤ 9223372036854775807) (h : 9 ≤ room) :
    Calls Tryd.prog 113 #[.pointer (some ⟨g, 0, none⟩), .int .u64 x] w fun e w' => e = .returned (.tuple #[]) ∧ WGoes w g A0 (0, bs ++ encNum x, room - (encNum x).length) w' := by
  have := wnum_any g A0 c0 0 bs room x w hW h1 hb hroom
  rw [putS_ok (Nat.le_trans (encNum_le9 x) h)] at this
  exact this
theorem encTruth_len (b : Bool) : (encTruth b).length = 1 := by cases b <;> rfl
theorem wtruth_ok (g : Nat) (A0 : Option Addr) (c0 : Nat) (bs : List UInt8) (room : Nat) (b : Bool) (w : World) (hW : IsW w g A0 c0 0 bs room) (hb : bs.length ≤ 999999990) (hroom : room ≤ 9223372036854775807) (h : 1 ≤ room) :
    Calls Tryd.prog 114 #[.pointer (some ⟨g, 0, none⟩), .bool b] w fun e w' => e = .returned (.tuple #[]) ∧ WGoes w g A0 (0, bs ++ encTruth b, room - 1) w' := by
  have := wtruth_any g A0 c0 0 bs room b w hW hb hroom
  rw [putS_ok (by rw [encTruth_len]; exact h), encTruth_len] at this
  exact this

set_option maxHeartbeats 800000 in
theorem dput_bad (p : Value) (o a b r : Int) (n m : Nat) (l : Bool) (w : World) (hg : goodD ⟨o, a, b, r, n, m, l⟩ = false) :
    Calls Tryd.prog 54 #[p, .agg (dC o a b r n m l)] w fun e w' => e = .returned (.tuple #[]) ∧ Kept [] w w' := by
  have HG := Lib.hid (fun w => good_any o a b r n m l w)
  rw [hg] at HG
  clear hg
  go_enter Tryd.func54, Tryd.ntmps54
  go_wp2_with fail
  refine (HG.out _).mono ?_
  rintro e w1 ⟨rfl, hk1⟩
  have HK1 := Lib.hid (((Kept.refl [] w).alloc _).trans hk1)
  clear hk1
  go_wp2_with fail
  ((try simp only [Exit.inBlock, Exit.then]); refine bodyPost_ret (results_none rfl _ _ _) rfl ?_)
  exact ⟨rfl, HK1.out⟩

set_option maxHeartbeats 3200000 in
set_option maxRecDepth 100000 in
theorem dput_op1 (g : Nat) (A : Option Addr) (c : Nat) (bs : List UInt8) (room : Nat) (a b r n m : Nat) (l : Bool) (w : World) (hW : IsW w g A c 0 bs room) (hg : goodD ⟨1, (a : Int), (b : Int), (r : Int), n, m, l⟩ = true) (_ha : a < 64) (_hb : b < 8) (_hr : r < 8) (_hn : n < 18446744073709551616) (_hm : m < 18446744073709551616) (hbs : bs.length ≤ 900000000) (hroom : room ≤ 9223372036854775807) (h32 : 32 ≤ room) :
    Calls Tryd.prog 54 #[.pointer (some ⟨g, 0, none⟩), .agg (dC 1 (a : Int) (b : Int) (r : Int) n m l)] w fun e w' => e = .returned (.tuple #[]) ∧ WGoes w g A (0, bs ++ encD ⟨1, (a : Int), (b : Int), (r : Int), n, m, l⟩, room - (encD ⟨1, (a : Int), (b : Int), (r : Int), n, m, l⟩).length) w' := by
  have HE1 : Hid ((bs ++ [UInt8.ofNat 1]) ++ encNum n = bs ++ encD ⟨1, (a : Int), (b : Int), (r : Int), n, m, l⟩) := by show _ = _; simp [encD, partsL, pieceB]
  have HE2 : Hid (room - 1 - (encNum n).length = room - (encD ⟨1, (a : Int), (b : Int), (r : Int), n, m, l⟩).length) := by show _ = _; simp [encD, partsL, pieceB, encTruth_len]; try omega
  have HG := Lib.hid (fun w => good_any 1 (a : Int) (b : Int) (r : Int) n m l w)
  rw [hg] at HG
  have e1 := encNum_le9 n
  have HNF : Hid (w.heap.size ∉ fpW g A) := fun hm => by have := fpW_lt hW _ hm; omega
  have HW := Lib.hid hW
  obtain ⟨ln, hln⟩ : ∃ ln, (encNum n).length = ln := ⟨_, rfl⟩
  rw [hln] at e1
  have HLN := Lib.hid hln
  clear hg hW hln
  go_enter Tryd.func54, Tryd.ntmps54
  go_wp2_with fail
  refine (HG.out _).mono ?_
  rintro e w0 ⟨rfl, hk0⟩
  have HB0 := Lib.hid ((Blk.new w 41 (dC 1 (a : Int) (b : Int) (r : Int) n m l)).kept hk0 (by simp))
  have HK0 := Lib.hid (((Kept.refl [] w).alloc (.cells (dC 1 (a : Int) (b : Int) (r : Int) n m l) 41)).trans hk0)
  have HW0 := Lib.hid (HW.out.kept HK0.out (by simp))
  have hc0 := HB0.out.cell
  have hlw : w.heap.size < w0.heap.size := HB0.out.lt
  clear hk0
  go_wp2_with fail
  refine (wbyte_ok g A c bs room 1 w0 HW0.out (by omega) (by omega) hroom (by omega)).mono ?_
  rintro e w1 ⟨rfl, hg1⟩
  obtain ⟨A1, c1, hw1, hk1, hf1, ht1⟩ := hg1.into
  have HNF1 : Hid (w.heap.size ∉ fpW g A1) := fun hm => by
    rcases hf1 _ hm with h | h
    · exact HNF.out h
    · omega
  have HB1 := Lib.hid (HB0.out.kept hk1 HNF.out)
  have HT1 : Hid (∀ s' wz, WGoes w1 g A1 s' wz → WGoes w g A s' wz) := fun s' wz h => (ht1 s' wz h).ahead HK0.out
  have HG1 : Hid (WGoes w g A (0, bs ++ [UInt8.ofNat 1], room - 1) w1) := hg1.ahead HK0.out
  have HW1 := Lib.hid hw1
  have hc1 := HB1.out.cell
  have hlw1 : w.heap.size < w1.heap.size := HB1.out.lt
  clear hg1 hw1 hk1 hf1 ht1 hc0
  go_wp2_with fail
  refine (wnum_ok g A1 c1 (bs ++ [UInt8.ofNat 1]) (room - 1) n w1 HW1.out (by omega) (by simp only [List.length_append, List.length_cons, List.length_nil, encTruth_len]; omega) (by omega) (by omega)).mono ?_
  rintro e w2 ⟨rfl, hg2⟩
  obtain ⟨A2, c2, hw2, hk2, hf2, ht2⟩ := hg2.into
  have HNF2 : Hid (w.heap.size ∉ fpW g A2) := fun hm => by
    rcases hf2 _ hm with h | h
    · exact HNF1.out h
    · omega
  have HB2 := Lib.hid (HB1.out.kept hk2 HNF1.out)
  have HT2 : Hid (∀ s' wz, WGoes w2 g A2 s' wz → WGoes w g A s' wz) := fun s' wz h => HT1.out s' wz (ht2 s' wz h)
  have HG2 : Hid (WGoes w g A (0, (bs ++ [UInt8.ofNat 1]) ++ encNum n, room - 1 - (encNum n).length) w2) := HT1.out _ _ hg2
  have HW2 := Lib.hid hw2
  have hc2 := HB2.out.cell
  have hlw2 : w.heap.size < w2.heap.size := HB2.out.lt
  clear hg2 hw2 hk2 hf2 ht2 hc1
  go_wp2_with fail
  first | go_end0 | ((try simp only [Exit.inBlock, Exit.then]); refine bodyPost_ret (results_none rfl _ _ _) rfl ?_)
  exact ⟨rfl, HG2.out.eq HE1.out HE2.out⟩

set_option maxHeartbeats 3200000 in
set_option maxRecDepth 100000 in
theorem dput_op2 (g : Nat) (A : Option Addr) (c : Nat) (bs : List UInt8) (room : Nat) (a b r n m : Nat) (l : Bool) (w : World) (hW : IsW w g A c 0 bs room) (hg : goodD ⟨2, (a : Int), (b : Int), (r : Int), n, m, l⟩ = true) (_ha : a < 64) (_hb : b < 8) (_hr : r < 8) (_hn : n < 18446744073709551616) (_hm : m < 18446744073709551616) (hbs : bs.length ≤ 900000000) (hroom : room ≤ 9223372036854775807) (h32 : 32 ≤ room) :
    Calls Tryd.prog 54 #[.pointer (some ⟨g, 0, none⟩), .agg (dC 2 (a : Int) (b : Int) (r : Int) n m l)] w fun e w' => e = .returned (.tuple #[]) ∧ WGoes w g A (0, bs ++ encD ⟨2, (a : Int), (b : Int), (r : Int), n, m, l⟩, room - (encD ⟨2, (a : Int), (b : Int), (r : Int), n, m, l⟩).length) w' := by
  have HE1 : Hid ((((((bs ++ [UInt8.ofNat 2]) ++ [UInt8.ofNat a]) ++ [UInt8.ofNat b]) ++ [UInt8.ofNat r]) ++ encNum m) ++ encTruth l = bs ++ encD ⟨2, (a : Int), (b : Int), (r : Int), n, m, l⟩) := by show _ = _; simp [encD, partsL, pieceB]
  have HE2 : Hid (room - 1 - 1 - 1 - 1 - (encNum m).length - 1 = room - (encD ⟨2, (a : Int), (b : Int), (r : Int), n, m, l⟩).length) := by show _ = _; simp [encD, partsL, pieceB, encTruth_len]; try omega
  have HG := Lib.hid (fun w => good_any 2 (a : Int) (b : Int) (r : Int) n m l w)
  rw [hg] at HG
  have e2 := encNum_le9 m
  have HNF : Hid (w.heap.size ∉ fpW g A) := fun hm => by have := fpW_lt hW _ hm; omega
  have HW := Lib.hid hW
  have ha0 : (0 : Int) ≤ (a : Int) := by omega
  have ha1 : (a : Int) < 256 := by omega
  have hb0 : (0 : Int) ≤ (b : Int) := by omega
  have hb1 : (b : Int) < 256 := by omega
  have hr0 : (0 : Int) ≤ (r : Int) := by omega
  have hr1 : (r : Int) < 256 := by omega
  obtain ⟨lm, hlm⟩ : ∃ lm, (encNum m).length = lm := ⟨_, rfl⟩
  rw [hlm] at e2
  have HLM := Lib.hid hlm
  clear hg hW hlm
  go_enter Tryd.func54, Tryd.ntmps54
  go_wp2_with fail
  refine (HG.out _).mono ?_
  rintro e w0 ⟨rfl, hk0⟩
  have HB0 := Lib.hid ((Blk.new w 41 (dC 2 (a : Int) (b : Int) (r : Int) n m l)).kept hk0 (by simp))
  have HK0 := Lib.hid (((Kept.refl [] w).alloc (.cells (dC 2 (a : Int) (b : Int) (r : Int) n m l) 41)).trans hk0)
  have HW0 := Lib.hid (HW.out.kept HK0.out (by simp))
  have hc0 := HB0.out.cell
  have hlw : w.heap.size < w0.heap.size := HB0.out.lt
  clear hk0
  go_wp2_with fail
  refine (wbyte_ok g A c bs room 2 w0 HW0.out (by omega) (by omega) hroom (by omega)).mono ?_
  rintro e w1 ⟨rfl, hg1⟩
  obtain ⟨A1, c1, hw1, hk1, hf1, ht1⟩ := hg1.into
  have HNF1 : Hid (w.heap.size ∉ fpW g A1) := fun hm => by
    rcases hf1 _ hm with h | h
    · exact HNF.out h
    · omega
  have HB1 := Lib.hid (HB0.out.kept hk1 HNF.out)
  have HT1 : Hid (∀ s' wz, WGoes w1 g A1 s' wz → WGoes w g A s' wz) := fun s' wz h => (ht1 s' wz h).ahead HK0.out
  have HG1 : Hid (WGoes w g A (0, bs ++ [UInt8.ofNat 2], room - 1) w1) := hg1.ahead HK0.out
  have HW1 := Lib.hid hw1
  have hc1 := HB1.out.cell
  have hlw1 : w.heap.size < w1.heap.size := HB1.out.lt
  clear hg1 hw1 hk1 hf1 ht1 hc0
  go_wp2_with fail
  refine (wbyte_ok g A1 c1 (bs ++ [UInt8.ofNat 2]) (room - 1) a w1 HW1.out (by omega) (by simp only [List.length_append, List.length_cons, List.length_nil, encTruth_len]; omega) (by omega) (by omega)).mono ?_
  rintro e w2 ⟨rfl, hg2⟩
  obtain ⟨A2, c2, hw2, hk2, hf2, ht2⟩ := hg2.into
  have HNF2 : Hid (w.heap.size ∉ fpW g A2) := fun hm => by
    rcases hf2 _ hm with h | h
    · exact HNF1.out h
    · omega
  have HB2 := Lib.hid (HB1.out.kept hk2 HNF1.out)
  have HT2 : Hid (∀ s' wz, WGoes w2 g A2 s' wz → WGoes w g A s' wz) := fun s' wz h => HT1.out s' wz (ht2 s' wz h)
  have HG2 : Hid (WGoes w g A (0, (bs ++ [UInt8.ofNat 2]) ++ [UInt8.ofNat a], room - 1 - 1) w2) := HT1.out _ _ hg2
  have HW2 := Lib.hid hw2
  have hc2 := HB2.out.cell
  have hlw2 : w.heap.size < w2.heap.size := HB2.out.lt
  clear hg2 hw2 hk2 hf2 ht2 hc1
  go_wp2_with fail
  refine (wbyte_ok g A2 c2 ((bs ++ [UInt8.ofNat 2]) ++ [UInt8.ofNat a]) (room - 1 - 1) b w2 HW2.out (by omega) (by simp only [List.length_append, List.length_cons, List.length_nil, encTruth_len]; omega) (by omega) (by omega)).mono ?_
  rintro e w3 ⟨rfl, hg3⟩
  obtain ⟨A3, c3, hw3, hk3, hf3, ht3⟩ := hg3.into
  have HNF3 : Hid (w.heap.size ∉ fpW g A3) := fun hm => by
    rcases hf3 _ hm with h | h
    · exact HNF2.out h
    · omega
  have HB3 := Lib.hid (HB2.out.kept hk3 HNF2.out)
  have HT3 : Hid (∀ s' wz, WGoes w3 g A3 s' wz → WGoes w g A s' wz) := fun s' wz h => HT2.out s' wz (ht3 s' wz h)
  have HG3 : Hid (WGoes w g A (0, ((bs ++ [UInt8.ofNat 2]) ++ [UInt8.ofNat a]) ++ [UInt8.ofNat b], room - 1 - 1 - 1) w3) := HT2.out _ _ hg3
  have HW3 := Lib.hid hw3
  have hc3 := HB3.out.cell
  have hlw3 : w.heap.size < w3.heap.size := HB3.out.lt
  clear hg3 hw3 hk3 hf3 ht3 hc2
  go_wp2_with fail
  refine (wbyte_ok g A3 c3 (((bs ++ [UInt8.ofNat 2]) ++ [UInt8.ofNat a]) ++ [UInt8.ofNat b]) (room - 1 - 1 - 1) r w3 HW3.out (by omega) (by simp only [List.length_append, List.length_cons, List.length_nil, encTruth_len]; omega) (by omega) (by omega)).mono ?_
  rintro e w4 ⟨rfl, hg4⟩
  obtain ⟨A4, c4, hw4, hk4, hf4, ht4⟩ := hg4.into
  have HNF4 : Hid (w.heap.size ∉ fpW g A4) := fun hm => by
    rcases hf4 _ hm with h | h
    · exact HNF3.out h
    · omega
  have HB4 := Lib.hid (HB3.out.kept hk4 HNF3.out)
  have HT4 : Hid (∀ s' wz, WGoes w4 g A4 s' wz → WGoes w g A s' wz) := fun s' wz h => HT3.out s' wz (ht4 s' wz h)
  have HG4 : Hid (WGoes w g A (0, (((bs ++ [UInt8.ofNat 2]) ++ [UInt8.ofNat a]) ++ [UInt8.ofNat b]) ++ [UInt8.ofNat r], room - 1 - 1 - 1 - 1) w4) := HT3.out _ _ hg4
  have HW4 := Lib.hid hw4
  have hc4 := HB4.out.cell
  have hlw4 : w.heap.size < w4.heap.size := HB4.out.lt
  clear hg4 hw4 hk4 hf4 ht4 hc3
  go_wp2_with fail
  refine (wnum_ok g A4 c4 ((((bs ++ [UInt8.ofNat 2]) ++ [UInt8.ofNat a]) ++ [UInt8.ofNat b]) ++ [UInt8.ofNat r]) (room - 1 - 1 - 1 - 1) m w4 HW4.out (by omega) (by simp only [List.length_append, List.length_cons, List.length_nil, encTruth_len]; omega) (by omega) (by omega)).mono ?_
  rintro e w5 ⟨rfl, hg5⟩
  obtain ⟨A5, c5, hw5, hk5, hf5, ht5⟩ := hg5.into
  have HNF5 : Hid (w.heap.size ∉ fpW g A5) := fun hm => by
    rcases hf5 _ hm with h | h
    · exact HNF4.out h
    · omega
  have HB5 := Lib.hid (HB4.out.kept hk5 HNF4.out)
  have HT5 : Hid (∀ s' wz, WGoes w5 g A5 s' wz → WGoes w g A s' wz) := fun s' wz h => HT4.out s' wz (ht5 s' wz h)
  have HG5 : Hid (WGoes w g A (0, ((((bs ++ [UInt8.ofNat 2]) ++ [UInt8.ofNat a]) ++ [UInt8.ofNat b]) ++ [UInt8.ofNat r]) ++ encNum m, room - 1 - 1 - 1 - 1 - (encNum m).length) w5) := HT4.out _ _ hg5
  have HW5 := Lib.hid hw5
  have hc5 := HB5.out.cell
  have hlw5 : w.heap.size < w5.heap.size := HB5.out.lt
  clear hg5 hw5 hk5 hf5 ht5 hc4
  go_wp2_with fail
  refine (wtruth_ok g A5 c5 (((((bs ++ [UInt8.ofNat 2]) ++ [UInt8.ofNat a]) ++ [UInt8.ofNat b]) ++ [UInt8.ofNat r]) ++ encNum m) (room - 1 - 1 - 1 - 1 - (encNum m).length) l w5 HW5.out (by simp only [List.length_append, List.length_cons, List.length_nil, HLM.out, encTruth_len]; omega) (by rw [HLM.out]; omega) (by rw [HLM.out]; omega)).mono ?_
  rintro e w6 ⟨rfl, hg6⟩
  obtain ⟨A6, c6, hw6, hk6, hf6, ht6⟩ := hg6.into
  have HNF6 : Hid (w.heap.size ∉ fpW g A6) := fun hm => by
    rcases hf6 _ hm with h | h
    · exact HNF5.out h
    · omega
  have HB6 := Lib.hid (HB5.out.kept hk6 HNF5.out)
  have HT6 : Hid (∀ s' wz, WGoes w6 g A6 s' wz → WGoes w g A s' wz) := fun s' wz h => HT5.out s' wz (ht6 s' wz h)
  have HG6 : Hid (WGoes w g A (0, (((((bs ++ [UInt8.ofNat 2]) ++ [UInt8.ofNat a]) ++ [UInt8.ofNat b]) ++ [UInt8.ofNat r]) ++ encNum m) ++ encTruth l, room - 1 - 1 - 1 - 1 - (encNum m).length - 1) w6) := HT5.out _ _ hg6
  have HW6 := Lib.hid hw6
  have hc6 := HB6.out.cell
  have hlw6 : w.heap.size < w6.heap.size := HB6.out.lt
  clear hg6 hw6 hk6 hf6 ht6 hc5
  go_wp2_with fail
  first | go_end0 | ((try simp only [Exit.inBlock, Exit.then]); refine bodyPost_ret (results_none rfl _ _ _) rfl ?_)
  exact ⟨rfl, HG6.out.eq HE1.out HE2.out⟩

set_option maxHeartbeats 3200000 in
set_option maxRecDepth 100000 in
theorem dput_op3 (g : Nat) (A : Option Addr) (c : Nat) (bs : List UInt8) (room : Nat) (a b r n m : Nat) (l : Bool) (w : World) (hW : IsW w g A c 0 bs room) (hg : goodD ⟨3, (a : Int), (b : Int), (r : Int), n, m, l⟩ = true) (_ha : a < 64) (_hb : b < 8) (_hr : r < 8) (_hn : n < 18446744073709551616) (_hm : m < 18446744073709551616) (hbs : bs.length ≤ 900000000) (hroom : room ≤ 9223372036854775807) (h32 : 32 ≤ room) :
    Calls Tryd.prog 54 #[.pointer (some ⟨g, 0, none⟩), .agg (dC 3 (a : Int) (b : Int) (r : Int) n m l)] w fun e w' => e = .returned (.tuple #[]) ∧ WGoes w g A (0, bs ++ encD ⟨3, (a : Int), (b : Int), (r : Int), n, m, l⟩, room - (encD ⟨3, (a : Int), (b : Int), (r : Int), n, m, l⟩).length) w' := by
  have HE1 : Hid ((bs ++ [UInt8.ofNat 3]) ++ encNum n = bs ++ encD ⟨3, (a : Int), (b : Int), (r : Int), n, m, l⟩) := by show _ = _; simp [encD, partsL, pieceB]
  have HE2 : Hid (room - 1 - (encNum n).length = room - (encD ⟨3, (a : Int), (b : Int), (r : Int), n, m, l⟩).length) := by show _ = _; simp [encD, partsL, pieceB, encTruth_len]; try omega
  have HG := Lib.hid (fun w => good_any 3 (a : Int) (b : Int) (r : Int) n m l w)
  rw [hg] at HG
  have e1 := encNum_le9 n
  have HNF : Hid (w.heap.size ∉ fpW g A) := fun hm => by have := fpW_lt hW _ hm; omega
  have HW := Lib.hid hW
  obtain ⟨ln, hln⟩ : ∃ ln, (encNum n).length = ln := ⟨_, rfl⟩
  rw [hln] at e1
  have HLN := Lib.hid hln
  clear hg hW hln
  go_enter Tryd.func54, Tryd.ntmps54
  go_wp2_with fail
  refine (HG.out _).mono ?_
  rintro e w0 ⟨rfl, hk0⟩
  have HB0 := Lib.hid ((Blk.new w 41 (dC 3 (a : Int) (b : Int) (r : Int) n m l)).kept hk0 (by simp))
  have HK0 := Lib.hid (((Kept.refl [] w).alloc (.cells (dC 3 (a : Int) (b : Int) (r : Int) n m l) 41)).trans hk0)
  have HW0 := Lib.hid (HW.out.kept HK0.out (by simp))
  have hc0 := HB0.out.cell
  have hlw : w.heap.size < w0.heap.size := HB0.out.lt
  clear hk0
  go_wp2_with fail
  refine (wbyte_ok g A c bs room 3 w0 HW0.out (by omega) (by omega) hroom (by omega)).mono ?_
  rintro e w1 ⟨rfl, hg1⟩
  obtain ⟨A1, c1, hw1, hk1, hf1, ht1⟩ := hg1.into
  have HNF1 : Hid (w.heap.size ∉ fpW g A1) := fun hm => by
    rcases hf1 _ hm with h | h
    · exact HNF.out h
    · omega
  have HB1 := Lib.hid (HB0.out.kept hk1 HNF.out)
  have HT1 : Hid (∀ s' wz, WGoes w1 g A1 s' wz → WGoes w g A s' wz) := fun s' wz h => (ht1 s' wz h).ahead HK0.out
  have HG1 : Hid (WGoes w g A (0, bs ++ [UInt8.ofNat 3], room - 1) w1) := hg1.ahead HK0.out
  have HW1 := Lib.hid hw1
  have hc1 := HB1.out.cell
  have hlw1 : w.heap.size < w1.heap.size := HB1.out.lt
  clear hg1 hw1 hk1 hf1 ht1 hc0
  go_wp2_with fail
  refine (wnum_ok g A1 c1 (bs ++ [UInt8.ofNat 3]) (room - 1) n w1 HW1.out (by omega) (by simp only [List.length_append, List.length_cons, List.length_nil, encTruth_len]; omega) (by omega) (by omega)).mono ?_
  rintro e w2 ⟨rfl, hg2⟩
  obtain ⟨A2, c2, hw2, hk2, hf2, ht2⟩ := hg2.into
  have HNF2 : Hid (w.heap.size ∉ fpW g A2) := fun hm => by
    rcases hf2 _ hm with h | h
    · exact HNF1.out h
    · omega
  have HB2 := Lib.hid (HB1.out.kept hk2 HNF1.out)
  have HT2 : Hid (∀ s' wz, WGoes w2 g A2 s' wz → WGoes w g A s' wz) := fun s' wz h => HT1.out s' wz (ht2 s' wz h)
  have HG2 : Hid (WGoes w g A (0, (bs ++ [UInt8.ofNat 3]) ++ encNum n, room - 1 - (encNum n).length) w2) := HT1.out _ _ hg2
  have HW2 := Lib.hid hw2
  have hc2 := HB2.out.cell
  have hlw2 : w.heap.size < w2.heap.size := HB2.out.lt
  clear hg2 hw2 hk2 hf2 ht2 hc1
  go_wp2_with fail
  first | go_end0 | ((try simp only [Exit.inBlock, Exit.then]); refine bodyPost_ret (results_none rfl _ _ _) rfl ?_)
  exact ⟨rfl, HG2.out.eq HE1.out HE2.out⟩

set_option maxHeartbeats 3200000 in
set_option maxRecDepth 100000 in
theorem dput_op4 (g : Nat) (A : Option Addr) (c : Nat) (bs : List UInt8) (room : Nat) (a b r n m : Nat) (l : Bool) (w : World) (hW : IsW w g A c 0 bs room) (hg : goodD ⟨4, (a : Int), (b : Int), (r : Int), n, m, l⟩ = true) (_ha : a < 64) (_hb : b < 8) (_hr : r < 8) (_hn : n < 18446744073709551616) (_hm : m < 18446744073709551616) (hbs : bs.length ≤ 900000000) (hroom : room ≤ 9223372036854775807) (h32 : 32 ≤ room) :
    Calls Tryd.prog 54 #[.pointer (some ⟨g, 0, none⟩), .agg (dC 4 (a : Int) (b : Int) (r : Int) n m l)] w fun e w' => e = .returned (.tuple #[]) ∧ WGoes w g A (0, bs ++ encD ⟨4, (a : Int), (b : Int), (r : Int), n, m, l⟩, room - (encD ⟨4, (a : Int), (b : Int), (r : Int), n, m, l⟩).length) w' := by
  have HE1 : Hid ((bs ++ [UInt8.ofNat 4]) ++ [UInt8.ofNat r] = bs ++ encD ⟨4, (a : Int), (b : Int), (r : Int), n, m, l⟩) := by show _ = _; simp [encD, partsL, pieceB]
  have HE2 : Hid (room - 1 - 1 = room - (encD ⟨4, (a : Int), (b : Int), (r : Int), n, m, l⟩).length) := by show _ = _; simp [encD, partsL, pieceB, encTruth_len]; try omega
  have HG := Lib.hid (fun w => good_any 4 (a : Int) (b : Int) (r : Int) n m l w)
  rw [hg] at HG
  have HNF : Hid (w.heap.size ∉ fpW g A) := fun hm => by have := fpW_lt hW _ hm; omega
  have HW := Lib.hid hW
  have hr0 : (0 : Int) ≤ (r : Int) := by omega
  have hr1 : (r : Int) < 256 := by omega
  clear hg hW
  go_enter Tryd.func54, Tryd.ntmps54
  go_wp2_with fail
  refine (HG.out _).mono ?_
  rintro e w0 ⟨rfl, hk0⟩
  have HB0 := Lib.hid ((Blk.new w 41 (dC 4 (a : Int) (b : Int) (r : Int) n m l)).kept hk0 (by simp))
  have HK0 := Lib.hid (((Kept.refl [] w).alloc (.cells (dC 4 (a : Int) (b : Int) (r : Int) n m l) 41)).trans hk0)
  have HW0 := Lib.hid (HW.out.kept HK0.out (by simp))
  have hc0 := HB0.out.cell
  have hlw : w.heap.size < w0.heap.size := HB0.out.lt
  clear hk0
  go_wp2_with fail
  refine (wbyte_ok g A c bs room 4 w0 HW0.out (by omega) (by omega) hroom (by omega)).mono ?_
  rintro e w1 ⟨rfl, hg1⟩
  obtain ⟨A1, c1, hw1, hk1, hf1, ht1⟩ := hg1.into
  have HNF1 : Hid (w.heap.size ∉ fpW g A1) := fun hm => by
    rcases hf1 _ hm with h | h
    · exact HNF.out h
    · omega
  have HB1 := Lib.hid (HB0.out.kept hk1 HNF.out)
  have HT1 : Hid (∀ s' wz, WGoes w1 g A1 s' wz → WGoes w g A s' wz) := fun s' wz h => (ht1 s' wz h).ahead HK0.out
  have HG1 : Hid (WGoes w g A (0, bs ++ [UInt8.ofNat 4], room - 1) w1) := hg1.ahead HK0.out
  have HW1 := Lib.hid hw1
  have hc1 := HB1.out.cell
  have hlw1 : w.heap.size < w1.heap.size := HB1.out.lt
  clear hg1 hw1 hk1 hf1 ht1 hc0
  go_wp2_with fail
  refine (wbyte_ok g A1 c1 (bs ++ [UInt8.ofNat 4]) (room - 1) r w1 HW1.out (by omega) (by simp only [List.length_append, List.length_cons, List.length_nil, encTruth_len]; omega) (by omega) (by omega)).mono ?_
  rintro e w2 ⟨rfl, hg2⟩
  obtain ⟨A2, c2, hw2, hk2, hf2, ht2⟩ := hg2.into
  have HNF2 : Hid (w.heap.size ∉ fpW g A2) := fun hm => by
    rcases hf2 _ hm with h | h
    · exact HNF1.out h
    · omega
  have HB2 := Lib.hid (HB1.out.kept hk2 HNF1.out)
  have HT2 : Hid (∀ s' wz, WGoes w2 g A2 s' wz → WGoes w g A s' wz) := fun s' wz h => HT1.out s' wz (ht2 s' wz h)
  have HG2 : Hid (WGoes w g A (0, (bs ++ [UInt8.ofNat 4]) ++ [UInt8.ofNat r], room - 1 - 1) w2) := HT1.out _ _ hg2
  have HW2 := Lib.hid hw2
  have hc2 := HB2.out.cell
  have hlw2 : w.heap.size < w2.heap.size := HB2.out.lt
  clear hg2 hw2 hk2 hf2 ht2 hc1
  go_wp2_with fail
  first | go_end0 | ((try simp only [Exit.inBlock, Exit.then]); refine bodyPost_ret (results_none rfl _ _ _) rfl ?_)
  exact ⟨rfl, HG2.out.eq HE1.out HE2.out⟩

set_option maxHeartbeats 3200000 in
set_option maxRecDepth 100000 in
theorem dput_op5 (g : Nat) (A : Option Addr) (c : Nat) (bs : List UInt8) (room : Nat) (a b r n m : Nat) (l : Bool) (w : World) (hW : IsW w g A c 0 bs room) (hg : goodD ⟨5, (a : Int), (b : Int), (r : Int), n, m, l⟩ = true) (_ha : a < 64) (_hb : b < 8) (_hr : r < 8) (_hn : n < 18446744073709551616) (_hm : m < 18446744073709551616) (hbs : bs.length ≤ 900000000) (hroom : room ≤ 9223372036854775807) (h32 : 32 ≤ room) :
    Calls Tryd.prog 54 #[.pointer (some ⟨g, 0, none⟩), .agg (dC 5 (a : Int) (b : Int) (r : Int) n m l)] w fun e w' => e = .returned (.tuple #[]) ∧ WGoes w g A (0, bs ++ encD ⟨5, (a : Int), (b : Int), (r : Int), n, m, l⟩, room - (encD ⟨5, (a : Int), (b : Int), (r : Int), n, m, l⟩).length) w' := by
  have HE1 : Hid (bs ++ [UInt8.ofNat 5] = bs ++ encD ⟨5, (a : Int), (b : Int), (r : Int), n, m, l⟩) := by show _ = _; simp [encD, partsL, pieceB]
  have HE2 : Hid (room - 1 = room - (encD ⟨5, (a : Int), (b : Int), (r : Int), n, m, l⟩).length) := by show _ = _; simp [encD, partsL, pieceB, encTruth_len]; try omega
  have HG := Lib.hid (fun w => good_any 5 (a : Int) (b : Int) (r : Int) n m l w)
  rw [hg] at HG
  have HNF : Hid (w.heap.size ∉ fpW g A) := fun hm => by have := fpW_lt hW _ hm; omega
  have HW := Lib.hid hW
  clear hg hW
  go_enter Tryd.func54, Tryd.ntmps54
  go_wp2_with fail
  refine (HG.out _).mono ?_
  rintro e w0 ⟨rfl, hk0⟩
  have HB0 := Lib.hid ((Blk.new w 41 (dC 5 (a : Int) (b : Int) (r : Int) n m l)).kept hk0 (by simp))
  have HK0 := Lib.hid (((Kept.refl [] w).alloc (.cells (dC 5 (a : Int) (b : Int) (r : Int) n m l) 41)).trans hk0)
  have HW0 := Lib.hid (HW.out.kept HK0.out (by simp))
  have hc0 := HB0.out.cell
  have hlw : w.heap.size < w0.heap.size := HB0.out.lt
  clear hk0
  go_wp2_with fail
  refine (wbyte_ok g A c bs room 5 w0 HW0.out (by omega) (by omega) hroom (by omega)).mono ?_
  rintro e w1 ⟨rfl, hg1⟩
  obtain ⟨A1, c1, hw1, hk1, hf1, ht1⟩ := hg1.into
  have HNF1 : Hid (w.heap.size ∉ fpW g A1) := fun hm => by
    rcases hf1 _ hm with h | h
    · exact HNF.out h
    · omega
  have HB1 := Lib.hid (HB0.out.kept hk1 HNF.out)
  have HT1 : Hid (∀ s' wz, WGoes w1 g A1 s' wz → WGoes w g A s' wz) := fun s' wz h => (ht1 s' wz h).ahead HK0.out
  have HG1 : Hid (WGoes w g A (0, bs ++ [UInt8.ofNat 5], room - 1) w1) := hg1.ahead HK0.out
  have HW1 := Lib.hid hw1
  have hc1 := HB1.out.cell
  have hlw1 : w.heap.size < w1.heap.size := HB1.out.lt
  clear hg1 hw1 hk1 hf1 ht1 hc0
  go_wp2_with fail
  first | go_end0 | ((try simp only [Exit.inBlock, Exit.then]); refine bodyPost_ret (results_none rfl _ _ _) rfl ?_)
  exact ⟨rfl, HG1.out.eq HE1.out HE2.out⟩

set_option maxHeartbeats 3200000 in
set_option maxRecDepth 100000 in
theorem dput_op6 (g : Nat) (A : Option Addr) (c : Nat) (bs : List UInt8) (room : Nat) (a b r n m : Nat) (l : Bool) (w : World) (hW : IsW w g A c 0 bs room) (hg : goodD ⟨6, (a : Int), (b : Int), (r : Int), n, m, l⟩ = true) (_ha : a < 64) (_hb : b < 8) (_hr : r < 8) (_hn : n < 18446744073709551616) (_hm : m < 18446744073709551616) (hbs : bs.length ≤ 900000000) (hroom : room ≤ 9223372036854775807) (h32 : 32 ≤ room) :
    Calls Tryd.prog 54 #[.pointer (some ⟨g, 0, none⟩), .agg (dC 6 (a : Int) (b : Int) (r : Int) n m l)] w fun e w' => e = .returned (.tuple #[]) ∧ WGoes w g A (0, bs ++ encD ⟨6, (a : Int), (b : Int), (r : Int), n, m, l⟩, room - (encD ⟨6, (a : Int), (b : Int), (r : Int), n, m, l⟩).length) w' := by
  have HE1 : Hid ((bs ++ [UInt8.ofNat 6]) ++ encNum n = bs ++ encD ⟨6, (a : Int), (b : Int), (r : Int), n, m, l⟩) := by show _ = _; simp [encD, partsL, pieceB]
  have HE2 : Hid (room - 1 - (encNum n).length = room - (encD ⟨6, (a : Int), (b : Int), (r : Int), n, m, l⟩).length) := by show _ = _; simp [encD, partsL, pieceB, encTruth_len]; try omega
  have HG := Lib.hid (fun w => good_any 6 (a : Int) (b : Int) (r : Int) n m l w)
  rw [hg] at HG
  have e1 := encNum_le9 n
  have HNF : Hid (w.heap.size ∉ fpW g A) := fun hm => by have := fpW_lt hW _ hm; omega
  have HW := Lib.hid hW
  obtain ⟨ln, hln⟩ : ∃ ln, (encNum n).length = ln := ⟨_, rfl⟩
  rw [hln] at e1
  have HLN := Lib.hid hln
  clear hg hW hln
  go_enter Tryd.func54, Tryd.ntmps54
  go_wp2_with fail
  refine (HG.out _).mono ?_
  rintro e w0 ⟨rfl, hk0⟩
  have HB0 := Lib.hid ((Blk.new w 41 (dC 6 (a : Int) (b : Int) (r : Int) n m l)).kept hk0 (by simp))
  have HK0 := Lib.hid (((Kept.refl [] w).alloc (.cells (dC 6 (a : Int) (b : Int) (r : Int) n m l) 41)).trans hk0)
  have HW0 := Lib.hid (HW.out.kept HK0.out (by simp))
  have hc0 := HB0.out.cell
  have hlw : w.heap.size < w0.heap.size := HB0.out.lt
  clear hk0
  go_wp2_with fail
  refine (wbyte_ok g A c bs room 6 w0 HW0.out (by omega) (by omega) hroom (by omega)).mono ?_
  rintro e w1 ⟨rfl, hg1⟩
  obtain ⟨A1, c1, hw1, hk1, hf1, ht1⟩ := hg1.into
  have HNF1 : Hid (w.heap.size ∉ fpW g A1) := fun hm => by
    rcases hf1 _ hm with h | h
    · exact HNF.out h
    · omega
  have HB1 := Lib.hid (HB0.out.kept hk1 HNF.out)
  have HT1 : Hid (∀ s' wz, WGoes w1 g A1 s' wz → WGoes w g A s' wz) := fun s' wz h => (ht1 s' wz h).ahead HK0.out
  have HG1 : Hid (WGoes w g A (0, bs ++ [UInt8.ofNat 6], room - 1) w1) := hg1.ahead HK0.out
  have HW1 := Lib.hid hw1
  have hc1 := HB1.out.cell
  have hlw1 : w.heap.size < w1.heap.size := HB1.out.lt
  clear hg1 hw1 hk1 hf1 ht1 hc0
  go_wp2_with fail
  refine (wnum_ok g A1 c1 (bs ++ [UInt8.ofNat 6]) (room - 1) n w1 HW1.out (by omega) (by simp only [List.length_append, List.length_cons, List.length_nil, encTruth_len]; omega) (by omega) (by omega)).mono ?_
  rintro e w2 ⟨rfl, hg2⟩
  obtain ⟨A2, c2, hw2, hk2, hf2, ht2⟩ := hg2.into
  have HNF2 : Hid (w.heap.size ∉ fpW g A2) := fun hm => by
    rcases hf2 _ hm with h | h
    · exact HNF1.out h
    · omega
  have HB2 := Lib.hid (HB1.out.kept hk2 HNF1.out)
  have HT2 : Hid (∀ s' wz, WGoes w2 g A2 s' wz → WGoes w g A s' wz) := fun s' wz h => HT1.out s' wz (ht2 s' wz h)
  have HG2 : Hid (WGoes w g A (0, (bs ++ [UInt8.ofNat 6]) ++ encNum n, room - 1 - (encNum n).length) w2) := HT1.out _ _ hg2
  have HW2 := Lib.hid hw2
  have hc2 := HB2.out.cell
  have hlw2 : w.heap.size < w2.heap.size := HB2.out.lt
  clear hg2 hw2 hk2 hf2 ht2 hc1
  go_wp2_with fail
  first | go_end0 | ((try simp only [Exit.inBlock, Exit.then]); refine bodyPost_ret (results_none rfl _ _ _) rfl ?_)
  exact ⟨rfl, HG2.out.eq HE1.out HE2.out⟩

set_option maxHeartbeats 3200000 in
set_option maxRecDepth 100000 in
theorem dput_op7 (g : Nat) (A : Option Addr) (c : Nat) (bs : List UInt8) (room : Nat) (a b r n m : Nat) (l : Bool) (w : World) (hW : IsW w g A c 0 bs room) (hg : goodD ⟨7, (a : Int), (b : Int), (r : Int), n, m, l⟩ = true) (_ha : a < 64) (_hb : b < 8) (_hr : r < 8) (_hn : n < 18446744073709551616) (_hm : m < 18446744073709551616) (hbs : bs.length ≤ 900000000) (hroom : room ≤ 9223372036854775807) (h32 : 32 ≤ room) :
    Calls Tryd.prog 54 #[.pointer (some ⟨g, 0, none⟩), .agg (dC 7 (a : Int) (b : Int) (r : Int) n m l)] w fun e w' => e = .returned (.tuple #[]) ∧ WGoes w g A (0, bs ++ encD ⟨7, (a : Int), (b : Int), (r : Int), n, m, l⟩, room - (encD ⟨7, (a : Int), (b : Int), (r : Int), n, m, l⟩).length) w' := by
  have HE1 : Hid (((bs ++ [UInt8.ofNat 7]) ++ [UInt8.ofNat r]) ++ encNum m = bs ++ encD ⟨7, (a : Int), (b : Int), (r : Int), n, m, l⟩) := by show _ = _; simp [encD, partsL, pieceB]
  have HE2 : Hid (room - 1 - 1 - (encNum m).length = room - (encD ⟨7, (a : Int), (b : Int), (r : Int), n, m, l⟩).length) := by show _ = _; simp [encD, partsL, pieceB, encTruth_len]; try omega
  have HG := Lib.hid (fun w => good_any 7 (a : Int) (b : Int) (r : Int) n m l w)
  rw [hg] at HG
  have e2 := encNum_le9 m
  have HNF : Hid (w.heap.size ∉ fpW g A) := fun hm => by have := fpW_lt hW _ hm; omega
  have HW := Lib.hid hW
  have hr0 : (0 : Int) ≤ (r : Int) := by omega
  have hr1 : (r : Int) < 256 := by omega
  obtain ⟨lm, hlm⟩ : ∃ lm, (encNum m).length = lm := ⟨_, rfl⟩
  rw [hlm] at e2
  have HLM := Lib.hid hlm
  clear hg hW hlm
  go_enter Tryd.func54, Tryd.ntmps54
  go_wp2_with fail
  refine (HG.out _).mono ?_
  rintro e w0 ⟨rfl, hk0⟩
  have HB0 := Lib.hid ((Blk.new w 41 (dC 7 (a : Int) (b : Int) (r : Int) n m l)).kept hk0 (by simp))
  have HK0 := Lib.hid (((Kept.refl [] w).alloc (.cells (dC 7 (a : Int) (b : Int) (r : Int) n m l) 41)).trans hk0)
  have HW0 := Lib.hid (HW.out.kept HK0.out (by simp))
  have hc0 := HB0.out.cell
  have hlw : w.heap.size < w0.heap.size := HB0.out.lt
  clear hk0
  go_wp2_with fail
  refine (wbyte_ok g A c bs room 7 w0 HW0.out (by omega) (by omega) hroom (by omega)).mono ?_
  rintro e w1 ⟨rfl, hg1⟩
  obtain ⟨A1, c1, hw1, hk1, hf1, ht1⟩ := hg1.into
  have HNF1 : Hid (w.heap.size ∉ fpW g A1) := fun hm => by
    rcases hf1 _ hm with h | h
    · exact HNF.out h
    · omega
  have HB1 := Lib.hid (HB0.out.kept hk1 HNF.out)
  have HT1 : Hid (∀ s' wz, WGoes w1 g A1 s' wz → WGoes w g A s' wz) := fun s' wz h => (ht1 s' wz h).ahead HK0.out
  have HG1 : Hid (WGoes w g A (0, bs ++ [UInt8.ofNat 7], room - 1) w1) := hg1.ahead HK0.out
  have HW1 := Lib.hid hw1
  have hc1 := HB1.out.cell
  have hlw1 : w.heap.size < w1.heap.size := HB1.out.lt
  clear hg1 hw1 hk1 hf1 ht1 hc0
  go_wp2_with fail
  refine (wbyte_ok g A1 c1 (bs ++ [UInt8.ofNat 7]) (room - 1) r w1 HW1.out (by omega) (by simp only [List.length_append, List.length_cons, List.length_nil, encTruth_len]; omega) (by omega) (by omega)).mono ?_
  rintro e w2 ⟨rfl, hg2⟩
  obtain ⟨A2, c2, hw2, hk2, hf2, ht2⟩ := hg2.into
  have HNF2 : Hid (w.heap.size ∉ fpW g A2) := fun hm => by
    rcases hf2 _ hm with h | h
    · exact HNF1.out h
    · omega
  have HB2 := Lib.hid (HB1.out.kept hk2 HNF1.out)
  have HT2 : Hid (∀ s' wz, WGoes w2 g A2 s' wz → WGoes w g A s' wz) := fun s' wz h => HT1.out s' wz (ht2 s' wz h)
  have HG2 : Hid (WGoes w g A (0, (bs ++ [UInt8.ofNat 7]) ++ [UInt8.ofNat r], room - 1 - 1) w2) := HT1.out _ _ hg2
  have HW2 := Lib.hid hw2
  have hc2 := HB2.out.cell
  have hlw2 : w.heap.size < w2.heap.size := HB2.out.lt
  clear hg2 hw2 hk2 hf2 ht2 hc1
  go_wp2_with fail
  refine (wnum_ok g A2 c2 ((bs ++ [UInt8.ofNat 7]) ++ [UInt8.ofNat r]) (room - 1 - 1) m w2 HW2.out (by omega) (by simp only [List.length_append, List.length_cons, List.length_nil, encTruth_len]; omega) (by omega) (by omega)).mono ?_
  rintro e w3 ⟨rfl, hg3⟩
  obtain ⟨A3, c3, hw3, hk3, hf3, ht3⟩ := hg3.into
  have HNF3 : Hid (w.heap.size ∉ fpW g A3) := fun hm => by
    rcases hf3 _ hm with h | h
    · exact HNF2.out h
    · omega
  have HB3 := Lib.hid (HB2.out.kept hk3 HNF2.out)
  have HT3 : Hid (∀ s' wz, WGoes w3 g A3 s' wz → WGoes w g A s' wz) := fun s' wz h => HT2.out s' wz (ht3 s' wz h)
  have HG3 : Hid (WGoes w g A (0, ((bs ++ [UInt8.ofNat 7]) ++ [UInt8.ofNat r]) ++ encNum m, room - 1 - 1 - (encNum m).length) w3) := HT2.out _ _ hg3
  have HW3 := Lib.hid hw3
  have hc3 := HB3.out.cell
  have hlw3 : w.heap.size < w3.heap.size := HB3.out.lt
  clear hg3 hw3 hk3 hf3 ht3 hc2
  go_wp2_with fail
  first | go_end0 | ((try simp only [Exit.inBlock, Exit.then]); refine bodyPost_ret (results_none rfl _ _ _) rfl ?_)
  exact ⟨rfl, HG3.out.eq HE1.out HE2.out⟩

set_option maxHeartbeats 3200000 in
set_option maxRecDepth 100000 in
theorem dput_op8 (g : Nat) (A : Option Addr) (c : Nat) (bs : List UInt8) (room : Nat) (a b r n m : Nat) (l : Bool) (w : World) (hW : IsW w g A c 0 bs room) (hg : goodD ⟨8, (a : Int), (b : Int), (r : Int), n, m, l⟩ = true) (_ha : a < 64) (_hb : b < 8) (_hr : r < 8) (_hn : n < 18446744073709551616) (_hm : m < 18446744073709551616) (hbs : bs.length ≤ 900000000) (hroom : room ≤ 9223372036854775807) (h32 : 32 ≤ room) :
    Calls Tryd.prog 54 #[.pointer (some ⟨g, 0, none⟩), .agg (dC 8 (a : Int) (b : Int) (r : Int) n m l)] w fun e w' => e = .returned (.tuple #[]) ∧ WGoes w g A (0, bs ++ encD ⟨8, (a : Int), (b : Int), (r : Int), n, m, l⟩, room - (encD ⟨8, (a : Int), (b : Int), (r : Int), n, m, l⟩).length) w' := by
  have HE1 : Hid (((bs ++ [UInt8.ofNat 8]) ++ [UInt8.ofNat r]) ++ [UInt8.ofNat b] = bs ++ encD ⟨8, (a : Int), (b : Int), (r : Int), n, m, l⟩) := by show _ = _; simp [encD, partsL, pieceB]
  have HE2 : Hid (room - 1 - 1 - 1 = room - (encD ⟨8, (a : Int), (b : Int), (r : Int), n, m, l⟩).length) := by show _ = _; simp [encD, partsL, pieceB, encTruth_len]; try omega
  have HG := Lib.hid (fun w => good_any 8 (a : Int) (b : Int) (r : Int) n m l w)
  rw [hg] at HG
  have HNF : Hid (w.heap.size ∉ fpW g A) := fun hm => by have := fpW_lt hW _ hm; omega
  have HW := Lib.hid hW
  have hb0 : (0 : Int) ≤ (b : Int) := by omega
  have hb1 : (b : Int) < 256 := by omega
  have hr0 : (0 : Int) ≤ (r : Int) := by omega
  have hr1 : (r : Int) < 256 := by omega
  clear hg hW
  go_enter Tryd.func54, Tryd.ntmps54
  go_wp2_with fail
  refine (HG.out _).mono ?_
  rintro e w0 ⟨rfl, hk0⟩
  have HB0 := Lib.hid ((Blk.new w 41 (dC 8 (a : Int) (b : Int) (r : Int) n m l)).kept hk0 (by simp))
  have HK0 := Lib.hid (((Kept.refl [] w).alloc (.cells (dC 8 (a : Int) (b : Int) (r : Int) n m l) 41)).trans hk0)
  have HW0 := Lib.hid (HW.out.kept HK0.out (by simp))
  have hc0 := HB0.out.cell
  have hlw : w.heap.size < w0.heap.size := HB0.out.lt
  clear hk0
  go_wp2_with fail
  refine (wbyte_ok g A c bs room 8 w0 HW0.out (by omega) (by omega) hroom (by omega)).mono ?_
  rintro e w1 ⟨rfl, hg1⟩
  obtain ⟨A1, c1, hw1, hk1, hf1, ht1⟩ := hg1.into
  have HNF1 : Hid (w.heap.size ∉ fpW g A1) := fun hm => by
    rcases hf1 _ hm with h | h
    · exact HNF.out h
    · omega
  have HB1 := Lib.hid (HB0.out.kept hk1 HNF.out)
  have HT1 : Hid (∀ s' wz, WGoes w1 g A1 s' wz → WGoes w g A s' wz) := fun s' wz h => (ht1 s' wz h).ahead HK0.out
  have HG1 : Hid (WGoes w g A (0, bs ++ [UInt8.ofNat 8], room - 1) w1) := hg1.ahead HK0.out
  have HW1 := Lib.hid hw1
  have hc1 := HB1.out.cell
  have hlw1 : w.heap.size < w1.heap.size := HB1.out.lt
  clear hg1 hw1 hk1 hf1 ht1 hc0
  go_wp2_with fail
  refine (wbyte_ok g A1 c1 (bs ++ [UInt8.ofNat 8]) (room - 1) r w1 HW1.out (by omega) (by simp only [List.length_append, List.length_cons, List.length_nil, encTruth_len]; omega) (by omega) (by omega)).mono ?_
  rintro e w2 ⟨rfl, hg2⟩
  obtain ⟨A2, c2, hw2, hk2, hf2, ht2⟩ := hg2.into
  have HNF2 : Hid (w.heap.size ∉ fpW g A2) := fun hm => by
    rcases hf2 _ hm with h | h
    · exact HNF1.out h
    · omega
  have HB2 := Lib.hid (HB1.out.kept hk2 HNF1.out)
  have HT2 : Hid (∀ s' wz, WGoes w2 g A2 s' wz → WGoes w g A s' wz) := fun s' wz h => HT1.out s' wz (ht2 s' wz h)
  have HG2 : Hid (WGoes w g A (0, (bs ++ [UInt8.ofNat 8]) ++ [UInt8.ofNat r], room - 1 - 1) w2) := HT1.out _ _ hg2
  have HW2 := Lib.hid hw2
  have hc2 := HB2.out.cell
  have hlw2 : w.heap.size < w2.heap.size := HB2.out.lt
  clear hg2 hw2 hk2 hf2 ht2 hc1
  go_wp2_with fail
  refine (wbyte_ok g A2 c2 ((bs ++ [UInt8.ofNat 8]) ++ [UInt8.ofNat r]) (room - 1 - 1) b w2 HW2.out (by omega) (by simp only [List.length_append, List.length_cons, List.length_nil, encTruth_len]; omega) (by omega) (by omega)).mono ?_
  rintro e w3 ⟨rfl, hg3⟩
  obtain ⟨A3, c3, hw3, hk3, hf3, ht3⟩ := hg3.into
  have HNF3 : Hid (w.heap.size ∉ fpW g A3) := fun hm => by
    rcases hf3 _ hm with h | h
    · exact HNF2.out h
    · omega
  have HB3 := Lib.hid (HB2.out.kept hk3 HNF2.out)
  have HT3 : Hid (∀ s' wz, WGoes w3 g A3 s' wz → WGoes w g A s' wz) := fun s' wz h => HT2.out s' wz (ht3 s' wz h)
  have HG3 : Hid (WGoes w g A (0, ((bs ++ [UInt8.ofNat 8]) ++ [UInt8.ofNat r]) ++ [UInt8.ofNat b], room - 1 - 1 - 1) w3) := HT2.out _ _ hg3
  have HW3 := Lib.hid hw3
  have hc3 := HB3.out.cell
  have hlw3 : w.heap.size < w3.heap.size := HB3.out.lt
  clear hg3 hw3 hk3 hf3 ht3 hc2
  go_wp2_with fail
  first | go_end0 | ((try simp only [Exit.inBlock, Exit.then]); refine bodyPost_ret (results_none rfl _ _ _) rfl ?_)
  exact ⟨rfl, HG3.out.eq HE1.out HE2.out⟩

set_option maxHeartbeats 3200000 in
set_option maxRecDepth 100000 in
theorem dput_op9 (g : Nat) (A : Option Addr) (c : Nat) (bs : List UInt8) (room : Nat) (a b r n m : Nat) (l : Bool) (w : World) (hW : IsW w g A c 0 bs room) (hg : goodD ⟨9, (a : Int), (b : Int), (r : Int), n, m, l⟩ = true) (_ha : a < 64) (_hb : b < 8) (_hr : r < 8) (_hn : n < 18446744073709551616) (_hm : m < 18446744073709551616) (hbs : bs.length ≤ 900000000) (hroom : room ≤ 9223372036854775807) (h32 : 32 ≤ room) :
    Calls Tryd.prog 54 #[.pointer (some ⟨g, 0, none⟩), .agg (dC 9 (a : Int) (b : Int) (r : Int) n m l)] w fun e w' => e = .returned (.tuple #[]) ∧ WGoes w g A (0, bs ++ encD ⟨9, (a : Int), (b : Int), (r : Int), n, m, l⟩, room - (encD ⟨9, (a : Int), (b : Int), (r : Int), n, m, l⟩).length) w' := by
  have HE1 : Hid ((bs ++ [UInt8.ofNat 9]) ++ [UInt8.ofNat a] = bs ++ encD ⟨9, (a : Int), (b : Int), (r : Int), n, m, l⟩) := by show _ = _; simp [encD, partsL, pieceB]
  have HE2 : Hid (room - 1 - 1 = room - (encD ⟨9, (a : Int), (b : Int), (r : Int), n, m, l⟩).length) := by show _ = _; simp [encD, partsL, pieceB, encTruth_len]; try omega
  have HG := Lib.hid (fun w => good_any 9 (a : Int) (b : Int) (r : Int) n m l w)
  rw [hg] at HG
  have HNF : Hid (w.heap.size ∉ fpW g A) := fun hm => by have := fpW_lt hW _ hm; omega
  have HW := Lib.hid hW
  have ha0 : (0 : Int) ≤ (a : Int) := by omega
  have ha1 : (a : Int) < 256 := by omega
  clear hg hW
  go_enter Tryd.func54, Tryd.ntmps54
  go_wp2_with fail
  refine (HG.out _).mono ?_
  rintro e w0 ⟨rfl, hk0⟩
  have HB0 := Lib.hid ((Blk.new w 41 (dC 9 (a : Int) (b : Int) (r : Int) n m l)).kept hk0 (by simp))
  have HK0 := Lib.hid (((Kept.refl [] w).alloc (.cells (dC 9 (a : Int) (b : Int) (r : Int) n m l) 41)).trans hk0)
  have HW0 := Lib.hid (HW.out.kept HK0.out (by simp))
  have hc0 := HB0.out.cell
  have hlw : w.heap.size < w0.heap.size := HB0.out.lt
  clear hk0
  go_wp2_with fail
  refine (wbyte_ok g A c bs room 9 w0 HW0.out (by omega) (by omega) hroom (by omega)).mono ?_
  rintro e w1 ⟨rfl, hg1⟩
  obtain ⟨A1, c1, hw1, hk1, hf1, ht1⟩ := hg1.into
  have HNF1 : Hid (w.heap.size ∉ fpW g A1) := fun hm => by
    rcases hf1 _ hm with h | h
    · exact HNF.out h
    · omega
  have HB1 := Lib.hid (HB0.out.kept hk1 HNF.out)
  have HT1 : Hid (∀ s' wz, WGoes w1 g A1 s' wz → WGoes w g A s' wz) := fun s' wz h => (ht1 s' wz h).ahead HK0.out
  have HG1 : Hid (WGoes w g A (0, bs ++ [UInt8.ofNat 9], room - 1) w1) := hg1.ahead HK0.out
  have HW1 := Lib.hid hw1
  have hc1 := HB1.out.cell
  have hlw1 : w.heap.size < w1.heap.size := HB1.out.lt
  clear hg1 hw1 hk1 hf1 ht1 hc0
  go_wp2_with fail
  refine (wbyte_ok g A1 c1 (bs ++ [UInt8.ofNat 9]) (room - 1) a w1 HW1.out (by omega) (by simp only [List.length_append, List.length_cons, List.length_nil, encTruth_len]; omega) (by omega) (by omega)).mono ?_
  rintro e w2 ⟨rfl, hg2⟩
  obtain ⟨A2, c2, hw2, hk2, hf2, ht2⟩ := hg2.into
  have HNF2 : Hid (w.heap.size ∉ fpW g A2) := fun hm => by
    rcases hf2 _ hm with h | h
    · exact HNF1.out h
    · omega
  have HB2 := Lib.hid (HB1.out.kept hk2 HNF1.out)
  have HT2 : Hid (∀ s' wz, WGoes w2 g A2 s' wz → WGoes w g A s' wz) := fun s' wz h => HT1.out s' wz (ht2 s' wz h)
  have HG2 : Hid (WGoes w g A (0, (bs ++ [UInt8.ofNat 9]) ++ [UInt8.ofNat a], room - 1 - 1) w2) := HT1.out _ _ hg2
  have HW2 := Lib.hid hw2
  have hc2 := HB2.out.cell
  have hlw2 : w.heap.size < w2.heap.size := HB2.out.lt
  clear hg2 hw2 hk2 hf2 ht2 hc1
  go_wp2_with fail
  first | go_end0 | ((try simp only [Exit.inBlock, Exit.then]); refine bodyPost_ret (results_none rfl _ _ _) rfl ?_)
  exact ⟨rfl, HG2.out.eq HE1.out HE2.out⟩

set_option maxHeartbeats 3200000 in
set_option maxRecDepth 100000 in
theorem dput_op10 (g : Nat) (A : Option Addr) (c : Nat) (bs : List UInt8) (room : Nat) (a b r n m : Nat) (l : Bool) (w : World) (hW : IsW w g A c 0 bs room) (hg : goodD ⟨10, (a : Int), (b : Int), (r : Int), n, m, l⟩ = true) (_ha : a < 64) (_hb : b < 8) (_hr : r < 8) (_hn : n < 18446744073709551616) (_hm : m < 18446744073709551616) (hbs : bs.length ≤ 900000000) (hroom : room ≤ 9223372036854775807) (h32 : 32 ≤ room) :
    Calls Tryd.prog 54 #[.pointer (some ⟨g, 0, none⟩), .agg (dC 10 (a : Int) (b : Int) (r : Int) n m l)] w fun e w' => e = .returned (.tuple #[]) ∧ WGoes w g A (0, bs ++ encD ⟨10, (a : Int), (b : Int), (r : Int), n, m, l⟩, room - (encD ⟨10, (a : Int), (b : Int), (r : Int), n, m, l⟩).length) w' := by
  have HE1 : Hid (((bs ++ [UInt8.ofNat 10]) ++ [UInt8.ofNat a]) ++ encNum n = bs ++ encD ⟨10, (a : Int), (b : Int), (r : Int), n, m, l⟩) := by show _ = _; simp [encD, partsL, pieceB]
  have HE2 : Hid (room - 1 - 1 - (encNum n).length = room - (encD ⟨10, (a : Int), (b : Int), (r : Int), n, m, l⟩).length) := by show _ = _; simp [encD, partsL, pieceB, encTruth_len]; try omega
  have HG := Lib.hid (fun w => good_any 10 (a : Int) (b : Int) (r : Int) n m l w)
  rw [hg] at HG
  have e1 := encNum_le9 n
  have HNF : Hid (w.heap.size ∉ fpW g A) := fun hm => by have := fpW_lt hW _ hm; omega
  have HW := Lib.hid hW
  have ha0 : (0 : Int) ≤ (a : Int) := by omega
  have ha1 : (a : Int) < 256 := by omega
  obtain ⟨ln, hln⟩ : ∃ ln, (encNum n).length = ln := ⟨_, rfl⟩
  rw [hln] at e1
  have HLN := Lib.hid hln
  clear hg hW hln
  go_enter Tryd.func54, Tryd.ntmps54
  go_wp2_with fail
  refine (HG.out _).mono ?_
  rintro e w0 ⟨rfl, hk0⟩
  have HB0 := Lib.hid ((Blk.new w 41 (dC 10 (a : Int) (b : Int) (r : Int) n m l)).kept hk0 (by simp))
  have HK0 := Lib.hid (((Kept.refl [] w).alloc (.cells (dC 10 (a : Int) (b : Int) (r : Int) n m l) 41)).trans hk0)
  have HW0 := Lib.hid (HW.out.kept HK0.out (by simp))
  have hc0 := HB0.out.cell
  have hlw : w.heap.size < w0.heap.size := HB0.out.lt
  clear hk0
  go_wp2_with fail
  refine (wbyte_ok g A c bs room 10 w0 HW0.out (by omega) (by omega) hroom (by omega)).mono ?_
  rintro e w1 ⟨rfl, hg1⟩
  obtain ⟨A1, c1, hw1, hk1, hf1, ht1⟩ := hg1.into
  have HNF1 : Hid (w.heap.size ∉ fpW g A1) := fun hm => by
    rcases hf1 _ hm with h | h
    · exact HNF.out h
    · omega
  have HB1 := Lib.hid (HB0.out.kept hk1 HNF.out)
  have HT1 : Hid (∀ s' wz, WGoes w1 g A1 s' wz → WGoes w g A s' wz) := fun s' wz h => (ht1 s' wz h).ahead HK0.out
  have HG1 : Hid (WGoes w g A (0, bs ++ [UInt8.ofNat 10], room - 1) w1) := hg1.ahead HK0.out
  have HW1 := Lib.hid hw1
  have hc1 := HB1.out.cell
  have hlw1 : w.heap.size < w1.heap.size := HB1.out.lt
  clear hg1 hw1 hk1 hf1 ht1 hc0
  go_wp2_with fail
  refine (wbyte_ok g A1 c1 (bs ++ [UInt8.ofNat 10]) (room - 1) a w1 HW1.out (by omega) (by simp only [List.length_append, List.length_cons, List.length_nil, encTruth_len]; omega) (by omega) (by omega)).mono ?_
  rintro e w2 ⟨rfl, hg2⟩
  obtain ⟨A2, c2, hw2, hk2, hf2, ht2⟩ := hg2.into
  have HNF2 : Hid (w.heap.size ∉ fpW g A2) := fun hm => by
    rcases hf2 _ hm with h | h
    · exact HNF1.out h
    · omega
  have HB2 := Lib.hid (HB1.out.kept hk2 HNF1.out)
  have HT2 : Hid (∀ s' wz, WGoes w2 g A2 s' wz → WGoes w g A s' wz) := fun s' wz h => HT1.out s' wz (ht2 s' wz h)
  have HG2 : Hid (WGoes w g A (0, (bs ++ [UInt8.ofNat 10]) ++ [UInt8.ofNat a], room - 1 - 1) w2) := HT1.out _ _ hg2
  have HW2 := Lib.hid hw2
  have hc2 := HB2.out.cell
  have hlw2 : w.heap.size < w2.heap.size := HB2.out.lt
  clear hg2 hw2 hk2 hf2 ht2 hc1
  go_wp2_with fail
  refine (wnum_ok g A2 c2 ((bs ++ [UInt8.ofNat 10]) ++ [UInt8.ofNat a]) (room - 1 - 1) n w2 HW2.out (by omega) (by simp only [List.length_append, List.length_cons, List.length_nil, encTruth_len]; omega) (by omega) (by omega)).mono ?_
  rintro e w3 ⟨rfl, hg3⟩
  obtain ⟨A3, c3, hw3, hk3, hf3, ht3⟩ := hg3.into
  have HNF3 : Hid (w.heap.size ∉ fpW g A3) := fun hm => by
    rcases hf3 _ hm with h | h
    · exact HNF2.out h
    · omega
  have HB3 := Lib.hid (HB2.out.kept hk3 HNF2.out)
  have HT3 : Hid (∀ s' wz, WGoes w3 g A3 s' wz → WGoes w g A s' wz) := fun s' wz h => HT2.out s' wz (ht3 s' wz h)
  have HG3 : Hid (WGoes w g A (0, ((bs ++ [UInt8.ofNat 10]) ++ [UInt8.ofNat a]) ++ encNum n, room - 1 - 1 - (encNum n).length) w3) := HT2.out _ _ hg3
  have HW3 := Lib.hid hw3
  have hc3 := HB3.out.cell
  have hlw3 : w.heap.size < w3.heap.size := HB3.out.lt
  clear hg3 hw3 hk3 hf3 ht3 hc2
  go_wp2_with fail
  first | go_end0 | ((try simp only [Exit.inBlock, Exit.then]); refine bodyPost_ret (results_none rfl _ _ _) rfl ?_)
  exact ⟨rfl, HG3.out.eq HE1.out HE2.out⟩

set_option maxHeartbeats 3200000 in
set_option maxRecDepth 100000 in
theorem dput_op11 (g : Nat) (A : Option Addr) (c : Nat) (bs : List UInt8) (room : Nat) (a b r n m : Nat) (l : Bool) (w : World) (hW : IsW w g A c 0 bs room) (hg : goodD ⟨11, (a : Int), (b : Int), (r : Int), n, m, l⟩ = true) (_ha : a < 64) (_hb : b < 8) (_hr : r < 8) (_hn : n < 18446744073709551616) (_hm : m < 18446744073709551616) (hbs : bs.length ≤ 900000000) (hroom : room ≤ 9223372036854775807) (h32 : 32 ≤ room) :
    Calls Tryd.prog 54 #[.pointer (some ⟨g, 0, none⟩), .agg (dC 11 (a : Int) (b : Int) (r : Int) n m l)] w fun e w' => e = .returned (.tuple #[]) ∧ WGoes w g A (0, bs ++ encD ⟨11, (a : Int), (b : Int), (r : Int), n, m, l⟩, room - (encD ⟨11, (a : Int), (b : Int), (r : Int), n, m, l⟩).length) w' := by
  have HE1 : Hid ((bs ++ [UInt8.ofNat 11]) ++ [UInt8.ofNat a] = bs ++ encD ⟨11, (a : Int), (b : Int), (r : Int), n, m, l⟩) := by show _ = _; simp [encD, partsL, pieceB]
  have HE2 : Hid (room - 1 - 1 = room - (encD ⟨11, (a : Int), (b : Int), (r : Int), n, m, l⟩).length) := by show _ = _; simp [encD, partsL, pieceB, encTruth_len]; try omega
  have HG := Lib.hid (fun w => good_any 11 (a : Int) (b : Int) (r : Int) n m l w)
  rw [hg] at HG
  have HNF : Hid (w.heap.size ∉ fpW g A) := fun hm => by have := fpW_lt hW _ hm; omega
  have HW := Lib.hid hW
  have ha0 : (0 : Int) ≤ (a : Int) := by omega
  have ha1 : (a : Int) < 256 := by omega
  clear hg hW
  go_enter Tryd.func54, Tryd.ntmps54
  go_wp2_with fail
  refine (HG.out _).mono ?_
  rintro e w0 ⟨rfl, hk0⟩
  have HB0 := Lib.hid ((Blk.new w 41 (dC 11 (a : Int) (b : Int) (r : Int) n m l)).kept hk0 (by simp))
  have HK0 := Lib.hid (((Kept.refl [] w).alloc (.cells (dC 11 (a : Int) (b : Int) (r : Int) n m l) 41)).trans hk0)
  have HW0 := Lib.hid (HW.out.kept HK0.out (by simp))
  have hc0 := HB0.out.cell
  have hlw : w.heap.size < w0.heap.size := HB0.out.lt
  clear hk0
  go_wp2_with fail
  refine (wbyte_ok g A c bs room 11 w0 HW0.out (by omega) (by omega) hroom (by omega)).mono ?_
  rintro e w1 ⟨rfl, hg1⟩
  obtain ⟨A1, c1, hw1, hk1, hf1, ht1⟩ := hg1.into
  have HNF1 : Hid (w.heap.size ∉ fpW g A1) := fun hm => by
    rcases hf1 _ hm with h | h
    · exact HNF.out h
    · omega
  have HB1 := Lib.hid (HB0.out.kept hk1 HNF.out)
  have HT1 : Hid (∀ s' wz, WGoes w1 g A1 s' wz → WGoes w g A s' wz) := fun s' wz h => (ht1 s' wz h).ahead HK0.out
  have HG1 : Hid (WGoes w g A (0, bs ++ [UInt8.ofNat 11], room - 1) w1) := hg1.ahead HK0.out
  have HW1 := Lib.hid hw1
  have hc1 := HB1.out.cell
  have hlw1 : w.heap.size < w1.heap.size := HB1.out.lt
  clear hg1 hw1 hk1 hf1 ht1 hc0
  go_wp2_with fail
  refine (wbyte_ok g A1 c1 (bs ++ [UInt8.ofNat 11]) (room - 1) a w1 HW1.out (by omega) (by simp only [List.length_append, List.length_cons, List.length_nil, encTruth_len]; omega) (by omega) (by omega)).mono ?_
  rintro e w2 ⟨rfl, hg2⟩
  obtain ⟨A2, c2, hw2, hk2, hf2, ht2⟩ := hg2.into
  have HNF2 : Hid (w.heap.size ∉ fpW g A2) := fun hm => by
    rcases hf2 _ hm with h | h
    · exact HNF1.out h
    · omega
  have HB2 := Lib.hid (HB1.out.kept hk2 HNF1.out)
  have HT2 : Hid (∀ s' wz, WGoes w2 g A2 s' wz → WGoes w g A s' wz) := fun s' wz h => HT1.out s' wz (ht2 s' wz h)
  have HG2 : Hid (WGoes w g A (0, (bs ++ [UInt8.ofNat 11]) ++ [UInt8.ofNat a], room - 1 - 1) w2) := HT1.out _ _ hg2
  have HW2 := Lib.hid hw2
  have hc2 := HB2.out.cell
  have hlw2 : w.heap.size < w2.heap.size := HB2.out.lt
  clear hg2 hw2 hk2 hf2 ht2 hc1
  go_wp2_with fail
  first | go_end0 | ((try simp only [Exit.inBlock, Exit.then]); refine bodyPost_ret (results_none rfl _ _ _) rfl ?_)
  exact ⟨rfl, HG2.out.eq HE1.out HE2.out⟩

theorem dput_any (g : Nat) (A : Option Addr) (c : Nat) (bs : List UInt8) (room : Nat) (o a b r : Int) (n m : Nat) (l : Bool) (w : World) (hW : IsW w g A c 0 bs room) (hg : goodD ⟨o, a, b, r, n, m, l⟩ = true) (hn : n < 18446744073709551616) (hm : m < 18446744073709551616) (hbs : bs.length ≤ 900000000) (hroom : room ≤ 9223372036854775807) (h32 : 32 ≤ room) :
    Calls Tryd.prog 54 #[.pointer (some ⟨g, 0, none⟩), .agg (dC o a b r n m l)] w fun e w' => e = .returned (.tuple #[]) ∧ WGoes w g A (0, bs ++ encD ⟨o, a, b, r, n, m, l⟩, room - (encD ⟨o, a, b, r, n, m, l⟩).length) w' := by
  obtain ⟨h1, h2, h3, h4, h5, h6, h7, h8⟩ := goodD_bounds hg
  simp only at h1 h2 h3 h4 h5 h6 h7 h8
  obtain ⟨a, rfl⟩ := Int.eq_ofNat_of_zero_le h1
  obtain ⟨b, rfl⟩ := Int.eq_ofNat_of_zero_le h3
  obtain ⟨r, rfl⟩ := Int.eq_ofNat_of_zero_le h5
  rcases (by omega : o = 1 ∨ o = 2 ∨ o = 3 ∨ o = 4 ∨ o = 5 ∨ o = 6 ∨ o = 7 ∨ o = 8 ∨ o = 9 ∨ o = 10 ∨ o = 11) with rfl | rfl | rfl | rfl | rfl | rfl | rfl | rfl | rfl | rfl | rfl
  · exact dput_op1 g A c bs room a b r n m l w hW hg (by omega) (by omega) (by omega) hn hm hbs hroom h32
  · exact dput_op2 g A c bs room a b r n m l w hW hg (by omega) (by omega) (by omega) hn hm hbs hroom h32
  · exact dput_op3 g A c bs room a b r n m l w hW hg (by omega) (by omega) (by omega) hn hm hbs hroom h32
  · exact dput_op4 g A c bs room a b r n m l w hW hg (by omega) (by omega) (by omega) hn hm hbs hroom h32
  · exact dput_op5 g A c bs room a b r n m l w hW hg (by omega) (by omega) (by omega) hn hm hbs hroom h32
  · exact dput_op6 g A c bs room a b r n m l w hW hg (by omega) (by omega) (by omega) hn hm hbs hroom h32
  · exact dput_op7 g A c bs room a b r n m l w hW hg (by omega) (by omega) (by omega) hn hm hbs hroom h32
  · exact dput_op8 g A c bs room a b r n m l w hW hg (by omega) (by omega) (by omega) hn hm hbs hroom h32
  · exact dput_op9 g A c bs room a b r n m l w hW hg (by omega) (by omega) (by omega) hn hm hbs hroom h32
  · exact dput_op10 g A c bs room a b r n m l w hW hg (by omega) (by omega) (by omega) hn hm hbs hroom h32
  · exact dput_op11 g A c bs room a b r n m l w hW hg (by omega) (by omega) (by omega) hn hm hbs hroom h32

end Go.Proofs.YtmhlmoojmdfnfaaDoor
