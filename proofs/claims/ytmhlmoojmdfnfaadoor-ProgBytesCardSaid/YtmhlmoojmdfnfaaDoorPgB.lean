/- A program's bytes: prog.Put, Encode; the plain law. -/
import Derived.Test.YtmhlmoojmdfnfaaDoorDeedPut
import Derived.Test.YtmhlmoojmdfnfaaDoorPgC
namespace Go.Proofs.YtmhlmoojmdfnfaaDoor
open Go.RowKit

/-- A program's bytes. -/
def encP (p : List Dd) : List UInt8 := encNum p.length ++ p.flatMap encD
def encK (n : Nat) (p : List Dd) : List UInt8 := encNum n ++ p.flatMap encD
theorem encK_snoc (n : Nat) (p : List Dd) (d : Dd) : encK n (p ++ [d]) = encK n p ++ encD d := by simp [encK]
theorem encK_len (n : Nat) : ∀ p : List Dd, (encK n p).length ≤ 9 + 46 * p.length
  | [] => by simp [encK]; exact encNum_le9 n
  | d :: t => by
    have h1 := encK_len n t
    have h2 := encD_len d
    simp only [encK, List.flatMap_cons, List.length_append, List.length_cons] at *
    omega
/-- A good deed's bytes are few. -/
theorem encD_small {d : Dd} (_h : goodD d = true) : (encD d).length ≤ 16 := by
  have h1 := encNum_le9 d.n
  have h2 := encNum_le9 d.mask
  have h3 : (encTruth d.loose).length = 1 := by cases d.loose <;> rfl
  rcases partsL_cases d.op with h | h | h | h | h | h | h | h <;> simp [encD, h, pieceB, h3] <;> omega
theorem encK_small (n : Nat) : ∀ p : List Dd, (∀ d ∈ p, goodD d = true) → (encK n p).length ≤ 9 + 16 * p.length
  | [], _ => by simp [encK]; exact encNum_le9 n
  | d :: t, h => by
    have h1 := encK_small n t fun x hx => h x (by simp [hx])
    have h2 := encD_small (h d (by simp))
    simp only [encK, List.flatMap_cons, List.length_append, List.length_cons] at *
    omega

set_option maxHeartbeats 3200000 in
set_option maxRecDepth 100000 in
theorem pput_any (g : Nat) (A0 : Option Addr) (c0 : Nat) (bs : List UInt8) (room : Nat) (A : Option Addr) (n c : Nat) (l : List Dd) (w : World) (hW : IsW w g A0 c0 0 bs room) (hr : ReadsD w A n l) (hfar : ∀ ad, A = some ad → ad.block ∉ fpW g A0)
    (hc : checkP l = 0) (hok : ∀ d ∈ l, d.n < 18446744073709551616 ∧ d.mask < 18446744073709551616) (hbs : bs.length ≤ 800000000) (hroom : room ≤ 9223372036854775807) (hr2 : 16 * l.length + 25 ≤ room) :
    Calls Tryd.prog 65 #[.pointer (some ⟨g, 0, none⟩), .slice A n c] w fun e w' => e = .returned (.tuple #[]) ∧ WGoes w g A0 (0, bs ++ encP l, room - (encP l).length) w' := by
  obtain rfl := hr.len
  obtain ⟨hl, hgood⟩ := checkP_zero hc
  have HCK := Lib.hid (pcheck_any A l.length c l w hr (by omega))
  rw [hc] at HCK
  have HR := Lib.hid hr
  have HOK := Lib.hid hok
  have HGD := Lib.hid hgood
  have HFAR := Lib.hid hfar
  have HW := Lib.hid hW
  have HWL := Lib.hid (fpW_lt hW)
  have hls : ∀ k, k ≤ l.length → (encK l.length (l.take k)).length ≤ 9 + 16 * k := fun k hk => by
    have := encK_small l.length (l.take k) (fun d hd => hgood d (List.mem_of_mem_take hd))
    rw [List.length_take, Nat.min_eq_left hk] at this
    exact this
  have HLS := Lib.hid hls
  clear hr hok hgood hc hfar hW hls
  go_enter Tryd.func65, Tryd.ntmps65
  go_wp2_with fail
  refine (HCK.out).mono ?_
  rintro e w1 ⟨rfl, hk1⟩
  have HK1 := Lib.hid hk1
  have HW1 := Lib.hid (HW.out.kept hk1 (by simp))
  clear hk1
  go_wp2_with fail
  refine (wnum_ok g A0 c0 bs room l.length w1 HW1.out (by omega) (by omega) hroom (by omega)).mono ?_
  rintro e w2 ⟨rfl, hg2⟩
  have HG2 : Hid (WGoes w g A0 (0, bs ++ encK l.length [], room - (encK l.length []).length) w2) := (hg2.ahead HK1.out).eq (by simp [encK]) (by simp [encK])
  clear hg2
  go_wp2_with fail
  go_loopw [16] (fun kv wr => ∃ k : Nat, k ≤ l.length ∧ kv = .int .i64 k ∧ Hid (WGoes w g A0 (0, bs ++ encK l.length (l.take k), room - (encK l.length (l.take k)).length) wr)) (fun k _ => l.length - (intOf k).toNat)
  case atStart => exact ⟨0, by omega, rfl, HG2⟩
  case round =>
    clear HG2
    obtain ⟨k, hk1, rfl, HG⟩ := hrel
    have hlk := HLS.out k hk1
    by_cases hlt : k < l.length
    · obtain ⟨A2, c2, hW2, hk2, hf2, hT2⟩ := HG.out.into
      have hrd : ReadsD wr A l.length l := Reads.kept HR.out hk2 (fun ad e => HFAR.out ad e)
      obtain ⟨d, b, o, rfl, hx, hb, hc0, hc1, hc2, hc3, hc4, hc5, hc6⟩ := hrd.at_ hlt
      have hi0 : (0 : Int) ≤ (k : Int) := by omega
      have hi1 : (k : Int) < (l.length : Int) := by omega
      have hxm := List.mem_of_getElem? hx
      have hgd := HGD.out d hxm
      have hdo := HOK.out d hxm
      have HSN : Hid (encK l.length (l.take (k + 1)) = encK l.length (l.take k) ++ encD d) := by show _ = _; rw [take_snoc hx]; exact encK_snoc _ _ _
      have hed := encD_small hgd
      obtain ⟨o1, a1, b1, r1, n1, m1, l1⟩ := d
      simp only at hc0 hc1 hc2 hc3 hc4 hc5 hc6 hdo
      have HPD := Lib.hid (fun A c w hW => dput_any g A c (bs ++ encK l.length (l.take k)) (room - (encK l.length (l.take k)).length) o1 a1 b1 r1 n1 m1 l1 w hW hgd hdo.1 hdo.2 (by rw [List.length_append]; omega) (by omega) (by omega))
      generalize encD ⟨o1, a1, b1, r1, n1, m1, l1⟩ = ed at *
      generalize encK l.length (l.take k) = ek at *
      have HW2 := Lib.hid (hW2.kept ((Kept.refl [] wr).alloc (.cells (dC o1 a1 b1 r1 n1 m1 l1) 41)) (by simp))
      have HT2 := Lib.hid hT2
      clear hx hxm hgd hdo hW2 hk2 hf2 hT2 hrd
      go_wp2_with fail
      refine (HPD.out A2 c2 _ HW2.out).mono ?_
      rintro e w3 ⟨rfl, hg3⟩
      have HG3 : Hid (WGoes w g A0 (0, bs ++ (ek ++ ed), room - (ek ++ ed).length) w3) := (HT2.out _ _ (hg3.ahead ((Kept.refl [] wr).alloc (.cells (dC o1 a1 b1 r1 n1 m1 l1) 41)))).eq (by simp) (by simp; omega)
      clear hg3
      go_wp2_with fail
      go_roundw
      case rel => exact ⟨k + 1, by omega, by go_num, by rw [HSN.out]; exact HG3⟩
      case measure => simp [intOf]; omega
    · obtain rfl : k = l.length := by omega
      have hfin : l.take l.length = l := List.take_of_length_le (Nat.le_refl _)
      rw [hfin] at HG
      clear hfin
      go_wp2_with fail
      go_end0
      exact ⟨rfl, HG.out⟩

theorem newbytes_ahead {w w1 w' : World} {l : List UInt8} {v : Value} (h : NewBytes w1 w' l v) (hk : Kept [] w w1) : NewBytes w w' l v := ⟨h.1, hk.trans h.2.1, fun k hm => Nat.le_trans hk.size (h.2.2 k hm)⟩
theorem newbytes_ahead2 {w w1 w' : World} {l : List UInt8} {v : Value} (h : NewBytes w1 w' l v) (hk : Kept [] w w1) : Kept [] w w' := hk.trans h.2.1

set_option maxHeartbeats 3200000 in
set_option maxRecDepth 100000 in
theorem pencode_ok (A : Option Addr) (n c : Nat) (l : List Dd) (w : World) (hr : ReadsD w A n l) (hA : ∀ ad, A = some ad → ad.block < w.heap.size) (hc : checkP l = 0) (hok : ∀ d ∈ l, d.n < 18446744073709551616 ∧ d.mask < 18446744073709551616) :
    Calls Tryd.prog 24 #[.slice A n c] w fun e w' => ∃ v, e = .returned (.tuple #[v, .int .i64 0]) ∧ NewBytes w w' (encP l) v := by
  obtain rfl := hr.len
  obtain ⟨hl, hgood⟩ := checkP_zero hc
  have HCK := Lib.hid (pcheck_any A l.length c l w hr (by omega))
  rw [hc] at HCK
  have HPP := Lib.hid (fun g A0 c0 room w' hW hr' hfar h1 h2 => pput_any g A0 c0 [] room A l.length c l w' hW hr' hfar hc hok (by simp) h1 h2)
  rw [List.nil_append] at HPP
  have hel := encK_small l.length l hgood
  have HEL : Hid ((encP l).length ≤ 9 + 16 * l.length) := hel
  have HR := Lib.hid hr
  have HA := Lib.hid hA
  have hw1 : (0 : Int) ≤ (l.length : Int) + 1 := by omega
  have hmx : (max (32 * ((l.length : Int) + 1)) 0).toNat = 32 * (l.length + 1) := by omega
  have HMX := Lib.hid hmx
  clear hr hc hok hgood hA hel hmx
  go_enter Tryd.func24, Tryd.ntmps24
  go_wp2_with fail
  refine (HCK.out).mono ?_
  rintro e w1 ⟨rfl, hk1⟩
  have HK1 := Lib.hid hk1
  clear hk1
  go_wp2_with fail
  refine (wnew_any _ w1).mono ?_
  rintro e w2 ⟨rfl, hW2, hk2⟩
  rw [HMX.out] at hW2
  have HW2 := Lib.hid hW2
  have HK2 := Lib.hid (HK1.out.trans hk2)
  have hs1 := HK1.out.size
  clear hW2 hk2
  go_wp2_with fail
  have hff : ∀ ad, A = some ad → ad.block ∉ fpW w1.heap.size none := by
    intro ad e hm
    have h1 := HA.out ad e
    simp only [fpW, Option.map_none, Option.toList_none, List.mem_cons, List.not_mem_nil, or_false] at hm
    omega
  have HFF := Lib.hid hff
  clear hff
  refine (HPP.out w1.heap.size none 0 (32 * (l.length + 1)) w2 HW2.out (HR.out.old HK2.out) HFF.out (by omega) (by omega)).mono ?_
  rintro e w3 ⟨rfl, hg3⟩
  obtain ⟨A3, c3, hW3, hk3, hf3⟩ := hg3
  have HW3 := Lib.hid hW3
  have HK3 : Hid (Kept [] w w3) := HK2.out.trans' hk3 (fun k hm => .inr (by
    simp only [fpW, Option.map_none, Option.toList_none, List.mem_cons, List.not_mem_nil, or_false] at hm
    omega))
  clear hW3 hk3 hf3
  go_wp2_with fail
  refine (wdone_ok w1.heap.size A3 c3 (encP l) _ w3 HW3.out (by have := HEL.out; omega)).mono ?_
  rintro e w4 ⟨v, rfl, hn4⟩
  have HN4 := Lib.hid (newbytes_ahead hn4 HK3.out)
  clear hn4
  go_wp2_with fail
  go_ret2
  exact ⟨v, rfl, HN4.out⟩
theorem ret_nilerr {a b : Int} (h : a = b) : Ending.returned (.tuple #[.slice none 0 0, .int .i64 a]) = .returned (.tuple #[.slice none 0 0, .int .i64 b]) := by rw [h]
set_option maxHeartbeats 1600000 in
theorem pencode_no (A : Option Addr) (n c : Nat) (l : List Dd) (w : World) (hr : ReadsD w A n l) (hn : n ≤ 9223372036854775807) (hc : checkP l ≠ 0) :
    Calls Tryd.prog 24 #[.slice A n c] w fun e w' => e = .returned (.tuple #[.slice none 0 0, .int .i64 (checkP l)]) ∧ Kept [] w w' := by
  have HCK := Lib.hid (pcheck_any A n c l w hr hn)
  generalize checkP l = ck at *
  have hb : (ck != 0) = true := by simp [hc]
  clear hr hc
  go_enter Tryd.func24, Tryd.ntmps24
  go_wp2_with fail
  refine (HCK.out).mono ?_
  rintro e w1 ⟨rfl, hk1⟩
  have HK1 := Lib.hid hk1
  clear hk1
  go_wp2_with fail
  go_ret2
  exact ⟨rfl, HK1.out⟩

end Go.Proofs.YtmhlmoojmdfnfaaDoor
