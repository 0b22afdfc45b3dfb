/- Things of the statements' package bosunlaw04: written by the program, laid by the reference. -/
import Derived.Test.YtmaiipglojpknaaWireL
namespace Go.Proofs.Ytmaiipglojpknaa
open Go.RowKit

/-- A thing as bytes. -/
def encT (kind x : Nat) (b : List UInt8) : List UInt8 :=
  if kind % 4 = 0 then [UInt8.ofNat (x % 256)] else if kind % 4 = 1 then encNum x else if kind % 4 = 2 then encTruth (x % 2 == 1) else encBytes (b.take 60)
theorem encNum_le (x : Nat) : (encNum x).length ≤ 9 := by rw [encNum_len]; have := be_len x; omega
theorem encT_len (kind x : Nat) (b : List UInt8) : (encT kind x b).length ≤ 69 := by
  unfold encT
  split
  · simp
  · split
    · have := encNum_le x; omega
    · split
      · unfold encTruth; split <;> simp
      · have := encNum_le (b.take 60).length
        simp only [encBytes, List.length_append]
        have : (b.take 60).length ≤ 60 := by simp; omega
        omega

/-- The value of a thing. -/
def thingV (kind x : Nat) (A : Option Addr) (m c : Nat) (most : Int) : Value := .agg #[.int .u8 kind, .int .u64 x, .slice A m c, .int .i64 most]

theorem remB {kind r : Nat} (h : kind % 4 = r) (q : Nat) : (((kind : Int) % 4) == (q : Int)) = decide (r = q) := by
  rw [Bool.eq_iff_iff]; simp; omega

set_option maxHeartbeats 800000 in
theorem laid4 (kind x : Nat) (A : Option Addr) (m c : Nat) (most : Int) (b : List UInt8) (w : World) (hk : kind < 256) (hx : x < 18446744073709551616) (hr : Reads w 1 A m (b.map B)) (hmc : m ≤ c) (hc : c ≤ maxLen) :
    Calls Try.prog 10 #[.agg #[.int .u8 kind, .int .u64 x, .slice A m c, .int .i64 most]] w fun e w' => ∃ A' c', e = .returned (.slice A' (encT kind x b).length c') ∧ Fresh w w' (encT kind x b) A' (encT kind x b).length c' := by
  have HR := Lib.hid hr
  clear hr
  obtain ⟨r, hr0⟩ : ∃ r, encT kind x b = r := ⟨_, rfl⟩
  rw [hr0]
  unfold encT at hr0
  have HE := Lib.hid hr0
  clear hr0
  obtain ⟨q, hq⟩ : ∃ q, kind % 4 = q := ⟨_, rfl⟩
  have hq4 : q < 4 := by omega
  have b0 := remB hq 0
  have b1 := remB hq 1
  have b2 := remB hq 2
  have HQ := Lib.hid hq
  clear hq
  match q, hq4 with
  | 0, _ =>
    simp at b0 b1 b2
    go_enter Try.func10, Try.ntmps10
    go_wp2_with fail
    go_ret
    rw [← HE.out, if_pos HQ.out]
    refine ⟨_, _, rfl, ?_, ((Kept.refl _ _).alloc _).alloc _, by simp [fp, Value.ownBlock]⟩
    rw [show ([UInt8.ofNat (x % 256)].map B) = [.int .u8 ((x : Int) % 256)] from by simp only [List.map_cons, List.map_nil]; rw [B_ofNat _ (Nat.mod_lt _ (by omega))]; rfl]
    have := own_one (w.alloc (.cells #[.int .u8 kind, .int .u64 x, .slice A m c, .int .i64 most] 29)) 5 (.int .u8 ((x : Int) % 256))
    simpa using this
  | 1, _ =>
    simp at b0 b1 b2
    go_enter Try.func10, Try.ntmps10
    go_wp2_with fail
    refine (refNum_any x _ hx).mono ?_
    rintro e w1 ⟨A1, c1, rfl, hown, hk1, hnew⟩
    have HO := Lib.hid hown
    have hk0 : Kept [] w w1 := ((Kept.refl _ _).alloc _).trans hk1
    clear hown
    go_wp2_with fail
    go_ret
    rw [← HE.out, if_neg (by rw [HQ.out]; omega), if_pos HQ.out]
    exact ⟨_, _, rfl, HO.out, hk0, fun k hm => by have := hnew k hm; simp at this; omega⟩
  | 2, _ =>
    simp at b0 b1 b2
    have ht : ((x : Int) % 2 == 1) = (x % 2 == 1) := by rw [Bool.eq_iff_iff]; simp; omega
    generalize hb0 : (x % 2 == 1) = tb at *
    go_enter Try.func10, Try.ntmps10
    go_wp2_with fail
    refine (refTruth_any tb _).mono ?_
    rintro e w1 ⟨A1, c1, rfl, hown, hk1, hnew⟩
    have HO := Lib.hid hown
    have hk0 : Kept [] w w1 := ((Kept.refl _ _).alloc _).trans hk1
    clear hown
    go_wp2_with fail
    go_ret
    rw [← HE.out, if_neg (by rw [HQ.out]; omega), if_neg (by rw [HQ.out]; omega), if_pos HQ.out]
    exact ⟨_, _, rfl, HO.out, hk0, fun k hm => by have := hnew k hm; simp at this; omega⟩
  | 3, _ =>
    simp at b0 b1 b2
    have hs4 := short4 A m c b _ (HR.out.alloc (.cells #[.int .u8 kind, .int .u64 x, .slice A m c, .int .i64 most] 29)) hmc hc
    have hl6 : (b.take 60).length ≤ 60 := by simp; omega
    have he := HE.out
    rw [if_neg (by rw [HQ.out]; omega), if_neg (by rw [HQ.out]; omega), if_neg (by rw [HQ.out]; omega)] at he
    generalize b.take 60 = b6 at *
    have HS := Lib.hid hs4
    have HE3 := Lib.hid he
    clear hs4 he HE
    go_enter Try.func10, Try.ntmps10
    go_wp2_with fail
    refine HS.out.mono ?_
    rintro e w1 ⟨⟨rfl, hr1⟩, rfl⟩
    go_wp2_with fail
    refine (refBytes_any A _ c b6 _ hr1 (by omega)).mono ?_
    rintro e w1 ⟨A1, c1, rfl, hown, hk1, hnew⟩
    have HO := Lib.hid hown
    have hk0 : Kept [] w w1 := ((Kept.refl _ _).alloc _).trans hk1
    clear hown hr1
    go_wp2_with fail
    go_ret
    rw [← HE3.out]
    exact ⟨_, _, rfl, HO.out, hk0, fun k hm => by have := hnew k hm; simp at this; omega⟩

set_option maxHeartbeats 800000 in
theorem write4 (g : Nat) (A0 : Option Addr) (c0 : Nat) (err : Int) (bs : List UInt8) (room : Nat) (kind x : Nat) (A : Option Addr) (m c : Nat) (most : Int) (b : List UInt8) (w : World) (hW : IsW w g A0 c0 err bs room) (hbs : bs.length ≤ 100000) (hroom : room ≤ 9223372036854775807)
    (hk : kind < 256) (hx : x < 18446744073709551616) (hr : Reads w 1 A m (b.map B)) (hmc : m ≤ c) (hc : c ≤ maxLen) :
    Calls Try.prog 9 #[.pointer (some ⟨g, 0, none⟩), .agg #[.int .u8 kind, .int .u64 x, .slice A m c, .int .i64 most]] w fun e w' => e = .returned (.tuple #[]) ∧ WGoes w g A0 (putS (err, bs, room) (encT kind x b)) w' := by
  have HR := Lib.hid hr
  have HW : Hid (IsW (w.alloc (.cells #[.int .u8 kind, .int .u64 x, .slice A m c, .int .i64 most] 29)) g A0 c0 err bs room) := hW.kept ((Kept.refl [] w).alloc _) (by simp)
  clear hr hW
  obtain ⟨r, hr0⟩ : ∃ r, encT kind x b = r := ⟨_, rfl⟩
  rw [hr0]
  unfold encT at hr0
  have HE := Lib.hid hr0
  clear hr0
  obtain ⟨q, hq⟩ : ∃ q, kind % 4 = q := ⟨_, rfl⟩
  have hq4 : q < 4 := by omega
  have b0 := remB hq 0
  have b1 := remB hq 1
  have b2 := remB hq 2
  have HQ := Lib.hid hq
  clear hq
  match q, hq4 with
  | 0, _ =>
    simp at b0 b1 b2
    go_enter Try.func9, Try.ntmps9
    go_wp2_with fail
    refine (wbyte_any g A0 c0 err bs room _ _ HW.out (by omega) (by omega) (by omega) hroom).mono ?_
    rintro e w1 ⟨rfl, hgo⟩
    go_wp2_with fail
    go_end0
    rw [← HE.out, if_pos HQ.out]
    refine ⟨rfl, ?_⟩
    have e1 : ((x : Int) % 256).toNat = x % 256 := by omega
    rw [e1] at hgo
    exact hgo.ahead ((Kept.refl _ _).alloc _)
  | 1, _ =>
    simp at b0 b1 b2
    go_enter Try.func9, Try.ntmps9
    go_wp2_with fail
    refine (wnum_any g A0 c0 err bs room x _ HW.out hx (by omega) hroom).mono ?_
    rintro e w1 ⟨rfl, hgo⟩
    go_wp2_with fail
    go_end0
    rw [← HE.out, if_neg (by rw [HQ.out]; omega), if_pos HQ.out]
    exact ⟨rfl, hgo.ahead ((Kept.refl _ _).alloc _)⟩
  | 2, _ =>
    simp at b0 b1 b2
    have ht : ((x : Int) % 2 == 1) = (x % 2 == 1) := by rw [Bool.eq_iff_iff]; simp; omega
    generalize hb0 : (x % 2 == 1) = tb at *
    go_enter Try.func9, Try.ntmps9
    go_wp2_with fail
    refine (wtruth_any g A0 c0 err bs room tb _ HW.out (by omega) hroom).mono ?_
    rintro e w1 ⟨rfl, hgo⟩
    go_wp2_with fail
    go_end0
    rw [← HE.out, if_neg (by rw [HQ.out]; omega), if_neg (by rw [HQ.out]; omega), if_pos HQ.out]
    exact ⟨rfl, hgo.ahead ((Kept.refl _ _).alloc _)⟩
  | 3, _ =>
    simp at b0 b1 b2
    have hs4 := short4 A m c b _ (HR.out.alloc (.cells #[.int .u8 kind, .int .u64 x, .slice A m c, .int .i64 most] 29)) hmc hc
    have hl6 : (b.take 60).length ≤ 60 := by simp; omega
    have he := HE.out
    rw [if_neg (by rw [HQ.out]; omega), if_neg (by rw [HQ.out]; omega), if_neg (by rw [HQ.out]; omega)] at he
    generalize b.take 60 = b6 at *
    have HS := Lib.hid hs4
    have HE3 := Lib.hid he
    clear hs4 he HE
    go_enter Try.func9, Try.ntmps9
    go_wp2_with fail
    refine HS.out.mono ?_
    rintro e w1 ⟨⟨rfl, hr1⟩, rfl⟩
    go_wp2_with fail
    refine (wbytes_any g A0 c0 err bs room A _ c b6 _ HW.out hr1 (by omega) hroom).mono ?_
    rintro e w1 ⟨rfl, hgo⟩
    go_wp2_with fail
    go_end0
    rw [← HE3.out]
    exact ⟨rfl, hgo.ahead ((Kept.refl _ _).alloc _)⟩

end Go.Proofs.Ytmaiipglojpknaa
