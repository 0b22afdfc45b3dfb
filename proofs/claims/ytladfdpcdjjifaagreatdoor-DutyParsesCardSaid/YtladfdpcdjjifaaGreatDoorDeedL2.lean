/- Package deed: Line, a theorem for each op (printed by a program: gen/line.py). -/
import Derived.Test.YtladfdpcdjjifaaGreatDoorDeedL
import Derived.Deep.RegionWith
namespace Go.Proofs.YtladfdpcdjjifaaGreatDoor
open Go.RowKit
attribute [local go_sem ↓] Go.wp_at_zero Go.wp_at_succ

theorem goodD_ranges {d : Dd} (h : goodD d = true) : 0 ≤ d.a ∧ d.a < 64 ∧ 0 ≤ d.b ∧ d.b < 8 ∧ 0 ≤ d.r ∧ d.r < 8 ∧ 1 ≤ d.op ∧ d.op ≤ 11 := by
  simp only [goodD, Bool.and_eq_true, decide_eq_true_eq] at h
  omega
theorem nameD_len (op : Int) : (nameD op).length ≤ 6 := by
  unfold nameD; (repeat' split) <;> simp
theorem dec_len (x : Nat) (hx : x < 18446744073709551616) : (dec x).length ≤ 20 := by rw [← dec_digits x hx]; exact decDigits_len x hx

set_option maxHeartbeats 3200000 in
theorem line_op1 (a b r n m : Nat) (l : Bool) (w : World) (hg : goodD ⟨1, (a : Int), (b : Int), (r : Int), n, m, l⟩ = true) (ha : a < 64) (hb : b < 8) (hr : r < 8) (hn : n < 18446744073709551616) (hm : m < 18446744073709551616) (hP : HasPow w) :
    Calls Tryz.prog 75 #[.agg (dC 1 a b r n m l)] w fun e w' => e = .returned (strV (lineD ⟨1, (a : Int), (b : Int), (r : Int), n, m, l⟩)) ∧ Kept [] w w' := by
  have HG : Hid (∀ w, Calls Tryz.prog 61 #[.agg (dC 1 a b r n m l)] w fun e w' => e = .returned (.bool true) ∧ Kept [] w w') := fun w => by
    have := good_any 1 a b r n m l w
    rw [hg] at this
    exact this
  have HF : Hid (lineD ⟨1, (a : Int), (b : Int), (r : Int), n, m, l⟩ = (nameD 1 ++ 32 :: dec n)) := by rw [Hid, lineD, if_pos hg]; simp [partsL, pieceL]
  have HP := Lib.hid hP
  have hN := nameD_len 1
  have hdm : (hex m).length ≤ 16 := by rw [hex, hexN_len]; omega
  have hda := dec_len a (by omega)
  have hdb := dec_len b (by omega)
  have hdr := dec_len r (by omega)
  have hdn := dec_len n (by omega)
  have HNM := Lib.hid (fun w => name_any 1 w)
  have HH : Hid (∀ w, Calls Tryz.prog 48 #[.int .u64 m] w fun e w' => e = .returned (strV (hex m)) ∧ Kept [] w w') := fun w => hex_any m w hm
  have HLa : Hid (∀ g s w, Blk w g 9 #[strV s] → HasPow w → s.length ≤ 1000 → Calls Tryz.prog 97 #[.int .u64 a, .pointer (some ⟨g, 0, none⟩)] w fun e w' => e = .returned (.tuple #[]) ∧ Blk w' g 9 #[strV (s ++ 32 :: dec a)] ∧ Kept [g] w w') := fun g s w h1 h2 h3 => line1_any a g s w h1 (by omega) h2 h3
  have HLb : Hid (∀ g s w, Blk w g 9 #[strV s] → HasPow w → s.length ≤ 1000 → Calls Tryz.prog 97 #[.int .u64 b, .pointer (some ⟨g, 0, none⟩)] w fun e w' => e = .returned (.tuple #[]) ∧ Blk w' g 9 #[strV (s ++ 32 :: dec b)] ∧ Kept [g] w w') := fun g s w h1 h2 h3 => line1_any b g s w h1 (by omega) h2 h3
  have HLr : Hid (∀ g s w, Blk w g 9 #[strV s] → HasPow w → s.length ≤ 1000 → Calls Tryz.prog 97 #[.int .u64 r, .pointer (some ⟨g, 0, none⟩)] w fun e w' => e = .returned (.tuple #[]) ∧ Blk w' g 9 #[strV (s ++ 32 :: dec r)] ∧ Kept [g] w w') := fun g s w h1 h2 h3 => line1_any r g s w h1 (by omega) h2 h3
  have HLn : Hid (∀ g s w, Blk w g 9 #[strV s] → HasPow w → s.length ≤ 1000 → Calls Tryz.prog 97 #[.int .u64 n, .pointer (some ⟨g, 0, none⟩)] w fun e w' => e = .returned (.tuple #[]) ∧ Blk w' g 9 #[strV (s ++ 32 :: dec n)] ∧ Kept [g] w w') := fun g s w h1 h2 h3 => line1_any n g s w h1 (by omega) h2 h3
  generalize nameD 1 = nm at *
  generalize hex m = xm at *
  generalize dec a = xa at *
  generalize dec b = xb at *
  generalize dec r = xr at *
  generalize dec n = xn at *
  clear hP hg
  go_enter Tryz.func75, Tryz.ntmps75
  go_wp2_with fail
  refine (HG.out _).mono ?_
  rintro e w1 ⟨rfl, hk1⟩
  have hB := (Blk.new w 60 (dC 1 a b r n m l)).kept hk1 (by simp)
  have hc := hB.cell
  have hlt := hB.lt
  have HB := Lib.hid hB
  have HK := Lib.hid (((Kept.refl [] w).alloc _).trans hk1)
  clear hB hk1
  go_wp2_with fail
  refine (HNM.out _).mono ?_
  rintro e w1' ⟨rfl, rfl⟩
  have hS1 : Blk (w1.alloc (.cells #[strV nm] 9)) w1.heap.size 9 #[strV nm] := Blk.new _ _ _
  have HS1 := Lib.hid hS1
  have HB1 := Lib.hid (HB.out.alloc (.cells #[strV nm] 9))
  have HK1 := Lib.hid (HK.out.alloc (.cells #[strV nm] 9))
  clear hS1
  go_wp2_with fail
  refine (HLn.out _ (nm) _ HS1.out (by exact HP.out.old HK1.out) (by (try simp only [List.length_append, List.length_cons]); omega)).mono ?_
  rintro e w2 ⟨rfl, hS, hk⟩
  have HS2 := Lib.hid hS
  have HB2 := Lib.hid (HB1.out.kept hk (by simp; omega))
  have HK2 := Lib.hid (HK1.out.trans' hk (fun j hj => .inr (by simp at hj; omega)))
  clear hS hk
  have hc2 := HB2.out.cell
  have hs2 := HS2.out.cell
  have hl2 := HS2.out.lt
  go_wp2_with fail
  go_ret
  refine ⟨?_, by first | exact HK2.out | exact HK2.out.setCell (.inr (by simp only; omega)) _⟩
  rw [HF.out]
  exact ret_str (by simp)

set_option maxHeartbeats 3200000 in
theorem line_op2_true (a b r n m : Nat) (w : World) (hg : goodD ⟨2, (a : Int), (b : Int), (r : Int), n, m, true⟩ = true) (ha : a < 64) (hb : b < 8) (hr : r < 8) (hn : n < 18446744073709551616) (hm : m < 18446744073709551616) (hP : HasPow w) :
    Calls Tryz.prog 75 #[.agg (dC 2 a b r n m true)] w fun e w' => e = .returned (strV (lineD ⟨2, (a : Int), (b : Int), (r : Int), n, m, true⟩)) ∧ Kept [] w w' := by
  have HG : Hid (∀ w, Calls Tryz.prog 61 #[.agg (dC 2 a b r n m true)] w fun e w' => e = .returned (.bool true) ∧ Kept [] w w') := fun w => by
    have := good_any 2 a b r n m true w
    rw [hg] at this
    exact this
  have HF : Hid (lineD ⟨2, (a : Int), (b : Int), (r : Int), n, m, true⟩ = (((((nameD 2 ++ 32 :: dec a) ++ 32 :: dec b) ++ 32 :: dec r) ++ 32 :: hex m) ++ [32, 108, 111, 111, 115, 101])) := by rw [Hid, lineD, if_pos hg]; simp [partsL, pieceL]
  have HP := Lib.hid hP
  have hN := nameD_len 2
  have hdm : (hex m).length ≤ 16 := by rw [hex, hexN_len]; omega
  have hda := dec_len a (by omega)
  have hdb := dec_len b (by omega)
  have hdr := dec_len r (by omega)
  have hdn := dec_len n (by omega)
  have HNM := Lib.hid (fun w => name_any 2 w)
  have HH : Hid (∀ w, Calls Tryz.prog 48 #[.int .u64 m] w fun e w' => e = .returned (strV (hex m)) ∧ Kept [] w w') := fun w => hex_any m w hm
  have HLa : Hid (∀ g s w, Blk w g 9 #[strV s] → HasPow w → s.length ≤ 1000 → Calls Tryz.prog 97 #[.int .u64 a, .pointer (some ⟨g, 0, none⟩)] w fun e w' => e = .returned (.tuple #[]) ∧ Blk w' g 9 #[strV (s ++ 32 :: dec a)] ∧ Kept [g] w w') := fun g s w h1 h2 h3 => line1_any a g s w h1 (by omega) h2 h3
  have HLb : Hid (∀ g s w, Blk w g 9 #[strV s] → HasPow w → s.length ≤ 1000 → Calls Tryz.prog 97 #[.int .u64 b, .pointer (some ⟨g, 0, none⟩)] w fun e w' => e = .returned (.tuple #[]) ∧ Blk w' g 9 #[strV (s ++ 32 :: dec b)] ∧ Kept [g] w w') := fun g s w h1 h2 h3 => line1_any b g s w h1 (by omega) h2 h3
  have HLr : Hid (∀ g s w, Blk w g 9 #[strV s] → HasPow w → s.length ≤ 1000 → Calls Tryz.prog 97 #[.int .u64 r, .pointer (some ⟨g, 0, none⟩)] w fun e w' => e = .returned (.tuple #[]) ∧ Blk w' g 9 #[strV (s ++ 32 :: dec r)] ∧ Kept [g] w w') := fun g s w h1 h2 h3 => line1_any r g s w h1 (by omega) h2 h3
  have HLn : Hid (∀ g s w, Blk w g 9 #[strV s] → HasPow w → s.length ≤ 1000 → Calls Tryz.prog 97 #[.int .u64 n, .pointer (some ⟨g, 0, none⟩)] w fun e w' => e = .returned (.tuple #[]) ∧ Blk w' g 9 #[strV (s ++ 32 :: dec n)] ∧ Kept [g] w w') := fun g s w h1 h2 h3 => line1_any n g s w h1 (by omega) h2 h3
  generalize nameD 2 = nm at *
  generalize hex m = xm at *
  generalize dec a = xa at *
  generalize dec b = xb at *
  generalize dec r = xr at *
  generalize dec n = xn at *
  clear hP hg
  go_enter Tryz.func75, Tryz.ntmps75
  go_wp2_with fail
  refine (HG.out _).mono ?_
  rintro e w1 ⟨rfl, hk1⟩
  have hB := (Blk.new w 60 (dC 2 a b r n m true)).kept hk1 (by simp)
  have hc := hB.cell
  have hlt := hB.lt
  have HB := Lib.hid hB
  have HK := Lib.hid (((Kept.refl [] w).alloc _).trans hk1)
  clear hB hk1
  go_wp2_with fail
  refine (HNM.out _).mono ?_
  rintro e w1' ⟨rfl, rfl⟩
  have hS1 : Blk (w1.alloc (.cells #[strV nm] 9)) w1.heap.size 9 #[strV nm] := Blk.new _ _ _
  have HS1 := Lib.hid hS1
  have HB1 := Lib.hid (HB.out.alloc (.cells #[strV nm] 9))
  have HK1 := Lib.hid (HK.out.alloc (.cells #[strV nm] 9))
  clear hS1
  go_wp2_with fail
  refine (HLa.out _ (nm) _ HS1.out (by exact HP.out.old HK1.out) (by (try simp only [List.length_append, List.length_cons]); omega)).mono ?_
  rintro e w2 ⟨rfl, hS, hk⟩
  have HS2 := Lib.hid hS
  have HB2 := Lib.hid (HB1.out.kept hk (by simp; omega))
  have HK2 := Lib.hid (HK1.out.trans' hk (fun j hj => .inr (by simp at hj; omega)))
  clear hS hk
  have hc2 := HB2.out.cell
  have hs2 := HS2.out.cell
  have hl2 := HS2.out.lt
  have hf2 := HS2.out.frozen
  go_wp2_with fail
  refine (HLb.out _ (nm ++ 32 :: xa) _ HS2.out (by exact HP.out.old HK2.out) (by (try simp only [List.length_append, List.length_cons]); omega)).mono ?_
  rintro e w3 ⟨rfl, hS, hk⟩
  have HS3 := Lib.hid hS
  have HB3 := Lib.hid (HB2.out.kept hk (by simp; omega))
  have HK3 := Lib.hid (HK2.out.trans' hk (fun j hj => .inr (by simp at hj; omega)))
  clear hS hk
  clear hc2 hs2 hl2
  have hc3 := HB3.out.cell
  have hs3 := HS3.out.cell
  have hl3 := HS3.out.lt
  have hf3 := HS3.out.frozen
  go_wp2_with fail
  refine (HLr.out _ ((nm ++ 32 :: xa) ++ 32 :: xb) _ HS3.out (by exact HP.out.old HK3.out) (by (try simp only [List.length_append, List.length_cons]); omega)).mono ?_
  rintro e w4 ⟨rfl, hS, hk⟩
  have HS4 := Lib.hid hS
  have HB4 := Lib.hid (HB3.out.kept hk (by simp; omega))
  have HK4 := Lib.hid (HK3.out.trans' hk (fun j hj => .inr (by simp at hj; omega)))
  clear hS hk
  clear hc3 hs3 hl3
  have hc4 := HB4.out.cell
  have hs4 := HS4.out.cell
  have hl4 := HS4.out.lt
  have hf4 := HS4.out.frozen
  go_wp2_with fail
  go_region_with (first | (go_at_call 48; refine (HH.out _).mono ?_; rintro e w4h ⟨rfl, hkh⟩; have hSh := HS4.out.drew.kept hkh (by simp); have hBh := HB4.out.drew.kept hkh (by simp); have hch := hBh.cell; have hsh := hSh.cell; have hfh := hSh.frozen; have HSh := Lib.hid hSh; have HBh := Lib.hid hBh; have HKh := Lib.hid ((HK4.out.drew).trans hkh); clear hSh hBh hkh))
  all_goals
    have eh : (⟨(nm ++ 32 :: (xa ++ 32 :: (xb ++ 32 :: (xr)))).toArray⟩ : ByteArray) ++ (⟨#[32]⟩ ++ ⟨xm.toArray⟩) = ⟨(nm ++ 32 :: (xa ++ 32 :: (xb ++ 32 :: (xr ++ 32 :: (xm))))).toArray⟩ := by rw [show (⟨#[32]⟩ : ByteArray) ++ ⟨xm.toArray⟩ = ⟨([32] ++ xm).toArray⟩ from str_append [32] xm, str_append]; simp
    rw [eh]
    clear eh
    have hS := HSh.out.set 0 (strV (nm ++ 32 :: (xa ++ 32 :: (xb ++ 32 :: (xr ++ 32 :: (xm))))))
    have hB2 := HBh.out.far (p := ⟨w1.heap.size, 0, none⟩) (by simp only; omega) (strV (nm ++ 32 :: (xa ++ 32 :: (xb ++ 32 :: (xr ++ 32 :: (xm))))))
    have hK2 := HKh.out.setCell (p := ⟨w1.heap.size, 0, none⟩) (.inr (by simp only; omega)) (strV (nm ++ 32 :: (xa ++ 32 :: (xb ++ 32 :: (xr ++ 32 :: (xm))))))
    have hS2 : Blk (w4h.setCell ⟨w1.heap.size, 0, none⟩ (strV (nm ++ 32 :: (xa ++ 32 :: (xb ++ 32 :: (xr ++ 32 :: (xm))))))) w1.heap.size 9 #[strV (nm ++ 32 :: (xa ++ 32 :: (xb ++ 32 :: (xr ++ 32 :: (xm)))))] := hS
    clear hS hch hsh hfh HSh HBh HKh
    have HS5 := Lib.hid hS2
    have HB5 := Lib.hid hB2
    have HK5 := Lib.hid hK2
    clear hS2 hB2 hK2
    generalize w4h.setCell ⟨w1.heap.size, 0, none⟩ (strV (nm ++ 32 :: (xa ++ 32 :: (xb ++ 32 :: (xr ++ 32 :: (xm)))))) = w5 at *
    clear hc4 hs4 hl4
    have hc5 := HB5.out.cell
    have hs5 := HS5.out.cell
    have hl5 := HS5.out.lt
    have hf5 := HS5.out.frozen
    go_wp2_with fail
    go_ret
    refine ⟨?_, by first | exact HK5.out | exact HK5.out.setCell (.inr (by simp only; omega)) _⟩
    rw [HF.out]
    refine ret_str ?_
    rw [show (⟨#[32, 108, 111, 111, 115, 101]⟩ : ByteArray) = ⟨([32, 108, 111, 111, 115, 101] : List UInt8).toArray⟩ from rfl, str_append]
    simp

set_option maxHeartbeats 3200000 in
theorem line_op2_false (a b r n m : Nat) (w : World) (hg : goodD ⟨2, (a : Int), (b : Int), (r : Int), n, m, false⟩ = true) (ha : a < 64) (hb : b < 8) (hr : r < 8) (hn : n < 18446744073709551616) (hm : m < 18446744073709551616) (hP : HasPow w) :
    Calls Tryz.prog 75 #[.agg (dC 2 a b r n m false)] w fun e w' => e = .returned (strV (lineD ⟨2, (a : Int), (b : Int), (r : Int), n, m, false⟩)) ∧ Kept [] w w' := by
  have HG : Hid (∀ w, Calls Tryz.prog 61 #[.agg (dC 2 a b r n m false)] w fun e w' => e = .returned (.bool true) ∧ Kept [] w w') := fun w => by
    have := good_any 2 a b r n m false w
    rw [hg] at this
    exact this
  have HF : Hid (lineD ⟨2, (a : Int), (b : Int), (r : Int), n, m, false⟩ = ((((nameD 2 ++ 32 :: dec a) ++ 32 :: dec b) ++ 32 :: dec r) ++ 32 :: hex m)) := by rw [Hid, lineD, if_pos hg]; simp [partsL, pieceL]
  have HP := Lib.hid hP
  have hN := nameD_len 2
  have hdm : (hex m).length ≤ 16 := by rw [hex, hexN_len]; omega
  have hda := dec_len a (by omega)
  have hdb := dec_len b (by omega)
  have hdr := dec_len r (by omega)
  have hdn := dec_len n (by omega)
  have HNM := Lib.hid (fun w => name_any 2 w)
  have HH : Hid (∀ w, Calls Tryz.prog 48 #[.int .u64 m] w fun e w' => e = .returned (strV (hex m)) ∧ Kept [] w w') := fun w => hex_any m w hm
  have HLa : Hid (∀ g s w, Blk w g 9 #[strV s] → HasPow w → s.length ≤ 1000 → Calls Tryz.prog 97 #[.int .u64 a, .pointer (some ⟨g, 0, none⟩)] w fun e w' => e = .returned (.tuple #[]) ∧ Blk w' g 9 #[strV (s ++ 32 :: dec a)] ∧ Kept [g] w w') := fun g s w h1 h2 h3 => line1_any a g s w h1 (by omega) h2 h3
  have HLb : Hid (∀ g s w, Blk w g 9 #[strV s] → HasPow w → s.length ≤ 1000 → Calls Tryz.prog 97 #[.int .u64 b, .pointer (some ⟨g, 0, none⟩)] w fun e w' => e = .returned (.tuple #[]) ∧ Blk w' g 9 #[strV (s ++ 32 :: dec b)] ∧ Kept [g] w w') := fun g s w h1 h2 h3 => line1_any b g s w h1 (by omega) h2 h3
  have HLr : Hid (∀ g s w, Blk w g 9 #[strV s] → HasPow w → s.length ≤ 1000 → Calls Tryz.prog 97 #[.int .u64 r, .pointer (some ⟨g, 0, none⟩)] w fun e w' => e = .returned (.tuple #[]) ∧ Blk w' g 9 #[strV (s ++ 32 :: dec r)] ∧ Kept [g] w w') := fun g s w h1 h2 h3 => line1_any r g s w h1 (by omega) h2 h3
  have HLn : Hid (∀ g s w, Blk w g 9 #[strV s] → HasPow w → s.length ≤ 1000 → Calls Tryz.prog 97 #[.int .u64 n, .pointer (some ⟨g, 0, none⟩)] w fun e w' => e = .returned (.tuple #[]) ∧ Blk w' g 9 #[strV (s ++ 32 :: dec n)] ∧ Kept [g] w w') := fun g s w h1 h2 h3 => line1_any n g s w h1 (by omega) h2 h3
  generalize nameD 2 = nm at *
  generalize hex m = xm at *
  generalize dec a = xa at *
  generalize dec b = xb at *
  generalize dec r = xr at *
  generalize dec n = xn at *
  clear hP hg
  go_enter Tryz.func75, Tryz.ntmps75
  go_wp2_with fail
  refine (HG.out _).mono ?_
  rintro e w1 ⟨rfl, hk1⟩
  have hB := (Blk.new w 60 (dC 2 a b r n m false)).kept hk1 (by simp)
  have hc := hB.cell
  have hlt := hB.lt
  have HB := Lib.hid hB
  have HK := Lib.hid (((Kept.refl [] w).alloc _).trans hk1)
  clear hB hk1
  go_wp2_with fail
  refine (HNM.out _).mono ?_
  rintro e w1' ⟨rfl, rfl⟩
  have hS1 : Blk (w1.alloc (.cells #[strV nm] 9)) w1.heap.size 9 #[strV nm] := Blk.new _ _ _
  have HS1 := Lib.hid hS1
  have HB1 := Lib.hid (HB.out.alloc (.cells #[strV nm] 9))
  have HK1 := Lib.hid (HK.out.alloc (.cells #[strV nm] 9))
  clear hS1
  go_wp2_with fail
  refine (HLa.out _ (nm) _ HS1.out (by exact HP.out.old HK1.out) (by (try simp only [List.length_append, List.length_cons]); omega)).mono ?_
  rintro e w2 ⟨rfl, hS, hk⟩
  have HS2 := Lib.hid hS
  have HB2 := Lib.hid (HB1.out.kept hk (by simp; omega))
  have HK2 := Lib.hid (HK1.out.trans' hk (fun j hj => .inr (by simp at hj; omega)))
  clear hS hk
  have hc2 := HB2.out.cell
  have hs2 := HS2.out.cell
  have hl2 := HS2.out.lt
  go_wp2_with fail
  refine (HLb.out _ (nm ++ 32 :: xa) _ HS2.out (by exact HP.out.old HK2.out) (by (try simp only [List.length_append, List.length_cons]); omega)).mono ?_
  rintro e w3 ⟨rfl, hS, hk⟩
  have HS3 := Lib.hid hS
  have HB3 := Lib.hid (HB2.out.kept hk (by simp; omega))
  have HK3 := Lib.hid (HK2.out.trans' hk (fun j hj => .inr (by simp at hj; omega)))
  clear hS hk
  clear hc2 hs2 hl2
  have hc3 := HB3.out.cell
  have hs3 := HS3.out.cell
  have hl3 := HS3.out.lt
  go_wp2_with fail
  refine (HLr.out _ ((nm ++ 32 :: xa) ++ 32 :: xb) _ HS3.out (by exact HP.out.old HK3.out) (by (try simp only [List.length_append, List.length_cons]); omega)).mono ?_
  rintro e w4 ⟨rfl, hS, hk⟩
  have HS4 := Lib.hid hS
  have HB4 := Lib.hid (HB3.out.kept hk (by simp; omega))
  have HK4 := Lib.hid (HK3.out.trans' hk (fun j hj => .inr (by simp at hj; omega)))
  clear hS hk
  clear hc3 hs3 hl3
  have hc4 := HB4.out.cell
  have hs4 := HS4.out.cell
  have hl4 := HS4.out.lt
  go_wp2_with fail
  go_region_with (first | (go_at_call 48; refine (HH.out _).mono ?_; rintro e w4h ⟨rfl, hkh⟩; have hSh := HS4.out.drew.kept hkh (by simp); have hBh := HB4.out.drew.kept hkh (by simp); have hch := hBh.cell; have hsh := hSh.cell; have hfh := hSh.frozen; have HSh := Lib.hid hSh; have HBh := Lib.hid hBh; have HKh := Lib.hid ((HK4.out.drew).trans hkh); clear hSh hBh hkh))
  all_goals
    have eh : (⟨(nm ++ 32 :: (xa ++ 32 :: (xb ++ 32 :: (xr)))).toArray⟩ : ByteArray) ++ (⟨#[32]⟩ ++ ⟨xm.toArray⟩) = ⟨(nm ++ 32 :: (xa ++ 32 :: (xb ++ 32 :: (xr ++ 32 :: (xm))))).toArray⟩ := by rw [show (⟨#[32]⟩ : ByteArray) ++ ⟨xm.toArray⟩ = ⟨([32] ++ xm).toArray⟩ from str_append [32] xm, str_append]; simp
    rw [eh]
    clear eh
    have hS := HSh.out.set 0 (strV (nm ++ 32 :: (xa ++ 32 :: (xb ++ 32 :: (xr ++ 32 :: (xm))))))
    have hB2 := HBh.out.far (p := ⟨w1.heap.size, 0, none⟩) (by simp only; omega) (strV (nm ++ 32 :: (xa ++ 32 :: (xb ++ 32 :: (xr ++ 32 :: (xm))))))
    have hK2 := HKh.out.setCell (p := ⟨w1.heap.size, 0, none⟩) (.inr (by simp only; omega)) (strV (nm ++ 32 :: (xa ++ 32 :: (xb ++ 32 :: (xr ++ 32 :: (xm))))))
    have hS2 : Blk (w4h.setCell ⟨w1.heap.size, 0, none⟩ (strV (nm ++ 32 :: (xa ++ 32 :: (xb ++ 32 :: (xr ++ 32 :: (xm))))))) w1.heap.size 9 #[strV (nm ++ 32 :: (xa ++ 32 :: (xb ++ 32 :: (xr ++ 32 :: (xm)))))] := hS
    clear hS hch hsh hfh HSh HBh HKh
    have HS5 := Lib.hid hS2
    have HB5 := Lib.hid hB2
    have HK5 := Lib.hid hK2
    clear hS2 hB2 hK2
    generalize w4h.setCell ⟨w1.heap.size, 0, none⟩ (strV (nm ++ 32 :: (xa ++ 32 :: (xb ++ 32 :: (xr ++ 32 :: (xm)))))) = w5 at *
    clear hc4 hs4 hl4
    have hc5 := HB5.out.cell
    have hs5 := HS5.out.cell
    have hl5 := HS5.out.lt
    go_wp2_with fail
    go_ret
    refine ⟨?_, by first | exact HK5.out | exact HK5.out.setCell (.inr (by simp only; omega)) _⟩
    rw [HF.out]
    exact ret_str (by simp)

set_option maxHeartbeats 3200000 in
theorem line_op3 (a b r n m : Nat) (l : Bool) (w : World) (hg : goodD ⟨3, (a : Int), (b : Int), (r : Int), n, m, l⟩ = true) (ha : a < 64) (hb : b < 8) (hr : r < 8) (hn : n < 18446744073709551616) (hm : m < 18446744073709551616) (hP : HasPow w) :
    Calls Tryz.prog 75 #[.agg (dC 3 a b r n m l)] w fun e w' => e = .returned (strV (lineD ⟨3, (a : Int), (b : Int), (r : Int), n, m, l⟩)) ∧ Kept [] w w' := by
  have HG : Hid (∀ w, Calls Tryz.prog 61 #[.agg (dC 3 a b r n m l)] w fun e w' => e = .returned (.bool true) ∧ Kept [] w w') := fun w => by
    have := good_any 3 a b r n m l w
    rw [hg] at this
    exact this
  have HF : Hid (lineD ⟨3, (a : Int), (b : Int), (r : Int), n, m, l⟩ = (nameD 3 ++ 32 :: dec n)) := by rw [Hid, lineD, if_pos hg]; simp [partsL, pieceL]
  have HP := Lib.hid hP
  have hN := nameD_len 3
  have hdm : (hex m).length ≤ 16 := by rw [hex, hexN_len]; omega
  have hda := dec_len a (by omega)
  have hdb := dec_len b (by omega)
  have hdr := dec_len r (by omega)
  have hdn := dec_len n (by omega)
  have HNM := Lib.hid (fun w => name_any 3 w)
  have HH : Hid (∀ w, Calls Tryz.prog 48 #[.int .u64 m] w fun e w' => e = .returned (strV (hex m)) ∧ Kept [] w w') := fun w => hex_any m w hm
  have HLa : Hid (∀ g s w, Blk w g 9 #[strV s] → HasPow w → s.length ≤ 1000 → Calls Tryz.prog 97 #[.int .u64 a, .pointer (some ⟨g, 0, none⟩)] w fun e w' => e = .returned (.tuple #[]) ∧ Blk w' g 9 #[strV (s ++ 32 :: dec a)] ∧ Kept [g] w w') := fun g s w h1 h2 h3 => line1_any a g s w h1 (by omega) h2 h3
  have HLb : Hid (∀ g s w, Blk w g 9 #[strV s] → HasPow w → s.length ≤ 1000 → Calls Tryz.prog 97 #[.int .u64 b, .pointer (some ⟨g, 0, none⟩)] w fun e w' => e = .returned (.tuple #[]) ∧ Blk w' g 9 #[strV (s ++ 32 :: dec b)] ∧ Kept [g] w w') := fun g s w h1 h2 h3 => line1_any b g s w h1 (by omega) h2 h3
  have HLr : Hid (∀ g s w, Blk w g 9 #[strV s] → HasPow w → s.length ≤ 1000 → Calls Tryz.prog 97 #[.int .u64 r, .pointer (some ⟨g, 0, none⟩)] w fun e w' => e = .returned (.tuple #[]) ∧ Blk w' g 9 #[strV (s ++ 32 :: dec r)] ∧ Kept [g] w w') := fun g s w h1 h2 h3 => line1_any r g s w h1 (by omega) h2 h3
  have HLn : Hid (∀ g s w, Blk w g 9 #[strV s] → HasPow w → s.length ≤ 1000 → Calls Tryz.prog 97 #[.int .u64 n, .pointer (some ⟨g, 0, none⟩)] w fun e w' => e = .returned (.tuple #[]) ∧ Blk w' g 9 #[strV (s ++ 32 :: dec n)] ∧ Kept [g] w w') := fun g s w h1 h2 h3 => line1_any n g s w h1 (by omega) h2 h3
  generalize nameD 3 = nm at *
  generalize hex m = xm at *
  generalize dec a = xa at *
  generalize dec b = xb at *
  generalize dec r = xr at *
  generalize dec n = xn at *
  clear hP hg
  go_enter Tryz.func75, Tryz.ntmps75
  go_wp2_with fail
  refine (HG.out _).mono ?_
  rintro e w1 ⟨rfl, hk1⟩
  have hB := (Blk.new w 60 (dC 3 a b r n m l)).kept hk1 (by simp)
  have hc := hB.cell
  have hlt := hB.lt
  have HB := Lib.hid hB
  have HK := Lib.hid (((Kept.refl [] w).alloc _).trans hk1)
  clear hB hk1
  go_wp2_with fail
  refine (HNM.out _).mono ?_
  rintro e w1' ⟨rfl, rfl⟩
  have hS1 : Blk (w1.alloc (.cells #[strV nm] 9)) w1.heap.size 9 #[strV nm] := Blk.new _ _ _
  have HS1 := Lib.hid hS1
  have HB1 := Lib.hid (HB.out.alloc (.cells #[strV nm] 9))
  have HK1 := Lib.hid (HK.out.alloc (.cells #[strV nm] 9))
  clear hS1
  go_wp2_with fail
  refine (HLn.out _ (nm) _ HS1.out (by exact HP.out.old HK1.out) (by (try simp only [List.length_append, List.length_cons]); omega)).mono ?_
  rintro e w2 ⟨rfl, hS, hk⟩
  have HS2 := Lib.hid hS
  have HB2 := Lib.hid (HB1.out.kept hk (by simp; omega))
  have HK2 := Lib.hid (HK1.out.trans' hk (fun j hj => .inr (by simp at hj; omega)))
  clear hS hk
  have hc2 := HB2.out.cell
  have hs2 := HS2.out.cell
  have hl2 := HS2.out.lt
  go_wp2_with fail
  go_ret
  refine ⟨?_, by first | exact HK2.out | exact HK2.out.setCell (.inr (by simp only; omega)) _⟩
  rw [HF.out]
  exact ret_str (by simp)

set_option maxHeartbeats 3200000 in
theorem line_op4 (a b r n m : Nat) (l : Bool) (w : World) (hg : goodD ⟨4, (a : Int), (b : Int), (r : Int), n, m, l⟩ = true) (ha : a < 64) (hb : b < 8) (hr : r < 8) (hn : n < 18446744073709551616) (hm : m < 18446744073709551616) (hP : HasPow w) :
    Calls Tryz.prog 75 #[.agg (dC 4 a b r n m l)] w fun e w' => e = .returned (strV (lineD ⟨4, (a : Int), (b : Int), (r : Int), n, m, l⟩)) ∧ Kept [] w w' := by
  have HG : Hid (∀ w, Calls Tryz.prog 61 #[.agg (dC 4 a b r n m l)] w fun e w' => e = .returned (.bool true) ∧ Kept [] w w') := fun w => by
    have := good_any 4 a b r n m l w
    rw [hg] at this
    exact this
  have HF : Hid (lineD ⟨4, (a : Int), (b : Int), (r : Int), n, m, l⟩ = (nameD 4 ++ 32 :: dec r)) := by rw [Hid, lineD, if_pos hg]; simp [partsL, pieceL]
  have HP := Lib.hid hP
  have hN := nameD_len 4
  have hdm : (hex m).length ≤ 16 := by rw [hex, hexN_len]; omega
  have hda := dec_len a (by omega)
  have hdb := dec_len b (by omega)
  have hdr := dec_len r (by omega)
  have hdn := dec_len n (by omega)
  have HNM := Lib.hid (fun w => name_any 4 w)
  have HH : Hid (∀ w, Calls Tryz.prog 48 #[.int .u64 m] w fun e w' => e = .returned (strV (hex m)) ∧ Kept [] w w') := fun w => hex_any m w hm
  have HLa : Hid (∀ g s w, Blk w g 9 #[strV s] → HasPow w → s.length ≤ 1000 → Calls Tryz.prog 97 #[.int .u64 a, .pointer (some ⟨g, 0, none⟩)] w fun e w' => e = .returned (.tuple #[]) ∧ Blk w' g 9 #[strV (s ++ 32 :: dec a)] ∧ Kept [g] w w') := fun g s w h1 h2 h3 => line1_any a g s w h1 (by omega) h2 h3
  have HLb : Hid (∀ g s w, Blk w g 9 #[strV s] → HasPow w → s.length ≤ 1000 → Calls Tryz.prog 97 #[.int .u64 b, .pointer (some ⟨g, 0, none⟩)] w fun e w' => e = .returned (.tuple #[]) ∧ Blk w' g 9 #[strV (s ++ 32 :: dec b)] ∧ Kept [g] w w') := fun g s w h1 h2 h3 => line1_any b g s w h1 (by omega) h2 h3
  have HLr : Hid (∀ g s w, Blk w g 9 #[strV s] → HasPow w → s.length ≤ 1000 → Calls Tryz.prog 97 #[.int .u64 r, .pointer (some ⟨g, 0, none⟩)] w fun e w' => e = .returned (.tuple #[]) ∧ Blk w' g 9 #[strV (s ++ 32 :: dec r)] ∧ Kept [g] w w') := fun g s w h1 h2 h3 => line1_any r g s w h1 (by omega) h2 h3
  have HLn : Hid (∀ g s w, Blk w g 9 #[strV s] → HasPow w → s.length ≤ 1000 → Calls Tryz.prog 97 #[.int .u64 n, .pointer (some ⟨g, 0, none⟩)] w fun e w' => e = .returned (.tuple #[]) ∧ Blk w' g 9 #[strV (s ++ 32 :: dec n)] ∧ Kept [g] w w') := fun g s w h1 h2 h3 => line1_any n g s w h1 (by omega) h2 h3
  generalize nameD 4 = nm at *
  generalize hex m = xm at *
  generalize dec a = xa at *
  generalize dec b = xb at *
  generalize dec r = xr at *
  generalize dec n = xn at *
  clear hP hg
  go_enter Tryz.func75, Tryz.ntmps75
  go_wp2_with fail
  refine (HG.out _).mono ?_
  rintro e w1 ⟨rfl, hk1⟩
  have hB := (Blk.new w 60 (dC 4 a b r n m l)).kept hk1 (by simp)
  have hc := hB.cell
  have hlt := hB.lt
  have HB := Lib.hid hB
  have HK := Lib.hid (((Kept.refl [] w).alloc _).trans hk1)
  clear hB hk1
  go_wp2_with fail
  refine (HNM.out _).mono ?_
  rintro e w1' ⟨rfl, rfl⟩
  have hS1 : Blk (w1.alloc (.cells #[strV nm] 9)) w1.heap.size 9 #[strV nm] := Blk.new _ _ _
  have HS1 := Lib.hid hS1
  have HB1 := Lib.hid (HB.out.alloc (.cells #[strV nm] 9))
  have HK1 := Lib.hid (HK.out.alloc (.cells #[strV nm] 9))
  clear hS1
  go_wp2_with fail
  refine (HLr.out _ (nm) _ HS1.out (by exact HP.out.old HK1.out) (by (try simp only [List.length_append, List.length_cons]); omega)).mono ?_
  rintro e w2 ⟨rfl, hS, hk⟩
  have HS2 := Lib.hid hS
  have HB2 := Lib.hid (HB1.out.kept hk (by simp; omega))
  have HK2 := Lib.hid (HK1.out.trans' hk (fun j hj => .inr (by simp at hj; omega)))
  clear hS hk
  have hc2 := HB2.out.cell
  have hs2 := HS2.out.cell
  have hl2 := HS2.out.lt
  go_wp2_with fail
  go_ret
  refine ⟨?_, by first | exact HK2.out | exact HK2.out.setCell (.inr (by simp only; omega)) _⟩
  rw [HF.out]
  exact ret_str (by simp)

set_option maxHeartbeats 3200000 in
theorem line_op5 (a b r n m : Nat) (l : Bool) (w : World) (hg : goodD ⟨5, (a : Int), (b : Int), (r : Int), n, m, l⟩ = true) (ha : a < 64) (hb : b < 8) (hr : r < 8) (hn : n < 18446744073709551616) (hm : m < 18446744073709551616) (hP : HasPow w) :
    Calls Tryz.prog 75 #[.agg (dC 5 a b r n m l)] w fun e w' => e = .returned (strV (lineD ⟨5, (a : Int), (b : Int), (r : Int), n, m, l⟩)) ∧ Kept [] w w' := by
  have HG : Hid (∀ w, Calls Tryz.prog 61 #[.agg (dC 5 a b r n m l)] w fun e w' => e = .returned (.bool true) ∧ Kept [] w w') := fun w => by
    have := good_any 5 a b r n m l w
    rw [hg] at this
    exact this
  have HF : Hid (lineD ⟨5, (a : Int), (b : Int), (r : Int), n, m, l⟩ = nameD 5) := by rw [Hid, lineD, if_pos hg]; simp [partsL]
  have HP := Lib.hid hP
  have hN := nameD_len 5
  have hdm : (hex m).length ≤ 16 := by rw [hex, hexN_len]; omega
  have hda := dec_len a (by omega)
  have hdb := dec_len b (by omega)
  have hdr := dec_len r (by omega)
  have hdn := dec_len n (by omega)
  have HNM := Lib.hid (fun w => name_any 5 w)
  have HH : Hid (∀ w, Calls Tryz.prog 48 #[.int .u64 m] w fun e w' => e = .returned (strV (hex m)) ∧ Kept [] w w') := fun w => hex_any m w hm
  have HLa : Hid (∀ g s w, Blk w g 9 #[strV s] → HasPow w → s.length ≤ 1000 → Calls Tryz.prog 97 #[.int .u64 a, .pointer (some ⟨g, 0, none⟩)] w fun e w' => e = .returned (.tuple #[]) ∧ Blk w' g 9 #[strV (s ++ 32 :: dec a)] ∧ Kept [g] w w') := fun g s w h1 h2 h3 => line1_any a g s w h1 (by omega) h2 h3
  have HLb : Hid (∀ g s w, Blk w g 9 #[strV s] → HasPow w → s.length ≤ 1000 → Calls Tryz.prog 97 #[.int .u64 b, .pointer (some ⟨g, 0, none⟩)] w fun e w' => e = .returned (.tuple #[]) ∧ Blk w' g 9 #[strV (s ++ 32 :: dec b)] ∧ Kept [g] w w') := fun g s w h1 h2 h3 => line1_any b g s w h1 (by omega) h2 h3
  have HLr : Hid (∀ g s w, Blk w g 9 #[strV s] → HasPow w → s.length ≤ 1000 → Calls Tryz.prog 97 #[.int .u64 r, .pointer (some ⟨g, 0, none⟩)] w fun e w' => e = .returned (.tuple #[]) ∧ Blk w' g 9 #[strV (s ++ 32 :: dec r)] ∧ Kept [g] w w') := fun g s w h1 h2 h3 => line1_any r g s w h1 (by omega) h2 h3
  have HLn : Hid (∀ g s w, Blk w g 9 #[strV s] → HasPow w → s.length ≤ 1000 → Calls Tryz.prog 97 #[.int .u64 n, .pointer (some ⟨g, 0, none⟩)] w fun e w' => e = .returned (.tuple #[]) ∧ Blk w' g 9 #[strV (s ++ 32 :: dec n)] ∧ Kept [g] w w') := fun g s w h1 h2 h3 => line1_any n g s w h1 (by omega) h2 h3
  generalize nameD 5 = nm at *
  generalize hex m = xm at *
  generalize dec a = xa at *
  generalize dec b = xb at *
  generalize dec r = xr at *
  generalize dec n = xn at *
  clear hP hg
  go_enter Tryz.func75, Tryz.ntmps75
  go_wp2_with fail
  refine (HG.out _).mono ?_
  rintro e w1 ⟨rfl, hk1⟩
  have hB := (Blk.new w 60 (dC 5 a b r n m l)).kept hk1 (by simp)
  have hc := hB.cell
  have hlt := hB.lt
  have HB := Lib.hid hB
  have HK := Lib.hid (((Kept.refl [] w).alloc _).trans hk1)
  clear hB hk1
  go_wp2_with fail
  refine (HNM.out _).mono ?_
  rintro e w1' ⟨rfl, rfl⟩
  have hS1 : Blk (w1.alloc (.cells #[strV nm] 9)) w1.heap.size 9 #[strV nm] := Blk.new _ _ _
  have HS1 := Lib.hid hS1
  have HB1 := Lib.hid (HB.out.alloc (.cells #[strV nm] 9))
  have HK1 := Lib.hid (HK.out.alloc (.cells #[strV nm] 9))
  clear hS1
  go_wp2_with fail
  go_ret
  refine ⟨?_, by first | exact HK1.out | exact HK1.out.setCell (.inr (by simp only; omega)) _⟩
  rw [HF.out]
  exact ret_str (by simp)

set_option maxHeartbeats 3200000 in
theorem line_op6 (a b r n m : Nat) (l : Bool) (w : World) (hg : goodD ⟨6, (a : Int), (b : Int), (r : Int), n, m, l⟩ = true) (ha : a < 64) (hb : b < 8) (hr : r < 8) (hn : n < 18446744073709551616) (hm : m < 18446744073709551616) (hP : HasPow w) :
    Calls Tryz.prog 75 #[.agg (dC 6 a b r n m l)] w fun e w' => e = .returned (strV (lineD ⟨6, (a : Int), (b : Int), (r : Int), n, m, l⟩)) ∧ Kept [] w w' := by
  have HG : Hid (∀ w, Calls Tryz.prog 61 #[.agg (dC 6 a b r n m l)] w fun e w' => e = .returned (.bool true) ∧ Kept [] w w') := fun w => by
    have := good_any 6 a b r n m l w
    rw [hg] at this
    exact this
  have HF : Hid (lineD ⟨6, (a : Int), (b : Int), (r : Int), n, m, l⟩ = (nameD 6 ++ 32 :: dec n)) := by rw [Hid, lineD, if_pos hg]; simp [partsL, pieceL]
  have HP := Lib.hid hP
  have hN := nameD_len 6
  have hdm : (hex m).length ≤ 16 := by rw [hex, hexN_len]; omega
  have hda := dec_len a (by omega)
  have hdb := dec_len b (by omega)
  have hdr := dec_len r (by omega)
  have hdn := dec_len n (by omega)
  have HNM := Lib.hid (fun w => name_any 6 w)
  have HH : Hid (∀ w, Calls Tryz.prog 48 #[.int .u64 m] w fun e w' => e = .returned (strV (hex m)) ∧ Kept [] w w') := fun w => hex_any m w hm
  have HLa : Hid (∀ g s w, Blk w g 9 #[strV s] → HasPow w → s.length ≤ 1000 → Calls Tryz.prog 97 #[.int .u64 a, .pointer (some ⟨g, 0, none⟩)] w fun e w' => e = .returned (.tuple #[]) ∧ Blk w' g 9 #[strV (s ++ 32 :: dec a)] ∧ Kept [g] w w') := fun g s w h1 h2 h3 => line1_any a g s w h1 (by omega) h2 h3
  have HLb : Hid (∀ g s w, Blk w g 9 #[strV s] → HasPow w → s.length ≤ 1000 → Calls Tryz.prog 97 #[.int .u64 b, .pointer (some ⟨g, 0, none⟩)] w fun e w' => e = .returned (.tuple #[]) ∧ Blk w' g 9 #[strV (s ++ 32 :: dec b)] ∧ Kept [g] w w') := fun g s w h1 h2 h3 => line1_any b g s w h1 (by omega) h2 h3
  have HLr : Hid (∀ g s w, Blk w g 9 #[strV s] → HasPow w → s.length ≤ 1000 → Calls Tryz.prog 97 #[.int .u64 r, .pointer (some ⟨g, 0, none⟩)] w fun e w' => e = .returned (.tuple #[]) ∧ Blk w' g 9 #[strV (s ++ 32 :: dec r)] ∧ Kept [g] w w') := fun g s w h1 h2 h3 => line1_any r g s w h1 (by omega) h2 h3
  have HLn : Hid (∀ g s w, Blk w g 9 #[strV s] → HasPow w → s.length ≤ 1000 → Calls Tryz.prog 97 #[.int .u64 n, .pointer (some ⟨g, 0, none⟩)] w fun e w' => e = .returned (.tuple #[]) ∧ Blk w' g 9 #[strV (s ++ 32 :: dec n)] ∧ Kept [g] w w') := fun g s w h1 h2 h3 => line1_any n g s w h1 (by omega) h2 h3
  generalize nameD 6 = nm at *
  generalize hex m = xm at *
  generalize dec a = xa at *
  generalize dec b = xb at *
  generalize dec r = xr at *
  generalize dec n = xn at *
  clear hP hg
  go_enter Tryz.func75, Tryz.ntmps75
  go_wp2_with fail
  refine (HG.out _).mono ?_
  rintro e w1 ⟨rfl, hk1⟩
  have hB := (Blk.new w 60 (dC 6 a b r n m l)).kept hk1 (by simp)
  have hc := hB.cell
  have hlt := hB.lt
  have HB := Lib.hid hB
  have HK := Lib.hid (((Kept.refl [] w).alloc _).trans hk1)
  clear hB hk1
  go_wp2_with fail
  refine (HNM.out _).mono ?_
  rintro e w1' ⟨rfl, rfl⟩
  have hS1 : Blk (w1.alloc (.cells #[strV nm] 9)) w1.heap.size 9 #[strV nm] := Blk.new _ _ _
  have HS1 := Lib.hid hS1
  have HB1 := Lib.hid (HB.out.alloc (.cells #[strV nm] 9))
  have HK1 := Lib.hid (HK.out.alloc (.cells #[strV nm] 9))
  clear hS1
  go_wp2_with fail
  refine (HLn.out _ (nm) _ HS1.out (by exact HP.out.old HK1.out) (by (try simp only [List.length_append, List.length_cons]); omega)).mono ?_
  rintro e w2 ⟨rfl, hS, hk⟩
  have HS2 := Lib.hid hS
  have HB2 := Lib.hid (HB1.out.kept hk (by simp; omega))
  have HK2 := Lib.hid (HK1.out.trans' hk (fun j hj => .inr (by simp at hj; omega)))
  clear hS hk
  have hc2 := HB2.out.cell
  have hs2 := HS2.out.cell
  have hl2 := HS2.out.lt
  go_wp2_with fail
  go_ret
  refine ⟨?_, by first | exact HK2.out | exact HK2.out.setCell (.inr (by simp only; omega)) _⟩
  rw [HF.out]
  exact ret_str (by simp)

set_option maxHeartbeats 3200000 in
theorem line_op7 (a b r n m : Nat) (l : Bool) (w : World) (hg : goodD ⟨7, (a : Int), (b : Int), (r : Int), n, m, l⟩ = true) (ha : a < 64) (hb : b < 8) (hr : r < 8) (hn : n < 18446744073709551616) (hm : m < 18446744073709551616) (hP : HasPow w) :
    Calls Tryz.prog 75 #[.agg (dC 7 a b r n m l)] w fun e w' => e = .returned (strV (lineD ⟨7, (a : Int), (b : Int), (r : Int), n, m, l⟩)) ∧ Kept [] w w' := by
  have HG : Hid (∀ w, Calls Tryz.prog 61 #[.agg (dC 7 a b r n m l)] w fun e w' => e = .returned (.bool true) ∧ Kept [] w w') := fun w => by
    have := good_any 7 a b r n m l w
    rw [hg] at this
    exact this
  have HF : Hid (lineD ⟨7, (a : Int), (b : Int), (r : Int), n, m, l⟩ = ((nameD 7 ++ 32 :: dec r) ++ 32 :: hex m)) := by rw [Hid, lineD, if_pos hg]; simp [partsL, pieceL]
  have HP := Lib.hid hP
  have hN := nameD_len 7
  have hdm : (hex m).length ≤ 16 := by rw [hex, hexN_len]; omega
  have hda := dec_len a (by omega)
  have hdb := dec_len b (by omega)
  have hdr := dec_len r (by omega)
  have hdn := dec_len n (by omega)
  have HNM := Lib.hid (fun w => name_any 7 w)
  have HH : Hid (∀ w, Calls Tryz.prog 48 #[.int .u64 m] w fun e w' => e = .returned (strV (hex m)) ∧ Kept [] w w') := fun w => hex_any m w hm
  have HLa : Hid (∀ g s w, Blk w g 9 #[strV s] → HasPow w → s.length ≤ 1000 → Calls Tryz.prog 97 #[.int .u64 a, .pointer (some ⟨g, 0, none⟩)] w fun e w' => e = .returned (.tuple #[]) ∧ Blk w' g 9 #[strV (s ++ 32 :: dec a)] ∧ Kept [g] w w') := fun g s w h1 h2 h3 => line1_any a g s w h1 (by omega) h2 h3
  have HLb : Hid (∀ g s w, Blk w g 9 #[strV s] → HasPow w → s.length ≤ 1000 → Calls Tryz.prog 97 #[.int .u64 b, .pointer (some ⟨g, 0, none⟩)] w fun e w' => e = .returned (.tuple #[]) ∧ Blk w' g 9 #[strV (s ++ 32 :: dec b)] ∧ Kept [g] w w') := fun g s w h1 h2 h3 => line1_any b g s w h1 (by omega) h2 h3
  have HLr : Hid (∀ g s w, Blk w g 9 #[strV s] → HasPow w → s.length ≤ 1000 → Calls Tryz.prog 97 #[.int .u64 r, .pointer (some ⟨g, 0, none⟩)] w fun e w' => e = .returned (.tuple #[]) ∧ Blk w' g 9 #[strV (s ++ 32 :: dec r)] ∧ Kept [g] w w') := fun g s w h1 h2 h3 => line1_any r g s w h1 (by omega) h2 h3
  have HLn : Hid (∀ g s w, Blk w g 9 #[strV s] → HasPow w → s.length ≤ 1000 → Calls Tryz.prog 97 #[.int .u64 n, .pointer (some ⟨g, 0, none⟩)] w fun e w' => e = .returned (.tuple #[]) ∧ Blk w' g 9 #[strV (s ++ 32 :: dec n)] ∧ Kept [g] w w') := fun g s w h1 h2 h3 => line1_any n g s w h1 (by omega) h2 h3
  generalize nameD 7 = nm at *
  generalize hex m = xm at *
  generalize dec a = xa at *
  generalize dec b = xb at *
  generalize dec r = xr at *
  generalize dec n = xn at *
  clear hP hg
  go_enter Tryz.func75, Tryz.ntmps75
  go_wp2_with fail
  refine (HG.out _).mono ?_
  rintro e w1 ⟨rfl, hk1⟩
  have hB := (Blk.new w 60 (dC 7 a b r n m l)).kept hk1 (by simp)
  have hc := hB.cell
  have hlt := hB.lt
  have HB := Lib.hid hB
  have HK := Lib.hid (((Kept.refl [] w).alloc _).trans hk1)
  clear hB hk1
  go_wp2_with fail
  refine (HNM.out _).mono ?_
  rintro e w1' ⟨rfl, rfl⟩
  have hS1 : Blk (w1.alloc (.cells #[strV nm] 9)) w1.heap.size 9 #[strV nm] := Blk.new _ _ _
  have HS1 := Lib.hid hS1
  have HB1 := Lib.hid (HB.out.alloc (.cells #[strV nm] 9))
  have HK1 := Lib.hid (HK.out.alloc (.cells #[strV nm] 9))
  clear hS1
  go_wp2_with fail
  refine (HLr.out _ (nm) _ HS1.out (by exact HP.out.old HK1.out) (by (try simp only [List.length_append, List.length_cons]); omega)).mono ?_
  rintro e w2 ⟨rfl, hS, hk⟩
  have HS2 := Lib.hid hS
  have HB2 := Lib.hid (HB1.out.kept hk (by simp; omega))
  have HK2 := Lib.hid (HK1.out.trans' hk (fun j hj => .inr (by simp at hj; omega)))
  clear hS hk
  have hc2 := HB2.out.cell
  have hs2 := HS2.out.cell
  have hl2 := HS2.out.lt
  go_wp2_with fail
  go_region_with (first | (go_at_call 48; refine (HH.out _).mono ?_; rintro e w2h ⟨rfl, hkh⟩; have hSh := HS2.out.drew.kept hkh (by simp); have hBh := HB2.out.drew.kept hkh (by simp); have hch := hBh.cell; have hsh := hSh.cell; have hfh := hSh.frozen; have HSh := Lib.hid hSh; have HBh := Lib.hid hBh; have HKh := Lib.hid ((HK2.out.drew).trans hkh); clear hSh hBh hkh))
  all_goals
    have eh : (⟨(nm ++ 32 :: (xr)).toArray⟩ : ByteArray) ++ (⟨#[32]⟩ ++ ⟨xm.toArray⟩) = ⟨(nm ++ 32 :: (xr ++ 32 :: (xm))).toArray⟩ := by rw [show (⟨#[32]⟩ : ByteArray) ++ ⟨xm.toArray⟩ = ⟨([32] ++ xm).toArray⟩ from str_append [32] xm, str_append]; simp
    rw [eh]
    clear eh
    have hS := HSh.out.set 0 (strV (nm ++ 32 :: (xr ++ 32 :: (xm))))
    have hB2 := HBh.out.far (p := ⟨w1.heap.size, 0, none⟩) (by simp only; omega) (strV (nm ++ 32 :: (xr ++ 32 :: (xm))))
    have hK2 := HKh.out.setCell (p := ⟨w1.heap.size, 0, none⟩) (.inr (by simp only; omega)) (strV (nm ++ 32 :: (xr ++ 32 :: (xm))))
    have hS2 : Blk (w2h.setCell ⟨w1.heap.size, 0, none⟩ (strV (nm ++ 32 :: (xr ++ 32 :: (xm))))) w1.heap.size 9 #[strV (nm ++ 32 :: (xr ++ 32 :: (xm)))] := hS
    clear hS hch hsh hfh HSh HBh HKh
    have HS3 := Lib.hid hS2
    have HB3 := Lib.hid hB2
    have HK3 := Lib.hid hK2
    clear hS2 hB2 hK2
    generalize w2h.setCell ⟨w1.heap.size, 0, none⟩ (strV (nm ++ 32 :: (xr ++ 32 :: (xm)))) = w3 at *
    clear hc2 hs2 hl2
    have hc3 := HB3.out.cell
    have hs3 := HS3.out.cell
    have hl3 := HS3.out.lt
    go_wp2_with fail
    go_ret
    refine ⟨?_, by first | exact HK3.out | exact HK3.out.setCell (.inr (by simp only; omega)) _⟩
    rw [HF.out]
    exact ret_str (by simp)

set_option maxHeartbeats 3200000 in
theorem line_op8 (a b r n m : Nat) (l : Bool) (w : World) (hg : goodD ⟨8, (a : Int), (b : Int), (r : Int), n, m, l⟩ = true) (ha : a < 64) (hb : b < 8) (hr : r < 8) (hn : n < 18446744073709551616) (hm : m < 18446744073709551616) (hP : HasPow w) :
    Calls Tryz.prog 75 #[.agg (dC 8 a b r n m l)] w fun e w' => e = .returned (strV (lineD ⟨8, (a : Int), (b : Int), (r : Int), n, m, l⟩)) ∧ Kept [] w w' := by
  have HG : Hid (∀ w, Calls Tryz.prog 61 #[.agg (dC 8 a b r n m l)] w fun e w' => e = .returned (.bool true) ∧ Kept [] w w') := fun w => by
    have := good_any 8 a b r n m l w
    rw [hg] at this
    exact this
  have HF : Hid (lineD ⟨8, (a : Int), (b : Int), (r : Int), n, m, l⟩ = ((nameD 8 ++ 32 :: dec r) ++ 32 :: dec b)) := by rw [Hid, lineD, if_pos hg]; simp [partsL, pieceL]
  have HP := Lib.hid hP
  have hN := nameD_len 8
  have hdm : (hex m).length ≤ 16 := by rw [hex, hexN_len]; omega
  have hda := dec_len a (by omega)
  have hdb := dec_len b (by omega)
  have hdr := dec_len r (by omega)
  have hdn := dec_len n (by omega)
  have HNM := Lib.hid (fun w => name_any 8 w)
  have HH : Hid (∀ w, Calls Tryz.prog 48 #[.int .u64 m] w fun e w' => e = .returned (strV (hex m)) ∧ Kept [] w w') := fun w => hex_any m w hm
  have HLa : Hid (∀ g s w, Blk w g 9 #[strV s] → HasPow w → s.length ≤ 1000 → Calls Tryz.prog 97 #[.int .u64 a, .pointer (some ⟨g, 0, none⟩)] w fun e w' => e = .returned (.tuple #[]) ∧ Blk w' g 9 #[strV (s ++ 32 :: dec a)] ∧ Kept [g] w w') := fun g s w h1 h2 h3 => line1_any a g s w h1 (by omega) h2 h3
  have HLb : Hid (∀ g s w, Blk w g 9 #[strV s] → HasPow w → s.length ≤ 1000 → Calls Tryz.prog 97 #[.int .u64 b, .pointer (some ⟨g, 0, none⟩)] w fun e w' => e = .returned (.tuple #[]) ∧ Blk w' g 9 #[strV (s ++ 32 :: dec b)] ∧ Kept [g] w w') := fun g s w h1 h2 h3 => line1_any b g s w h1 (by omega) h2 h3
  have HLr : Hid (∀ g s w, Blk w g 9 #[strV s] → HasPow w → s.length ≤ 1000 → Calls Tryz.prog 97 #[.int .u64 r, .pointer (some ⟨g, 0, none⟩)] w fun e w' => e = .returned (.tuple #[]) ∧ Blk w' g 9 #[strV (s ++ 32 :: dec r)] ∧ Kept [g] w w') := fun g s w h1 h2 h3 => line1_any r g s w h1 (by omega) h2 h3
  have HLn : Hid (∀ g s w, Blk w g 9 #[strV s] → HasPow w → s.length ≤ 1000 → Calls Tryz.prog 97 #[.int .u64 n, .pointer (some ⟨g, 0, none⟩)] w fun e w' => e = .returned (.tuple #[]) ∧ Blk w' g 9 #[strV (s ++ 32 :: dec n)] ∧ Kept [g] w w') := fun g s w h1 h2 h3 => line1_any n g s w h1 (by omega) h2 h3
  generalize nameD 8 = nm at *
  generalize hex m = xm at *
  generalize dec a = xa at *
  generalize dec b = xb at *
  generalize dec r = xr at *
  generalize dec n = xn at *
  clear hP hg
  go_enter Tryz.func75, Tryz.ntmps75
  go_wp2_with fail
  refine (HG.out _).mono ?_
  rintro e w1 ⟨rfl, hk1⟩
  have hB := (Blk.new w 60 (dC 8 a b r n m l)).kept hk1 (by simp)
  have hc := hB.cell
  have hlt := hB.lt
  have HB := Lib.hid hB
  have HK := Lib.hid (((Kept.refl [] w).alloc _).trans hk1)
  clear hB hk1
  go_wp2_with fail
  refine (HNM.out _).mono ?_
  rintro e w1' ⟨rfl, rfl⟩
  have hS1 : Blk (w1.alloc (.cells #[strV nm] 9)) w1.heap.size 9 #[strV nm] := Blk.new _ _ _
  have HS1 := Lib.hid hS1
  have HB1 := Lib.hid (HB.out.alloc (.cells #[strV nm] 9))
  have HK1 := Lib.hid (HK.out.alloc (.cells #[strV nm] 9))
  clear hS1
  go_wp2_with fail
  refine (HLr.out _ (nm) _ HS1.out (by exact HP.out.old HK1.out) (by (try simp only [List.length_append, List.length_cons]); omega)).mono ?_
  rintro e w2 ⟨rfl, hS, hk⟩
  have HS2 := Lib.hid hS
  have HB2 := Lib.hid (HB1.out.kept hk (by simp; omega))
  have HK2 := Lib.hid (HK1.out.trans' hk (fun j hj => .inr (by simp at hj; omega)))
  clear hS hk
  have hc2 := HB2.out.cell
  have hs2 := HS2.out.cell
  have hl2 := HS2.out.lt
  go_wp2_with fail
  refine (HLb.out _ (nm ++ 32 :: xr) _ HS2.out (by exact HP.out.old HK2.out) (by (try simp only [List.length_append, List.length_cons]); omega)).mono ?_
  rintro e w3 ⟨rfl, hS, hk⟩
  have HS3 := Lib.hid hS
  have HB3 := Lib.hid (HB2.out.kept hk (by simp; omega))
  have HK3 := Lib.hid (HK2.out.trans' hk (fun j hj => .inr (by simp at hj; omega)))
  clear hS hk
  clear hc2 hs2 hl2
  have hc3 := HB3.out.cell
  have hs3 := HS3.out.cell
  have hl3 := HS3.out.lt
  go_wp2_with fail
  go_ret
  refine ⟨?_, by first | exact HK3.out | exact HK3.out.setCell (.inr (by simp only; omega)) _⟩
  rw [HF.out]
  exact ret_str (by simp)

set_option maxHeartbeats 3200000 in
theorem line_op9 (a b r n m : Nat) (l : Bool) (w : World) (hg : goodD ⟨9, (a : Int), (b : Int), (r : Int), n, m, l⟩ = true) (ha : a < 64) (hb : b < 8) (hr : r < 8) (hn : n < 18446744073709551616) (hm : m < 18446744073709551616) (hP : HasPow w) :
    Calls Tryz.prog 75 #[.agg (dC 9 a b r n m l)] w fun e w' => e = .returned (strV (lineD ⟨9, (a : Int), (b : Int), (r : Int), n, m, l⟩)) ∧ Kept [] w w' := by
  have HG : Hid (∀ w, Calls Tryz.prog 61 #[.agg (dC 9 a b r n m l)] w fun e w' => e = .returned (.bool true) ∧ Kept [] w w') := fun w => by
    have := good_any 9 a b r n m l w
    rw [hg] at this
    exact this
  have HF : Hid (lineD ⟨9, (a : Int), (b : Int), (r : Int), n, m, l⟩ = (nameD 9 ++ 32 :: dec a)) := by rw [Hid, lineD, if_pos hg]; simp [partsL, pieceL]
  have HP := Lib.hid hP
  have hN := nameD_len 9
  have hdm : (hex m).length ≤ 16 := by rw [hex, hexN_len]; omega
  have hda := dec_len a (by omega)
  have hdb := dec_len b (by omega)
  have hdr := dec_len r (by omega)
  have hdn := dec_len n (by omega)
  have HNM := Lib.hid (fun w => name_any 9 w)
  have HH : Hid (∀ w, Calls Tryz.prog 48 #[.int .u64 m] w fun e w' => e = .returned (strV (hex m)) ∧ Kept [] w w') := fun w => hex_any m w hm
  have HLa : Hid (∀ g s w, Blk w g 9 #[strV s] → HasPow w → s.length ≤ 1000 → Calls Tryz.prog 97 #[.int .u64 a, .pointer (some ⟨g, 0, none⟩)] w fun e w' => e = .returned (.tuple #[]) ∧ Blk w' g 9 #[strV (s ++ 32 :: dec a)] ∧ Kept [g] w w') := fun g s w h1 h2 h3 => line1_any a g s w h1 (by omega) h2 h3
  have HLb : Hid (∀ g s w, Blk w g 9 #[strV s] → HasPow w → s.length ≤ 1000 → Calls Tryz.prog 97 #[.int .u64 b, .pointer (some ⟨g, 0, none⟩)] w fun e w' => e = .returned (.tuple #[]) ∧ Blk w' g 9 #[strV (s ++ 32 :: dec b)] ∧ Kept [g] w w') := fun g s w h1 h2 h3 => line1_any b g s w h1 (by omega) h2 h3
  have HLr : Hid (∀ g s w, Blk w g 9 #[strV s] → HasPow w → s.length ≤ 1000 → Calls Tryz.prog 97 #[.int .u64 r, .pointer (some ⟨g, 0, none⟩)] w fun e w' => e = .returned (.tuple #[]) ∧ Blk w' g 9 #[strV (s ++ 32 :: dec r)] ∧ Kept [g] w w') := fun g s w h1 h2 h3 => line1_any r g s w h1 (by omega) h2 h3
  have HLn : Hid (∀ g s w, Blk w g 9 #[strV s] → HasPow w → s.length ≤ 1000 → Calls Tryz.prog 97 #[.int .u64 n, .pointer (some ⟨g, 0, none⟩)] w fun e w' => e = .returned (.tuple #[]) ∧ Blk w' g 9 #[strV (s ++ 32 :: dec n)] ∧ Kept [g] w w') := fun g s w h1 h2 h3 => line1_any n g s w h1 (by omega) h2 h3
  generalize nameD 9 = nm at *
  generalize hex m = xm at *
  generalize dec a = xa at *
  generalize dec b = xb at *
  generalize dec r = xr at *
  generalize dec n = xn at *
  clear hP hg
  go_enter Tryz.func75, Tryz.ntmps75
  go_wp2_with fail
  refine (HG.out _).mono ?_
  rintro e w1 ⟨rfl, hk1⟩
  have hB := (Blk.new w 60 (dC 9 a b r n m l)).kept hk1 (by simp)
  have hc := hB.cell
  have hlt := hB.lt
  have HB := Lib.hid hB
  have HK := Lib.hid (((Kept.refl [] w).alloc _).trans hk1)
  clear hB hk1
  go_wp2_with fail
  refine (HNM.out _).mono ?_
  rintro e w1' ⟨rfl, rfl⟩
  have hS1 : Blk (w1.alloc (.cells #[strV nm] 9)) w1.heap.size 9 #[strV nm] := Blk.new _ _ _
  have HS1 := Lib.hid hS1
  have HB1 := Lib.hid (HB.out.alloc (.cells #[strV nm] 9))
  have HK1 := Lib.hid (HK.out.alloc (.cells #[strV nm] 9))
  clear hS1
  go_wp2_with fail
  refine (HLa.out _ (nm) _ HS1.out (by exact HP.out.old HK1.out) (by (try simp only [List.length_append, List.length_cons]); omega)).mono ?_
  rintro e w2 ⟨rfl, hS, hk⟩
  have HS2 := Lib.hid hS
  have HB2 := Lib.hid (HB1.out.kept hk (by simp; omega))
  have HK2 := Lib.hid (HK1.out.trans' hk (fun j hj => .inr (by simp at hj; omega)))
  clear hS hk
  have hc2 := HB2.out.cell
  have hs2 := HS2.out.cell
  have hl2 := HS2.out.lt
  go_wp2_with fail
  go_ret
  refine ⟨?_, by first | exact HK2.out | exact HK2.out.setCell (.inr (by simp only; omega)) _⟩
  rw [HF.out]
  exact ret_str (by simp)

set_option maxHeartbeats 3200000 in
theorem line_op10 (a b r n m : Nat) (l : Bool) (w : World) (hg : goodD ⟨10, (a : Int), (b : Int), (r : Int), n, m, l⟩ = true) (ha : a < 64) (hb : b < 8) (hr : r < 8) (hn : n < 18446744073709551616) (hm : m < 18446744073709551616) (hP : HasPow w) :
    Calls Tryz.prog 75 #[.agg (dC 10 a b r n m l)] w fun e w' => e = .returned (strV (lineD ⟨10, (a : Int), (b : Int), (r : Int), n, m, l⟩)) ∧ Kept [] w w' := by
  have HG : Hid (∀ w, Calls Tryz.prog 61 #[.agg (dC 10 a b r n m l)] w fun e w' => e = .returned (.bool true) ∧ Kept [] w w') := fun w => by
    have := good_any 10 a b r n m l w
    rw [hg] at this
    exact this
  have HF : Hid (lineD ⟨10, (a : Int), (b : Int), (r : Int), n, m, l⟩ = ((nameD 10 ++ 32 :: dec a) ++ 32 :: dec n)) := by rw [Hid, lineD, if_pos hg]; simp [partsL, pieceL]
  have HP := Lib.hid hP
  have hN := nameD_len 10
  have hdm : (hex m).length ≤ 16 := by rw [hex, hexN_len]; omega
  have hda := dec_len a (by omega)
  have hdb := dec_len b (by omega)
  have hdr := dec_len r (by omega)
  have hdn := dec_len n (by omega)
  have HNM := Lib.hid (fun w => name_any 10 w)
  have HH : Hid (∀ w, Calls Tryz.prog 48 #[.int .u64 m] w fun e w' => e = .returned (strV (hex m)) ∧ Kept [] w w') := fun w => hex_any m w hm
  have HLa : Hid (∀ g s w, Blk w g 9 #[strV s] → HasPow w → s.length ≤ 1000 → Calls Tryz.prog 97 #[.int .u64 a, .pointer (some ⟨g, 0, none⟩)] w fun e w' => e = .returned (.tuple #[]) ∧ Blk w' g 9 #[strV (s ++ 32 :: dec a)] ∧ Kept [g] w w') := fun g s w h1 h2 h3 => line1_any a g s w h1 (by omega) h2 h3
  have HLb : Hid (∀ g s w, Blk w g 9 #[strV s] → HasPow w → s.length ≤ 1000 → Calls Tryz.prog 97 #[.int .u64 b, .pointer (some ⟨g, 0, none⟩)] w fun e w' => e = .returned (.tuple #[]) ∧ Blk w' g 9 #[strV (s ++ 32 :: dec b)] ∧ Kept [g] w w') := fun g s w h1 h2 h3 => line1_any b g s w h1 (by omega) h2 h3
  have HLr : Hid (∀ g s w, Blk w g 9 #[strV s] → HasPow w → s.length ≤ 1000 → Calls Tryz.prog 97 #[.int .u64 r, .pointer (some ⟨g, 0, none⟩)] w fun e w' => e = .returned (.tuple #[]) ∧ Blk w' g 9 #[strV (s ++ 32 :: dec r)] ∧ Kept [g] w w') := fun g s w h1 h2 h3 => line1_any r g s w h1 (by omega) h2 h3
  have HLn : Hid (∀ g s w, Blk w g 9 #[strV s] → HasPow w → s.length ≤ 1000 → Calls Tryz.prog 97 #[.int .u64 n, .pointer (some ⟨g, 0, none⟩)] w fun e w' => e = .returned (.tuple #[]) ∧ Blk w' g 9 #[strV (s ++ 32 :: dec n)] ∧ Kept [g] w w') := fun g s w h1 h2 h3 => line1_any n g s w h1 (by omega) h2 h3
  generalize nameD 10 = nm at *
  generalize hex m = xm at *
  generalize dec a = xa at *
  generalize dec b = xb at *
  generalize dec r = xr at *
  generalize dec n = xn at *
  clear hP hg
  go_enter Tryz.func75, Tryz.ntmps75
  go_wp2_with fail
  refine (HG.out _).mono ?_
  rintro e w1 ⟨rfl, hk1⟩
  have hB := (Blk.new w 60 (dC 10 a b r n m l)).kept hk1 (by simp)
  have hc := hB.cell
  have hlt := hB.lt
  have HB := Lib.hid hB
  have HK := Lib.hid (((Kept.refl [] w).alloc _).trans hk1)
  clear hB hk1
  go_wp2_with fail
  refine (HNM.out _).mono ?_
  rintro e w1' ⟨rfl, rfl⟩
  have hS1 : Blk (w1.alloc (.cells #[strV nm] 9)) w1.heap.size 9 #[strV nm] := Blk.new _ _ _
  have HS1 := Lib.hid hS1
  have HB1 := Lib.hid (HB.out.alloc (.cells #[strV nm] 9))
  have HK1 := Lib.hid (HK.out.alloc (.cells #[strV nm] 9))
  clear hS1
  go_wp2_with fail
  refine (HLa.out _ (nm) _ HS1.out (by exact HP.out.old HK1.out) (by (try simp only [List.length_append, List.length_cons]); omega)).mono ?_
  rintro e w2 ⟨rfl, hS, hk⟩
  have HS2 := Lib.hid hS
  have HB2 := Lib.hid (HB1.out.kept hk (by simp; omega))
  have HK2 := Lib.hid (HK1.out.trans' hk (fun j hj => .inr (by simp at hj; omega)))
  clear hS hk
  have hc2 := HB2.out.cell
  have hs2 := HS2.out.cell
  have hl2 := HS2.out.lt
  go_wp2_with fail
  refine (HLn.out _ (nm ++ 32 :: xa) _ HS2.out (by exact HP.out.old HK2.out) (by (try simp only [List.length_append, List.length_cons]); omega)).mono ?_
  rintro e w3 ⟨rfl, hS, hk⟩
  have HS3 := Lib.hid hS
  have HB3 := Lib.hid (HB2.out.kept hk (by simp; omega))
  have HK3 := Lib.hid (HK2.out.trans' hk (fun j hj => .inr (by simp at hj; omega)))
  clear hS hk
  clear hc2 hs2 hl2
  have hc3 := HB3.out.cell
  have hs3 := HS3.out.cell
  have hl3 := HS3.out.lt
  go_wp2_with fail
  go_ret
  refine ⟨?_, by first | exact HK3.out | exact HK3.out.setCell (.inr (by simp only; omega)) _⟩
  rw [HF.out]
  exact ret_str (by simp)

set_option maxHeartbeats 3200000 in
theorem line_op11 (a b r n m : Nat) (l : Bool) (w : World) (hg : goodD ⟨11, (a : Int), (b : Int), (r : Int), n, m, l⟩ = true) (ha : a < 64) (hb : b < 8) (hr : r < 8) (hn : n < 18446744073709551616) (hm : m < 18446744073709551616) (hP : HasPow w) :
    Calls Tryz.prog 75 #[.agg (dC 11 a b r n m l)] w fun e w' => e = .returned (strV (lineD ⟨11, (a : Int), (b : Int), (r : Int), n, m, l⟩)) ∧ Kept [] w w' := by
  have HG : Hid (∀ w, Calls Tryz.prog 61 #[.agg (dC 11 a b r n m l)] w fun e w' => e = .returned (.bool true) ∧ Kept [] w w') := fun w => by
    have := good_any 11 a b r n m l w
    rw [hg] at this
    exact this
  have HF : Hid (lineD ⟨11, (a : Int), (b : Int), (r : Int), n, m, l⟩ = (nameD 11 ++ 32 :: dec a)) := by rw [Hid, lineD, if_pos hg]; simp [partsL, pieceL]
  have HP := Lib.hid hP
  have hN := nameD_len 11
  have hdm : (hex m).length ≤ 16 := by rw [hex, hexN_len]; omega
  have hda := dec_len a (by omega)
  have hdb := dec_len b (by omega)
  have hdr := dec_len r (by omega)
  have hdn := dec_len n (by omega)
  have HNM := Lib.hid (fun w => name_any 11 w)
  have HH : Hid (∀ w, Calls Tryz.prog 48 #[.int .u64 m] w fun e w' => e = .returned (strV (hex m)) ∧ Kept [] w w') := fun w => hex_any m w hm
  have HLa : Hid (∀ g s w, Blk w g 9 #[strV s] → HasPow w → s.length ≤ 1000 → Calls Tryz.prog 97 #[.int .u64 a, .pointer (some ⟨g, 0, none⟩)] w fun e w' => e = .returned (.tuple #[]) ∧ Blk w' g 9 #[strV (s ++ 32 :: dec a)] ∧ Kept [g] w w') := fun g s w h1 h2 h3 => line1_any a g s w h1 (by omega) h2 h3
  have HLb : Hid (∀ g s w, Blk w g 9 #[strV s] → HasPow w → s.length ≤ 1000 → Calls Tryz.prog 97 #[.int .u64 b, .pointer (some ⟨g, 0, none⟩)] w fun e w' => e = .returned (.tuple #[]) ∧ Blk w' g 9 #[strV (s ++ 32 :: dec b)] ∧ Kept [g] w w') := fun g s w h1 h2 h3 => line1_any b g s w h1 (by omega) h2 h3
  have HLr : Hid (∀ g s w, Blk w g 9 #[strV s] → HasPow w → s.length ≤ 1000 → Calls Tryz.prog 97 #[.int .u64 r, .pointer (some ⟨g, 0, none⟩)] w fun e w' => e = .returned (.tuple #[]) ∧ Blk w' g 9 #[strV (s ++ 32 :: dec r)] ∧ Kept [g] w w') := fun g s w h1 h2 h3 => line1_any r g s w h1 (by omega) h2 h3
  have HLn : Hid (∀ g s w, Blk w g 9 #[strV s] → HasPow w → s.length ≤ 1000 → Calls Tryz.prog 97 #[.int .u64 n, .pointer (some ⟨g, 0, none⟩)] w fun e w' => e = .returned (.tuple #[]) ∧ Blk w' g 9 #[strV (s ++ 32 :: dec n)] ∧ Kept [g] w w') := fun g s w h1 h2 h3 => line1_any n g s w h1 (by omega) h2 h3
  generalize nameD 11 = nm at *
  generalize hex m = xm at *
  generalize dec a = xa at *
  generalize dec b = xb at *
  generalize dec r = xr at *
  generalize dec n = xn at *
  clear hP hg
  go_enter Tryz.func75, Tryz.ntmps75
  go_wp2_with fail
  refine (HG.out _).mono ?_
  rintro e w1 ⟨rfl, hk1⟩
  have hB := (Blk.new w 60 (dC 11 a b r n m l)).kept hk1 (by simp)
  have hc := hB.cell
  have hlt := hB.lt
  have HB := Lib.hid hB
  have HK := Lib.hid (((Kept.refl [] w).alloc _).trans hk1)
  clear hB hk1
  go_wp2_with fail
  refine (HNM.out _).mono ?_
  rintro e w1' ⟨rfl, rfl⟩
  have hS1 : Blk (w1.alloc (.cells #[strV nm] 9)) w1.heap.size 9 #[strV nm] := Blk.new _ _ _
  have HS1 := Lib.hid hS1
  have HB1 := Lib.hid (HB.out.alloc (.cells #[strV nm] 9))
  have HK1 := Lib.hid (HK.out.alloc (.cells #[strV nm] 9))
  clear hS1
  go_wp2_with fail
  refine (HLa.out _ (nm) _ HS1.out (by exact HP.out.old HK1.out) (by (try simp only [List.length_append, List.length_cons]); omega)).mono ?_
  rintro e w2 ⟨rfl, hS, hk⟩
  have HS2 := Lib.hid hS
  have HB2 := Lib.hid (HB1.out.kept hk (by simp; omega))
  have HK2 := Lib.hid (HK1.out.trans' hk (fun j hj => .inr (by simp at hj; omega)))
  clear hS hk
  have hc2 := HB2.out.cell
  have hs2 := HS2.out.cell
  have hl2 := HS2.out.lt
  go_wp2_with fail
  go_ret
  refine ⟨?_, by first | exact HK2.out | exact HK2.out.setCell (.inr (by simp only; omega)) _⟩
  rw [HF.out]
  exact ret_str (by simp)

set_option maxHeartbeats 1600000 in
theorem line_bad (o a b r : Int) (n m : Nat) (l : Bool) (w : World) (hg : goodD ⟨o, a, b, r, n, m, l⟩ = false) :
    Calls Tryz.prog 75 #[.agg (dC o a b r n m l)] w fun e w' => e = .returned (strV (lineD ⟨o, a, b, r, n, m, l⟩)) ∧ Kept [] w w' := by
  have HG : Hid (∀ w, Calls Tryz.prog 61 #[.agg (dC o a b r n m l)] w fun e w' => e = .returned (.bool false) ∧ Kept [] w w') := fun w => by
    have := good_any o a b r n m l w
    rw [hg] at this
    exact this
  have HF : Hid (lineD ⟨o, a, b, r, n, m, l⟩ = [63]) := by rw [Hid, lineD, if_neg (by simp [hg])]
  clear hg
  go_enter Tryz.func75, Tryz.ntmps75
  go_wp2_with fail
  refine (HG.out _).mono ?_
  rintro e w1 ⟨rfl, hk1⟩
  go_wp2_with fail
  go_ret
  exact ⟨by rw [HF.out]; rfl, ((Kept.refl [] w).alloc _).trans hk1⟩

theorem line_any (o a b r : Int) (n m : Nat) (l : Bool) (w : World) (hn : n < 18446744073709551616) (hm : m < 18446744073709551616) (hP : HasPow w) :
    Calls Tryz.prog 75 #[.agg (dC o a b r n m l)] w fun e w' => e = .returned (strV (lineD ⟨o, a, b, r, n, m, l⟩)) ∧ Kept [] w w' := by
  by_cases hg : goodD ⟨o, a, b, r, n, m, l⟩ = true
  · have hr := goodD_ranges hg
    simp only at hr
    obtain ⟨a, rfl⟩ := Int.eq_ofNat_of_zero_le hr.1
    obtain ⟨b, rfl⟩ := Int.eq_ofNat_of_zero_le hr.2.2.1
    obtain ⟨r, rfl⟩ := Int.eq_ofNat_of_zero_le hr.2.2.2.2.1
    rcases (by omega : o = 1 ∨ o = 2 ∨ o = 3 ∨ o = 4 ∨ o = 5 ∨ o = 6 ∨ o = 7 ∨ o = 8 ∨ o = 9 ∨ o = 10 ∨ o = 11) with rfl | rfl | rfl | rfl | rfl | rfl | rfl | rfl | rfl | rfl | rfl
    · exact line_op1 a b r n m l w hg (by omega) (by omega) (by omega) hn hm hP
    · cases l
      · exact line_op2_false a b r n m w hg (by omega) (by omega) (by omega) hn hm hP
      · exact line_op2_true a b r n m w hg (by omega) (by omega) (by omega) hn hm hP
    · exact line_op3 a b r n m l w hg (by omega) (by omega) (by omega) hn hm hP
    · exact line_op4 a b r n m l w hg (by omega) (by omega) (by omega) hn hm hP
    · exact line_op5 a b r n m l w hg (by omega) (by omega) (by omega) hn hm hP
    · exact line_op6 a b r n m l w hg (by omega) (by omega) (by omega) hn hm hP
    · exact line_op7 a b r n m l w hg (by omega) (by omega) (by omega) hn hm hP
    · exact line_op8 a b r n m l w hg (by omega) (by omega) (by omega) hn hm hP
    · exact line_op9 a b r n m l w hg (by omega) (by omega) (by omega) hn hm hP
    · exact line_op10 a b r n m l w hg (by omega) (by omega) (by omega) hn hm hP
    · exact line_op11 a b r n m l w hg (by omega) (by omega) (by omega) hn hm hP
  · exact line_bad o a b r n m l w (by simpa using hg)

end Go.Proofs.YtladfdpcdjjifaaGreatDoor
