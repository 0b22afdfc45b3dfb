/- The document's Parse of a deed's line; name: is a word a deed's name, walked; The document's line: a duty with one line more, walked. -/
import Derived.Test.YtladfdpcdjjifaaGreatDoorDeedS
import Derived.Test.YtladfdpcdjjifaaGreatDoorDeedR4
import Derived.Test.YtladfdpcdjjifaaGreatDoorDutyA
import Derived.Deep.RegionHeld3

/- The document's Parse of a deed's line. -/
namespace Go.Proofs.YtladfdpcdjjifaaGreatDoor
open Go.RowKit

set_option maxHeartbeats 800000 in
theorem refOp (l : List UInt8) (w : World) : Calls Tryz.prog 68 #[strV l] w fun e w' => e = .returned (.int .i64 (opOf l)) ∧ Kept [] w w' := by
  have HNM := Lib.hid (fun k w => refName k w)
  go_enter Tryz.func68, Tryz.ntmps68
  go_wp2_with fail
  go_loopw [3] (fun kv wr => ∃ k : Nat, 1 ≤ k ∧ k ≤ 12 ∧ kv = .int .i64 k ∧ Hid (∀ j : Nat, 1 ≤ j → j < k → nameD j ≠ l) ∧ Kept [] w wr) (fun k _ => 12 - (intOf k).toNat)
  case atStart => exact ⟨1, by omega, by omega, rfl, (fun j h1 h2 => by omega), Kept.refl _ _⟩
  case round =>
    obtain ⟨k, hk1, hk2, rfl, HJ, hkw⟩ := hrel
    by_cases hlt : k ≤ 11
    · by_cases he : nameD k = l
      · have HO := Lib.hid (opOf_lt hlt HJ.out hk1 he)
        have hc : ∀ w, Calls Tryz.prog 67 #[.int .i64 k] w fun e w' => e = .returned (strV l) ∧ Kept [] w w' := fun w => by have := HNM.out k w; rw [he] at this; exact this
        have HC := Lib.hid hc
        clear hc he
        go_wp2_with fail
        refine (HC.out _).mono ?_
        rintro e w1 ⟨rfl, hk1'⟩
        go_wp2_with fail
        go_ret
        exact ⟨by rw [HO.out]; rfl, hkw.trans hk1'⟩
      · obtain ⟨x, hx⟩ : ∃ x, nameD k = x := ⟨_, rfl⟩
        have hb : (x == l) = false := beq_eq_false_iff_ne.2 (hx ▸ he)
        have hc : ∀ w, Calls Tryz.prog 67 #[.int .i64 k] w fun e w' => e = .returned (strV x) ∧ Kept [] w w' := fun w => by have := HNM.out k w; rw [hx] at this; exact this
        have HC := Lib.hid hc
        have HN := Lib.hid he
        clear hc he hx
        go_wp2_with fail
        refine (HC.out _).mono ?_
        rintro e w1 ⟨rfl, hk1'⟩
        go_wp2_with fail
        go_roundw
        case rel => exact ⟨k + 1, by omega, by omega, by go_num, (fun j h1 h2 => by
          rcases Nat.lt_or_ge j k with h3 | h3
          · exact HJ.out j h1 h3
          · obtain rfl : j = k := by omega
            exact HN.out), hkw.trans hk1'⟩
        case measure => simp [intOf]; omega
    · obtain rfl : k = 12 := by omega
      have HO := Lib.hid (opOf_none HJ.out)
      go_wp2_with fail
      go_ret
      exact ⟨by rw [HO.out]; rfl, hkw⟩

set_option maxHeartbeats 800000 in
theorem refSmall (x : Nat) (w : World) (hx : x ≤ 18446744073709551615) : Calls Tryz.prog 70 #[.int .u64 x] w fun e w' => e = .returned (.int .i64 ((min x 64 : Nat) : Int)) ∧ w = w' := by
  by_cases h : 64 < x
  · go_enter Tryz.func70, Tryz.ntmps70
    go_wp2_with fail
    go_ret
    exact ⟨ret_int (by omega), rfl⟩
  · go_enter Tryz.func70, Tryz.ntmps70
    go_wp2_with fail
    go_ret
    exact ⟨ret_int (by omega), rfl⟩

set_option maxHeartbeats 1600000 in
theorem refParse_none (l : List UInt8) (w : World) (hl : l.length ≤ 100000) (hw : words l = []) :
    Calls Tryz.prog 38 #[strV l] w fun e w' => e = .returned (.tuple #[.agg (dC 0 0 0 0 0 0 false), .int .i64 15]) ∧ Kept [] w w' := by
  have HW := Lib.hid (fun w => refWords l w hl)
  rw [hw] at HW
  clear hw
  simp only [List.length_nil] at HW
  go_enter Tryz.func38, Tryz.ntmps38
  go_wp2_with fail
  refine (HW.out _).mono ?_
  rintro e w1 ⟨A, c, rfl, hF⟩
  have hk := hF.2.1
  have hB := (Blk.new w 60 (dC 0 0 0 0 0 0 false)).kept hk (by simp)
  have hc := hB.cell
  have hf := hB.frozen
  have hlt := hB.lt
  have HK := Lib.hid (((Kept.refl [] w).alloc _).trans hk)
  clear hF hk hB
  go_wp2_with fail
  refine bodyPost_ret (v := .tuple #[.agg (dC 0 0 0 0 0 0 false), .int .i64 15]) (by simp [results, Tryz.results38, go_sem, hc]) rfl ⟨rfl, ?_⟩
  have hk2 := HK.out
  (repeat (first | (with_reducible exact Kept.refl _ _) | (with_reducible assumption) | (with_reducible refine Kept.alloc ?_ _) | (with_reducible refine Kept.drew ?_) | (with_reducible refine Kept.drewN ?_ _) | (with_reducible refine Kept.setCell ?_ ?_ _) | (exact .inr (Nat.le_refl _)) | (exact .inr (by simp only; omega)) | (exact .inr (by omega))))

end Go.Proofs.YtladfdpcdjjifaaGreatDoor

/- name: is a word a deed's name, walked. -/
namespace Go.Proofs.YtladfdpcdjjifaaGreatDoor
open Go.RowKit

set_option maxHeartbeats 1600000 in
set_option maxRecDepth 100000 in
/-- The document asks whether a word is a deed's name. -/
theorem refName9 (l : List UInt8) (w : World) : Calls Tryz.prog 37 #[strV l] w fun e w' => e = .returned (.bool (opOf l != 0)) ∧ Kept [] w w' := by
  have HNM := Lib.hid (fun k w => refName k w)
  go_enter Tryz.func37, Tryz.ntmps37
  go_wp2_with fail
  go_loopw [3] (fun kv wr => ∃ k : Nat, 1 ≤ k ∧ k ≤ 12 ∧ kv = .int .i64 k ∧ Hid (∀ j : Nat, 1 ≤ j → j < k → nameD j ≠ l) ∧ Kept [] w wr) (fun k _ => 12 - (intOf k).toNat)
  case atStart => exact ⟨1, by omega, by omega, rfl, (fun j h1 h2 => by omega), Kept.refl _ _⟩
  case round =>
    obtain ⟨k, hk1, hk2, rfl, HJ, hkw⟩ := hrel
    by_cases hlt : k ≤ 11
    · by_cases he : nameD k = l
      · have HO := Lib.hid (opOf_lt hlt HJ.out hk1 he)
        have hc : ∀ w, Calls Tryz.prog 67 #[.int .i64 k] w fun e w' => e = .returned (strV l) ∧ Kept [] w w' := fun w => by have := HNM.out k w; rw [he] at this; exact this
        have HC := Lib.hid hc
        clear hc he
        go_wp2_with fail
        refine (HC.out _).mono ?_
        rintro e w1 ⟨rfl, hk1'⟩
        go_wp2_with fail
        go_ret
        exact ⟨by rw [HO.out]; have : ((k : Int) != 0) = true := by rw [bne_iff_ne]; omega
                  rw [this]; rfl, hkw.trans hk1'⟩
      · obtain ⟨x, hx⟩ : ∃ x, nameD k = x := ⟨_, rfl⟩
        have hb : (x == l) = false := beq_eq_false_iff_ne.2 (hx ▸ he)
        have hc : ∀ w, Calls Tryz.prog 67 #[.int .i64 k] w fun e w' => e = .returned (strV x) ∧ Kept [] w w' := fun w => by have := HNM.out k w; rw [hx] at this; exact this
        have HC := Lib.hid hc
        have HN := Lib.hid he
        clear hc he hx
        go_wp2_with fail
        refine (HC.out _).mono ?_
        rintro e w1 ⟨rfl, hk1'⟩
        go_wp2_with fail
        go_roundw
        case rel => exact ⟨k + 1, by omega, by omega, by go_num, (fun j h1 h2 => by
          rcases Nat.lt_or_ge j k with h3 | h3
          · exact HJ.out j h1 h3
          · obtain rfl : j = k := by omega
            exact HN.out), hkw.trans hk1'⟩
        case measure => simp [intOf]; omega
    · obtain rfl : k = 12 := by omega
      have HO := Lib.hid (opOf_none HJ.out)
      go_wp2_with fail
      go_ret
      exact ⟨by rw [HO.out]; rfl, hkw⟩

end Go.Proofs.YtladfdpcdjjifaaGreatDoor

/- The document's line: a duty with one line more, walked. -/
namespace Go.Proofs.YtladfdpcdjjifaaGreatDoor
open Go.RowKit

attribute [local go_sem] run_store_float
/-- What the document's line leaves. -/
def Lined (w0 wr : World) (r : Du × Int) (ex : Ending) (w' : World) : Prop := ∃ A n c B m e, ex = .returned (.tuple #[.agg (uC r.1 A n c B m e), .int .i64 r.2]) ∧ RowPQ w0 w' r.1.progs A n c ∧ RowS w0 w' r.1.starts B m e ∧ Kept [] w0 w' ∧ ∀ g cs, Blk wr g 27 cs → Blk w' g 27 cs

set_option maxHeartbeats 3200000 in
set_option maxRecDepth 100000 in
theorem rline_nil (w0 wr : World) (d : Du) (A : Option Addr) (n c : Nat) (B : Option Addr) (m e0 : Nat) (l : List UInt8) (f : Bool) (hw : words l = []) (hq : RowPQ w0 wr d.progs A n c) (hs : RowS w0 wr d.starts B m e0) (hk : Kept [] w0 wr) (hsm : SmallU 5000 d) (hl : l.length ≤ 80000) :
    Calls Tryz.prog 15 #[.agg (uC d A n c B m e0), strV l, .bool f] wr (Lined w0 wr (d, 15)) := by
  have HW := Lib.hid (fun w => refWords l w (by omega))
  rw [hw] at HW
  try simp only [List.length_cons] at HW
  have HQ := Lib.hid hq
  have HS := Lib.hid hs
  have HK := Lib.hid hk
  have HML := Lib.hid hs.len
  have HNL := Lib.hid hq.pp.len
  clear hq hs hk
  obtain ⟨cpus, threads, locks, cap, boost, keep, ratio, progs, starts⟩ := d
  simp only at *
  unfold Lined
  simp only [uC]
  go_enter Tryz.func15, Tryz.ntmps15
  go_wp2_with fail
  refine (HW.out _).mono ?_
  rintro e w1 ⟨Aw, cw, rfl, hF⟩
  have HF := Lib.hid hF
  have hk1 := hF.2.1
  have HD : Hid (Blk w1 wr.heap.size 27 #[.int .i64 cpus, .int .i64 threads, .int .i64 locks, .int .i64 cap, .int .u64 (boost : Int), .float .f64 keep, .float .f64 ratio, .slice A n c, .slice B m e0]) := ((Blk.new wr 27 _).alloc _).kept hk1 (by simp)
  have HR : Hid (Blk w1 (wr.heap.size + 1) 27 #[.int .i64 0, .int .i64 0, .int .i64 0, .int .i64 0, .int .u64 0, .float .f64 0, .float .f64 0, .slice none 0 0, .slice none 0 0]) := (Blk.newAt (by simp) 27 _).kept hk1 (by simp)
  have HK1 := Lib.hid ((((Kept.refl [] wr).alloc (.cells #[.int .i64 cpus, .int .i64 threads, .int .i64 locks, .int .i64 cap, .int .u64 (boost : Int), .float .f64 keep, .float .f64 ratio, .slice A n c, .slice B m e0] 27)).alloc (.cells #[.int .i64 0, .int .i64 0, .int .i64 0, .int .i64 0, .int .u64 0, .float .f64 0, .float .f64 0, .slice none 0 0, .slice none 0 0] 27)).trans hk1)
  have hdc := HD.out.cell
  have hdf := HD.out.frozen
  have hdl := HD.out.lt
  have hrc := HR.out.cell
  have hrf := HR.out.frozen
  have hrl := HR.out.lt
  clear hF hk1
  go_wp2_with fail
  have hF := (put9_blk HR.out (.int .i64 cpus) (.int .i64 threads) (.int .i64 locks) (.int .i64 cap) (.int .u64 (boost : Int)) (.float .f64 keep) (.float .f64 ratio) (.slice A n c) (.slice B m e0)).cell
  refine bodyPost_ret (v := .tuple #[.agg #[.int .i64 cpus, .int .i64 threads, .int .i64 locks, .int .i64 cap, .int .u64 (boost : Int), .float .f64 keep, .float .f64 ratio, .slice A n c, .slice B m e0], .int .i64 15]) (by simp [results, Tryz.results15, go_sem, hF]) rfl ?_
  have hk9 : Kept [] wr _ := put9_kept (g := wr.heap.size + 1) HK1.out (by omega) (.int .i64 cpus) (.int .i64 threads) (.int .i64 locks) (.int .i64 cap) (.int .u64 (boost : Int)) (.float .f64 keep) (.float .f64 ratio) (.slice A n c) (.slice B m e0)
  exact ⟨A, n, c, B, m, e0, rfl, HQ.out.kept hk9 (by simp), HS.out.kept hk9 (by simp), HK.out.trans hk9, fun g cs h => h.kept hk9 (by simp)⟩

set_option maxHeartbeats 3200000 in
set_option maxRecDepth 100000 in
theorem rline_notduty (w0 wr : World) (d : Du) (A : Option Addr) (n c : Nat) (B : Option Addr) (m e0 : Nat) (l : List UInt8) (a : List UInt8) (t : List (List UInt8)) (h1 : a ≠ dutyW) (hw : words l = a :: t) (hq : RowPQ w0 wr d.progs A n c) (hs : RowS w0 wr d.starts B m e0) (hk : Kept [] w0 wr) (hsm : SmallU 5000 d) (hl : l.length ≤ 80000) :
    Calls Tryz.prog 15 #[.agg (uC d A n c B m e0), strV l, .bool true] wr (Lined w0 wr (d, 15)) := by
  have HW := Lib.hid (fun w => refWords l w (by omega))
  rw [hw] at HW
  try simp only [List.length_cons] at HW
  have HQ := Lib.hid hq
  have HS := Lib.hid hs
  have HK := Lib.hid hk
  have HML := Lib.hid hs.len
  have HNL := Lib.hid hq.pp.len
  clear hq hs hk
  obtain ⟨cpus, threads, locks, cap, boost, keep, ratio, progs, starts⟩ := d
  simp only at *
  have hb1 : (a == [100, 117, 116, 121]) = false := beq_eq_false_iff_ne.2 h1
  clear h1
  unfold Lined
  simp only [uC]
  go_enter Tryz.func15, Tryz.ntmps15
  go_wp2_with fail
  refine (HW.out _).mono ?_
  rintro e w1 ⟨Aw, cw, rfl, hF⟩
  have HF := Lib.hid hF
  have hk1 := hF.2.1
  have HD : Hid (Blk w1 wr.heap.size 27 #[.int .i64 cpus, .int .i64 threads, .int .i64 locks, .int .i64 cap, .int .u64 (boost : Int), .float .f64 keep, .float .f64 ratio, .slice A n c, .slice B m e0]) := ((Blk.new wr 27 _).alloc _).kept hk1 (by simp)
  have HR : Hid (Blk w1 (wr.heap.size + 1) 27 #[.int .i64 0, .int .i64 0, .int .i64 0, .int .i64 0, .int .u64 0, .float .f64 0, .float .f64 0, .slice none 0 0, .slice none 0 0]) := (Blk.newAt (by simp) 27 _).kept hk1 (by simp)
  have HK1 := Lib.hid ((((Kept.refl [] wr).alloc (.cells #[.int .i64 cpus, .int .i64 threads, .int .i64 locks, .int .i64 cap, .int .u64 (boost : Int), .float .f64 keep, .float .f64 ratio, .slice A n c, .slice B m e0] 27)).alloc (.cells #[.int .i64 0, .int .i64 0, .int .i64 0, .int .i64 0, .int .u64 0, .float .f64 0, .float .f64 0, .slice none 0 0, .slice none 0 0] 27)).trans hk1)
  have hdc := HD.out.cell
  have hdf := HD.out.frozen
  have hdl := HD.out.lt
  have hrc := HR.out.cell
  have hrf := HR.out.frozen
  have hrl := HR.out.lt
  clear hF hk1
  obtain ⟨bw, ow, rfl, hbw, hcw⟩ := (Reads.of_own HF.out.1).addr (by omega) (by omega)
  have hc0 := hcw 0 (strV a) (by simp)
  rw [Nat.add_zero] at hc0
  have hb0 : ((t.length : Int) + 1 == 0) = false := beq_eq_false_iff_ne.2 (by omega)
  have hi0 : (0 : Int) < (t.length : Int) + 1 := by omega
  go_wp2_with fail
  have hF := (put9_blk HR.out (.int .i64 cpus) (.int .i64 threads) (.int .i64 locks) (.int .i64 cap) (.int .u64 (boost : Int)) (.float .f64 keep) (.float .f64 ratio) (.slice A n c) (.slice B m e0)).cell
  refine bodyPost_ret (v := .tuple #[.agg #[.int .i64 cpus, .int .i64 threads, .int .i64 locks, .int .i64 cap, .int .u64 (boost : Int), .float .f64 keep, .float .f64 ratio, .slice A n c, .slice B m e0], .int .i64 15]) (by simp [results, Tryz.results15, go_sem, hF]) rfl ?_
  have hk9 : Kept [] wr _ := put9_kept (g := wr.heap.size + 1) HK1.out (by omega) (.int .i64 cpus) (.int .i64 threads) (.int .i64 locks) (.int .i64 cap) (.int .u64 (boost : Int)) (.float .f64 keep) (.float .f64 ratio) (.slice A n c) (.slice B m e0)
  exact ⟨A, n, c, B, m, e0, rfl, HQ.out.kept hk9 (by simp), HS.out.kept hk9 (by simp), HK.out.trans hk9, fun g cs h => h.kept hk9 (by simp)⟩

set_option maxHeartbeats 3200000 in
set_option maxRecDepth 100000 in
theorem rline_duty (w0 wr : World) (d : Du) (A : Option Addr) (n c : Nat) (B : Option Addr) (m e0 : Nat) (l : List UInt8) (a : List UInt8) (t : List (List UInt8)) (h1 : a = dutyW) (hw : words l = a :: t) (hq : RowPQ w0 wr d.progs A n c) (hs : RowS w0 wr d.starts B m e0) (hk : Kept [] w0 wr) (hsm : SmallU 5000 d) (hl : l.length ≤ 80000) :
    Calls Tryz.prog 15 #[.agg (uC d A n c B m e0), strV l, .bool false] wr (Lined w0 wr (d, 15)) := by
  have HW := Lib.hid (fun w => refWords l w (by omega))
  rw [hw] at HW
  try simp only [List.length_cons] at HW
  have HQ := Lib.hid hq
  have HS := Lib.hid hs
  have HK := Lib.hid hk
  have HML := Lib.hid hs.len
  have HNL := Lib.hid hq.pp.len
  clear hq hs hk
  obtain ⟨cpus, threads, locks, cap, boost, keep, ratio, progs, starts⟩ := d
  simp only at *
  have hb1 : (a == [100, 117, 116, 121]) = true := by rw [h1]; rfl
  clear h1
  unfold Lined
  simp only [uC]
  go_enter Tryz.func15, Tryz.ntmps15
  go_wp2_with fail
  refine (HW.out _).mono ?_
  rintro e w1 ⟨Aw, cw, rfl, hF⟩
  have HF := Lib.hid hF
  have hk1 := hF.2.1
  have HD : Hid (Blk w1 wr.heap.size 27 #[.int .i64 cpus, .int .i64 threads, .int .i64 locks, .int .i64 cap, .int .u64 (boost : Int), .float .f64 keep, .float .f64 ratio, .slice A n c, .slice B m e0]) := ((Blk.new wr 27 _).alloc _).kept hk1 (by simp)
  have HR : Hid (Blk w1 (wr.heap.size + 1) 27 #[.int .i64 0, .int .i64 0, .int .i64 0, .int .i64 0, .int .u64 0, .float .f64 0, .float .f64 0, .slice none 0 0, .slice none 0 0]) := (Blk.newAt (by simp) 27 _).kept hk1 (by simp)
  have HK1 := Lib.hid ((((Kept.refl [] wr).alloc (.cells #[.int .i64 cpus, .int .i64 threads, .int .i64 locks, .int .i64 cap, .int .u64 (boost : Int), .float .f64 keep, .float .f64 ratio, .slice A n c, .slice B m e0] 27)).alloc (.cells #[.int .i64 0, .int .i64 0, .int .i64 0, .int .i64 0, .int .u64 0, .float .f64 0, .float .f64 0, .slice none 0 0, .slice none 0 0] 27)).trans hk1)
  have hdc := HD.out.cell
  have hdf := HD.out.frozen
  have hdl := HD.out.lt
  have hrc := HR.out.cell
  have hrf := HR.out.frozen
  have hrl := HR.out.lt
  clear hF hk1
  obtain ⟨bw, ow, rfl, hbw, hcw⟩ := (Reads.of_own HF.out.1).addr (by omega) (by omega)
  have hc0 := hcw 0 (strV a) (by simp)
  rw [Nat.add_zero] at hc0
  have hb0 : ((t.length : Int) + 1 == 0) = false := beq_eq_false_iff_ne.2 (by omega)
  have hi0 : (0 : Int) < (t.length : Int) + 1 := by omega
  go_wp2_with fail
  have hF := (put9_blk HR.out (.int .i64 cpus) (.int .i64 threads) (.int .i64 locks) (.int .i64 cap) (.int .u64 (boost : Int)) (.float .f64 keep) (.float .f64 ratio) (.slice A n c) (.slice B m e0)).cell
  refine bodyPost_ret (v := .tuple #[.agg #[.int .i64 cpus, .int .i64 threads, .int .i64 locks, .int .i64 cap, .int .u64 (boost : Int), .float .f64 keep, .float .f64 ratio, .slice A n c, .slice B m e0], .int .i64 15]) (by simp [results, Tryz.results15, go_sem, hF]) rfl ?_
  have hk9 : Kept [] wr _ := put9_kept (g := wr.heap.size + 1) HK1.out (by omega) (.int .i64 cpus) (.int .i64 threads) (.int .i64 locks) (.int .i64 cap) (.int .u64 (boost : Int)) (.float .f64 keep) (.float .f64 ratio) (.slice A n c) (.slice B m e0)
  exact ⟨A, n, c, B, m, e0, rfl, HQ.out.kept hk9 (by simp), HS.out.kept hk9 (by simp), HK.out.trans hk9, fun g cs h => h.kept hk9 (by simp)⟩

/-- The document's read, where a line's first word is left out. -/
theorem refRead_for (A : Option Addr) (n c : Nat) (ws : List (List UInt8)) (H M K : Nat) (w : World) (hr : Reads w 1 A n (ws.map strV)) (hl : ws.length ≤ 100000) (hx : ∀ x ∈ ws, x.length ≤ 90000) (hm : (M = 7 ∧ K = 5 ∧ H = 2) ∨ (M = 3 ∧ K = 2 ∧ H = 1)) :
    Calls Tryz.prog 34 #[.slice A n c, .int .i64 (H : Nat)] w fun e w' => ∃ A' n' c' f, e = .returned (.tuple #[.slice A' n' c', .bool f]) ∧ (numbU ws M K = none → n' ≠ M) ∧ (∀ r, numbU ws M K = some r → f = true ∧ RowN w w' r A' n' c') ∧ Kept [] w w' := by
  refine (refRead9 A n c ws H w hr hl hx (by omega)).mono ?_
  rintro e w' ⟨A', n', c', rfl, h1, h2, hk⟩
  refine ⟨A', n', c', _, rfl, fun hn => ?_, fun r h => ?_, hk⟩
  · unfold numbU at hn
    cases hq : numsF (ws.length - H) [] ws with
    | none => rw [h2 hq]; omega
    | some r =>
      have h3 := (h1 r hq).len
      have h4 := numsF_len _ _ _ _ hq
      simp only [List.length_nil, Nat.zero_add] at h4
      split at hn
      · rename_i hwl
        rw [show ws.length - H = K by omega] at hq
        rw [hq] at hn
        simp at hn
      · omega
  · unfold numbU at h
    split at h
    · rename_i hwl
      rw [show K = ws.length - H by omega] at h
      exact ⟨by rw [h]; rfl, h1 r h⟩
    · simp at h

set_option maxHeartbeats 3200000 in
set_option maxRecDepth 100000 in
theorem rline_form (w0 wr : World) (d : Du) (A : Option Addr) (n c : Nat) (B : Option Addr) (m e0 : Nat) (l : List UInt8) (a : List UInt8) (t : List (List UInt8)) (h1 : a = dutyW) (hw : words l = a :: t) (htl : t.length ≤ 90000) (htx : ∀ x ∈ t, x.length ≤ 90000) (hnb : numbU t 7 5 = none) (hq : RowPQ w0 wr d.progs A n c) (hs : RowS w0 wr d.starts B m e0) (hk : Kept [] w0 wr) (hsm : SmallU 5000 d) (hl : l.length ≤ 80000) :
    Calls Tryz.prog 15 #[.agg (uC d A n c B m e0), strV l, .bool true] wr (Lined w0 wr (d, 3)) := by
  have HW := Lib.hid (fun w => refWords l w (by omega))
  rw [hw] at HW
  try simp only [List.length_cons] at HW
  have HQ := Lib.hid hq
  have HS := Lib.hid hs
  have HK := Lib.hid hk
  have HML := Lib.hid hs.len
  have HNL := Lib.hid hq.pp.len
  clear hq hs hk
  obtain ⟨cpus, threads, locks, cap, boost, keep, ratio, progs, starts⟩ := d
  simp only at *
  have hb1 : (a == [100, 117, 116, 121]) = true := by rw [h1]; rfl
  clear h1
  have HRE := Lib.hid (fun A n c w h => refRead_for A n c t 2 7 5 w h (by omega) htx (.inl ⟨rfl, rfl, rfl⟩))
  rw [hnb] at HRE
  clear hnb htx
  unfold Lined
  simp only [uC]
  go_enter Tryz.func15, Tryz.ntmps15
  go_wp2_with fail
  refine (HW.out _).mono ?_
  rintro e w1 ⟨Aw, cw, rfl, hF⟩
  have HF := Lib.hid hF
  have hk1 := hF.2.1
  have HD : Hid (Blk w1 wr.heap.size 27 #[.int .i64 cpus, .int .i64 threads, .int .i64 locks, .int .i64 cap, .int .u64 (boost : Int), .float .f64 keep, .float .f64 ratio, .slice A n c, .slice B m e0]) := ((Blk.new wr 27 _).alloc _).kept hk1 (by simp)
  have HR : Hid (Blk w1 (wr.heap.size + 1) 27 #[.int .i64 0, .int .i64 0, .int .i64 0, .int .i64 0, .int .u64 0, .float .f64 0, .float .f64 0, .slice none 0 0, .slice none 0 0]) := (Blk.newAt (by simp) 27 _).kept hk1 (by simp)
  have HK1 := Lib.hid ((((Kept.refl [] wr).alloc (.cells #[.int .i64 cpus, .int .i64 threads, .int .i64 locks, .int .i64 cap, .int .u64 (boost : Int), .float .f64 keep, .float .f64 ratio, .slice A n c, .slice B m e0] 27)).alloc (.cells #[.int .i64 0, .int .i64 0, .int .i64 0, .int .i64 0, .int .u64 0, .float .f64 0, .float .f64 0, .slice none 0 0, .slice none 0 0] 27)).trans hk1)
  have hdc := HD.out.cell
  have hdf := HD.out.frozen
  have hdl := HD.out.lt
  have hrc := HR.out.cell
  have hrf := HR.out.frozen
  have hrl := HR.out.lt
  clear hF hk1
  obtain ⟨bw, ow, rfl, hbw, hcw⟩ := (Reads.of_own HF.out.1).addr (by omega) (by omega)
  have hc0 := hcw 0 (strV a) (by simp)
  rw [Nat.add_zero] at hc0
  have hb0 : ((t.length : Int) + 1 == 0) = false := beq_eq_false_iff_ne.2 (by omega)
  have hi0 : (0 : Int) < (t.length : Int) + 1 := by omega
  have hcl := own_form HF.out.1
  obtain ⟨A', c', ⟨⟩, hcl1, hcl2⟩ := hcl
  have hsl := run_cut_lo (P := Tryz.prog) 34 9 (.string ByteArray.empty) 16 Tryz.underlying34 Tryz.info9 (some ⟨bw, ow, none⟩) (t.length + 1) cw .i64 1 1 rfl (by omega)
  simp only [Nat.add_sub_cancel] at hsl
  have hr2 : Reads w1 1 (cutA (some ⟨bw, ow, none⟩) 1 cw) t.length (t.map strV) := by
    have h1 := (Reads.of_own HF.out.1).cutA (k := 1) (cap := cw) (by omega) hcl1
    simpa using h1
  have HR2 := Lib.hid hr2
  clear hr2
  go_wp2_with fail
  refine (HRE.out _ _ _ _ HR2.out).mono ?_
  rintro e w2 ⟨A2, n2, c2, f2, rfl, hn2, _, hk2⟩
  have hn7 : ((n2 : Int) != 7) = true := by rw [bne_iff_ne]; have := hn2 trivial; omega
  clear hn2
  have HK2 := Lib.hid (HK1.out.trans hk2)
  have HR3 := Lib.hid (HR.out.kept hk2 (by simp))
  have HD3 := Lib.hid (HD.out.kept hk2 (by simp))
  have hdc2 := HD3.out.cell
  have hdf2 := HD3.out.frozen
  have hdl2 := HD3.out.lt
  have hrc2 := HR3.out.cell
  have hrf2 := HR3.out.frozen
  have hrl2 := HR3.out.lt
  clear hk2
  go_wp2_with fail
  have hF := (put9_blk HR3.out (.int .i64 cpus) (.int .i64 threads) (.int .i64 locks) (.int .i64 cap) (.int .u64 (boost : Int)) (.float .f64 keep) (.float .f64 ratio) (.slice A n c) (.slice B m e0)).cell
  refine bodyPost_ret (v := .tuple #[.agg #[.int .i64 cpus, .int .i64 threads, .int .i64 locks, .int .i64 cap, .int .u64 (boost : Int), .float .f64 keep, .float .f64 ratio, .slice A n c, .slice B m e0], .int .i64 3]) (by simp [results, Tryz.results15, go_sem, hF]) rfl ?_
  have hk9 : Kept [] wr _ := put9_kept (g := wr.heap.size + 1) HK2.out (by omega) (.int .i64 cpus) (.int .i64 threads) (.int .i64 locks) (.int .i64 cap) (.int .u64 (boost : Int)) (.float .f64 keep) (.float .f64 ratio) (.slice A n c) (.slice B m e0)
  exact ⟨A, n, c, B, m, e0, rfl, HQ.out.kept hk9 (by simp), HS.out.kept hk9 (by simp), HK.out.trans hk9, fun g cs h => h.kept hk9 (by simp)⟩

set_option maxHeartbeats 3200000 in
set_option maxRecDepth 100000 in
theorem rline_startbad (w0 wr : World) (d : Du) (A : Option Addr) (n c : Nat) (B : Option Addr) (m e0 : Nat) (l : List UInt8) (a : List UInt8) (t : List (List UInt8)) (h2 : a = startW) (hw : words l = a :: t) (htl : t.length ≤ 90000) (htx : ∀ x ∈ t, x.length ≤ 90000) (hnb : numbU t 3 2 = none) (hq : RowPQ w0 wr d.progs A n c) (hs : RowS w0 wr d.starts B m e0) (hk : Kept [] w0 wr) (hsm : SmallU 5000 d) (hl : l.length ≤ 80000) :
    Calls Tryz.prog 15 #[.agg (uC d A n c B m e0), strV l, .bool false] wr (Lined w0 wr (d, 3)) := by
  have HW := Lib.hid (fun w => refWords l w (by omega))
  rw [hw] at HW
  try simp only [List.length_cons] at HW
  have HQ := Lib.hid hq
  have HS := Lib.hid hs
  have HK := Lib.hid hk
  have HML := Lib.hid hs.len
  have HNL := Lib.hid hq.pp.len
  clear hq hs hk
  obtain ⟨cpus, threads, locks, cap, boost, keep, ratio, progs, starts⟩ := d
  simp only at *
  have hb2 : (a == [115, 116, 97, 114, 116]) = true := by rw [h2]; rfl
  have hb1 : (a == [100, 117, 116, 121]) = false := by rw [h2]; rfl
  clear h2
  have HRE := Lib.hid (fun A n c w h => refRead_for A n c t 1 3 2 w h (by omega) htx (.inr ⟨rfl, rfl, rfl⟩))
  rw [hnb] at HRE
  clear hnb htx
  unfold Lined
  simp only [uC]
  go_enter Tryz.func15, Tryz.ntmps15
  go_wp2_with fail
  refine (HW.out _).mono ?_
  rintro e w1 ⟨Aw, cw, rfl, hF⟩
  have HF := Lib.hid hF
  have hk1 := hF.2.1
  have HD : Hid (Blk w1 wr.heap.size 27 #[.int .i64 cpus, .int .i64 threads, .int .i64 locks, .int .i64 cap, .int .u64 (boost : Int), .float .f64 keep, .float .f64 ratio, .slice A n c, .slice B m e0]) := ((Blk.new wr 27 _).alloc _).kept hk1 (by simp)
  have HR : Hid (Blk w1 (wr.heap.size + 1) 27 #[.int .i64 0, .int .i64 0, .int .i64 0, .int .i64 0, .int .u64 0, .float .f64 0, .float .f64 0, .slice none 0 0, .slice none 0 0]) := (Blk.newAt (by simp) 27 _).kept hk1 (by simp)
  have HK1 := Lib.hid ((((Kept.refl [] wr).alloc (.cells #[.int .i64 cpus, .int .i64 threads, .int .i64 locks, .int .i64 cap, .int .u64 (boost : Int), .float .f64 keep, .float .f64 ratio, .slice A n c, .slice B m e0] 27)).alloc (.cells #[.int .i64 0, .int .i64 0, .int .i64 0, .int .i64 0, .int .u64 0, .float .f64 0, .float .f64 0, .slice none 0 0, .slice none 0 0] 27)).trans hk1)
  have hdc := HD.out.cell
  have hdf := HD.out.frozen
  have hdl := HD.out.lt
  have hrc := HR.out.cell
  have hrf := HR.out.frozen
  have hrl := HR.out.lt
  clear hF hk1
  obtain ⟨bw, ow, rfl, hbw, hcw⟩ := (Reads.of_own HF.out.1).addr (by omega) (by omega)
  have hc0 := hcw 0 (strV a) (by simp)
  rw [Nat.add_zero] at hc0
  have hb0 : ((t.length : Int) + 1 == 0) = false := beq_eq_false_iff_ne.2 (by omega)
  have hi0 : (0 : Int) < (t.length : Int) + 1 := by omega
  have hcl := own_form HF.out.1
  obtain ⟨A', c', ⟨⟩, hcl1, hcl2⟩ := hcl
  have hsl := run_cut_lo (P := Tryz.prog) 34 9 (.string ByteArray.empty) 16 Tryz.underlying34 Tryz.info9 (some ⟨bw, ow, none⟩) (t.length + 1) cw .i64 1 1 rfl (by omega)
  simp only [Nat.add_sub_cancel] at hsl
  have hr2 : Reads w1 1 (cutA (some ⟨bw, ow, none⟩) 1 cw) t.length (t.map strV) := by
    have h1 := (Reads.of_own HF.out.1).cutA (k := 1) (cap := cw) (by omega) hcl1
    simpa using h1
  have HR2 := Lib.hid hr2
  clear hr2
  go_wp2_with fail
  refine (HRE.out _ _ _ _ HR2.out).mono ?_
  rintro e w2 ⟨A2, n2, c2, f2, rfl, hn2, _, hk2⟩
  have hn7 : ((n2 : Int) != 3) = true := by rw [bne_iff_ne]; have := hn2 trivial; omega
  clear hn2
  have HK2 := Lib.hid (HK1.out.trans hk2)
  have HR3 := Lib.hid (HR.out.kept hk2 (by simp))
  have HD3 := Lib.hid (HD.out.kept hk2 (by simp))
  have hdc2 := HD3.out.cell
  have hdf2 := HD3.out.frozen
  have hdl2 := HD3.out.lt
  have hrc2 := HR3.out.cell
  have hrf2 := HR3.out.frozen
  have hrl2 := HR3.out.lt
  clear hk2
  go_wp2_with fail
  have hF := (put9_blk HR3.out (.int .i64 cpus) (.int .i64 threads) (.int .i64 locks) (.int .i64 cap) (.int .u64 (boost : Int)) (.float .f64 keep) (.float .f64 ratio) (.slice A n c) (.slice B m e0)).cell
  refine bodyPost_ret (v := .tuple #[.agg #[.int .i64 cpus, .int .i64 threads, .int .i64 locks, .int .i64 cap, .int .u64 (boost : Int), .float .f64 keep, .float .f64 ratio, .slice A n c, .slice B m e0], .int .i64 3]) (by simp [results, Tryz.results15, go_sem, hF]) rfl ?_
  have hk9 : Kept [] wr _ := put9_kept (g := wr.heap.size + 1) HK2.out (by omega) (.int .i64 cpus) (.int .i64 threads) (.int .i64 locks) (.int .i64 cap) (.int .u64 (boost : Int)) (.float .f64 keep) (.float .f64 ratio) (.slice A n c) (.slice B m e0)
  exact ⟨A, n, c, B, m, e0, rfl, HQ.out.kept hk9 (by simp), HS.out.kept hk9 (by simp), HK.out.trans hk9, fun g cs h => h.kept hk9 (by simp)⟩

end Go.Proofs.YtladfdpcdjjifaaGreatDoor

