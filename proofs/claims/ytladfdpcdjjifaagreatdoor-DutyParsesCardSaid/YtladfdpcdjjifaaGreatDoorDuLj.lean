/- The document's line: another line, walked. -/
import Derived.Test.YtladfdpcdjjifaaGreatDoorDutyC
import Derived.Test.YtladfdpcdjjifaaGreatDoorDeedV
namespace Go.Proofs.YtladfdpcdjjifaaGreatDoor
open Go.RowKit

attribute [local go_sem] run_store_float

set_option maxHeartbeats 3200000 in
set_option maxRecDepth 100000 in
theorem rline_late (w0 wr : World) (d : Du) (A : Option Addr) (n c : Nat) (B : Option Addr) (m e0 : Nat) (l : List UInt8) (a : List UInt8) (t : List (List UInt8)) (hw : words l = a :: t) (h1 : a ≠ dutyW) (h2 : a ≠ startW) (h3 : d.starts ≠ []) (hq : RowPQ w0 wr d.progs A n c) (hs : RowS w0 wr d.starts B m e0) (hk : Kept [] w0 wr) (hsm : SmallU 5000 d) (hl : l.length ≤ 80000) :
    Calls Tryz.prog 15 #[.agg (uC d A n c B m e0), strV l, .bool false] wr (Lined w0 wr (d, 15)) := by
  have HW := Lib.hid (fun w => refWords l w (by omega))
  rw [hw] at HW
  try simp only [List.length_cons] at HW
  have HQ := Lib.hid hq
  have HS := Lib.hid hs
  have HK := Lib.hid hk
  have HML := Lib.hid hs.len
  have HNL := Lib.hid hq.pp.len
  clear hq hs hk
  obtain ⟨cpus, threads, locks, cap, boost, keep, ratio, progs, starts⟩ := d
  simp only at *
  have hb1 : (a == [100, 117, 116, 121]) = false := beq_eq_false_iff_ne.2 h1
  have hb2 : (a == [115, 116, 97, 114, 116]) = false := beq_eq_false_iff_ne.2 h2
  clear h1 h2
  have hm0 : (0 : Int) < (m : Int) := by have := HML.out; have := List.length_pos_iff.2 h3; omega
  clear h3
  unfold Lined
  simp only [uC]
  go_enter Tryz.func15, Tryz.ntmps15
  go_wp2_with fail
  refine (HW.out _).mono ?_
  rintro e w1 ⟨Aw, cw, rfl, hF⟩
  have HF := Lib.hid hF
  have hk1 := hF.2.1
  have HD : Hid (Blk w1 wr.heap.size 27 #[.int .i64 cpus, .int .i64 threads, .int .i64 locks, .int .i64 cap, .int .u64 (boost : Int), .float .f64 keep, .float .f64 ratio, .slice A n c, .slice B m e0]) := ((Blk.new wr 27 _).alloc _).kept hk1 (by simp)
  have HR : Hid (Blk w1 (wr.heap.size + 1) 27 #[.int .i64 0, .int .i64 0, .int .i64 0, .int .i64 0, .int .u64 0, .float .f64 0, .float .f64 0, .slice none 0 0, .slice none 0 0]) := (Blk.newAt (by simp) 27 _).kept hk1 (by simp)
  have HK1 := Lib.hid ((((Kept.refl [] wr).alloc (.cells #[.int .i64 cpus, .int .i64 threads, .int .i64 locks, .int .i64 cap, .int .u64 (boost : Int), .float .f64 keep, .float .f64 ratio, .slice A n c, .slice B m e0] 27)).alloc (.cells #[.int .i64 0, .int .i64 0, .int .i64 0, .int .i64 0, .int .u64 0, .float .f64 0, .float .f64 0, .slice none 0 0, .slice none 0 0] 27)).trans hk1)
  have hdc := HD.out.cell
  have hdf := HD.out.frozen
  have hdl := HD.out.lt
  have hrc := HR.out.cell
  have hrf := HR.out.frozen
  have hrl := HR.out.lt
  clear hF hk1
  obtain ⟨bw, ow, rfl, hbw, hcw⟩ := (Reads.of_own HF.out.1).addr (by omega) (by omega)
  have hc0 := hcw 0 (strV a) (by simp)
  rw [Nat.add_zero] at hc0
  have hb0 : ((t.length : Int) + 1 == 0) = false := beq_eq_false_iff_ne.2 (by omega)
  have hi0 : (0 : Int) < (t.length : Int) + 1 := by omega
  go_wp2_with fail
  have hF := (put9_blk HR.out (.int .i64 cpus) (.int .i64 threads) (.int .i64 locks) (.int .i64 cap) (.int .u64 (boost : Int)) (.float .f64 keep) (.float .f64 ratio) (.slice A n c) (.slice B m e0)).cell
  refine bodyPost_ret (v := .tuple #[.agg #[.int .i64 cpus, .int .i64 threads, .int .i64 locks, .int .i64 cap, .int .u64 (boost : Int), .float .f64 keep, .float .f64 ratio, .slice A n c, .slice B m e0], .int .i64 15]) (by simp [results, Tryz.results15, go_sem, hF]) rfl ?_
  have hk9 : Kept [] wr _ := put9_kept (g := wr.heap.size + 1) HK1.out (by omega) (.int .i64 cpus) (.int .i64 threads) (.int .i64 locks) (.int .i64 cap) (.int .u64 (boost : Int)) (.float .f64 keep) (.float .f64 ratio) (.slice A n c) (.slice B m e0)
  exact ⟨A, n, c, B, m, e0, rfl, HQ.out.kept hk9 (by simp), HS.out.kept hk9 (by simp), HK.out.trans hk9, fun g cs h => h.kept hk9 (by simp)⟩

set_option maxHeartbeats 3200000 in
set_option maxRecDepth 100000 in
theorem rline_noname (w0 wr : World) (d : Du) (A : Option Addr) (n c : Nat) (B : Option Addr) (m e0 : Nat) (l : List UInt8) (a : List UInt8) (t : List (List UInt8)) (hw : words l = a :: t) (h1 : a ≠ dutyW) (h2 : a ≠ startW) (h3 : d.starts = []) (h4 : a ≠ progW) (ho : opOf a = 0) (hq : RowPQ w0 wr d.progs A n c) (hs : RowS w0 wr d.starts B m e0) (hk : Kept [] w0 wr) (hsm : SmallU 5000 d) (hl : l.length ≤ 80000) :
    Calls Tryz.prog 15 #[.agg (uC d A n c B m e0), strV l, .bool false] wr (Lined w0 wr (d, 15)) := by
  have HW := Lib.hid (fun w => refWords l w (by omega))
  rw [hw] at HW
  try simp only [List.length_cons] at HW
  have HQ := Lib.hid hq
  have HS := Lib.hid hs
  have HK := Lib.hid hk
  have HML := Lib.hid hs.len
  have HNL := Lib.hid hq.pp.len
  clear hq hs hk
  obtain ⟨cpus, threads, locks, cap, boost, keep, ratio, progs, starts⟩ := d
  simp only at *
  have hb1 : (a == [100, 117, 116, 121]) = false := beq_eq_false_iff_ne.2 h1
  have hb2 : (a == [115, 116, 97, 114, 116]) = false := beq_eq_false_iff_ne.2 h2
  clear h1 h2
  have hb3 : (a == [112, 114, 111, 103]) = false := beq_eq_false_iff_ne.2 h4
  clear h4
  have hm0 : m = 0 := by have := HML.out; rw [h3] at this; simpa using this
  clear h3 HML
  subst hm0
  have HNM := Lib.hid (fun w => refName9 a w)
  have hnm : (opOf a != 0) = false := by rw [ho]; rfl
  rw [hnm] at HNM
  clear hnm ho
  unfold Lined
  simp only [uC]
  go_enter Tryz.func15, Tryz.ntmps15
  go_wp2_with fail
  refine (HW.out _).mono ?_
  rintro e w1 ⟨Aw, cw, rfl, hF⟩
  have HF := Lib.hid hF
  have hk1 := hF.2.1
  have HD : Hid (Blk w1 wr.heap.size 27 #[.int .i64 cpus, .int .i64 threads, .int .i64 locks, .int .i64 cap, .int .u64 (boost : Int), .float .f64 keep, .float .f64 ratio, .slice A n c, .slice B 0 e0]) := ((Blk.new wr 27 _).alloc _).kept hk1 (by simp)
  have HR : Hid (Blk w1 (wr.heap.size + 1) 27 #[.int .i64 0, .int .i64 0, .int .i64 0, .int .i64 0, .int .u64 0, .float .f64 0, .float .f64 0, .slice none 0 0, .slice none 0 0]) := (Blk.newAt (by simp) 27 _).kept hk1 (by simp)
  have HK1 := Lib.hid ((((Kept.refl [] wr).alloc (.cells #[.int .i64 cpus, .int .i64 threads, .int .i64 locks, .int .i64 cap, .int .u64 (boost : Int), .float .f64 keep, .float .f64 ratio, .slice A n c, .slice B 0 e0] 27)).alloc (.cells #[.int .i64 0, .int .i64 0, .int .i64 0, .int .i64 0, .int .u64 0, .float .f64 0, .float .f64 0, .slice none 0 0, .slice none 0 0] 27)).trans hk1)
  have hdc := HD.out.cell
  have hdf := HD.out.frozen
  have hdl := HD.out.lt
  have hrc := HR.out.cell
  have hrf := HR.out.frozen
  have hrl := HR.out.lt
  clear hF hk1
  obtain ⟨bw, ow, rfl, hbw, hcw⟩ := (Reads.of_own HF.out.1).addr (by omega) (by omega)
  have hc0 := hcw 0 (strV a) (by simp)
  rw [Nat.add_zero] at hc0
  have hb0 : ((t.length : Int) + 1 == 0) = false := beq_eq_false_iff_ne.2 (by omega)
  have hi0 : (0 : Int) < (t.length : Int) + 1 := by omega
  go_wp2_with fail
  refine (HNM.out _).mono ?_
  rintro e w2 ⟨rfl, hk2⟩
  have hc02 : w2.cell? ⟨bw, ow, none⟩ = some (strV a) := hk2.cell_some hc0 (by simp)
  have HK2 := Lib.hid (HK1.out.trans hk2)
  have HR3 := Lib.hid (HR.out.kept hk2 (by simp))
  have HD3 := Lib.hid (HD.out.kept hk2 (by simp))
  have hdc2 := HD3.out.cell
  have hdf2 := HD3.out.frozen
  have hdl2 := HD3.out.lt
  have hrc2 := HR3.out.cell
  have hrf2 := HR3.out.frozen
  have hrl2 := HR3.out.lt
  clear hk2
  go_wp2_with fail
  have hF := (put9_blk HR3.out (.int .i64 cpus) (.int .i64 threads) (.int .i64 locks) (.int .i64 cap) (.int .u64 (boost : Int)) (.float .f64 keep) (.float .f64 ratio) (.slice A n c) (.slice B 0 e0)).cell
  refine bodyPost_ret (v := .tuple #[.agg #[.int .i64 cpus, .int .i64 threads, .int .i64 locks, .int .i64 cap, .int .u64 (boost : Int), .float .f64 keep, .float .f64 ratio, .slice A n c, .slice B 0 e0], .int .i64 15]) (by simp [results, Tryz.results15, go_sem, hF]) rfl ?_
  have hk9 : Kept [] wr _ := put9_kept (g := wr.heap.size + 1) HK2.out (by omega) (.int .i64 cpus) (.int .i64 threads) (.int .i64 locks) (.int .i64 cap) (.int .u64 (boost : Int)) (.float .f64 keep) (.float .f64 ratio) (.slice A n c) (.slice B 0 e0)
  exact ⟨A, n, c, B, 0, e0, rfl, HQ.out.kept hk9 (by simp), HS.out.kept hk9 (by simp), HK.out.trans hk9, fun g cs h => h.kept hk9 (by simp)⟩

set_option maxHeartbeats 3200000 in
set_option maxRecDepth 100000 in
theorem rline_none (w0 wr : World) (d : Du) (A : Option Addr) (n c : Nat) (B : Option Addr) (m e0 : Nat) (l : List UInt8) (a : List UInt8) (t : List (List UInt8)) (hw : words l = a :: t) (h1 : a ≠ dutyW) (h2 : a ≠ startW) (h3 : d.starts = []) (h4 : a ≠ progW) (ho : opOf a ≠ 0) (h6 : d.progs = []) (hq : RowPQ w0 wr d.progs A n c) (hs : RowS w0 wr d.starts B m e0) (hk : Kept [] w0 wr) (hsm : SmallU 5000 d) (hl : l.length ≤ 80000) :
    Calls Tryz.prog 15 #[.agg (uC d A n c B m e0), strV l, .bool false] wr (Lined w0 wr (d, 15)) := by
  have HW := Lib.hid (fun w => refWords l w (by omega))
  rw [hw] at HW
  try simp only [List.length_cons] at HW
  have HQ := Lib.hid hq
  have HS := Lib.hid hs
  have HK := Lib.hid hk
  have HML := Lib.hid hs.len
  have HNL := Lib.hid hq.pp.len
  clear hq hs hk
  obtain ⟨cpus, threads, locks, cap, boost, keep, ratio, progs, starts⟩ := d
  simp only at *
  have hb1 : (a == [100, 117, 116, 121]) = false := beq_eq_false_iff_ne.2 h1
  have hb2 : (a == [115, 116, 97, 114, 116]) = false := beq_eq_false_iff_ne.2 h2
  clear h1 h2
  have hb3 : (a == [112, 114, 111, 103]) = false := beq_eq_false_iff_ne.2 h4
  clear h4
  have hm0 : m = 0 := by have := HML.out; rw [h3] at this; simpa using this
  clear h3 HML
  subst hm0
  have HNM := Lib.hid (fun w => refName9 a w)
  have hnm : (opOf a != 0) = true := by rw [bne_iff_ne]; exact ho
  rw [hnm] at HNM
  clear hnm ho
  have hn0 : n = 0 := by have := HNL.out; rw [h6] at this; simpa using this
  clear h6 HNL
  subst hn0
  unfold Lined
  simp only [uC]
  go_enter Tryz.func15, Tryz.ntmps15
  go_wp2_with fail
  refine (HW.out _).mono ?_
  rintro e w1 ⟨Aw, cw, rfl, hF⟩
  have HF := Lib.hid hF
  have hk1 := hF.2.1
  have HD : Hid (Blk w1 wr.heap.size 27 #[.int .i64 cpus, .int .i64 threads, .int .i64 locks, .int .i64 cap, .int .u64 (boost : Int), .float .f64 keep, .float .f64 ratio, .slice A 0 c, .slice B 0 e0]) := ((Blk.new wr 27 _).alloc _).kept hk1 (by simp)
  have HR : Hid (Blk w1 (wr.heap.size + 1) 27 #[.int .i64 0, .int .i64 0, .int .i64 0, .int .i64 0, .int .u64 0, .float .f64 0, .float .f64 0, .slice none 0 0, .slice none 0 0]) := (Blk.newAt (by simp) 27 _).kept hk1 (by simp)
  have HK1 := Lib.hid ((((Kept.refl [] wr).alloc (.cells #[.int .i64 cpus, .int .i64 threads, .int .i64 locks, .int .i64 cap, .int .u64 (boost : Int), .float .f64 keep, .float .f64 ratio, .slice A 0 c, .slice B 0 e0] 27)).alloc (.cells #[.int .i64 0, .int .i64 0, .int .i64 0, .int .i64 0, .int .u64 0, .float .f64 0, .float .f64 0, .slice none 0 0, .slice none 0 0] 27)).trans hk1)
  have hdc := HD.out.cell
  have hdf := HD.out.frozen
  have hdl := HD.out.lt
  have hrc := HR.out.cell
  have hrf := HR.out.frozen
  have hrl := HR.out.lt
  clear hF hk1
  obtain ⟨bw, ow, rfl, hbw, hcw⟩ := (Reads.of_own HF.out.1).addr (by omega) (by omega)
  have hc0 := hcw 0 (strV a) (by simp)
  rw [Nat.add_zero] at hc0
  have hb0 : ((t.length : Int) + 1 == 0) = false := beq_eq_false_iff_ne.2 (by omega)
  have hi0 : (0 : Int) < (t.length : Int) + 1 := by omega
  go_wp2_with fail
  refine (HNM.out _).mono ?_
  rintro e w2 ⟨rfl, hk2⟩
  have hc02 : w2.cell? ⟨bw, ow, none⟩ = some (strV a) := hk2.cell_some hc0 (by simp)
  have HK2 := Lib.hid (HK1.out.trans hk2)
  have HR3 := Lib.hid (HR.out.kept hk2 (by simp))
  have HD3 := Lib.hid (HD.out.kept hk2 (by simp))
  have hdc2 := HD3.out.cell
  have hdf2 := HD3.out.frozen
  have hdl2 := HD3.out.lt
  have hrc2 := HR3.out.cell
  have hrf2 := HR3.out.frozen
  have hrl2 := HR3.out.lt
  clear hk2
  go_wp2_with fail
  have hF := (put9_blk HR3.out (.int .i64 cpus) (.int .i64 threads) (.int .i64 locks) (.int .i64 cap) (.int .u64 (boost : Int)) (.float .f64 keep) (.float .f64 ratio) (.slice A 0 c) (.slice B 0 e0)).cell
  refine bodyPost_ret (v := .tuple #[.agg #[.int .i64 cpus, .int .i64 threads, .int .i64 locks, .int .i64 cap, .int .u64 (boost : Int), .float .f64 keep, .float .f64 ratio, .slice A 0 c, .slice B 0 e0], .int .i64 15]) (by simp [results, Tryz.results15, go_sem, hF]) rfl ?_
  have hk9 : Kept [] wr _ := put9_kept (g := wr.heap.size + 1) HK2.out (by omega) (.int .i64 cpus) (.int .i64 threads) (.int .i64 locks) (.int .i64 cap) (.int .u64 (boost : Int)) (.float .f64 keep) (.float .f64 ratio) (.slice A 0 c) (.slice B 0 e0)
  exact ⟨A, 0, c, B, 0, e0, rfl, HQ.out.kept hk9 (by simp), HS.out.kept hk9 (by simp), HK.out.trans hk9, fun g cs h => h.kept hk9 (by simp)⟩

set_option maxHeartbeats 3200000 in
set_option maxRecDepth 100000 in
theorem rline_progbad (w0 wr : World) (d : Du) (A : Option Addr) (n c : Nat) (B : Option Addr) (m e0 : Nat) (l : List UInt8) (a : List UInt8) (t : List (List UInt8)) (hw : words l = a :: t) (h3 : d.starts = []) (h4 : a = progW) (h5 : t ≠ []) (hq : RowPQ w0 wr d.progs A n c) (hs : RowS w0 wr d.starts B m e0) (hk : Kept [] w0 wr) (hsm : SmallU 5000 d) (hl : l.length ≤ 80000) :
    Calls Tryz.prog 15 #[.agg (uC d A n c B m e0), strV l, .bool false] wr (Lined w0 wr (d, 3)) := by
  have HW := Lib.hid (fun w => refWords l w (by omega))
  rw [hw] at HW
  try simp only [List.length_cons] at HW
  have HQ := Lib.hid hq
  have HS := Lib.hid hs
  have HK := Lib.hid hk
  have HML := Lib.hid hs.len
  have HNL := Lib.hid hq.pp.len
  clear hq hs hk
  obtain ⟨cpus, threads, locks, cap, boost, keep, ratio, progs, starts⟩ := d
  simp only at *
  have hb1 : (a == [100, 117, 116, 121]) = false := by rw [h4]; rfl
  have hb2 : (a == [115, 116, 97, 114, 116]) = false := by rw [h4]; rfl
  have hb3 : (a == [112, 114, 111, 103]) = true := by rw [h4]; rfl
  clear h4
  have hm0 : m = 0 := by have := HML.out; rw [h3] at this; simpa using this
  clear h3 HML
  subst hm0
  have ht0 : (1 : Int) < (t.length : Int) + 1 := by have := List.length_pos_iff.2 h5; omega
  clear h5
  unfold Lined
  simp only [uC]
  go_enter Tryz.func15, Tryz.ntmps15
  go_wp2_with fail
  refine (HW.out _).mono ?_
  rintro e w1 ⟨Aw, cw, rfl, hF⟩
  have HF := Lib.hid hF
  have hk1 := hF.2.1
  have HD : Hid (Blk w1 wr.heap.size 27 #[.int .i64 cpus, .int .i64 threads, .int .i64 locks, .int .i64 cap, .int .u64 (boost : Int), .float .f64 keep, .float .f64 ratio, .slice A n c, .slice B 0 e0]) := ((Blk.new wr 27 _).alloc _).kept hk1 (by simp)
  have HR : Hid (Blk w1 (wr.heap.size + 1) 27 #[.int .i64 0, .int .i64 0, .int .i64 0, .int .i64 0, .int .u64 0, .float .f64 0, .float .f64 0, .slice none 0 0, .slice none 0 0]) := (Blk.newAt (by simp) 27 _).kept hk1 (by simp)
  have HK1 := Lib.hid ((((Kept.refl [] wr).alloc (.cells #[.int .i64 cpus, .int .i64 threads, .int .i64 locks, .int .i64 cap, .int .u64 (boost : Int), .float .f64 keep, .float .f64 ratio, .slice A n c, .slice B 0 e0] 27)).alloc (.cells #[.int .i64 0, .int .i64 0, .int .i64 0, .int .i64 0, .int .u64 0, .float .f64 0, .float .f64 0, .slice none 0 0, .slice none 0 0] 27)).trans hk1)
  have hdc := HD.out.cell
  have hdf := HD.out.frozen
  have hdl := HD.out.lt
  have hrc := HR.out.cell
  have hrf := HR.out.frozen
  have hrl := HR.out.lt
  clear hF hk1
  obtain ⟨bw, ow, rfl, hbw, hcw⟩ := (Reads.of_own HF.out.1).addr (by omega) (by omega)
  have hc0 := hcw 0 (strV a) (by simp)
  rw [Nat.add_zero] at hc0
  have hb0 : ((t.length : Int) + 1 == 0) = false := beq_eq_false_iff_ne.2 (by omega)
  have hi0 : (0 : Int) < (t.length : Int) + 1 := by omega
  go_wp2_with fail
  have hF := (put9_blk HR.out (.int .i64 cpus) (.int .i64 threads) (.int .i64 locks) (.int .i64 cap) (.int .u64 (boost : Int)) (.float .f64 keep) (.float .f64 ratio) (.slice A n c) (.slice B 0 e0)).cell
  refine bodyPost_ret (v := .tuple #[.agg #[.int .i64 cpus, .int .i64 threads, .int .i64 locks, .int .i64 cap, .int .u64 (boost : Int), .float .f64 keep, .float .f64 ratio, .slice A n c, .slice B 0 e0], .int .i64 3]) (by simp [results, Tryz.results15, go_sem, hF]) rfl ?_
  have hk9 : Kept [] wr _ := put9_kept (g := wr.heap.size + 1) HK1.out (by omega) (.int .i64 cpus) (.int .i64 threads) (.int .i64 locks) (.int .i64 cap) (.int .u64 (boost : Int)) (.float .f64 keep) (.float .f64 ratio) (.slice A n c) (.slice B 0 e0)
  exact ⟨A, n, c, B, 0, e0, rfl, HQ.out.kept hk9 (by simp), HS.out.kept hk9 (by simp), HK.out.trans hk9, fun g cs h => h.kept hk9 (by simp)⟩

set_option maxHeartbeats 3200000 in
set_option maxRecDepth 100000 in
theorem rline_deedbad (w0 wr : World) (d : Du) (A : Option Addr) (n c : Nat) (B : Option Addr) (m e0 : Nat) (l : List UInt8) (a : List UInt8) (t : List (List UInt8)) (hw : words l = a :: t) (h1 : a ≠ dutyW) (h2 : a ≠ startW) (h3 : d.starts = []) (h4 : a ≠ progW) (ho : opOf a ≠ 0) (h6 : d.progs ≠ []) (h7 : (parseD 1048576 l).2 ≠ 0) (hq : RowPQ w0 wr d.progs A n c) (hs : RowS w0 wr d.starts B m e0) (hk : Kept [] w0 wr) (hsm : SmallU 5000 d) (hl : l.length ≤ 80000) :
    Calls Tryz.prog 15 #[.agg (uC d A n c B m e0), strV l, .bool false] wr (Lined w0 wr (d, (parseD 1048576 l).2)) := by
  have HW := Lib.hid (fun w => refWords l w (by omega))
  rw [hw] at HW
  try simp only [List.length_cons] at HW
  have HQ := Lib.hid hq
  have HS := Lib.hid hs
  have HK := Lib.hid hk
  have HML := Lib.hid hs.len
  have HNL := Lib.hid hq.pp.len
  clear hq hs hk
  obtain ⟨cpus, threads, locks, cap, boost, keep, ratio, progs, starts⟩ := d
  simp only at *
  have hb1 : (a == [100, 117, 116, 121]) = false := beq_eq_false_iff_ne.2 h1
  have hb2 : (a == [115, 116, 97, 114, 116]) = false := beq_eq_false_iff_ne.2 h2
  clear h1 h2
  have hb3 : (a == [112, 114, 111, 103]) = false := beq_eq_false_iff_ne.2 h4
  clear h4
  have hm0 : m = 0 := by have := HML.out; rw [h3] at this; simpa using this
  clear h3 HML
  subst hm0
  have HNM := Lib.hid (fun w => refName9 a w)
  have hnm : (opOf a != 0) = true := by rw [bne_iff_ne]; exact ho
  rw [hnm] at HNM
  clear hnm ho
  have HD7 := Lib.hid (fun w => refParse_any l w (by omega))
  rw [parse_same] at HD7
  generalize parseD 1048576 l = pr at *
  obtain ⟨⟨do_, da, db, dr, dn, dm, dl⟩, ec⟩ := pr
  simp only [dCd] at HD7 h7 ⊢
  obtain ⟨n1, rfl⟩ : ∃ n1, n = n1 + 1 := ⟨n - 1, by have := HNL.out; have := List.length_pos_iff.2 h6; omega⟩
  have hn0 : (0 : Int) < (n1 : Int) + 1 := by omega
  clear h6
  have hn3 : n1 + 1 ≤ 5000 := by have := HNL.out; have := hsm.1; simp only at this; omega
  have hw1 : IntKind.i64.wrap ((n1 : Int) + 1 - 1) = (n1 : Int) := by rw [Int.add_sub_cancel]; exact IntWalk.i64_in _ (by omega)
  have hec : (ec == 0) = false := beq_eq_false_iff_ne.2 h7
  clear h7
  unfold Lined
  simp only [uC]
  go_enter Tryz.func15, Tryz.ntmps15
  go_wp2_with fail
  refine (HW.out _).mono ?_
  rintro e w1 ⟨Aw, cw, rfl, hF⟩
  have HF := Lib.hid hF
  have hk1 := hF.2.1
  have HD : Hid (Blk w1 wr.heap.size 27 #[.int .i64 cpus, .int .i64 threads, .int .i64 locks, .int .i64 cap, .int .u64 (boost : Int), .float .f64 keep, .float .f64 ratio, .slice A (n1 + 1) c, .slice B 0 e0]) := ((Blk.new wr 27 _).alloc _).kept hk1 (by simp)
  have HR : Hid (Blk w1 (wr.heap.size + 1) 27 #[.int .i64 0, .int .i64 0, .int .i64 0, .int .i64 0, .int .u64 0, .float .f64 0, .float .f64 0, .slice none 0 0, .slice none 0 0]) := (Blk.newAt (by simp) 27 _).kept hk1 (by simp)
  have HK1 := Lib.hid ((((Kept.refl [] wr).alloc (.cells #[.int .i64 cpus, .int .i64 threads, .int .i64 locks, .int .i64 cap, .int .u64 (boost : Int), .float .f64 keep, .float .f64 ratio, .slice A (n1 + 1) c, .slice B 0 e0] 27)).alloc (.cells #[.int .i64 0, .int .i64 0, .int .i64 0, .int .i64 0, .int .u64 0, .float .f64 0, .float .f64 0, .slice none 0 0, .slice none 0 0] 27)).trans hk1)
  have hdc := HD.out.cell
  have hdf := HD.out.frozen
  have hdl := HD.out.lt
  have hrc := HR.out.cell
  have hrf := HR.out.frozen
  have hrl := HR.out.lt
  clear hF hk1
  obtain ⟨bw, ow, rfl, hbw, hcw⟩ := (Reads.of_own HF.out.1).addr (by omega) (by omega)
  have hc0 := hcw 0 (strV a) (by simp)
  rw [Nat.add_zero] at hc0
  have hb0 : ((t.length : Int) + 1 == 0) = false := beq_eq_false_iff_ne.2 (by omega)
  have hi0 : (0 : Int) < (t.length : Int) + 1 := by omega
  go_wp2_with fail
  refine (HNM.out _).mono ?_
  rintro e w2 ⟨rfl, hk2⟩
  have hc02 : w2.cell? ⟨bw, ow, none⟩ = some (strV a) := hk2.cell_some hc0 (by simp)
  have HK2 := Lib.hid (HK1.out.trans hk2)
  have HR3 := Lib.hid (HR.out.kept hk2 (by simp))
  have HD3 := Lib.hid (HD.out.kept hk2 (by simp))
  have hdc2 := HD3.out.cell
  have hdf2 := HD3.out.frozen
  have hdl2 := HD3.out.lt
  have hrc2 := HR3.out.cell
  have hrf2 := HR3.out.frozen
  have hrl2 := HR3.out.lt
  clear hk2
  go_wp2_with fail
  refine (HD7.out _).mono ?_
  rintro e w3 ⟨rfl, hk3⟩
  have HK4 := Lib.hid (HK2.out.trans hk3)
  have HR4 := Lib.hid ((HR3.out.kept hk3 (by simp)))
  have HD4 := Lib.hid (HD3.out.kept hk3 (by simp))
  have hdc4 := HD4.out.cell
  have hdf4 := HD4.out.frozen
  have hdl4 := HD4.out.lt
  have hrc4 := HR4.out.cell
  have hrf4 := HR4.out.frozen
  have hrl4 := HR4.out.lt
  have hne1 : wr.heap.size ≠ w3.heap.size := by omega
  have hne2 : wr.heap.size + 1 ≠ w3.heap.size := by omega
  have hne3 : w3.heap.size ≠ wr.heap.size := by omega
  have hne4 : w3.heap.size ≠ wr.heap.size + 1 := by omega
  have hlt1 : wr.heap.size < w3.heap.size + 1 := by omega
  have hlt2 : wr.heap.size + 1 < w3.heap.size + 1 := by omega
  clear hk3 hdc2 hdf2 hdl2 hrc2 hrf2 hrl2 hdc hdf hdl hrc hrf hrl
  go_wp2_with fail
  have hF := ((put9_blk HR4.out (.int .i64 cpus) (.int .i64 threads) (.int .i64 locks) (.int .i64 cap) (.int .u64 (boost : Int)) (.float .f64 keep) (.float .f64 ratio) (.slice A (n1 + 1) c) (.slice B 0 e0)).alloc (.cells (dC do_ da db dr dn dm dl) 60)).cell
  refine bodyPost_ret (v := .tuple #[.agg #[.int .i64 cpus, .int .i64 threads, .int .i64 locks, .int .i64 cap, .int .u64 (boost : Int), .float .f64 keep, .float .f64 ratio, .slice A (n1 + 1) c, .slice B 0 e0], .int .i64 ec]) (by simp [results, Tryz.results15, go_sem, hF]) rfl ?_
  have hk9 : Kept [] wr _ := (put9_kept (g := wr.heap.size + 1) HK4.out (by omega) (.int .i64 cpus) (.int .i64 threads) (.int .i64 locks) (.int .i64 cap) (.int .u64 (boost : Int)) (.float .f64 keep) (.float .f64 ratio) (.slice A (n1 + 1) c) (.slice B 0 e0)).alloc (.cells (dC do_ da db dr dn dm dl) 60)
  exact ⟨A, n1 + 1, c, B, 0, e0, rfl, HQ.out.kept hk9 (by simp), HS.out.kept hk9 (by simp), HK.out.trans hk9, fun g cs h => h.kept hk9 (by simp)⟩

set_option maxHeartbeats 3200000 in
set_option maxRecDepth 100000 in
theorem rline_prog (w0 wr : World) (d : Du) (A : Option Addr) (n c : Nat) (B : Option Addr) (m e0 : Nat) (l : List UInt8) (a : List UInt8) (t : List (List UInt8)) (hw : words l = a :: t) (h3 : d.starts = []) (h4 : a = progW) (h5 : t = []) (hq : RowPQ w0 wr d.progs A n c) (hs : RowS w0 wr d.starts B m e0) (hk : Kept [] w0 wr) (hsm : SmallU 5000 d) (hl : l.length ≤ 80000) :
    Calls Tryz.prog 15 #[.agg (uC d A n c B m e0), strV l, .bool false] wr (Lined w0 wr (({ d with progs := d.progs ++ [[]] } : Du), 0)) := by
  have HW := Lib.hid (fun w => refWords l w (by omega))
  rw [hw] at HW
  try simp only [List.length_cons] at HW
  have HQ := Lib.hid hq
  have HS := Lib.hid hs
  have HK := Lib.hid hk
  have HML := Lib.hid hs.len
  have HNL := Lib.hid hq.pp.len
  clear hq hs hk
  obtain ⟨cpus, threads, locks, cap, boost, keep, ratio, progs, starts⟩ := d
  simp only at *
  have hb1 : (a == [100, 117, 116, 121]) = false := by rw [h4]; rfl
  have hb2 : (a == [115, 116, 97, 114, 116]) = false := by rw [h4]; rfl
  have hb3 : (a == [112, 114, 111, 103]) = true := by rw [h4]; rfl
  clear h4
  have hm0 : m = 0 := by have := HML.out; rw [h3] at this; simpa using this
  clear h3 HML
  subst hm0
  have ht0 : ¬ (1 : Int) < (t.length : Int) + 1 := by rw [h5]; simp
  have hnn : n ≤ 5000 := by have := HNL.out; have := hsm.1; simp only at this; omega
  clear h5
  unfold Lined
  simp only [uC]
  go_enter Tryz.func15, Tryz.ntmps15
  go_wp2_with fail
  refine (HW.out _).mono ?_
  rintro e w1 ⟨Aw, cw, rfl, hF⟩
  have HF := Lib.hid hF
  have hk1 := hF.2.1
  have HD : Hid (Blk w1 wr.heap.size 27 #[.int .i64 cpus, .int .i64 threads, .int .i64 locks, .int .i64 cap, .int .u64 (boost : Int), .float .f64 keep, .float .f64 ratio, .slice A n c, .slice B 0 e0]) := ((Blk.new wr 27 _).alloc _).kept hk1 (by simp)
  have HR : Hid (Blk w1 (wr.heap.size + 1) 27 #[.int .i64 0, .int .i64 0, .int .i64 0, .int .i64 0, .int .u64 0, .float .f64 0, .float .f64 0, .slice none 0 0, .slice none 0 0]) := (Blk.newAt (by simp) 27 _).kept hk1 (by simp)
  have HK1 := Lib.hid ((((Kept.refl [] wr).alloc (.cells #[.int .i64 cpus, .int .i64 threads, .int .i64 locks, .int .i64 cap, .int .u64 (boost : Int), .float .f64 keep, .float .f64 ratio, .slice A n c, .slice B 0 e0] 27)).alloc (.cells #[.int .i64 0, .int .i64 0, .int .i64 0, .int .i64 0, .int .u64 0, .float .f64 0, .float .f64 0, .slice none 0 0, .slice none 0 0] 27)).trans hk1)
  have hdc := HD.out.cell
  have hdf := HD.out.frozen
  have hdl := HD.out.lt
  have hrc := HR.out.cell
  have hrf := HR.out.frozen
  have hrl := HR.out.lt
  clear hF hk1
  obtain ⟨bw, ow, rfl, hbw, hcw⟩ := (Reads.of_own HF.out.1).addr (by omega) (by omega)
  have hc0 := hcw 0 (strV a) (by simp)
  rw [Nat.add_zero] at hc0
  have hb0 : ((t.length : Int) + 1 == 0) = false := beq_eq_false_iff_ne.2 (by omega)
  have hi0 : (0 : Int) < (t.length : Int) + 1 := by omega
  obtain ⟨xs, q1, q2, q3, q4, q5⟩ := HQ.out.kept HK1.out (by simp)
  have HO : Hid (∀ W, Kept [] w1 W → W.ownsRow 0 47 1 (.slice A n c) n xs) := fun W hk => own_kept q1 hk (by simp)
  have H4 := Lib.hid q4
  have H5 := Lib.hid q5
  have H2 := Lib.hid q2
  have H3 := Lib.hid q3
  clear q1 q2 q3 q4 q5
  go_wp2_with (at_builtin; refine wpList_append_any _ rfl _ _ 24 rfl 47 (.slice none 0 0) 1 24 Tryz.underlying24 Tryz.info47 rfl (by decide) (.slice A n c) n xs rfl (HO.out _ (by (repeat (first | (with_reducible exact Kept.refl _ _) | (with_reducible assumption) | (with_reducible refine Kept.alloc ?_ _) | (with_reducible refine Kept.drew ?_) | (with_reducible refine Kept.drewN ?_ _) | (with_reducible refine Kept.setCell ?_ ?_ _) | (exact .inr (Nat.le_refl _)) | (exact .inr (by simp only; omega)) | (exact .inr (by omega)))))) _ 1 1 [.slice none 0 0] rfl (reads_one _ _ _) (by simp; rfl) (by simp only [maxLen]; omega) (by omega) ?_; rintro A2 c2 w3 happ; have HA := Lib.hid happ; have HD3 := Lib.hid (blk_apart (HD.out.kept (show Kept [] w1 _ by (repeat (first | (with_reducible exact Kept.refl _ _) | (with_reducible assumption) | (with_reducible refine Kept.alloc ?_ _) | (with_reducible refine Kept.drew ?_) | (with_reducible refine Kept.drewN ?_ _) | (with_reducible refine Kept.setCell ?_ ?_ _) | (exact .inr (Nat.le_refl _)) | (exact .inr (by simp only; omega)) | (exact .inr (by omega))))) (by simp)) (HO.out _ (show Kept [] w1 _ by (repeat (first | (with_reducible exact Kept.refl _ _) | (with_reducible assumption) | (with_reducible refine Kept.alloc ?_ _) | (with_reducible refine Kept.drew ?_) | (with_reducible refine Kept.drewN ?_ _) | (with_reducible refine Kept.setCell ?_ ?_ _) | (exact .inr (Nat.le_refl _)) | (exact .inr (by simp only; omega)) | (exact .inr (by omega)))))) happ.2.1 (by decide)); have HR3 := Lib.hid (blk_apart (HR.out.kept (show Kept [] w1 _ by (repeat (first | (with_reducible exact Kept.refl _ _) | (with_reducible assumption) | (with_reducible refine Kept.alloc ?_ _) | (with_reducible refine Kept.drew ?_) | (with_reducible refine Kept.drewN ?_ _) | (with_reducible refine Kept.setCell ?_ ?_ _) | (exact .inr (Nat.le_refl _)) | (exact .inr (by simp only; omega)) | (exact .inr (by omega))))) (by simp)) (HO.out _ (show Kept [] w1 _ by (repeat (first | (with_reducible exact Kept.refl _ _) | (with_reducible assumption) | (with_reducible refine Kept.alloc ?_ _) | (with_reducible refine Kept.drew ?_) | (with_reducible refine Kept.drewN ?_ _) | (with_reducible refine Kept.setCell ?_ ?_ _) | (exact .inr (Nat.le_refl _)) | (exact .inr (by simp only; omega)) | (exact .inr (by omega)))))) happ.2.1 (by decide)); have hdc3 := HD3.out.cell; have hdf3 := HD3.out.frozen; have hdl3 := HD3.out.lt; have hrc3 := HR3.out.cell; have hrf3 := HR3.out.frozen; have hrl3 := HR3.out.lt; clear happ)
  have hq3 : RowPQ w0 w3 (progs ++ [[]]) A2 (n + 1) c2 := RowPQ.push (HO.out _ (show Kept [] w1 _ by (repeat (first | (with_reducible exact Kept.refl _ _) | (with_reducible assumption) | (with_reducible refine Kept.alloc ?_ _) | (with_reducible refine Kept.drew ?_) | (with_reducible refine Kept.drewN ?_ _) | (with_reducible refine Kept.setCell ?_ ?_ _) | (exact .inr (Nat.le_refl _)) | (exact .inr (by simp only; omega)) | (exact .inr (by omega)))))) H2.out H3.out (fun i p hp => by
    obtain ⟨A, n, c, e, hr⟩ := H4.out i p hp
    exact ⟨A, n, c, e, hr.kept (show Kept [] w1 _ by (repeat (first | (with_reducible exact Kept.refl _ _) | (with_reducible assumption) | (with_reducible refine Kept.alloc ?_ _) | (with_reducible refine Kept.drew ?_) | (with_reducible refine Kept.drewN ?_ _) | (with_reducible refine Kept.setCell ?_ ?_ _) | (exact .inr (Nat.le_refl _)) | (exact .inr (by simp only; omega)) | (exact .inr (by omega))))) (by simp)⟩) H5.out (HK.out.trans (HK1.out.trans (show Kept [] w1 _ by (repeat (first | (with_reducible exact Kept.refl _ _) | (with_reducible assumption) | (with_reducible refine Kept.alloc ?_ _) | (with_reducible refine Kept.drew ?_) | (with_reducible refine Kept.drewN ?_ _) | (with_reducible refine Kept.setCell ?_ ?_ _) | (exact .inr (Nat.le_refl _)) | (exact .inr (by simp only; omega)) | (exact .inr (by omega))))))).size HA.out
  have hs3 : RowS w0 w3 starts B 0 e0 := (HS.out.kept (HK1.out.trans (show Kept [] w1 _ by (repeat (first | (with_reducible exact Kept.refl _ _) | (with_reducible assumption) | (with_reducible refine Kept.alloc ?_ _) | (with_reducible refine Kept.drew ?_) | (with_reducible refine Kept.drewN ?_ _) | (with_reducible refine Kept.setCell ?_ ?_ _) | (exact .inr (Nat.le_refl _)) | (exact .inr (by simp only; omega)) | (exact .inr (by omega)))))) (by simp)).apart (HO.out _ (show Kept [] w1 _ by (repeat (first | (with_reducible exact Kept.refl _ _) | (with_reducible assumption) | (with_reducible refine Kept.alloc ?_ _) | (with_reducible refine Kept.drew ?_) | (with_reducible refine Kept.drewN ?_ _) | (with_reducible refine Kept.setCell ?_ ?_ _) | (exact .inr (Nat.le_refl _)) | (exact .inr (by simp only; omega)) | (exact .inr (by omega)))))) HA.out.2.1 (by decide)
  have hk3 : Kept [] w0 w3 := (HK.out.trans (HK1.out.trans (show Kept [] w1 _ by (repeat (first | (with_reducible exact Kept.refl _ _) | (with_reducible assumption) | (with_reducible refine Kept.alloc ?_ _) | (with_reducible refine Kept.drew ?_) | (with_reducible refine Kept.drewN ?_ _) | (with_reducible refine Kept.setCell ?_ ?_ _) | (exact .inr (Nat.le_refl _)) | (exact .inr (by simp only; omega)) | (exact .inr (by omega))))))).trans' HA.out.2.1 (fun q hq => .inr (H2.out q hq))
  have hset : Kept [wr.heap.size] w3 (w3.setCell ⟨wr.heap.size, 7, none⟩ (.slice A2 (n + 1) c2)) := (Kept.refl [wr.heap.size] w3).setCell (.inl (by simp)) _
  have HQ4 := Lib.hid (hq3.block HD3.out hset (by decide) (by decide))
  have HS4 := Lib.hid (hs3.block HD3.out hset (by decide))
  have HK4 := Lib.hid (hk3.setCell (p := ⟨wr.heap.size, 7, none⟩) (.inr HK.out.size) (.slice A2 (n + 1) c2))
  have HR4 := Lib.hid (HR3.out.far (p := ⟨wr.heap.size, 7, none⟩) (by simp) (.slice A2 (n + 1) c2))
  have HBK3 : Hid (∀ g cs, Blk wr g 27 cs → Blk (w3.setCell ⟨wr.heap.size, 7, none⟩ (.slice A2 (n + 1) c2)) g 27 cs) := fun g cs h => (blk_apart (h.kept (HK1.out.trans (show Kept [] w1 _ by (repeat (first | (with_reducible exact Kept.refl _ _) | (with_reducible assumption) | (with_reducible refine Kept.alloc ?_ _) | (with_reducible refine Kept.drew ?_) | (with_reducible refine Kept.drewN ?_ _) | (with_reducible refine Kept.setCell ?_ ?_ _) | (exact .inr (Nat.le_refl _)) | (exact .inr (by simp only; omega)) | (exact .inr (by omega)))))) (by simp)) (HO.out _ (show Kept [] w1 _ by (repeat (first | (with_reducible exact Kept.refl _ _) | (with_reducible assumption) | (with_reducible refine Kept.alloc ?_ _) | (with_reducible refine Kept.drew ?_) | (with_reducible refine Kept.drewN ?_ _) | (with_reducible refine Kept.setCell ?_ ?_ _) | (exact .inr (Nat.le_refl _)) | (exact .inr (by simp only; omega)) | (exact .inr (by omega)))))) HA.out.2.1 (by decide)).far (by have := h.lt; simp only; omega) _
  clear hq3 hs3 hk3 hset hdc hdf hdl hrc hrf hrl
  go_wp2_with fail
  have hF := (put9_blk HR4.out (.int .i64 cpus) (.int .i64 threads) (.int .i64 locks) (.int .i64 cap) (.int .u64 (boost : Int)) (.float .f64 keep) (.float .f64 ratio) (.slice A2 (n + 1) c2) (.slice B 0 e0)).cell
  refine bodyPost_ret (v := .tuple #[.agg #[.int .i64 cpus, .int .i64 threads, .int .i64 locks, .int .i64 cap, .int .u64 (boost : Int), .float .f64 keep, .float .f64 ratio, .slice A2 (n + 1) c2, .slice B 0 e0], .int .i64 0]) (by simp [results, Tryz.results15, go_sem, hF]) rfl ?_
  have hk9 := put9_keeps (w := w3.setCell ⟨wr.heap.size, 7, none⟩ (.slice A2 (n + 1) c2)) (g := wr.heap.size + 1) (.int .i64 cpus) (.int .i64 threads) (.int .i64 locks) (.int .i64 cap) (.int .u64 (boost : Int)) (.float .f64 keep) (.float .f64 ratio) (.slice A2 (n + 1) c2) (.slice B 0 e0)
  have hkk := put9_kept (g := wr.heap.size + 1) HK4.out (by have := HK.out.size; omega) (.int .i64 cpus) (.int .i64 threads) (.int .i64 locks) (.int .i64 cap) (.int .u64 (boost : Int)) (.float .f64 keep) (.float .f64 ratio) (.slice A2 (n + 1) c2) (.slice B 0 e0)
  exact ⟨A2, n + 1, c2, B, 0, e0, rfl, HQ4.out.block HR4.out hk9 (by decide) (by decide), HS4.out.block HR4.out hk9 (by decide), hkk, fun g cs h => (HBK3.out g cs h).kept hk9 (by have := h.lt; simp; omega)⟩

end Go.Proofs.YtladfdpcdjjifaaGreatDoor
