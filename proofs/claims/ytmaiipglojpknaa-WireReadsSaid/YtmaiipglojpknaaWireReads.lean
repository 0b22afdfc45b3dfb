/- The walk of WireReads. -/
import Derived.Test.YtmaiipglojpknaaWireRef
import Derived.Test.YtmaiipglojpknaaWireTh
import Derived.Deep.RegionHeld3
import Derived.Deep.RegionWith
namespace Go.Proofs.Ytmaiipglojpknaa
open Go.RowKit

/-- What the reading of a thing makes of a reader. -/
def opS (kind x : Nat) (most : Int) (s : RS) : RS :=
  if kind % 5 = 0 then (byteS s).1 else if kind % 5 = 1 then (numS s).1 else if kind % 5 = 2 then (truthS s).1 else if kind % 5 = 3 then (bytesS s most).1 else (uptoS s x).1

theorem remB5 {kind r : Nat} (h : kind % 5 = r) (q : Nat) : (((kind : Int) % 5) == (q : Int)) = decide (r = q) := by
  rw [Bool.eq_iff_iff]; simp; omega

theorem IsR.drew {w : World} {g : Nat} {A : Option Addr} {c : Nat} {s : RS} (h : IsR w g A c s) : IsR w.drew g A c s := h
theorem IsR.old {w w' : World} {g : Nat} {A : Option Addr} {c : Nat} {s : RS} (h : IsR w g A c s) (hk : Kept [] w w') : IsR w' g A c s := h.kept hk (by simp) (by simp)

/-- A new block behind what only adds. -/
theorem blkN {w w1 : World} {t : TypeId} {cs : Array Value} {g : Nat} (hg : g = w.heap.size) (hk : Kept [] (w.alloc (.cells cs t)) w1) : Blk w1 g t cs := (Blk.newAt hg t cs).kept hk (by simp)

/-- What is left behind a call that reads: the reader has gone on, the document's reader and the cells of two blocks are as they were. -/
def After (w W w' : World) (g : Nat) (A : Option Addr) (s : RS) (b1 b2 : Nat) (t : TypeId) (cs1 cs2 : Array Value) : Prop :=
  RGoes W g A s w' ∧ Blk w' b1 t cs1 ∧ Blk w' b2 t cs2 ∧ Kept [g] w w'

set_option maxHeartbeats 2000000 in
theorem read4 (g : Nat) (A : Option Addr) (c : Nat) (s : RS) (b0 : Nat) (A1 : Option Addr) (m1 c1 : Nat) (kind x : Nat) (At : Option Addr) (m ct : Nat) (most : Int) (w : World)
    (hR : IsR w g A c s) (hD : IsD w b0 A1 m1 c1 s) (hb0 : b0 ≤ g) (hk : kind < 256) (hx : x < 18446744073709551616) (hm0 : -9223372036854775808 ≤ most) (hm1 : most ≤ 9223372036854775807) :
    Calls Try.prog 19 #[.pointer (some ⟨g, 0, none⟩), .agg #[.slice A1 m1 c1, .int .i64 s.1], .agg #[.int .u8 kind, .int .u64 x, .slice At m ct, .int .i64 most]] w fun e w' =>
      ∃ A2 m2 c2, e = .returned (.tuple #[.agg #[.slice A2 m2 c2, .int .i64 (opS kind x most s).1], .bool true]) ∧ IsD w' b0 A2 m2 c2 (opS kind x most s) ∧ RGoes w g A (opS kind x most s) w' := by
  have hg := hR.1.lt
  have HR := Lib.hid hR
  have HD := Lib.hid hD
  clear hR hD
  obtain ⟨r, hr0⟩ : ∃ r, opS kind x most s = r := ⟨_, rfl⟩
  rw [hr0]
  unfold opS at hr0
  have HE := Lib.hid hr0
  clear hr0
  obtain ⟨q, hq⟩ : ∃ q, kind % 5 = q := ⟨_, rfl⟩
  have hq4 : q < 5 := by omega
  have q0 := remB5 hq 0
  have q1 := remB5 hq 1
  have q2 := remB5 hq 2
  have q3 := remB5 hq 3
  have HQ := Lib.hid hq
  clear hq
  match q, hq4 with
  | 0, _ =>
    simp at q0 q1 q2 q3
    obtain ⟨s2, hs2⟩ : ∃ s2, (byteS s).1 = s2 := ⟨_, rfl⟩
    have HREF : Hid (∀ w1 : World, Kept [] w w1 → Calls Try.prog 37 #[.agg #[.slice A1 m1 c1, .int .i64 s.1]] w1 (Gives w1 b0 s2 (.int .u8 ((byteS s).2.toNat : Int)))) := fun w1 hk1 => by
      have := refGetByte b0 A1 m1 c1 s  w1 (HD.out.old hk1) (by have := hk1.size; omega)
      rw [hs2] at this; exact this
    have HPR : Hid (∀ w1 : World, IsR w1 g A c s → Calls Try.prog 21 #[.pointer (some ⟨g, 0, none⟩)] w1 fun e w' => e = .returned (.int .u8 ((byteS s).2.toNat : Int)) ∧ RGoes w1 g A s2 w') := fun w1 h1 => by
      have := rbyte_any g A c s  w1 h1
      rw [hs2] at this; exact this
    have HS : Hid (s2 = r) := by show s2 = r; rw [← hs2, ← HE.out, if_pos HQ.out]
    clear hs2
    go_enter Try.func19, Try.ntmps19
    go_wp2_with fail
    refine (HREF.out _ ((kept2 w _ _).alloc _)).mono ?_
    rintro e w1 ⟨A2, m2, c2, rfl, hD2, hk2⟩
    have hk0 : Kept [] w w1 := ((kept2 w _ _).alloc _).trans hk2
    have hs0 := hk0.size
    have hBres : Blk w1 (w.heap.size + 1 + 1) 44 #[.slice none 0 0, .int .i64 0] := blkN (by simp) hk2
    have hBth : Blk w1 (w.heap.size + 1) 29 #[.int .u8 kind, .int .u64 x, .slice At m ct, .int .i64 most] := ((Blk.newAt (w := w.alloc (.cells #[.slice A1 m1 c1, .int .i64 s.1] 44)) (g := w.heap.size + 1) (by simp) _ _).alloc _).kept hk2 (by simp)
    have hlt3 := hBres.lt
    have hne1 : ¬ w1.heap.size = w.heap.size + 1 + 1 := by omega
    have hne2 : ¬ w.heap.size + 1 + 1 = w1.heap.size := by omega
    have HC : Hid (Calls Try.prog 21 #[.pointer (some ⟨g, 0, none⟩)] (w1.alloc (.cells #[.slice A2 m2 c2, .int .i64 s2.1] 44)).drew fun e w' => e = .returned (.int .u8 ((byteS s).2.toNat : Int)) ∧ RGoes (w1.alloc (.cells #[.slice A2 m2 c2, .int .i64 s2.1] 44)).drew g A s2 w' ∧
        Blk w' w1.heap.size 44 #[.slice A2 m2 c2, .int .i64 s2.1] ∧ Blk w' (w.heap.size + 1 + 1) 44 #[.slice none 0 0, .int .i64 0] ∧ Blk w' (w.heap.size + 1) 29 #[.int .u8 kind, .int .u64 x, .slice At m ct, .int .i64 most]) := by
      refine (HPR.out _ ((HR.out.old hk0).old ((Kept.refl [] w1).alloc _)).drew).mono fun e w' ⟨h1, h2⟩ => ⟨h1, h2, ?_⟩
      obtain ⟨_, _, _, hk5, _⟩ := h2
      exact ⟨((Blk.new w1 _ _).drew).kept hk5 (by simp; omega), ((hBres.alloc _).drew).kept hk5 (by simp; omega), ((hBth.alloc _).drew).kept hk5 (by simp; omega)⟩
    have hr1 := hBth.cell
    have hr2 := hBth.lt
    clear hBres hBth
    go_wp2_with fail
    go_region_held3 (fun w' => w'.cell? ⟨w1.heap.size, 0, none⟩ = some (.slice A2 m2 c2) ∧ w'.cell? ⟨w1.heap.size, 1, none⟩ = some (.int .i64 s2.1) ∧ w'.cell? ⟨w.heap.size + 1, 1, none⟩ = some (.int .u64 x)) (go_keep) (first | (go_at_call 21; refine HC.out.mono ?_; rintro e w5 ⟨rfl, hgo5, hBn, hBr, hBt⟩; have cn0 : w5.cell? ⟨w1.heap.size, 0, none⟩ = some (.slice A2 m2 c2) := hBn.cell 0; have cn1 : w5.cell? ⟨w1.heap.size, 1, none⟩ = some (.int .i64 s2.1) := hBn.cell 1; have ct1 : w5.cell? ⟨w.heap.size + 1, 1, none⟩ = some (.int .u64 x) := hBt.cell 1; have cr := hBr.cell; have fr := hBr.frozen; have hltr := hBr.lt))
    go_wp2_with fail
    rw [← HS.out]
    obtain ⟨A6, c6, hR6, hk6, hA6⟩ := hgo5
    have hk7 : Kept [g] w w5 := (((hk0.mono (by simp)).alloc _).drew).trans hk6
    have hD6 : IsD w5 b0 A2 m2 c2 s2 := ((hD2.old ((Kept.refl [] w1).alloc _)).drew).kept hk6 (by simpa using hb0)
    refine bodyPost_ret (v := .tuple #[.agg #[.slice A2 m2 c2, .int .i64 s2.1], .bool true]) (by simp [results, Try.results19, go_sem, cr, fr, hltr]) rfl ⟨A2, m2, c2, rfl, (hD6.set (by simp only; omega) _).set (by simp only; omega) _, A6, c6, ?_, (hk7.setCell (.inr (by simp only; omega)) _).setCell (.inr (by simp only; omega)) _, hA6⟩
    have hk8 : Kept [w.heap.size + 1 + 1] w5 ((w5.setCell ⟨w.heap.size + 1 + 1, 0, none⟩ (.slice A2 m2 c2)).setCell ⟨w.heap.size + 1 + 1, 1, none⟩ (.int .i64 s2.1)) := ((Kept.refl _ _).setCell (.inl (by simp)) _).setCell (.inl (by simp)) _
    exact hR6.kept hk8 (by simp; omega) (fun ad e => by
      obtain ⟨a0, e0, b1⟩ := hA6 ad e
      have := (HR.out.2.2.2.2 a0 e0).2
      rw [b1]; simp; omega)
  | 1, _ =>
    simp at q0 q1 q2 q3
    obtain ⟨s2, hs2⟩ : ∃ s2, (numS s).1 = s2 := ⟨_, rfl⟩
    have HREF : Hid (∀ w1 : World, Kept [] w w1 → Calls Try.prog 38 #[.agg #[.slice A1 m1 c1, .int .i64 s.1]] w1 (Gives w1 b0 s2 (.int .u64 ((numS s).2 : Int)))) := fun w1 hk1 => by
      have := refGetNum b0 A1 m1 c1 s  w1 (HD.out.old hk1) (by have := hk1.size; omega)
      rw [hs2] at this; exact this
    have HPR : Hid (∀ w1 : World, IsR w1 g A c s → Calls Try.prog 16 #[.pointer (some ⟨g, 0, none⟩)] w1 fun e w' => e = .returned (.int .u64 ((numS s).2 : Int)) ∧ RGoes w1 g A s2 w') := fun w1 h1 => by
      have := rnum_any g A c s  w1 h1
      rw [hs2] at this; exact this
    have HS : Hid (s2 = r) := by show s2 = r; rw [← hs2, ← HE.out, if_neg (by rw [HQ.out]; omega), if_pos HQ.out]
    clear hs2
    go_enter Try.func19, Try.ntmps19
    go_wp2_with fail
    refine (HREF.out _ ((kept2 w _ _).alloc _)).mono ?_
    rintro e w1 ⟨A2, m2, c2, rfl, hD2, hk2⟩
    have hk0 : Kept [] w w1 := ((kept2 w _ _).alloc _).trans hk2
    have hs0 := hk0.size
    have hBres : Blk w1 (w.heap.size + 1 + 1) 44 #[.slice none 0 0, .int .i64 0] := blkN (by simp) hk2
    have hBth : Blk w1 (w.heap.size + 1) 29 #[.int .u8 kind, .int .u64 x, .slice At m ct, .int .i64 most] := ((Blk.newAt (w := w.alloc (.cells #[.slice A1 m1 c1, .int .i64 s.1] 44)) (g := w.heap.size + 1) (by simp) _ _).alloc _).kept hk2 (by simp)
    have hlt3 := hBres.lt
    have hne1 : ¬ w1.heap.size = w.heap.size + 1 + 1 := by omega
    have hne2 : ¬ w.heap.size + 1 + 1 = w1.heap.size := by omega
    have HC : Hid (Calls Try.prog 16 #[.pointer (some ⟨g, 0, none⟩)] (w1.alloc (.cells #[.slice A2 m2 c2, .int .i64 s2.1] 44)).drew fun e w' => e = .returned (.int .u64 ((numS s).2 : Int)) ∧ RGoes (w1.alloc (.cells #[.slice A2 m2 c2, .int .i64 s2.1] 44)).drew g A s2 w' ∧
        Blk w' w1.heap.size 44 #[.slice A2 m2 c2, .int .i64 s2.1] ∧ Blk w' (w.heap.size + 1 + 1) 44 #[.slice none 0 0, .int .i64 0] ∧ Blk w' (w.heap.size + 1) 29 #[.int .u8 kind, .int .u64 x, .slice At m ct, .int .i64 most]) := by
      refine (HPR.out _ ((HR.out.old hk0).old ((Kept.refl [] w1).alloc _)).drew).mono fun e w' ⟨h1, h2⟩ => ⟨h1, h2, ?_⟩
      obtain ⟨_, _, _, hk5, _⟩ := h2
      exact ⟨((Blk.new w1 _ _).drew).kept hk5 (by simp; omega), ((hBres.alloc _).drew).kept hk5 (by simp; omega), ((hBth.alloc _).drew).kept hk5 (by simp; omega)⟩
    have hr1 := hBth.cell
    have hr2 := hBth.lt
    clear hBres hBth
    go_wp2_with fail
    go_region_held3 (fun w' => w'.cell? ⟨w1.heap.size, 0, none⟩ = some (.slice A2 m2 c2) ∧ w'.cell? ⟨w1.heap.size, 1, none⟩ = some (.int .i64 s2.1) ∧ w'.cell? ⟨w.heap.size + 1, 1, none⟩ = some (.int .u64 x)) (go_keep) (first | (go_at_call 16; refine HC.out.mono ?_; rintro e w5 ⟨rfl, hgo5, hBn, hBr, hBt⟩; have cn0 : w5.cell? ⟨w1.heap.size, 0, none⟩ = some (.slice A2 m2 c2) := hBn.cell 0; have cn1 : w5.cell? ⟨w1.heap.size, 1, none⟩ = some (.int .i64 s2.1) := hBn.cell 1; have ct1 : w5.cell? ⟨w.heap.size + 1, 1, none⟩ = some (.int .u64 x) := hBt.cell 1; have cr := hBr.cell; have fr := hBr.frozen; have hltr := hBr.lt))
    go_wp2_with fail
    rw [← HS.out]
    obtain ⟨A6, c6, hR6, hk6, hA6⟩ := hgo5
    have hk7 : Kept [g] w w5 := (((hk0.mono (by simp)).alloc _).drew).trans hk6
    have hD6 : IsD w5 b0 A2 m2 c2 s2 := ((hD2.old ((Kept.refl [] w1).alloc _)).drew).kept hk6 (by simpa using hb0)
    refine bodyPost_ret (v := .tuple #[.agg #[.slice A2 m2 c2, .int .i64 s2.1], .bool true]) (by simp [results, Try.results19, go_sem, cr, fr, hltr]) rfl ⟨A2, m2, c2, rfl, (hD6.set (by simp only; omega) _).set (by simp only; omega) _, A6, c6, ?_, (hk7.setCell (.inr (by simp only; omega)) _).setCell (.inr (by simp only; omega)) _, hA6⟩
    have hk8 : Kept [w.heap.size + 1 + 1] w5 ((w5.setCell ⟨w.heap.size + 1 + 1, 0, none⟩ (.slice A2 m2 c2)).setCell ⟨w.heap.size + 1 + 1, 1, none⟩ (.int .i64 s2.1)) := ((Kept.refl _ _).setCell (.inl (by simp)) _).setCell (.inl (by simp)) _
    exact hR6.kept hk8 (by simp; omega) (fun ad e => by
      obtain ⟨a0, e0, b1⟩ := hA6 ad e
      have := (HR.out.2.2.2.2 a0 e0).2
      rw [b1]; simp; omega)
  | 2, _ =>
    simp at q0 q1 q2 q3
    obtain ⟨s2, hs2⟩ : ∃ s2, (truthS s).1 = s2 := ⟨_, rfl⟩
    have HREF : Hid (∀ w1 : World, Kept [] w w1 → Calls Try.prog 39 #[.agg #[.slice A1 m1 c1, .int .i64 s.1]] w1 (Gives w1 b0 s2 (.bool (truthS s).2))) := fun w1 hk1 => by
      have := refGetTruth b0 A1 m1 c1 s  w1 (HD.out.old hk1) (by have := hk1.size; omega)
      rw [hs2] at this; exact this
    have HPR : Hid (∀ w1 : World, IsR w1 g A c s → Calls Try.prog 22 #[.pointer (some ⟨g, 0, none⟩)] w1 fun e w' => e = .returned (.bool (truthS s).2) ∧ RGoes w1 g A s2 w') := fun w1 h1 => by
      have := rtruth_any g A c s  w1 h1
      rw [hs2] at this; exact this
    have HS : Hid (s2 = r) := by show s2 = r; rw [← hs2, ← HE.out, if_neg (by rw [HQ.out]; omega), if_neg (by rw [HQ.out]; omega), if_pos HQ.out]
    clear hs2
    go_enter Try.func19, Try.ntmps19
    go_wp2_with fail
    refine (HREF.out _ ((kept2 w _ _).alloc _)).mono ?_
    rintro e w1 ⟨A2, m2, c2, rfl, hD2, hk2⟩
    have hk0 : Kept [] w w1 := ((kept2 w _ _).alloc _).trans hk2
    have hs0 := hk0.size
    have hBres : Blk w1 (w.heap.size + 1 + 1) 44 #[.slice none 0 0, .int .i64 0] := blkN (by simp) hk2
    have hBth : Blk w1 (w.heap.size + 1) 29 #[.int .u8 kind, .int .u64 x, .slice At m ct, .int .i64 most] := ((Blk.newAt (w := w.alloc (.cells #[.slice A1 m1 c1, .int .i64 s.1] 44)) (g := w.heap.size + 1) (by simp) _ _).alloc _).kept hk2 (by simp)
    have hlt3 := hBres.lt
    have hne1 : ¬ w1.heap.size = w.heap.size + 1 + 1 := by omega
    have hne2 : ¬ w.heap.size + 1 + 1 = w1.heap.size := by omega
    have HC : Hid (Calls Try.prog 22 #[.pointer (some ⟨g, 0, none⟩)] (w1.alloc (.cells #[.slice A2 m2 c2, .int .i64 s2.1] 44)).drew fun e w' => e = .returned (.bool (truthS s).2) ∧ RGoes (w1.alloc (.cells #[.slice A2 m2 c2, .int .i64 s2.1] 44)).drew g A s2 w' ∧
        Blk w' w1.heap.size 44 #[.slice A2 m2 c2, .int .i64 s2.1] ∧ Blk w' (w.heap.size + 1 + 1) 44 #[.slice none 0 0, .int .i64 0] ∧ Blk w' (w.heap.size + 1) 29 #[.int .u8 kind, .int .u64 x, .slice At m ct, .int .i64 most]) := by
      refine (HPR.out _ ((HR.out.old hk0).old ((Kept.refl [] w1).alloc _)).drew).mono fun e w' ⟨h1, h2⟩ => ⟨h1, h2, ?_⟩
      obtain ⟨_, _, _, hk5, _⟩ := h2
      exact ⟨((Blk.new w1 _ _).drew).kept hk5 (by simp; omega), ((hBres.alloc _).drew).kept hk5 (by simp; omega), ((hBth.alloc _).drew).kept hk5 (by simp; omega)⟩
    have hr1 := hBth.cell
    have hr2 := hBth.lt
    clear hBres hBth
    go_wp2_with fail
    go_region_held3 (fun w' => w'.cell? ⟨w1.heap.size, 0, none⟩ = some (.slice A2 m2 c2) ∧ w'.cell? ⟨w1.heap.size, 1, none⟩ = some (.int .i64 s2.1) ∧ w'.cell? ⟨w.heap.size + 1, 1, none⟩ = some (.int .u64 x)) (go_keep) (first | (go_at_call 22; refine HC.out.mono ?_; rintro e w5 ⟨rfl, hgo5, hBn, hBr, hBt⟩; have cn0 : w5.cell? ⟨w1.heap.size, 0, none⟩ = some (.slice A2 m2 c2) := hBn.cell 0; have cn1 : w5.cell? ⟨w1.heap.size, 1, none⟩ = some (.int .i64 s2.1) := hBn.cell 1; have ct1 : w5.cell? ⟨w.heap.size + 1, 1, none⟩ = some (.int .u64 x) := hBt.cell 1; have cr := hBr.cell; have fr := hBr.frozen; have hltr := hBr.lt))
    go_wp2_with fail
    rw [← HS.out]
    obtain ⟨A6, c6, hR6, hk6, hA6⟩ := hgo5
    have hk7 : Kept [g] w w5 := (((hk0.mono (by simp)).alloc _).drew).trans hk6
    have hD6 : IsD w5 b0 A2 m2 c2 s2 := ((hD2.old ((Kept.refl [] w1).alloc _)).drew).kept hk6 (by simpa using hb0)
    refine bodyPost_ret (v := .tuple #[.agg #[.slice A2 m2 c2, .int .i64 s2.1], .bool true]) (by simp [results, Try.results19, go_sem, cr, fr, hltr]) rfl ⟨A2, m2, c2, rfl, (hD6.set (by simp only; omega) _).set (by simp only; omega) _, A6, c6, ?_, (hk7.setCell (.inr (by simp only; omega)) _).setCell (.inr (by simp only; omega)) _, hA6⟩
    have hk8 : Kept [w.heap.size + 1 + 1] w5 ((w5.setCell ⟨w.heap.size + 1 + 1, 0, none⟩ (.slice A2 m2 c2)).setCell ⟨w.heap.size + 1 + 1, 1, none⟩ (.int .i64 s2.1)) := ((Kept.refl _ _).setCell (.inl (by simp)) _).setCell (.inl (by simp)) _
    exact hR6.kept hk8 (by simp; omega) (fun ad e => by
      obtain ⟨a0, e0, b1⟩ := hA6 ad e
      have := (HR.out.2.2.2.2 a0 e0).2
      rw [b1]; simp; omega)
  | 3, _ =>
    simp at q0 q1 q2 q3
    obtain ⟨s2, hs2⟩ : ∃ s2, (bytesS s most).1 = s2 := ⟨_, rfl⟩
    obtain ⟨l, hl⟩ : ∃ l, (bytesS s most).2 = l := ⟨_, rfl⟩
    have HREF : Hid (∀ w1 : World, Kept [] w w1 → Calls Try.prog 40 #[.agg #[.slice A1 m1 c1, .int .i64 s.1], .int .i64 most] w1 (GivesB w1 b0 s2 l)) := fun w1 hk1 => by
      have := refGetBytes b0 A1 m1 c1 s most w1 (HD.out.old hk1) (by have := hk1.size; omega) hm1
      rw [hs2, hl] at this; exact this
    have HPR : Hid (∀ w1 : World, IsR w1 g A c s → Calls Try.prog 23 #[.pointer (some ⟨g, 0, none⟩), .int .i64 most] w1 fun e w' => ∃ v, e = .returned v ∧ Handed w' A l v ∧ RGoes w1 g A s2 w') := fun w1 h1 => by
      have := rbytes_any g A c s most w1 h1 hm1 hm0
      rw [hs2, hl] at this; exact this
    have HS : Hid (s2 = r) := by show s2 = r; rw [← hs2, ← HE.out, if_neg (by rw [HQ.out]; omega), if_neg (by rw [HQ.out]; omega), if_neg (by rw [HQ.out]; omega), if_pos HQ.out]
    clear hs2 hl
    go_enter Try.func19, Try.ntmps19
    go_wp2_with fail
    refine (HREF.out _ ((kept2 w _ _).alloc _)).mono ?_
    rintro e w1 ⟨A2, m2, c2, A3, m3, c3, rfl, hD2, hr3, hA3, hk2⟩
    have hk0 : Kept [] w w1 := ((kept2 w _ _).alloc _).trans hk2
    have hs0 := hk0.size
    have hBres : Blk w1 (w.heap.size + 1 + 1) 44 #[.slice none 0 0, .int .i64 0] := blkN (by simp) hk2
    have hBth : Blk w1 (w.heap.size + 1) 29 #[.int .u8 kind, .int .u64 x, .slice At m ct, .int .i64 most] := ((Blk.newAt (w := w.alloc (.cells #[.slice A1 m1 c1, .int .i64 s.1] 44)) (g := w.heap.size + 1) (by simp) _ _).alloc _).kept hk2 (by simp)
    have hlt3 := hBres.lt
    have hne1 : ¬ w1.heap.size = w.heap.size + 1 + 1 := by omega
    have hne2 : ¬ w.heap.size + 1 + 1 = w1.heap.size := by omega
    have HC : Hid (Calls Try.prog 23 #[.pointer (some ⟨g, 0, none⟩), .int .i64 most] (w1.alloc (.cells #[.slice A2 m2 c2, .int .i64 s2.1] 44)).drew fun e w' => ∃ A' m' c', e = .returned (.slice A' m' c') ∧ Reads w' 1 A' m' (l.map B) ∧ (∀ ad, A' = some ad → ad.block < w.heap.size) ∧ Reads w' 1 A3 m3 (l.map B) ∧ RGoes (w1.alloc (.cells #[.slice A2 m2 c2, .int .i64 s2.1] 44)).drew g A s2 w' ∧
        Blk w' w1.heap.size 44 #[.slice A2 m2 c2, .int .i64 s2.1] ∧ Blk w' (w.heap.size + 1 + 1) 44 #[.slice none 0 0, .int .i64 0]) := by
      refine (HPR.out _ ((HR.out.old hk0).old ((Kept.refl [] w1).alloc _)).drew).mono fun e w' ⟨v, h1, hH, h2⟩ => ?_
      obtain ⟨A', m', c', rfl, hr', hA'⟩ := hH
      refine ⟨A', m', c', h1, hr', fun ad e => by obtain ⟨a0, e0, b1⟩ := hA' ad e; rw [b1]; exact (HR.out.2.2.2.2 a0 e0).2, ?_, h2, ?_⟩
      · obtain ⟨_, _, _, hk5, _⟩ := h2
        exact ((hr3.alloc _).drew).kept hk5 (fun ad e => by have := hA3 ad e; simp; omega)
      · obtain ⟨_, _, _, hk5, _⟩ := h2
        exact ⟨((Blk.new w1 _ _).drew).kept hk5 (by simp; omega), ((hBres.alloc _).drew).kept hk5 (by simp; omega)⟩
    have hr1 := hBth.cell
    have hr2 := hBth.lt
    have hst0 := run_string_of (P := Try.prog) (c := c3) (hr3.alloc (.cells #[.slice A2 m2 c2, .int .i64 s2.1] 44)).drew 25 9 5 Try.underlying25 Try.underlying5 Try.underlying9
    clear hBres hBth
    go_wp2_with fail
    go_region_with (first | (go_at_call 23; refine HC.out.mono ?_; rintro e w5 ⟨A', m', c', rfl, hr5, hA5, hr6, hgo5, hBn, hBr⟩; have hk8 : Kept [w.heap.size + 1 + 1] w5 ((w5.setCell ⟨w.heap.size + 1 + 1, 0, none⟩ (.slice A2 m2 c2)).setCell ⟨w.heap.size + 1 + 1, 1, none⟩ (.int .i64 s2.1)) := (((Kept.refl _ _).setCell (.inl (by simp)) _).setCell (.inl (by simp)) _); have hst7 := run_string_of (P := Try.prog) (c := c') (hr5.kept hk8 (fun ad e => by have := hA5 ad e; simp; omega)) 25 9 5 Try.underlying25 Try.underlying5 Try.underlying9; have hst8 := run_string_of (P := Try.prog) (c := c3) (hr6.kept hk8 (fun ad e => by have := hA3 ad e; simp; omega)) 25 9 5 Try.underlying25 Try.underlying5 Try.underlying9; have hst5 := run_string_of (P := Try.prog) (c := c') hr5 25 9 5 Try.underlying25 Try.underlying5 Try.underlying9; have hst6 := run_string_of (P := Try.prog) (c := c3) hr6 25 9 5 Try.underlying25 Try.underlying5 Try.underlying9; have cn := hBn.cell; have cr := hBr.cell; have fr := hBr.frozen; have hltr := hBr.lt))
    all_goals
      go_wp2_with fail
      rw [← HS.out]
      obtain ⟨A6, c6, hR6, hk6, hA6⟩ := hgo5
      have hk7 : Kept [g] w w5 := (((hk0.mono (by simp)).alloc _).drew).trans hk6
      have hD6 : IsD w5 b0 A2 m2 c2 s2 := ((hD2.old ((Kept.refl [] w1).alloc _)).drew).kept hk6 (by simpa using hb0)
      refine bodyPost_ret (v := .tuple #[.agg #[.slice A2 m2 c2, .int .i64 s2.1], .bool true]) (by simp [results, Try.results19, go_sem, cr, fr, hltr]) rfl ⟨A2, m2, c2, rfl, (hD6.set (by simp only; omega) _).set (by simp only; omega) _, A6, c6, ?_, (hk7.setCell (.inr (by simp only; omega)) _).setCell (.inr (by simp only; omega)) _, hA6⟩
      have hk8 : Kept [w.heap.size + 1 + 1] w5 ((w5.setCell ⟨w.heap.size + 1 + 1, 0, none⟩ (.slice A2 m2 c2)).setCell ⟨w.heap.size + 1 + 1, 1, none⟩ (.int .i64 s2.1)) := ((Kept.refl _ _).setCell (.inl (by simp)) _).setCell (.inl (by simp)) _
      exact hR6.kept hk8 (by simp; omega) (fun ad e => by
        obtain ⟨a0, e0, b1⟩ := hA6 ad e
        have := (HR.out.2.2.2.2 a0 e0).2
        rw [b1]; simp; omega)
  | 4, _ =>
    simp at q0 q1 q2 q3
    obtain ⟨s2, hs2⟩ : ∃ s2, (uptoS s x).1 = s2 := ⟨_, rfl⟩
    have HREF : Hid (∀ w1 : World, Kept [] w w1 → Calls Try.prog 41 #[.agg #[.slice A1 m1 c1, .int .i64 s.1], .int .u64 x] w1 (Gives w1 b0 s2 (.int .u64 ((uptoS s x).2 : Int)))) := fun w1 hk1 => by
      have := refGetUpto b0 A1 m1 c1 s x w1 (HD.out.old hk1) (by have := hk1.size; omega)
      rw [hs2] at this; exact this
    have HPR : Hid (∀ w1 : World, IsR w1 g A c s → Calls Try.prog 28 #[.pointer (some ⟨g, 0, none⟩), .int .u64 x] w1 fun e w' => e = .returned (.int .u64 ((uptoS s x).2 : Int)) ∧ RGoes w1 g A s2 w') := fun w1 h1 => by
      have := rupto_any g A c s x w1 h1
      rw [hs2] at this; exact this
    have HS : Hid (s2 = r) := by show s2 = r; rw [← hs2, ← HE.out, if_neg (by rw [HQ.out]; omega), if_neg (by rw [HQ.out]; omega), if_neg (by rw [HQ.out]; omega), if_neg (by rw [HQ.out]; omega)]
    clear hs2
    go_enter Try.func19, Try.ntmps19
    go_wp2_with fail
    refine (HREF.out _ ((kept2 w _ _).alloc _)).mono ?_
    rintro e w1 ⟨A2, m2, c2, rfl, hD2, hk2⟩
    have hk0 : Kept [] w w1 := ((kept2 w _ _).alloc _).trans hk2
    have hs0 := hk0.size
    have hBres : Blk w1 (w.heap.size + 1 + 1) 44 #[.slice none 0 0, .int .i64 0] := blkN (by simp) hk2
    have hBth : Blk w1 (w.heap.size + 1) 29 #[.int .u8 kind, .int .u64 x, .slice At m ct, .int .i64 most] := ((Blk.newAt (w := w.alloc (.cells #[.slice A1 m1 c1, .int .i64 s.1] 44)) (g := w.heap.size + 1) (by simp) _ _).alloc _).kept hk2 (by simp)
    have hlt3 := hBres.lt
    have hne1 : ¬ w1.heap.size = w.heap.size + 1 + 1 := by omega
    have hne2 : ¬ w.heap.size + 1 + 1 = w1.heap.size := by omega
    have HC : Hid (Calls Try.prog 28 #[.pointer (some ⟨g, 0, none⟩), .int .u64 x] (w1.alloc (.cells #[.slice A2 m2 c2, .int .i64 s2.1] 44)).drew fun e w' => e = .returned (.int .u64 ((uptoS s x).2 : Int)) ∧ RGoes (w1.alloc (.cells #[.slice A2 m2 c2, .int .i64 s2.1] 44)).drew g A s2 w' ∧
        Blk w' w1.heap.size 44 #[.slice A2 m2 c2, .int .i64 s2.1] ∧ Blk w' (w.heap.size + 1 + 1) 44 #[.slice none 0 0, .int .i64 0] ∧ Blk w' (w.heap.size + 1) 29 #[.int .u8 kind, .int .u64 x, .slice At m ct, .int .i64 most]) := by
      refine (HPR.out _ ((HR.out.old hk0).old ((Kept.refl [] w1).alloc _)).drew).mono fun e w' ⟨h1, h2⟩ => ⟨h1, h2, ?_⟩
      obtain ⟨_, _, _, hk5, _⟩ := h2
      exact ⟨((Blk.new w1 _ _).drew).kept hk5 (by simp; omega), ((hBres.alloc _).drew).kept hk5 (by simp; omega), ((hBth.alloc _).drew).kept hk5 (by simp; omega)⟩
    have hr1 := hBth.cell
    have hr2 := hBth.lt
    clear hBres hBth
    go_wp2_with fail
    go_region_held3 (fun w' => w'.cell? ⟨w1.heap.size, 0, none⟩ = some (.slice A2 m2 c2) ∧ w'.cell? ⟨w1.heap.size, 1, none⟩ = some (.int .i64 s2.1) ∧ w'.cell? ⟨w.heap.size + 1, 1, none⟩ = some (.int .u64 x)) (go_keep) (first | (go_at_call 28; refine HC.out.mono ?_; rintro e w5 ⟨rfl, hgo5, hBn, hBr, hBt⟩; have cn0 : w5.cell? ⟨w1.heap.size, 0, none⟩ = some (.slice A2 m2 c2) := hBn.cell 0; have cn1 : w5.cell? ⟨w1.heap.size, 1, none⟩ = some (.int .i64 s2.1) := hBn.cell 1; have ct1 : w5.cell? ⟨w.heap.size + 1, 1, none⟩ = some (.int .u64 x) := hBt.cell 1; have cr := hBr.cell; have fr := hBr.frozen; have hltr := hBr.lt))
    go_wp2_with fail
    rw [← HS.out]
    obtain ⟨A6, c6, hR6, hk6, hA6⟩ := hgo5
    have hk7 : Kept [g] w w5 := (((hk0.mono (by simp)).alloc _).drew).trans hk6
    have hD6 : IsD w5 b0 A2 m2 c2 s2 := ((hD2.old ((Kept.refl [] w1).alloc _)).drew).kept hk6 (by simpa using hb0)
    refine bodyPost_ret (v := .tuple #[.agg #[.slice A2 m2 c2, .int .i64 s2.1], .bool true]) (by simp [results, Try.results19, go_sem, cr, fr, hltr]) rfl ⟨A2, m2, c2, rfl, (hD6.set (by simp only; omega) _).set (by simp only; omega) _, A6, c6, ?_, (hk7.setCell (.inr (by simp only; omega)) _).setCell (.inr (by simp only; omega)) _, hA6⟩
    have hk8 : Kept [w.heap.size + 1 + 1] w5 ((w5.setCell ⟨w.heap.size + 1 + 1, 0, none⟩ (.slice A2 m2 c2)).setCell ⟨w.heap.size + 1 + 1, 1, none⟩ (.int .i64 s2.1)) := ((Kept.refl _ _).setCell (.inl (by simp)) _).setCell (.inl (by simp)) _
    exact hR6.kept hk8 (by simp; omega) (fun ad e => by
      obtain ⟨a0, e0, b1⟩ := hA6 ad e
      have := (HR.out.2.2.2.2 a0 e0).2
      rw [b1]; simp; omega)

end Go.Proofs.Ytmaiipglojpknaa
