/- The document's locks in memory: the pieces of a bosunref26.Locks, and the state that they show; Package bosunref24, walked: Thread IsLock Next Reached Closes Wait; Package bosunref25, walked: Next Gives Givers All; Package bosunref25, All; package bosunref26: Eff SetLevel waits may come Lock Try; walked. -/
import Derived.Test.YtfoeijiejpenpaaGreatDoorLkT
import Derived.Test.YtfoeijiejpenpaaGreatDoorRegion
import Derived.Test.YtfoeijiejpenpaaGreatDoorGiftA
import Derived.Test.YtfoeijiejpenpaaGreatDoorWait6

/- The document's locks in memory: the pieces of a bosunref26.Locks, and the state that they show. -/
namespace Go.Proofs.YtfoeijiejpenpaaGreatDoor
open Go.RowKit

/-- The document's state: levels, each lock's owner, what each thread waits for (a lock, a thread), when each came, the last coming. -/
structure Rf where
  level : List Int
  owner : List Int
  lock : List Int
  join : List Int
  came : List Int
  last : Int
structure Rf.Whole (f : Rf) : Prop where
  n64 : f.level.length ≤ 64
  m64 : f.owner.length ≤ 64
  lock : f.lock.length = f.level.length
  join : f.join.length = f.level.length
  came : f.came.length = f.level.length
  owners : ∀ x ∈ f.owner, -1 ≤ x ∧ x < f.level.length
  locks : ∀ x ∈ f.lock, -1 ≤ x ∧ x < f.owner.length
  joins : ∀ x ∈ f.join, -1 ≤ x ∧ x < f.level.length
structure RfA where
  r : Nat
  rw : Nat
  AL : Option Addr
  cL : Nat
  AO : Option Addr
  cO : Nat
  AK : Option Addr
  cK : Nat
  AJ : Option Addr
  cJ : Nat
  AC : Option Addr
  cC : Nat
def rfP (b : RfA) (f : Rf) : List Piece := [
  .blk b.r 30 #[.slice b.AL f.level.length b.cL, .pointer (some ⟨b.rw, 0, none⟩), .slice b.AC f.level.length b.cC, .int .i64 f.last],
  .blk b.rw 32 #[.slice b.AO f.owner.length b.cO, .slice b.AK f.level.length b.cK, .slice b.AJ f.level.length b.cJ],
  .row 3 1 (.slice b.AL f.level.length b.cL) f.level.length (f.level.map I64),
  .row 3 1 (.slice b.AO f.owner.length b.cO) f.owner.length (f.owner.map I64),
  .row 3 1 (.slice b.AK f.level.length b.cK) f.level.length (f.lock.map I64),
  .row 3 1 (.slice b.AJ f.level.length b.cJ) f.level.length (f.join.map I64),
  .row 3 1 (.slice b.AC f.level.length b.cC) f.level.length (f.came.map I64)]
abbrev RfAt (w : World) (b : RfA) (f : Rf) : Prop := Holds w (rfP b f)
theorem RfAt.blk {w : World} {b : RfA} {f : Rf} (h : RfAt w b f) : Blk w b.r 30 #[.slice b.AL f.level.length b.cL, .pointer (some ⟨b.rw, 0, none⟩), .slice b.AC f.level.length b.cC, .int .i64 f.last] := h.get (i := 0) rfl
theorem RfAt.web {w : World} {b : RfA} {f : Rf} (h : RfAt w b f) : Blk w b.rw 32 #[.slice b.AO f.owner.length b.cO, .slice b.AK f.level.length b.cK, .slice b.AJ f.level.length b.cJ] := h.get (i := 1) rfl
/-- A row's cell. -/
theorem row_at {w : World} {A : Option Addr} {n c : Nat} {l : List Int} (h : w.ownsRow 0 3 1 (.slice A n c) n (l.map I64)) (k : Nat) (hk : k < n) (hl : l.length = n) : ∃ g, A = some ⟨g, 0, none⟩ ∧ w.cell? ⟨g, k, none⟩ = some (.int .i64 (l.getD k 0)) ∧ (∀ j, w.frozen? ⟨g, j, none⟩ = false) ∧ g < w.heap.size := by
  obtain ⟨g, rfl⟩ := own_at0 h (by omega)
  refine ⟨g, rfl, ?_, fun j => h.frozenAt j, own_lt h g (by simp [fp_some])⟩
  rw [h.cellAt k (by omega), List.getElem?_map, List.getElem?_eq_getElem (by omega), List.getD_eq_getElem?_getD, List.getElem?_eq_getElem (by omega)]
  rfl
theorem RfAt.level {w : World} {b : RfA} {f : Rf} (h : RfAt w b f) (k : Nat) (hk : k < f.level.length) : ∃ g, b.AL = some ⟨g, 0, none⟩ ∧ w.cell? ⟨g, k, none⟩ = some (.int .i64 (f.level.getD k 0)) ∧ (∀ j, w.frozen? ⟨g, j, none⟩ = false) ∧ g < w.heap.size := row_at (h.get (i := 2) rfl) k hk rfl
theorem RfAt.owner {w : World} {b : RfA} {f : Rf} (h : RfAt w b f) (k : Nat) (hk : k < f.owner.length) : ∃ g, b.AO = some ⟨g, 0, none⟩ ∧ w.cell? ⟨g, k, none⟩ = some (.int .i64 (f.owner.getD k 0)) ∧ (∀ j, w.frozen? ⟨g, j, none⟩ = false) ∧ g < w.heap.size := row_at (h.get (i := 3) rfl) k hk rfl
theorem RfAt.lock {w : World} {b : RfA} {f : Rf} (h : RfAt w b f) (hw : f.Whole) (k : Nat) (hk : k < f.level.length) : ∃ g, b.AK = some ⟨g, 0, none⟩ ∧ w.cell? ⟨g, k, none⟩ = some (.int .i64 (f.lock.getD k 0)) ∧ (∀ j, w.frozen? ⟨g, j, none⟩ = false) ∧ g < w.heap.size := row_at (h.get (i := 4) rfl) k hk hw.lock
theorem RfAt.join {w : World} {b : RfA} {f : Rf} (h : RfAt w b f) (hw : f.Whole) (k : Nat) (hk : k < f.level.length) : ∃ g, b.AJ = some ⟨g, 0, none⟩ ∧ w.cell? ⟨g, k, none⟩ = some (.int .i64 (f.join.getD k 0)) ∧ (∀ j, w.frozen? ⟨g, j, none⟩ = false) ∧ g < w.heap.size := row_at (h.get (i := 5) rfl) k hk hw.join
theorem RfAt.came {w : World} {b : RfA} {f : Rf} (h : RfAt w b f) (hw : f.Whole) (k : Nat) (hk : k < f.level.length) : ∃ g, b.AC = some ⟨g, 0, none⟩ ∧ w.cell? ⟨g, k, none⟩ = some (.int .i64 (f.came.getD k 0)) ∧ (∀ j, w.frozen? ⟨g, j, none⟩ = false) ∧ g < w.heap.size := row_at (h.get (i := 6) rfl) k hk hw.came
structure RfIs (w0 : Base) (w : World) (b : RfA) (f : Rf) : Prop where
  at_ : RfAt w b f
  new : NewerB w0 (rfP b f)
  kept : Kept w0.F w0.w w
theorem RfIs.old {w0 : Base} {w w' : World} {b : RfA} {f : Rf} (h : RfIs w0 w b f) (hk : Kept [] w w') : RfIs w0 w' b f := ⟨h.at_.old hk, h.new, h.kept.trans (hk.mono (by simp))⟩
/-- A row's cell is stored. -/
theorem RfIs.store {w0 : Base} {w : World} {b : RfA} {f f' : Rf} (h : RfIs w0 w b f) {i g n c : Nat} {xs : List Value} (hp : (rfP b f)[i]? = some (.row 3 1 (.slice (some ⟨g, 0, none⟩) n c) n xs)) (k : Nat) (hk : k < xs.length) (u : Value)
    (hf : (rfP b f).set i (.row 3 1 (.slice (some ⟨g, 0, none⟩) n c) n (xs.set k u)) = rfP b f') : RfIs w0 (w.setCell ⟨g, k, none⟩ u) b f' := by
  have hset : Kept [g] w (w.setCell ⟨g, k, none⟩ u) := (Kept.refl _ _).setCell (.inl (by simp)) u
  refine ⟨?_, ?_, h.new.kept hp h.kept (by simpa [Piece.fp, fp_some] using hset)⟩
  · show Holds _ _
    rw [← hf]
    exact Holds.store h.at_ hp k hk u
  · rw [← hf]
    exact h.new.turn hp h.kept.size (fun q hq => .inl (by simpa [Piece.fp, fp_some] using hq))
theorem RfIs.setOwner {w0 : Base} {w : World} {b : RfA} {f : Rf} (h : RfIs w0 w b f) (k : Nat) (hk : k < f.owner.length) (x : Int) {g : Nat} (hg : b.AO = some ⟨g, 0, none⟩) : RfIs w0 (w.setCell ⟨g, k, none⟩ (.int .i64 x)) b { f with owner := f.owner.set k x } := by
  refine h.store (i := 3) (n := f.owner.length) (c := b.cO) (xs := f.owner.map I64) (by rw [← hg]; rfl) k (by simpa using hk) _ ?_
  rw [← hg]
  simp [rfP, List.map_set, I64]
theorem RfIs.setLevel {w0 : Base} {w : World} {b : RfA} {f : Rf} (h : RfIs w0 w b f) (k : Nat) (hk : k < f.level.length) (x : Int) {g : Nat} (hg : b.AL = some ⟨g, 0, none⟩) : RfIs w0 (w.setCell ⟨g, k, none⟩ (.int .i64 x)) b { f with level := f.level.set k x } := by
  refine h.store (i := 2) (n := f.level.length) (c := b.cL) (xs := f.level.map I64) (by rw [← hg]; rfl) k (by simpa using hk) _ ?_
  rw [← hg]
  simp [rfP, List.map_set, I64]
theorem RfIs.setLock {w0 : Base} {w : World} {b : RfA} {f : Rf} (h : RfIs w0 w b f) (hw : f.Whole) (k : Nat) (hk : k < f.level.length) (x : Int) {g : Nat} (hg : b.AK = some ⟨g, 0, none⟩) : RfIs w0 (w.setCell ⟨g, k, none⟩ (.int .i64 x)) b { f with lock := f.lock.set k x } := by
  refine h.store (i := 4) (n := f.level.length) (c := b.cK) (xs := f.lock.map I64) (by rw [← hg]; rfl) k (by simpa [hw.lock] using hk) _ ?_
  rw [← hg]
  simp [rfP, List.map_set, I64]
theorem RfIs.setJoin {w0 : Base} {w : World} {b : RfA} {f : Rf} (h : RfIs w0 w b f) (hw : f.Whole) (k : Nat) (hk : k < f.level.length) (x : Int) {g : Nat} (hg : b.AJ = some ⟨g, 0, none⟩) : RfIs w0 (w.setCell ⟨g, k, none⟩ (.int .i64 x)) b { f with join := f.join.set k x } := by
  refine h.store (i := 5) (n := f.level.length) (c := b.cJ) (xs := f.join.map I64) (by rw [← hg]; rfl) k (by simpa [hw.join] using hk) _ ?_
  rw [← hg]
  simp [rfP, List.map_set, I64]
theorem RfIs.setCame {w0 : Base} {w : World} {b : RfA} {f : Rf} (h : RfIs w0 w b f) (hw : f.Whole) (k : Nat) (hk : k < f.level.length) (x : Int) {g : Nat} (hg : b.AC = some ⟨g, 0, none⟩) : RfIs w0 (w.setCell ⟨g, k, none⟩ (.int .i64 x)) b { f with came := f.came.set k x } := by
  refine h.store (i := 6) (n := f.level.length) (c := b.cC) (xs := f.came.map I64) (by rw [← hg]; rfl) k (by simpa [hw.came] using hk) _ ?_
  rw [← hg]
  simp [rfP, List.map_set, I64]
theorem RfIs.setLast {w0 : Base} {w : World} {b : RfA} {f : Rf} (h : RfIs w0 w b f) (x : Int) : RfIs w0 (w.setCell ⟨b.r, 3, none⟩ (.int .i64 x)) b { f with last := x } := by
  have hset : Kept [b.r] w (w.setCell ⟨b.r, 3, none⟩ (.int .i64 x)) := (Kept.refl _ _).setCell (.inl (by simp)) _
  have he : (rfP b f).set 0 (.blk b.r 30 ((#[.slice b.AL f.level.length b.cL, .pointer (some ⟨b.rw, 0, none⟩), .slice b.AC f.level.length b.cC, .int .i64 f.last] : Array Value).setIfInBounds 3 (.int .i64 x))) = rfP b { f with last := x } := by simp [rfP]
  refine ⟨?_, ?_, h.new.kept (i := 0) rfl h.kept hset⟩
  · show Holds _ _
    rw [← he]
    exact Holds.put h.at_ (i := 0) rfl 3 _
  · rw [← he]
    exact h.new.turn (i := 0) rfl h.kept.size (fun q hq => .inl hq)

end Go.Proofs.YtfoeijiejpenpaaGreatDoor

/- Package bosunref24, walked: Thread IsLock Next Reached Closes Wait. -/
namespace Go.Proofs.YtfoeijiejpenpaaGreatDoor
open Go.RowKit

set_option maxHeartbeats 1600000 in
theorem refThread {w : World} {b : RfA} {f : Rf} (h : RfAt w b f) (t : Int) : Calls Tryz.prog 30 #[.pointer (some ⟨b.rw, 0, none⟩), .int .i64 t] w fun e w' => e = .returned (.bool (decide (0 ≤ t ∧ t < f.level.length))) ∧ w = w' := by
  have hc : w.cell? ⟨b.rw, 1, none⟩ = some (.slice b.AK f.level.length b.cK) := h.web.cell 1
  have hl := h.web.lt
  clear h
  generalize f.level.length = n at *
  rcases (by omega : t < 0 ∨ (0 ≤ t ∧ t < (n : Int)) ∨ (0 ≤ t ∧ ¬ t < (n : Int))) with h1 | ⟨h1, h2⟩ | ⟨h1, h2⟩
  · have hd : decide (0 ≤ t ∧ t < (n : Int)) = false := by simp; omega
    rw [hd]
    have h3 : ¬ 0 ≤ t := by omega
    clear hd
    go_enter Tryz.func30, Tryz.ntmps30
    go_wp2
    go_ret
    exact ⟨rfl, rfl⟩
  · have hd : decide (0 ≤ t ∧ t < (n : Int)) = true := by simp; omega
    rw [hd]
    clear hd
    go_enter Tryz.func30, Tryz.ntmps30
    go_wp2
    go_ret
    exact ⟨rfl, rfl⟩
  · have hd : decide (0 ≤ t ∧ t < (n : Int)) = false := by simp; omega
    rw [hd]
    clear hd
    go_enter Tryz.func30, Tryz.ntmps30
    go_wp2
    go_ret
    exact ⟨rfl, rfl⟩
set_option maxHeartbeats 1600000 in
theorem refIsLock {w : World} {b : RfA} {f : Rf} (h : RfAt w b f) (t : Int) : Calls Tryz.prog 37 #[.pointer (some ⟨b.rw, 0, none⟩), .int .i64 t] w fun e w' => e = .returned (.bool (decide (0 ≤ t ∧ t < f.owner.length))) ∧ w = w' := by
  have hc : w.cell? ⟨b.rw, 0, none⟩ = some (.slice b.AO f.owner.length b.cO) := h.web.cell 0
  have hl := h.web.lt
  clear h
  generalize f.owner.length = n at *
  rcases (by omega : t < 0 ∨ (0 ≤ t ∧ t < (n : Int)) ∨ (0 ≤ t ∧ ¬ t < (n : Int))) with h1 | ⟨h1, h2⟩ | ⟨h1, h2⟩
  · have hd : decide (0 ≤ t ∧ t < (n : Int)) = false := by simp; omega
    rw [hd]
    have h3 : ¬ 0 ≤ t := by omega
    clear hd
    go_enter Tryz.func37, Tryz.ntmps37
    go_wp2
    go_ret
    exact ⟨rfl, rfl⟩
  · have hd : decide (0 ≤ t ∧ t < (n : Int)) = true := by simp; omega
    rw [hd]
    clear hd
    go_enter Tryz.func37, Tryz.ntmps37
    go_wp2
    go_ret
    exact ⟨rfl, rfl⟩
  · have hd : decide (0 ≤ t ∧ t < (n : Int)) = false := by simp; omega
    rw [hd]
    clear hd
    go_enter Tryz.func37, Tryz.ntmps37
    go_wp2
    go_ret
    exact ⟨rfl, rfl⟩
/-- Whom a thread waits for. -/
def nextR (f : Rf) (t : Int) : Int := if 0 ≤ t ∧ t < f.level.length then (if 0 ≤ f.lock.getD t.toNat 0 then f.owner.getD (f.lock.getD t.toNat 0).toNat 0 else f.join.getD t.toNat 0) else -1
theorem getD_rng {l : List Int} {lo hi : Int} (h : ∀ x ∈ l, lo ≤ x ∧ x < hi) {k : Nat} (hk : k < l.length) : lo ≤ l.getD k 0 ∧ l.getD k 0 < hi := by
  rw [List.getD_eq_getElem?_getD, List.getElem?_eq_getElem hk]
  exact h _ (List.getElem_mem hk)
set_option maxHeartbeats 3200000 in
set_option maxRecDepth 100000 in
theorem refNext {w : World} {b : RfA} {f : Rf} (h : RfAt w b f) (hw : f.Whole) (t : Int) : Calls Tryz.prog 111 #[.pointer (some ⟨b.rw, 0, none⟩), .int .i64 t] w fun e w' => e = .returned (.int .i64 (nextR f t)) ∧ Kept [] w w' := by
  have HT := Lib.hid (refThread h t)
  have hmix : Tryz.prog.follows .mixedOrders = true := by kernel_rfl
  unfold nextR
  by_cases ct : 0 ≤ t ∧ t < f.level.length
  · rw [if_pos ct]
    have hd : decide (0 ≤ t ∧ t < (f.level.length : Int)) = true := by simp; omega
    rw [hd] at HT
    obtain ⟨k, rfl⟩ : ∃ k : Nat, t = k := ⟨t.toNat, by omega⟩
    have hk : k < f.level.length := by omega
    simp only [Int.toNat_natCast]
    obtain ⟨gk, hgk, hck, _, _⟩ := h.lock hw k hk
    obtain ⟨gj, hgj, hcj, _, _⟩ := h.join hw k hk
    have hr := getD_rng hw.locks (k := k) (by rw [hw.lock]; exact hk)
    have hb0 : w.cell? ⟨b.rw, 0, none⟩ = some (.slice b.AO f.owner.length b.cO) := h.web.cell 0
    have hb1 : w.cell? ⟨b.rw, 1, none⟩ = some (.slice b.AK f.level.length b.cK) := h.web.cell 1
    have hb2 : w.cell? ⟨b.rw, 2, none⟩ = some (.slice b.AJ f.level.length b.cJ) := h.web.cell 2
    have hbl := h.web.lt
    have HOW := Lib.hid (fun q hq => h.owner q hq)
    rw [hgk] at hb1
    rw [hgj] at hb2
    have hi0 : (0 : Int) ≤ (k : Int) := by omega
    have hi1 : (k : Int) < (f.level.length : Int) := by omega
    generalize f.lock.getD k 0 = x at *
    by_cases hx : 0 ≤ x
    · rw [if_pos hx]
      obtain ⟨q, rfl⟩ : ∃ q : Nat, x = q := ⟨x.toNat, by omega⟩
      simp only [Int.toNat_natCast]
      obtain ⟨go, hgo, hco, _, _⟩ := HOW.out q (by omega)
      rw [hgo] at hb0
      have hq0 : (0 : Int) ≤ (q : Int) := by omega
      have hq1 : (q : Int) < (f.owner.length : Int) := by omega
      generalize f.owner.getD q 0 = y at *
      clear hd h hw ct hr HOW hcj hb2
      go_enter Tryz.func111, Tryz.ntmps111
      go_wp2_with fail
      refine (HT.out).mono ?_
      rintro e w1 ⟨rfl, rfl⟩
      go_wp2_with fail
      refine wp_region_held_drew (S := fun w' => w'.cell? ⟨b.rw, 0, none⟩ = some (.slice (some ⟨go, 0, none⟩) f.owner.length b.cO) ∧ w'.cell? ⟨b.rw, 1, none⟩ = some (.slice (some ⟨gk, 0, none⟩) f.level.length b.cK) ∧ w'.cell? ⟨gk, k, none⟩ = some (.int .i64 q) ∧ w'.cell? ⟨go, q, none⟩ = some (.int .i64 y)) hmix ⟨hb0, hb1, hck, hco⟩ (fun hHeld => ?_)
      (refine rtake_0 (v := ?_) (by kernel_rfl) (by kernel_rfl) (by kernel_rfl) (fun _ _ _ h => h) (Or.inl ⟨by rfl, ?_⟩) (by assumption) ?_; rotate_left; focus ((intro w hSw; (try dsimp only at hSw); go_simp); try (with_reducible rfl)); (try simp only [Act.put, List.setIfInBounds_toArray, List.set_cons_zero, List.set_cons_succ]))
      (refine rtake_1 (v := ?_) (by kernel_rfl) (by kernel_rfl) (by kernel_rfl) (fun _ _ _ h => h) (Or.inl ⟨by rfl, ?_⟩) (by assumption) ?_; rotate_left; focus ((intro w hSw; (try dsimp only at hSw); go_simp); try (with_reducible rfl)); (try simp only [Act.put, List.setIfInBounds_toArray, List.set_cons_zero, List.set_cons_succ]))
      (refine rtake_2 (v := ?_) (by kernel_rfl) (by kernel_rfl) (by kernel_rfl) (fun _ _ _ h => h) (Or.inl ⟨by rfl, ?_⟩) (by assumption) ?_; rotate_left; focus ((intro w hSw; (try dsimp only at hSw); go_simp); try (with_reducible rfl)); (try simp only [Act.put, List.setIfInBounds_toArray, List.set_cons_zero, List.set_cons_succ]))
      (refine rtake_3 (v := ?_) (by kernel_rfl) (by kernel_rfl) (by kernel_rfl) (fun _ _ _ h => h) (Or.inl ⟨by rfl, ?_⟩) (by assumption) ?_; rotate_left; focus ((intro w hSw; (try dsimp only at hSw); go_simp); try (with_reducible rfl)); (try simp only [Act.put, List.setIfInBounds_toArray, List.set_cons_zero, List.set_cons_succ]))
      (refine rtake_4 (v := ?_) (by kernel_rfl) (by kernel_rfl) (by kernel_rfl) (fun _ _ _ h => h) (Or.inl ⟨by rfl, ?_⟩) (by assumption) ?_; rotate_left; focus ((intro w hSw; (try dsimp only at hSw); go_simp); try (with_reducible rfl)); (try simp only [Act.put, List.setIfInBounds_toArray, List.set_cons_zero, List.set_cons_succ]))
      (refine rtake_5 (v := ?_) (by kernel_rfl) (by kernel_rfl) (by kernel_rfl) (fun _ _ _ h => h) (Or.inl ⟨by rfl, ?_⟩) (by assumption) ?_; rotate_left; focus ((intro w hSw; (try dsimp only at hSw); go_simp); try (with_reducible rfl)); (try simp only [Act.put, List.setIfInBounds_toArray, List.set_cons_zero, List.set_cons_succ]))
      (refine rtake_6 (v := ?_) (by kernel_rfl) (by kernel_rfl) (by kernel_rfl) (fun _ _ _ h => h) (Or.inl ⟨by rfl, ?_⟩) (by assumption) ?_; rotate_left; focus ((intro w hSw; (try dsimp only at hSw); go_simp); try (with_reducible rfl)); (try simp only [Act.put, List.setIfInBounds_toArray, List.set_cons_zero, List.set_cons_succ]))
      (refine rtake_7 (v := ?_) (by kernel_rfl) (by kernel_rfl) (by kernel_rfl) (fun _ _ _ h => h) (Or.inl ⟨by rfl, ?_⟩) (by assumption) ?_; rotate_left; focus ((intro w hSw; (try dsimp only at hSw); go_simp); try (with_reducible rfl)); (try simp only [Act.put, List.setIfInBounds_toArray, List.set_cons_zero, List.set_cons_succ]))
      (refine rtake_8 (v := ?_) (by kernel_rfl) (by kernel_rfl) (by kernel_rfl) (fun _ _ _ h => h) (Or.inl ⟨by rfl, ?_⟩) (by assumption) ?_; rotate_left; focus ((intro w hSw; (try dsimp only at hSw); go_simp); try (with_reducible rfl)); (try simp only [Act.put, List.setIfInBounds_toArray, List.set_cons_zero, List.set_cons_succ]))
      (refine rtake_9 (v := ?_) (by kernel_rfl) (by kernel_rfl) (by kernel_rfl) (fun _ _ _ h => h) (Or.inl ⟨by rfl, ?_⟩) (by assumption) ?_; rotate_left; focus ((intro w hSw; (try dsimp only at hSw); go_simp); try (with_reducible rfl)); (try simp only [Act.put, List.setIfInBounds_toArray, List.set_cons_zero, List.set_cons_succ]))
      (refine rtake_10 (v := ?_) (by kernel_rfl) (by kernel_rfl) (by kernel_rfl) (fun _ _ _ h => h) (Or.inl ⟨by rfl, ?_⟩) (by assumption) ?_; rotate_left; focus ((intro w hSw; (try dsimp only at hSw); go_simp); try (with_reducible rfl)); (try simp only [Act.put, List.setIfInBounds_toArray, List.set_cons_zero, List.set_cons_succ]))
      (refine rtake_11 (v := ?_) (by kernel_rfl) (by kernel_rfl) (by kernel_rfl) (fun _ _ _ h => h) (Or.inl ⟨by rfl, ?_⟩) (by assumption) ?_; rotate_left; focus ((intro w hSw; (try dsimp only at hSw); go_simp); try (with_reducible rfl)); (try simp only [Act.put, List.setIfInBounds_toArray, List.set_cons_zero, List.set_cons_succ]))
      (refine rtake_12 (v := ?_) (by kernel_rfl) (by kernel_rfl) (by kernel_rfl) (fun _ _ _ h => h) (Or.inl ⟨by rfl, ?_⟩) (by assumption) ?_; rotate_left; focus ((intro w hSw; (try dsimp only at hSw); go_simp); try (with_reducible rfl)); (try simp only [Act.put, List.setIfInBounds_toArray, List.set_cons_zero, List.set_cons_succ]))
      (refine rtake_13 (v := ?_) (by kernel_rfl) (by kernel_rfl) (by kernel_rfl) (fun _ _ _ h => h) (Or.inl ⟨by rfl, ?_⟩) (by assumption) ?_; rotate_left; focus ((intro w hSw; (try dsimp only at hSw); go_simp); try (with_reducible rfl)); (try simp only [Act.put, List.setIfInBounds_toArray, List.set_cons_zero, List.set_cons_succ]))
      refine wpAnyH_done (by kernel_rfl) ?_ _
      simp only [Act.put, List.setIfInBounds_toArray, List.set_cons_zero, List.set_cons_succ]
      go_wp2_with fail
      go_ret
      exact ⟨rfl, (Kept.refl _ _).drew⟩
    · rw [if_neg hx]
      generalize f.join.getD k 0 = y at *
      clear hd h hw ct hr HOW hb0
      go_enter Tryz.func111, Tryz.ntmps111
      go_wp2_with fail
      refine (HT.out).mono ?_
      rintro e w1 ⟨rfl, rfl⟩
      go_wp2_with fail
      go_ret
      exact ⟨rfl, Kept.refl _ _⟩
  · rw [if_neg ct]
    have hd : decide (0 ≤ t ∧ t < (f.level.length : Int)) = false := by simp; omega
    rw [hd] at HT
    clear hd ct h hw
    go_enter Tryz.func111, Tryz.ntmps111
    go_wp2_with fail
    refine (HT.out).mono ?_
    rintro e w1 ⟨rfl, rfl⟩
    go_wp2_with fail
    go_ret
    exact ⟨rfl, Kept.refl _ _⟩

/-- Is a thread reached, by so many steps at most? -/
def reachF (f : Rf) (tg : Int) : Nat → Int → Bool
  | 0, _ => false
  | k + 1, a => if nextR f a < 0 then false else if nextR f a = tg then true else reachF f tg k (nextR f a)
set_option maxHeartbeats 3200000 in
set_option maxRecDepth 100000 in
theorem refReached {w : World} {b : RfA} {f : Rf} (h : RfAt w b f) (hw : f.Whole) (u t : Int) : Calls Tryz.prog 91 #[.pointer (some ⟨b.rw, 0, none⟩), .int .i64 u, .int .i64 t] w fun e w' => e = .returned (.bool (reachF f t (f.level.length + 1) u)) ∧ Kept [] w w' := by
  have HN := Lib.hid (fun W (hk : Kept [] w W) a => refNext (h.old hk) hw a)
  have hb1 : w.cell? ⟨b.rw, 1, none⟩ = some (.slice b.AK f.level.length b.cK) := h.web.cell 1
  have hbl := h.web.lt
  obtain ⟨R, hR⟩ : ∃ R, reachF f t (f.level.length + 1) u = R := ⟨_, rfl⟩
  rw [hR]
  have HR := Lib.hid hR
  have hn64 := hw.n64
  generalize hn : f.level.length = n at *
  have HNN := Lib.hid hn
  clear hR h hw hn
  go_enter Tryz.func91, Tryz.ntmps91
  go_wp2_with fail
  go_loopw [7, 8] (fun av kv wr => ∃ (a : Int) (k : Nat), k ≤ n + 1 ∧ av = .int .i64 a ∧ kv = .int .i64 k ∧ Hid (reachF f t (n + 1 - k) a = R) ∧ Hid (Kept [] w wr)) (fun _ k _ => n + 1 - (intOf k).toNat)
  case atStart => exact ⟨u, 0, by omega, rfl, rfl, HR.out, Kept.refl _ _⟩
  case round =>
    clear HR
    obtain ⟨a, k, hk1, rfl, rfl, HR, HK⟩ := hrel
    have hb2 := HK.out.cell_some hb1 (by simp)
    have hbl2 := Nat.lt_of_lt_of_le hbl HK.out.size
    by_cases hk : k ≤ n
    · have hr := HR.out
      rw [show n + 1 - k = (n - k) + 1 by omega, reachF] at hr
      have HNX := Lib.hid (HN.out _ HK.out a)
      generalize nextR f a = a2 at *
      have hki : (k : Int) ≤ (n : Int) := by omega
      by_cases h0 : a2 < 0
      · rw [if_pos h0] at hr
        subst hr
        clear HR
        go_wp2_with fail
        refine (HNX.out).mono ?_
        rintro e w1 ⟨rfl, hk1⟩
        have HK1 := Lib.hid (HK.out.trans hk1)
        clear hk1
        go_wp2_with fail
        go_ret
        exact ⟨rfl, HK1.out⟩
      · rw [if_neg h0] at hr
        by_cases ht : a2 = t
        · rw [if_pos ht] at hr
          subst hr
          subst ht
          clear HR
          go_wp2_with fail
          refine (HNX.out).mono ?_
          rintro e w1 ⟨rfl, hk1⟩
          have HK1 := Lib.hid (HK.out.trans hk1)
          clear hk1
          go_wp2_with fail
          go_ret
          exact ⟨rfl, HK1.out⟩
        · rw [if_neg ht] at hr
          have hb : (a2 == t) = false := beq_eq_false_iff_ne.2 ht
          have HR2 := Lib.hid hr
          clear HR hr ht
          go_wp2_with fail
          refine (HNX.out).mono ?_
          rintro e w1 ⟨rfl, hk1⟩
          have HK1 := Lib.hid (HK.out.trans hk1)
          clear hk1
          go_wp2_with fail
          go_roundw
          case rel => exact ⟨a2, k + 1, by omega, rfl, by go_num, (by show reachF f t (n + 1 - (k + 1)) a2 = R; rw [show n + 1 - (k + 1) = n - k by omega]; exact HR2.out), HK1.out⟩
          case measure => simp [intOf]; omega
    · have hr := HR.out
      rw [show n + 1 - k = 0 by omega, reachF] at hr
      subst hr
      have hki : (n : Int) < (k : Int) := by omega
      clear HR
      go_wp2_with fail
      go_ret
      exact ⟨rfl, HK.out⟩

/-- Would there be a ring? -/
def closesR (f : Rf) (t u : Int) : Bool := decide (0 ≤ t ∧ t < f.level.length) && (decide (0 ≤ u ∧ u < f.level.length) && (t == u || reachF f t (f.level.length + 1) u))
set_option maxHeartbeats 1600000 in
theorem refCloses {w : World} {b : RfA} {f : Rf} (h : RfAt w b f) (hw : f.Whole) (t u : Int) : Calls Tryz.prog 62 #[.pointer (some ⟨b.rw, 0, none⟩), .int .i64 t, .int .i64 u] w fun e w' => e = .returned (.bool (closesR f t u)) ∧ Kept [] w w' := by
  have HT := Lib.hid (refThread h t)
  have HU := Lib.hid (refThread h u)
  have HR := Lib.hid (refReached h hw u t)
  unfold closesR
  generalize reachF f t (f.level.length + 1) u = R at *
  generalize decide (0 ≤ t ∧ t < (f.level.length : Int)) = b1 at *
  generalize decide (0 ≤ u ∧ u < (f.level.length : Int)) = b2 at *
  obtain ⟨b3, hb3⟩ : ∃ b3, (t == u) = b3 := ⟨_, rfl⟩
  rw [hb3]
  clear h hw
  cases b1
  · go_enter Tryz.func62, Tryz.ntmps62
    go_wp2_with fail
    refine (HT.out).mono ?_
    rintro e w1 ⟨rfl, rfl⟩
    go_wp2_with fail
    go_ret
    exact ⟨rfl, Kept.refl _ _⟩
  · cases b2
    · go_enter Tryz.func62, Tryz.ntmps62
      go_wp2_with fail
      refine (HT.out).mono ?_
      rintro e w1 ⟨rfl, rfl⟩
      go_wp2_with fail
      refine (HU.out).mono ?_
      rintro e w1 ⟨rfl, rfl⟩
      go_wp2_with fail
      go_ret
      exact ⟨rfl, Kept.refl _ _⟩
    · cases b3
      · go_enter Tryz.func62, Tryz.ntmps62
        go_wp2_with fail
        refine (HT.out).mono ?_
        rintro e w1 ⟨rfl, rfl⟩
        go_wp2_with fail
        refine (HU.out).mono ?_
        rintro e w1 ⟨rfl, rfl⟩
        go_wp2_with fail
        refine (HR.out).mono ?_
        rintro e w1 ⟨rfl, hk⟩
        have HK := Lib.hid hk
        clear hk
        go_wp2_with fail
        go_ret
        exact ⟨rfl, HK.out⟩
      · go_enter Tryz.func62, Tryz.ntmps62
        go_wp2_with fail
        refine (HT.out).mono ?_
        rintro e w1 ⟨rfl, rfl⟩
        go_wp2_with fail
        refine (HU.out).mono ?_
        rintro e w1 ⟨rfl, rfl⟩
        go_wp2_with fail
        go_ret
        exact ⟨rfl, Kept.refl _ _⟩

/-- A thread's waiting is another one. -/
def waitR (f : Rf) (t : Nat) (l u : Int) : Rf := { f with lock := f.lock.set t l, join := f.join.set t u }
set_option maxHeartbeats 1600000 in
theorem refWait {w0 : Base} {w : World} {b : RfA} {f : Rf} (h : RfIs w0 w b f) (hw : f.Whole) (t : Nat) (ht : t < f.level.length) (l u : Int) : Calls Tryz.prog 56 #[.pointer (some ⟨b.rw, 0, none⟩), .int .i64 t, .int .i64 l, .int .i64 u] w fun e w' => e = .returned (.tuple #[]) ∧ RfIs w0 w' b (waitR f t l u) := by
  obtain ⟨gk, hgk, hck, hfk, hlk⟩ := h.at_.lock hw t ht
  have h1 := h.setLock hw t ht l hgk
  have hw1 : ({ f with lock := f.lock.set t l } : Rf).join.length = f.level.length := hw.join
  obtain ⟨gj, hgj, hcj, hfj, hlj⟩ := row_at (h1.at_.get (i := 5) rfl) t ht hw1
  have h2 : RfIs w0 ((w.setCell ⟨gk, t, none⟩ (.int .i64 l)).setCell ⟨gj, t, none⟩ (.int .i64 u)) b (waitR f t l u) := by
    refine h1.store (i := 5) (n := f.level.length) (c := b.cJ) (xs := f.join.map I64) (by rw [← hgj]; rfl) t (by simpa [hw.join] using ht) _ ?_
    rw [← hgj]
    simp [rfP, List.map_set, I64, waitR]
  have hb1 : w.cell? ⟨b.rw, 1, none⟩ = some (.slice b.AK f.level.length b.cK) := h.at_.web.cell 1
  have hbl := h.at_.web.lt
  have hb2 : (w.setCell ⟨gk, t, none⟩ (.int .i64 l)).cell? ⟨b.rw, 2, none⟩ = some (.slice b.AJ f.level.length b.cJ) := h1.at_.web.cell 2
  have hbl2 := h1.at_.web.lt
  rw [hgk] at hb1
  rw [hgj] at hb2
  have hfk0 := hfk t
  have hfj0 := hfj t
  have H2 := Lib.hid h2
  have hi0 : (0 : Int) ≤ (t : Int) := by omega
  have hi1 : (t : Int) < (f.level.length : Int) := by omega
  clear h h1 h2 hw hw1 hfk hfj
  generalize f.lock.getD t 0 = x at *
  generalize f.join.getD t 0 = y at *
  go_enter Tryz.func56, Tryz.ntmps56
  go_wp2_with fail
  go_end0
  exact ⟨rfl, H2.out⟩

end Go.Proofs.YtfoeijiejpenpaaGreatDoor

/- Package bosunref25, walked: Next Gives Givers All. -/
namespace Go.Proofs.YtfoeijiejpenpaaGreatDoor
open Go.RowKit

theorem FreshI.add {w wr wx w6 : World} {L : List Int} {A A8 : Option Addr} {c c8 : Nat} {x : Int} (h : FreshI w wr L A L.length c) (hk : Kept [] wr wx) (ha : Appended wx w6 3 1 (.slice A L.length c) (.slice A8 (L.length + 1) c8) (L.length + 1) (L.map I64 ++ [.int .i64 x])) : FreshI w w6 (L ++ [x]) A8 (L ++ [x]).length c8 := by
  have hl : (L ++ [x]).length = L.length + 1 := by simp
  rw [hl]
  refine ⟨?_, (h.2.1.trans hk).trans' ha.2.1 (fun q hq => .inr (h.2.2 q hq)), fun q hq => ?_⟩
  · rw [List.map_append]; exact ha.1
  · rcases ha.2.2 q hq with h1 | h1
    · exact h.2.2 q h1
    · exact Nat.le_trans (h.2.1.trans hk).size h1
theorem FreshI.nil (w : World) : FreshI w w [] none ([] : List Int).length 0 := ⟨World.ownsRow_nil _ _ _ _, Kept.refl _ _, by simp [fp, Value.ownBlock]⟩
theorem FreshI.later {w w1 w2 : World} {L : List Int} {A : Option Addr} {n c : Nat} (h : FreshI w w1 L A n c) (hk : Kept [] w1 w2) : FreshI w w2 L A n c := ⟨own_kept h.1 hk (by simp), h.2.1.trans hk, h.2.2⟩
theorem FreshI.since {w0 w w1 : World} {L : List Int} {A : Option Addr} {n c : Nat} (h : FreshI w w1 L A n c) (hk : Kept [] w0 w) : FreshI w0 w1 L A n c := ⟨h.1, hk.trans h.2.1, fun q hq => Nat.le_trans hk.size (h.2.2 q hq)⟩

/-- A graph of levels, waitings, owners, in memory. -/
structure GrAt (w : World) (AL AK AO : Option Addr) (cL cK cO : Nat) (f : Rf) : Prop where
  level : ∀ k, k < f.level.length → ∃ g, AL = some ⟨g, 0, none⟩ ∧ w.cell? ⟨g, k, none⟩ = some (.int .i64 (f.level.getD k 0)) ∧ g < w.heap.size
  lock : ∀ k, k < f.level.length → ∃ g, AK = some ⟨g, 0, none⟩ ∧ w.cell? ⟨g, k, none⟩ = some (.int .i64 (f.lock.getD k 0)) ∧ g < w.heap.size
  owner : ∀ k, k < f.owner.length → ∃ g, AO = some ⟨g, 0, none⟩ ∧ w.cell? ⟨g, k, none⟩ = some (.int .i64 (f.owner.getD k 0)) ∧ g < w.heap.size
theorem GrAt.old {w w' : World} {AL AK AO : Option Addr} {cL cK cO : Nat} {f : Rf} (h : GrAt w AL AK AO cL cK cO f) (hk : Kept [] w w') : GrAt w' AL AK AO cL cK cO f :=
  ⟨fun k hk1 => let ⟨g, h1, h2, h3⟩ := h.level k hk1; ⟨g, h1, hk.cell_some h2 (by simp), Nat.lt_of_lt_of_le h3 hk.size⟩,
   fun k hk1 => let ⟨g, h1, h2, h3⟩ := h.lock k hk1; ⟨g, h1, hk.cell_some h2 (by simp), Nat.lt_of_lt_of_le h3 hk.size⟩,
   fun k hk1 => let ⟨g, h1, h2, h3⟩ := h.owner k hk1; ⟨g, h1, hk.cell_some h2 (by simp), Nat.lt_of_lt_of_le h3 hk.size⟩⟩
theorem RfAt.graph {w : World} {b : RfA} {f : Rf} (h : RfAt w b f) (hw : f.Whole) : GrAt w b.AL b.AK b.AO b.cL b.cK b.cO f :=
  ⟨fun k hk => let ⟨g, h1, h2, _, h3⟩ := h.level k hk; ⟨g, h1, h2, h3⟩, fun k hk => let ⟨g, h1, h2, _, h3⟩ := h.lock hw k hk; ⟨g, h1, h2, h3⟩, fun k hk => let ⟨g, h1, h2, _, h3⟩ := h.owner k hk; ⟨g, h1, h2, h3⟩⟩
/-- Whose lock a thread waits for. -/
def nextA (f : Rf) (t : Int) : Int := if f.lock.getD t.toNat 0 < 0 then -1 else f.owner.getD (f.lock.getD t.toNat 0).toNat 0
theorem nextA_rng {f : Rf} (hw : f.Whole) {t : Int} (ht : 0 ≤ t ∧ t < f.level.length) : -1 ≤ nextA f t ∧ nextA f t < f.level.length := by
  unfold nextA
  have hr := getD_rng hw.locks (k := t.toNat) (by rw [hw.lock]; omega)
  split
  · omega
  · exact getD_rng hw.owners (by omega)

section
variable {w : World} {AL AK AO : Option Addr} {cL cK cO : Nat} {f : Rf}
set_option maxHeartbeats 3200000 in
set_option maxRecDepth 100000 in
theorem gNext (h : GrAt w AL AK AO cL cK cO f) (hw : f.Whole) (k : Nat) (hk : k < f.level.length) : Calls Tryz.prog 122 #[.agg #[.slice AL f.level.length cL, .slice AK f.level.length cK, .slice AO f.owner.length cO], .int .i64 k] w fun e w' => e = .returned (.int .i64 (nextA f k)) ∧ Kept [] w w' := by
  have hmix : Tryz.prog.follows .mixedOrders = true := by kernel_rfl
  obtain ⟨gk, hgk, hck, hlk⟩ := h.lock k hk
  subst hgk
  have hr := getD_rng hw.locks (k := k) (by rw [hw.lock]; exact hk)
  have hi0 : (0 : Int) ≤ (k : Int) := by omega
  have hi1 : (k : Int) < (f.level.length : Int) := by omega
  unfold nextA
  simp only [Int.toNat_natCast]
  generalize f.lock.getD k 0 = x at *
  by_cases hx : x < 0
  · rw [if_pos hx]
    clear h hw hr
    go_enter Tryz.func122, Tryz.ntmps122
    go_wp2_with fail
    go_ret
    exact ⟨rfl, (Kept.refl _ _).alloc _⟩
  · rw [if_neg hx]
    obtain ⟨q, rfl⟩ : ∃ q : Nat, x = q := ⟨x.toNat, by omega⟩
    simp only [Int.toNat_natCast]
    obtain ⟨go, hgo, hco, hlo⟩ := h.owner q (by omega)
    subst hgo
    have hq0 : (0 : Int) ≤ (q : Int) := by omega
    have hq1 : (q : Int) < (f.owner.length : Int) := by omega
    generalize f.owner.getD q 0 = y at *
    have hB : Blk (w.alloc (.cells #[.slice AL f.level.length cL, .slice (some ⟨gk, 0, none⟩) f.level.length cK, .slice (some ⟨go, 0, none⟩) f.owner.length cO] 102)) w.heap.size 102 #[.slice AL f.level.length cL, .slice (some ⟨gk, 0, none⟩) f.level.length cK, .slice (some ⟨go, 0, none⟩) f.owner.length cO] := Blk.new w _ _
    have hs1 : (w.alloc (.cells #[.slice AL f.level.length cL, .slice (some ⟨gk, 0, none⟩) f.level.length cK, .slice (some ⟨go, 0, none⟩) f.owner.length cO] 102)).cell? ⟨w.heap.size, 1, none⟩ = some (.slice (some ⟨gk, 0, none⟩) f.level.length cK) := hB.cell 1
    have hs2 : (w.alloc (.cells #[.slice AL f.level.length cL, .slice (some ⟨gk, 0, none⟩) f.level.length cK, .slice (some ⟨go, 0, none⟩) f.owner.length cO] 102)).cell? ⟨w.heap.size, 2, none⟩ = some (.slice (some ⟨go, 0, none⟩) f.owner.length cO) := hB.cell 2
    have hck2 := ((Kept.refl [] w).alloc (.cells #[.slice AL f.level.length cL, .slice (some ⟨gk, 0, none⟩) f.level.length cK, .slice (some ⟨go, 0, none⟩) f.owner.length cO] 102)).cell_some hck (by simp)
    have hco2 := ((Kept.refl [] w).alloc (.cells #[.slice AL f.level.length cL, .slice (some ⟨gk, 0, none⟩) f.level.length cK, .slice (some ⟨go, 0, none⟩) f.owner.length cO] 102)).cell_some hco (by simp)
    have HH := Lib.hid (And.intro hs2 (And.intro hs1 (And.intro hck2 hco2)))
    clear h hw hr hx hB hs1 hs2 hck2 hco2
    go_enter Tryz.func122, Tryz.ntmps122
    go_wp2_with fail
    refine wp_region_held_drew (S := fun w' => w'.cell? ⟨w.heap.size, 2, none⟩ = some (.slice (some ⟨go, 0, none⟩) f.owner.length cO) ∧ w'.cell? ⟨w.heap.size, 1, none⟩ = some (.slice (some ⟨gk, 0, none⟩) f.level.length cK) ∧ w'.cell? ⟨gk, k, none⟩ = some (.int .i64 q) ∧ w'.cell? ⟨go, q, none⟩ = some (.int .i64 y)) hmix HH.out (fun hHeld => ?_)
    (refine rtake_0 (v := ?_) (by kernel_rfl) (by kernel_rfl) (by kernel_rfl) (fun _ _ _ h => h) (Or.inl ⟨by rfl, ?_⟩) (by assumption) ?_; rotate_left; focus ((intro w hSw; (try dsimp only at hSw); go_simp); try (with_reducible rfl)); (try simp only [Act.put, List.setIfInBounds_toArray, List.set_cons_zero, List.set_cons_succ]))
    (refine rtake_1 (v := ?_) (by kernel_rfl) (by kernel_rfl) (by kernel_rfl) (fun _ _ _ h => h) (Or.inl ⟨by rfl, ?_⟩) (by assumption) ?_; rotate_left; focus ((intro w hSw; (try dsimp only at hSw); go_simp); try (with_reducible rfl)); (try simp only [Act.put, List.setIfInBounds_toArray, List.set_cons_zero, List.set_cons_succ]))
    (refine rtake_2 (v := ?_) (by kernel_rfl) (by kernel_rfl) (by kernel_rfl) (fun _ _ _ h => h) (Or.inl ⟨by rfl, ?_⟩) (by assumption) ?_; rotate_left; focus ((intro w hSw; (try dsimp only at hSw); go_simp); try (with_reducible rfl)); (try simp only [Act.put, List.setIfInBounds_toArray, List.set_cons_zero, List.set_cons_succ]))
    (refine rtake_3 (v := ?_) (by kernel_rfl) (by kernel_rfl) (by kernel_rfl) (fun _ _ _ h => h) (Or.inl ⟨by rfl, ?_⟩) (by assumption) ?_; rotate_left; focus ((intro w hSw; (try dsimp only at hSw); go_simp); try (with_reducible rfl)); (try simp only [Act.put, List.setIfInBounds_toArray, List.set_cons_zero, List.set_cons_succ]))
    (refine rtake_4 (v := ?_) (by kernel_rfl) (by kernel_rfl) (by kernel_rfl) (fun _ _ _ h => h) (Or.inl ⟨by rfl, ?_⟩) (by assumption) ?_; rotate_left; focus ((intro w hSw; (try dsimp only at hSw); go_simp); try (with_reducible rfl)); (try simp only [Act.put, List.setIfInBounds_toArray, List.set_cons_zero, List.set_cons_succ]))
    (refine rtake_5 (v := ?_) (by kernel_rfl) (by kernel_rfl) (by kernel_rfl) (fun _ _ _ h => h) (Or.inl ⟨by rfl, ?_⟩) (by assumption) ?_; rotate_left; focus ((intro w hSw; (try dsimp only at hSw); go_simp); try (with_reducible rfl)); (try simp only [Act.put, List.setIfInBounds_toArray, List.set_cons_zero, List.set_cons_succ]))
    (refine rtake_6 (v := ?_) (by kernel_rfl) (by kernel_rfl) (by kernel_rfl) (fun _ _ _ h => h) (Or.inl ⟨by rfl, ?_⟩) (by assumption) ?_; rotate_left; focus ((intro w hSw; (try dsimp only at hSw); go_simp); try (with_reducible rfl)); (try simp only [Act.put, List.setIfInBounds_toArray, List.set_cons_zero, List.set_cons_succ]))
    (refine rtake_7 (v := ?_) (by kernel_rfl) (by kernel_rfl) (by kernel_rfl) (fun _ _ _ h => h) (Or.inl ⟨by rfl, ?_⟩) (by assumption) ?_; rotate_left; focus ((intro w hSw; (try dsimp only at hSw); go_simp); try (with_reducible rfl)); (try simp only [Act.put, List.setIfInBounds_toArray, List.set_cons_zero, List.set_cons_succ]))
    (refine rtake_8 (v := ?_) (by kernel_rfl) (by kernel_rfl) (by kernel_rfl) (fun _ _ _ h => h) (Or.inl ⟨by rfl, ?_⟩) (by assumption) ?_; rotate_left; focus ((intro w hSw; (try dsimp only at hSw); go_simp); try (with_reducible rfl)); (try simp only [Act.put, List.setIfInBounds_toArray, List.set_cons_zero, List.set_cons_succ]))
    (refine rtake_9 (v := ?_) (by kernel_rfl) (by kernel_rfl) (by kernel_rfl) (fun _ _ _ h => h) (Or.inl ⟨by rfl, ?_⟩) (by assumption) ?_; rotate_left; focus ((intro w hSw; (try dsimp only at hSw); go_simp); try (with_reducible rfl)); (try simp only [Act.put, List.setIfInBounds_toArray, List.set_cons_zero, List.set_cons_succ]))
    refine wpAnyH_done (by kernel_rfl) ?_ _
    simp only [Act.put, List.setIfInBounds_toArray, List.set_cons_zero, List.set_cons_succ]
    go_wp2_with fail
    go_ret
    exact ⟨rfl, ((Kept.refl _ _).alloc _).drew⟩

/-- Is one a giver of another one, by so many looks? -/
def givesF (f : Rf) (tg : Int) : Nat → Int → Bool
  | 0, _ => false
  | k + 1, t => if t = tg then true else givesF f tg k (if 0 ≤ t then nextA f t else t)
set_option maxHeartbeats 3200000 in
set_option maxRecDepth 100000 in
theorem gGives (h : GrAt w AL AK AO cL cK cO f) (hw : f.Whole) (i : Nat) (hi : i < f.level.length) (tg : Int) : Calls Tryz.prog 114 #[.agg #[.slice AL f.level.length cL, .slice AK f.level.length cK, .slice AO f.owner.length cO], .int .i64 i, .int .i64 tg] w fun e w' => e = .returned (.bool (givesF f tg (f.level.length + 1) i)) ∧ Kept [] w w' := by
  have HN := Lib.hid (fun W (hk : Kept [] w W) k hk1 => gNext (h.old hk) hw k hk1)
  obtain ⟨R, hR⟩ : ∃ R, givesF f tg (f.level.length + 1) i = R := ⟨_, rfl⟩
  rw [hR]
  have HR := Lib.hid hR
  have HRG : Hid (∀ t : Int, 0 ≤ t ∧ t < f.level.length → -1 ≤ nextA f t ∧ nextA f t < f.level.length) := fun t ht => nextA_rng hw ht
  have hn64 := hw.n64
  generalize hn : f.level.length = n at *
  generalize f.owner.length = m at *
  have HB : Hid (Blk (w.alloc (.cells #[.slice AL n cL, .slice AK n cK, .slice AO m cO] 102)) w.heap.size 102 #[.slice AL n cL, .slice AK n cK, .slice AO m cO]) := Blk.new w _ _
  have HNN := Lib.hid hn
  have HK0 := Lib.hid ((Kept.refl [] w).alloc (.cells #[.slice AL n cL, .slice AK n cK, .slice AO m cO] 102))
  clear hR h hw hn
  go_enter Tryz.func114, Tryz.ntmps114
  go_wp2_with fail
  generalize hwx : w.alloc (.cells #[.slice AL n cL, .slice AK n cK, .slice AO m cO] 102) = wx at *
  go_loopw [7, 8] (fun tv kv wr => ∃ (t : Int) (k : Nat), k ≤ n + 1 ∧ tv = .int .i64 t ∧ kv = .int .i64 k ∧ -1 ≤ t ∧ t < n ∧ Hid (givesF f tg (n + 1 - k) t = R) ∧ Hid (Kept [] wx wr)) (fun _ k _ => n + 1 - (intOf k).toNat)
  case atStart => exact ⟨i, 0, by omega, rfl, rfl, by omega, by omega, HR.out, Kept.refl _ _⟩
  case round =>
    clear HR hwx
    obtain ⟨t, k, hk1, rfl, rfl, ht1, ht2, HR, HK⟩ := hrel
    have HBR := Lib.hid (HB.out.kept HK.out (by simp))
    have hc0 : wr.cell? ⟨w.heap.size, 0, none⟩ = some (.slice AL n cL) := HBR.out.cell 0
    have hc1 : wr.cell? ⟨w.heap.size, 1, none⟩ = some (.slice AK n cK) := HBR.out.cell 1
    have hc2 : wr.cell? ⟨w.heap.size, 2, none⟩ = some (.slice AO m cO) := HBR.out.cell 2
    have hlb := HBR.out.lt
    by_cases hk : k ≤ n
    · have hr := HR.out
      rw [show n + 1 - k = (n - k) + 1 by omega, givesF] at hr
      have hki : (k : Int) ≤ (n : Int) := by omega
      by_cases htg : t = tg
      · rw [if_pos htg] at hr
        subst hr
        subst htg
        clear HR
        go_wp2_with fail
        go_ret
        exact ⟨rfl, HK0.out.trans HK.out⟩
      · rw [if_neg htg] at hr
        have hb : (t == tg) = false := beq_eq_false_iff_ne.2 htg
        by_cases h0 : 0 ≤ t
        · rw [if_pos h0] at hr
          obtain ⟨q, rfl⟩ : ∃ q : Nat, t = q := ⟨t.toNat, by omega⟩
          have HNX := Lib.hid (HN.out _ (HK0.out.trans HK.out) q (by omega))
          have hrg := HRG.out q ⟨by omega, by omega⟩
          generalize nextA f q = t2 at *
          have HR2 := Lib.hid hr
          clear HR hr htg
          go_wp2_with fail
          refine (HNX.out).mono ?_
          rintro e w1 ⟨rfl, hk1⟩
          have HK1 := Lib.hid (HK.out.trans hk1)
          clear hk1
          go_wp2_with fail
          go_roundw
          case rel => exact ⟨t2, k + 1, by omega, rfl, by go_num, by omega, by omega, (by show givesF f tg (n + 1 - (k + 1)) t2 = R; rw [show n + 1 - (k + 1) = n - k by omega]; exact HR2.out), HK1.out⟩
          case measure => simp [intOf]; omega
        · rw [if_neg h0] at hr
          have HR2 := Lib.hid hr
          have h1 : t < 0 := by omega
          clear HR hr htg h0
          go_wp2_with fail
          go_roundw
          case rel => exact ⟨t, k + 1, by omega, rfl, by go_num, by omega, by omega, (by show givesF f tg (n + 1 - (k + 1)) t = R; rw [show n + 1 - (k + 1) = n - k by omega]; exact HR2.out), HK.out⟩
          case measure => simp [intOf]; omega
    · have hr := HR.out
      rw [show n + 1 - k = 0 by omega, givesF] at hr
      subst hr
      have hki : (n : Int) < (k : Int) := by omega
      clear HR
      go_wp2_with fail
      go_ret
      exact ⟨rfl, HK0.out.trans HK.out⟩

/-- The givers of a thread, among the first ones. -/
def giversF (f : Rf) (t : Int) (k : Nat) : List Int := ((List.range k).filter fun i : Nat => givesF f t (f.level.length + 1) i).map fun i : Nat => (i : Int)
theorem giversF_len (f : Rf) (t : Int) (k : Nat) : (giversF f t k).length ≤ k := by
  have := List.length_filter_le (fun i : Nat => givesF f t (f.level.length + 1) i) (List.range k)
  simpa [giversF] using this
theorem giversF_step (f : Rf) (t : Int) (k : Nat) : giversF f t (k + 1) = if givesF f t (f.level.length + 1) k = true then giversF f t k ++ [(k : Int)] else giversF f t k := by
  unfold giversF
  rw [List.range_succ, List.filter_append, List.map_append]
  cases h : givesF f t (f.level.length + 1) k <;> simp [h]
set_option maxHeartbeats 3200000 in
set_option maxRecDepth 100000 in
theorem gGivers (h : GrAt w AL AK AO cL cK cO f) (hw : f.Whole) (t : Nat) : Calls Tryz.prog 95 #[.agg #[.slice AL f.level.length cL, .slice AK f.level.length cK, .slice AO f.owner.length cO], .int .i64 t] w fun e w' => ∃ A c, e = .returned (.slice A (giversF f t f.level.length).length c) ∧ FreshI w w' (giversF f t f.level.length) A (giversF f t f.level.length).length c := by
  have HN := Lib.hid (fun W (hk : Kept [] w W) k hk1 => gGives (h.old hk) hw k hk1 t)
  have hn64 := hw.n64
  have HST := Lib.hid (fun k => giversF_step f t k)
  have HLE := Lib.hid (fun k => giversF_len f t k)
  generalize hn : f.level.length = n at *
  generalize f.owner.length = m at *
  have HB : Hid (Blk (w.alloc (.cells #[.slice AL n cL, .slice AK n cK, .slice AO m cO] 102)) w.heap.size 102 #[.slice AL n cL, .slice AK n cK, .slice AO m cO]) := Blk.new w _ _
  have HK0 := Lib.hid ((Kept.refl [] w).alloc (.cells #[.slice AL n cL, .slice AK n cK, .slice AO m cO] 102))
  have ht0 : (0 : Int) ≤ (t : Int) := by omega
  have HG0 : Hid (giversF f t 0 = []) := by show giversF f t 0 = []; simp [giversF]
  clear h hw hn
  go_enter Tryz.func95, Tryz.ntmps95
  go_wp2_with fail
  generalize hwx : w.alloc (.cells #[.slice AL n cL, .slice AK n cK, .slice AO m cO] 102) = wx at *
  go_loopw [5, 6] (fun ov kv wr => ∃ (k : Nat) (A : Option Addr) (c : Nat) (L : List Int), k ≤ n ∧ ov = .slice A L.length c ∧ kv = .int .i64 k ∧ Hid (giversF f t k = L) ∧ Hid (FreshI wx wr L A L.length c)) (fun _ k _ => n - (intOf k).toNat)
  case atStart => exact ⟨0, none, 0, [], by omega, rfl, rfl, HG0.out, FreshI.nil wx⟩
  case round =>
    clear hwx
    obtain ⟨k, A, c, L, hk1, rfl, rfl, HL, HF⟩ := hrel
    have HBR := Lib.hid (HB.out.kept HF.out.2.1 (by simp))
    have hc0 : wr.cell? ⟨w.heap.size, 0, none⟩ = some (.slice AL n cL) := HBR.out.cell 0
    have hc1 : wr.cell? ⟨w.heap.size, 1, none⟩ = some (.slice AK n cK) := HBR.out.cell 1
    have hc2 : wr.cell? ⟨w.heap.size, 2, none⟩ = some (.slice AO m cO) := HBR.out.cell 2
    have hlb := HBR.out.lt
    by_cases hk : k < n
    · have HNX := Lib.hid (HN.out _ (HK0.out.trans HF.out.2.1) k hk)
      have hst := HST.out k
      have hLn := HLE.out k
      rw [HL.out] at hst hLn
      have hki : (k : Int) < (n : Int) := by omega
      generalize givesF f t (n + 1) k = R at *
      cases R with
      | true =>
        rw [if_pos rfl] at hst
        have HS := Lib.hid hst
        clear hst
        go_wp2_with fail
        refine (HNX.out).mono ?_
        rintro e w1 ⟨rfl, hk1⟩
        have HK1 := Lib.hid hk1
        clear hk1
        go_wp2_with (at_builtin; refine wpList_append_any _ rfl _ _ 27 rfl 3 (.int .i64 0) 1 8 Tryz.underlying27 Tryz.infoInt rfl (by decide) (.slice A L.length c) L.length (L.map I64) rfl (own_kept HF.out.1 (HK1.out.alloc _) (by simp)) _ 1 1 [.int .i64 (k : Int)] rfl (reads_one _ _ _) (by simp [Value.oneCell']) (by simp only [maxLen]; omega) (by omega) ?_; rintro A8 c8 w6 happ; have HA := Lib.hid happ; clear happ)
        go_roundw
        case rel => exact ⟨k + 1, A8, c8, L ++ [(k : Int)], by omega, by simp, by go_num, HS.out, HF.out.add (HK1.out.alloc _) HA.out⟩
        case measure => simp [intOf]; omega
      | false =>
        rw [if_neg (by simp)] at hst
        have HS := Lib.hid hst
        clear hst
        go_wp2_with fail
        refine (HNX.out).mono ?_
        rintro e w1 ⟨rfl, hk1⟩
        have HK1 := Lib.hid hk1
        clear hk1
        go_wp2_with fail
        go_roundw
        case rel => exact ⟨k + 1, A, c, L, by omega, rfl, by go_num, HS.out, HF.out.later HK1.out⟩
        case measure => simp [intOf]; omega
    · obtain rfl : k = n := by omega
      have hL := HL.out
      subst hL
      clear HL
      go_wp2_with fail
      go_ret
      exact ⟨A, c, rfl, HF.out.since HK0.out⟩
end

end Go.Proofs.YtfoeijiejpenpaaGreatDoor

/- Package bosunref25, All; package bosunref26: Eff SetLevel waits may come Lock Try; walked. -/
namespace Go.Proofs.YtfoeijiejpenpaaGreatDoor
open Go.RowKit

/-- The best level of some threads. -/
def bestF (f : Rf) (l : List Int) : Int := l.foldl (fun b i => min b (f.level.getD i.toNat 0)) 8
def allK (f : Rf) (k : Nat) : List Int := (List.range k).map fun t : Nat => bestF f (giversF f t f.level.length)
theorem allK_step (f : Rf) (k : Nat) : allK f (k + 1) = allK f k ++ [bestF f (giversF f k f.level.length)] := by unfold allK; rw [List.range_succ, List.map_append]; rfl
theorem allK_len (f : Rf) (k : Nat) : (allK f k).length = k := by simp [allK]
theorem bestF_one (f : Rf) (l : List Int) (x : Int) : bestF f (l ++ [x]) = min (bestF f l) (f.level.getD x.toNat 0) := by simp [bestF]
theorem giversF_mem {f : Rf} {t : Int} {k : Nat} {x : Int} (h : x ∈ giversF f t k) : ∃ i : Nat, x = i ∧ i < k := by
  obtain ⟨i, hi, rfl⟩ := List.mem_map.1 h
  exact ⟨i, rfl, List.mem_range.1 (List.mem_filter.1 hi).1⟩

section
variable {w : World} {AL AK AO : Option Addr} {cL cK cO : Nat} {f : Rf}
set_option maxHeartbeats 6400000 in
set_option maxRecDepth 100000 in
theorem gAll (h : GrAt w AL AK AO cL cK cO f) (hw : f.Whole) : Calls Tryz.prog 70 #[.agg #[.slice AL f.level.length cL, .slice AK f.level.length cK, .slice AO f.owner.length cO]] w fun e w' => ∃ A c, e = .returned (.slice A (allK f f.level.length).length c) ∧ FreshI w w' (allK f f.level.length) A (allK f f.level.length).length c := by
  have hmix : Tryz.prog.follows .mixedOrders = true := by kernel_rfl
  have HN := Lib.hid (fun W (hk : Kept [] w W) t => gGivers (h.old hk) hw t)
  have HLV := Lib.hid (fun W (hk : Kept [] w W) k hk1 => (h.old hk).level k hk1)
  have hn64 := hw.n64
  have HST := Lib.hid (fun k => allK_step f k)
  have HLE := Lib.hid (fun t => giversF_len f t f.level.length)
  have HME : Hid (∀ (t : Int) (j : Nat) (x : Int), (giversF f t f.level.length)[j]? = some x → ∃ i : Nat, x = i ∧ i < f.level.length) := fun t j x hx => giversF_mem (List.mem_of_getElem? hx)
  generalize hn : f.level.length = n at *
  generalize f.owner.length = m at *
  have HB : Hid (Blk (w.alloc (.cells #[.slice AL n cL, .slice AK n cK, .slice AO m cO] 102)) w.heap.size 102 #[.slice AL n cL, .slice AK n cK, .slice AO m cO]) := Blk.new w _ _
  have HK0 := Lib.hid ((Kept.refl [] w).alloc (.cells #[.slice AL n cL, .slice AK n cK, .slice AO m cO] 102))
  have HG0 : Hid (allK f 0 = []) := by show allK f 0 = []; simp [allK]
  clear h hw hn
  go_enter Tryz.func70, Tryz.ntmps70
  go_wp2_with fail
  generalize hwx : w.alloc (.cells #[.slice AL n cL, .slice AK n cK, .slice AO m cO] 102) = wx at *
  go_loopw [3, 4] (fun ov kv wr => ∃ (k : Nat) (A : Option Addr) (c : Nat) (L : List Int), k ≤ n ∧ ov = .slice A L.length c ∧ kv = .int .i64 k ∧ Hid (allK f k = L) ∧ Hid (FreshI wx wr L A L.length c)) (fun _ k _ => n - (intOf k).toNat)
  case atStart => exact ⟨0, none, 0, [], by omega, rfl, rfl, HG0.out, FreshI.nil wx⟩
  case round =>
    clear hwx
    obtain ⟨k, A, c, L, hk1, rfl, rfl, HL, HF⟩ := hrel
    have HBR := Lib.hid (HB.out.kept HF.out.2.1 (by simp))
    have hc0 : wr.cell? ⟨w.heap.size, 0, none⟩ = some (.slice AL n cL) := HBR.out.cell 0
    have hc1 : wr.cell? ⟨w.heap.size, 1, none⟩ = some (.slice AK n cK) := HBR.out.cell 1
    have hc2 : wr.cell? ⟨w.heap.size, 2, none⟩ = some (.slice AO m cO) := HBR.out.cell 2
    have hlb := HBR.out.lt
    by_cases hk : k < n
    · have HNX := Lib.hid (HN.out _ (HK0.out.trans HF.out.2.1) k)
      have hst := HST.out k
      rw [HL.out] at hst
      have HS := Lib.hid hst
      have hLk : L.length ≤ 64 := by have := congrArg List.length HL.out; rw [allK_len] at this; omega
      have hgl := HLE.out k
      have HMK := Lib.hid (HME.out (k : Int))
      have hki : (k : Int) < (n : Int) := by omega
      generalize hGG : giversF f k n = G at *
      clear hst hGG
      go_wp2_with fail
      refine (HNX.out).mono ?_
      rintro e w1 ⟨A1, c1, rfl, hf1⟩
      have HF1 := Lib.hid hf1
      have HBR1 := Lib.hid (HBR.out.kept hf1.2.1 (by simp))
      clear hf1
      go_wp2_with fail
      go_loopw [6, 7] (fun bv iv wr2 => ∃ (j : Nat) (bb : Int), j ≤ G.length ∧ bv = .int .i64 bb ∧ iv = .int .i64 j ∧ Hid (bestF f (G.take j) = bb) ∧ Hid (Kept [] w1 wr2)) (fun _ j _ => G.length - (intOf j).toNat)
      case atStart => exact ⟨0, 8, by omega, rfl, rfl, (by show bestF f (G.take 0) = 8; rfl), Kept.refl _ _⟩
      case round =>
        obtain ⟨j, bb, hj1, rfl, rfl, HBB, HKJ⟩ := hrel
        by_cases hj : j < G.length
        · have hjx : G[j]? = some G[j] := List.getElem?_eq_getElem hj
          obtain ⟨q, hq1, hq2⟩ := HMK.out j _ hjx
          rw [hq1] at hjx
          obtain ⟨ag, ao, ha, hal, hcl⟩ := (HF1.out.reads.old HKJ.out).addr (by omega) (by omega)
          subst ha
          have hcj := hcl j (.int .i64 (q : Int)) (by rw [List.getElem?_map, hjx]; rfl)
          obtain ⟨gl, hgl1, hgl2, hgl3⟩ := HLV.out _ ((HK0.out.trans HF.out.2.1).trans (HF1.out.2.1.trans HKJ.out)) q hq2
          subst hgl1
          have HBR2 := Lib.hid (HBR1.out.kept HKJ.out (by simp))
          have hcb : wr.cell? ⟨w.heap.size, 0, none⟩ = some (.slice (some ⟨gl, 0, none⟩) n cL) := HBR2.out.cell 0
          have HB2 : Hid (bestF f (G.take (j + 1)) = min bb (f.level.getD q 0)) := by
            show bestF f _ = _
            rw [List.take_add_one, hjx, Option.toList_some, bestF_one, HBB.out]
            rfl
          generalize f.level.getD q 0 = lv at *
          have hq3 : (0 : Int) ≤ (q : Int) := by omega
          have hq4 : (q : Int) < (n : Int) := by omega
          have hj3 : (0 : Int) ≤ (j : Int) := by omega
          have hj4 : (j : Int) < (G.length : Int) := by omega
          have hS := And.intro hcb (And.intro hcj hgl2)
          have HSS := Lib.hid hS
          clear hjx hq1 hcl hS
          go_wp2_with fail
          refine wp_region_held_drew (S := fun w' => w'.cell? ⟨w.heap.size, 0, none⟩ = some (.slice (some ⟨gl, 0, none⟩) n cL) ∧ w'.cell? ⟨ag, ao + j, none⟩ = some (.int .i64 q) ∧ w'.cell? ⟨gl, q, none⟩ = some (.int .i64 lv)) hmix HSS.out (fun hHeld => ?_)
          (refine rtake_0 (v := ?_) (by kernel_rfl) (by kernel_rfl) (by kernel_rfl) (fun _ _ _ h => h) (Or.inl ⟨by rfl, ?_⟩) (by assumption) ?_; rotate_left; focus ((intro w hSw; (try dsimp only at hSw); go_simp); try (with_reducible rfl)); (try simp only [Act.put, List.setIfInBounds_toArray, List.set_cons_zero, List.set_cons_succ]))
          (refine rtake_1 (v := ?_) (by kernel_rfl) (by kernel_rfl) (by kernel_rfl) (fun _ _ _ h => h) (Or.inl ⟨by rfl, ?_⟩) (by assumption) ?_; rotate_left; focus ((intro w hSw; (try dsimp only at hSw); go_simp); try (with_reducible rfl)); (try simp only [Act.put, List.setIfInBounds_toArray, List.set_cons_zero, List.set_cons_succ]))
          (refine rtake_2 (v := ?_) (by kernel_rfl) (by kernel_rfl) (by kernel_rfl) (fun _ _ _ h => h) (Or.inl ⟨by rfl, ?_⟩) (by assumption) ?_; rotate_left; focus ((intro w hSw; (try dsimp only at hSw); go_simp); try (with_reducible rfl)); (try simp only [Act.put, List.setIfInBounds_toArray, List.set_cons_zero, List.set_cons_succ]))
          (refine rtake_3 (v := ?_) (by kernel_rfl) (by kernel_rfl) (by kernel_rfl) (fun _ _ _ h => h) (Or.inl ⟨by rfl, ?_⟩) (by assumption) ?_; rotate_left; focus ((intro w hSw; (try dsimp only at hSw); go_simp); try (with_reducible rfl)); (try simp only [Act.put, List.setIfInBounds_toArray, List.set_cons_zero, List.set_cons_succ]))
          (refine rtake_4 (v := ?_) (by kernel_rfl) (by kernel_rfl) (by kernel_rfl) (fun _ _ _ h => h) (Or.inl ⟨by rfl, ?_⟩) (by assumption) ?_; rotate_left; focus ((intro w hSw; (try dsimp only at hSw); go_simp); try (with_reducible rfl)); (try simp only [Act.put, List.setIfInBounds_toArray, List.set_cons_zero, List.set_cons_succ]))
          (refine rtake_5 (v := ?_) (by kernel_rfl) (by kernel_rfl) (by kernel_rfl) (fun _ _ _ h => h) (Or.inl ⟨by rfl, ?_⟩) (by assumption) ?_; rotate_left; focus ((intro w hSw; (try dsimp only at hSw); go_simp); try (with_reducible rfl)); (try simp only [Act.put, List.setIfInBounds_toArray, List.set_cons_zero, List.set_cons_succ]))
          (refine rtake_6 (v := ?_) (by kernel_rfl) (by kernel_rfl) (by kernel_rfl) (fun _ _ _ h => h) (Or.inl ⟨by rfl, ?_⟩) (by assumption) ?_; rotate_left; focus ((intro w hSw; (try dsimp only at hSw); go_simp); try (with_reducible rfl)); (try simp only [Act.put, List.setIfInBounds_toArray, List.set_cons_zero, List.set_cons_succ]))
          (refine rtake_7 (v := ?_) (by kernel_rfl) (by kernel_rfl) (by kernel_rfl) (fun _ _ _ h => h) (Or.inl ⟨by rfl, ?_⟩) (by assumption) ?_; rotate_left; focus ((intro w hSw; (try dsimp only at hSw); go_simp); try (with_reducible rfl)); (try simp only [Act.put, List.setIfInBounds_toArray, List.set_cons_zero, List.set_cons_succ]))
          (refine rtake_8 (v := ?_) (by kernel_rfl) (by kernel_rfl) (by kernel_rfl) (fun _ _ _ h => h) (Or.inl ⟨by rfl, ?_⟩) (by assumption) ?_; rotate_left; focus ((intro w hSw; (try dsimp only at hSw); go_simp); try (with_reducible rfl)); (try simp only [Act.put, List.setIfInBounds_toArray, List.set_cons_zero, List.set_cons_succ]))
          (refine wpAnyH_ready (rs := [9]) (by kernel_rfl) (by simp) ?_; refine rcons_9 (fun K hK => ?_) (AllReadyH.nil))
          go_simp
          refine hK.out _ _ HSS.out (fun hHeld => ?_)
          clear hK K
          (try simp only [Act.put, List.setIfInBounds_toArray, List.set_cons_zero, List.set_cons_succ])
          (refine rtake_10 (v := ?_) (by kernel_rfl) (by kernel_rfl) (by kernel_rfl) (fun _ _ _ h => h) (Or.inl ⟨by rfl, ?_⟩) (by assumption) ?_; rotate_left; focus ((intro w hSw; (try dsimp only at hSw); go_simp); try (with_reducible rfl)); (try simp only [Act.put, List.setIfInBounds_toArray, List.set_cons_zero, List.set_cons_succ]))
          refine wpAnyH_done (by kernel_rfl) ?_ _
          simp only [Act.put, List.setIfInBounds_toArray, List.set_cons_zero, List.set_cons_succ]
          go_wp2_with fail
          clear hHeld
          go_roundw
          case rel => exact ⟨j + 1, min bb lv, by omega, by first | rfl | go_num, by go_num, HB2.out, HKJ.out.drew⟩
          case measure => simp [intOf]; omega
        · have hbb := HBB.out
          rw [List.take_of_length_le (by omega)] at hbb
          obtain rfl : j = G.length := by omega
          have HS2 : Hid (allK f (k + 1) = L ++ [bb]) := by show _ = _; rw [HS.out, hbb]
          have HFK := Lib.hid (HF.out.later (HF1.out.2.1.trans HKJ.out))
          clear hbb
          go_wp2_with (at_builtin; refine wpList_append_any _ rfl _ _ 27 rfl 3 (.int .i64 0) 1 8 Tryz.underlying27 Tryz.infoInt rfl (by decide) (.slice A L.length c) L.length (L.map I64) rfl (own_kept HFK.out.1 ((Kept.refl [] _).alloc _) (by simp)) _ 1 1 [.int .i64 bb] rfl (reads_one _ _ _) (by simp [Value.oneCell']) (by simp only [maxLen]; omega) (by omega) ?_; rintro A8 c8 w6 happ; have HA := Lib.hid happ; clear happ)
          go_roundw
          case rel => exact ⟨k + 1, A8, c8, L ++ [bb], by omega, by simp, by go_num, HS2.out, HFK.out.add ((Kept.refl [] _).alloc _) HA.out⟩
          case measure => simp [intOf]; omega
    · obtain rfl : k = n := by omega
      have hL := HL.out
      subst hL
      clear HL
      go_wp2_with fail
      go_ret
      exact ⟨A, c, rfl, HF.out.since HK0.out⟩
end

/-- A thread's effective level. -/
def effR (f : Rf) (t : Int) : Int := if 0 ≤ t ∧ t < f.level.length then bestF f (giversF f t f.level.length) else 8
set_option maxHeartbeats 6400000 in
set_option maxRecDepth 100000 in
theorem refEff {w : World} {b : RfA} {f : Rf} (h : RfAt w b f) (hw : f.Whole) (t : Int) : Calls Tryz.prog 34 #[.pointer (some ⟨b.r, 0, none⟩), .int .i64 t] w fun e w' => e = .returned (.int .i64 (effR f t)) ∧ Kept [] w w' := by
  have hmix : Tryz.prog.follows .mixedOrders = true := by kernel_rfl
  have HT := Lib.hid (refThread h t)
  have HAL := Lib.hid (fun W (hk : Kept [] w W) => gAll ((h.graph hw).old hk) hw)
  have hr0 : w.cell? ⟨b.r, 0, none⟩ = some (.slice b.AL f.level.length b.cL) := h.blk.cell 0
  have hr1 : w.cell? ⟨b.r, 1, none⟩ = some (.pointer (some ⟨b.rw, 0, none⟩)) := h.blk.cell 1
  have hrl := h.blk.lt
  have hb0 : w.cell? ⟨b.rw, 0, none⟩ = some (.slice b.AO f.owner.length b.cO) := h.web.cell 0
  have hb1 : w.cell? ⟨b.rw, 1, none⟩ = some (.slice b.AK f.level.length b.cK) := h.web.cell 1
  have hbl := h.web.lt
  have HS := Lib.hid (And.intro hr0 (And.intro hr1 (And.intro hb0 hb1)))
  have HKS : Hid (∀ w', Kept [] w w' → w'.cell? ⟨b.r, 0, none⟩ = some (.slice b.AL f.level.length b.cL) ∧ w'.cell? ⟨b.r, 1, none⟩ = some (.pointer (some ⟨b.rw, 0, none⟩)) ∧ w'.cell? ⟨b.rw, 0, none⟩ = some (.slice b.AO f.owner.length b.cO) ∧ w'.cell? ⟨b.rw, 1, none⟩ = some (.slice b.AK f.level.length b.cK)) := fun w' hk => ⟨hk.cell_some hr0 (by simp), hk.cell_some hr1 (by simp), hk.cell_some hb0 (by simp), hk.cell_some hb1 (by simp)⟩
  unfold effR
  have HLN := Lib.hid (allK_len f f.level.length)
  by_cases ct : 0 ≤ t ∧ t < f.level.length
  · rw [if_pos ct]
    have hd : decide (0 ≤ t ∧ t < (f.level.length : Int)) = true := by simp; omega
    rw [hd] at HT
    obtain ⟨k, rfl⟩ : ∃ k : Nat, t = k := ⟨t.toNat, by omega⟩
    have HV : Hid ((allK f f.level.length)[k]? = some (bestF f (giversF f k f.level.length))) := by
      show _ = _
      unfold allK
      rw [List.getElem?_map, List.getElem?_range (by omega)]
      rfl
    generalize bestF f (giversF f k f.level.length) = V at *
    generalize allK f f.level.length = LL at *
    have hi0 : (0 : Int) ≤ (k : Int) := by omega
    have hi1 : (k : Int) < (LL.length : Int) := by rw [HLN.out]; omega
    generalize f.level.length = n at *
    generalize f.owner.length = m at *
    clear hd ct h hw
    go_enter Tryz.func34, Tryz.ntmps34
    go_wp2_with fail
    refine (HT.out).mono ?_
    rintro e w1 ⟨rfl, rfl⟩
    go_wp2_with fail
    refine wp_region_held_drew (S := fun w' => w'.cell? ⟨b.r, 0, none⟩ = some (.slice b.AL n b.cL) ∧ w'.cell? ⟨b.r, 1, none⟩ = some (.pointer (some ⟨b.rw, 0, none⟩)) ∧ w'.cell? ⟨b.rw, 0, none⟩ = some (.slice b.AO m b.cO) ∧ w'.cell? ⟨b.rw, 1, none⟩ = some (.slice b.AK n b.cK)) hmix HS.out (fun hHeld => ?_)
    (refine rtake_0 (v := ?_) (by kernel_rfl) (by kernel_rfl) (by kernel_rfl) (fun _ _ _ h => h) (Or.inl ⟨by rfl, ?_⟩) (by assumption) ?_; rotate_left; focus ((intro w hSw; (try dsimp only at hSw); go_simp); try (with_reducible rfl)); (try simp only [Act.put, List.setIfInBounds_toArray, List.set_cons_zero, List.set_cons_succ]))
    (refine rtake_1 (v := ?_) (by kernel_rfl) (by kernel_rfl) (by kernel_rfl) (fun _ _ _ h => h) (Or.inl ⟨by rfl, ?_⟩) (by assumption) ?_; rotate_left; focus ((intro w hSw; (try dsimp only at hSw); go_simp); try (with_reducible rfl)); (try simp only [Act.put, List.setIfInBounds_toArray, List.set_cons_zero, List.set_cons_succ]))
    (refine rtake_2 (v := ?_) (by kernel_rfl) (by kernel_rfl) (by kernel_rfl) (fun _ _ _ h => h) (Or.inl ⟨by rfl, ?_⟩) (by assumption) ?_; rotate_left; focus ((intro w hSw; (try dsimp only at hSw); go_simp); try (with_reducible rfl)); (try simp only [Act.put, List.setIfInBounds_toArray, List.set_cons_zero, List.set_cons_succ]))
    (refine rtake_3 (v := ?_) (by kernel_rfl) (by kernel_rfl) (by kernel_rfl) (fun _ _ _ h => h) (Or.inl ⟨by rfl, ?_⟩) (by assumption) ?_; rotate_left; focus ((intro w hSw; (try dsimp only at hSw); go_simp); try (with_reducible rfl)); (try simp only [Act.put, List.setIfInBounds_toArray, List.set_cons_zero, List.set_cons_succ]))
    (refine rtake_4 (v := ?_) (by kernel_rfl) (by kernel_rfl) (by kernel_rfl) (fun _ _ _ h => h) (Or.inl ⟨by rfl, ?_⟩) (by assumption) ?_; rotate_left; focus ((intro w hSw; (try dsimp only at hSw); go_simp); try (with_reducible rfl)); (try simp only [Act.put, List.setIfInBounds_toArray, List.set_cons_zero, List.set_cons_succ]))
    (refine rtake_5 (v := ?_) (by kernel_rfl) (by kernel_rfl) (by kernel_rfl) (fun _ _ _ h => h) (Or.inl ⟨by rfl, ?_⟩) (by assumption) ?_; rotate_left; focus ((intro w hSw; (try dsimp only at hSw); go_simp); try (with_reducible rfl)); (try simp only [Act.put, List.setIfInBounds_toArray, List.set_cons_zero, List.set_cons_succ]))
    (refine rtake_6 (v := ?_) (by kernel_rfl) (by kernel_rfl) (by kernel_rfl) (fun _ _ _ h => h) (Or.inl ⟨by rfl, ?_⟩) (by assumption) ?_; rotate_left; focus ((intro w hSw; (try dsimp only at hSw); go_simp); try (with_reducible rfl)); (try simp only [Act.put, List.setIfInBounds_toArray, List.set_cons_zero, List.set_cons_succ]))
    (refine rtake_7 (v := ?_) (by kernel_rfl) (by kernel_rfl) (by kernel_rfl) (fun _ _ _ h => h) (Or.inl ⟨by rfl, ?_⟩) (by assumption) ?_; rotate_left; focus ((intro w hSw; (try dsimp only at hSw); go_simp); try (with_reducible rfl)); (try simp only [Act.put, List.setIfInBounds_toArray, List.set_cons_zero, List.set_cons_succ]))
    (refine rtake_8 (v := ?_) (by kernel_rfl) (by kernel_rfl) (by kernel_rfl) (fun _ _ _ h => h) (Or.inl ⟨by rfl, ?_⟩) (by assumption) ?_; rotate_left; focus ((intro w hSw; (try dsimp only at hSw); go_simp); try (with_reducible rfl)); (try simp only [Act.put, List.setIfInBounds_toArray, List.set_cons_zero, List.set_cons_succ]))
    (refine rtake_9 (v := ?_) (by kernel_rfl) (by kernel_rfl) (by kernel_rfl) (fun _ _ _ h => h) (Or.inl ⟨by rfl, ?_⟩) (by assumption) ?_; rotate_left; focus ((intro w hSw; (try dsimp only at hSw); go_simp); try (with_reducible rfl)); (try simp only [Act.put, List.setIfInBounds_toArray, List.set_cons_zero, List.set_cons_succ]))
    (refine rtake_10 (v := ?_) (by kernel_rfl) (by kernel_rfl) (by kernel_rfl) (fun _ _ _ h => h) (Or.inl ⟨by rfl, ?_⟩) (by assumption) ?_; rotate_left; focus ((intro w hSw; (try dsimp only at hSw); go_simp); try (with_reducible rfl)); (try simp only [Act.put, List.setIfInBounds_toArray, List.set_cons_zero, List.set_cons_succ]))
    (refine rtake_11 (v := ?_) (by kernel_rfl) (by kernel_rfl) (by kernel_rfl) (fun _ _ _ h => h) (Or.inl ⟨by rfl, ?_⟩) (by assumption) ?_; rotate_left; focus ((intro w hSw; (try dsimp only at hSw); go_simp); try (with_reducible rfl)); (try simp only [Act.put, List.setIfInBounds_toArray, List.set_cons_zero, List.set_cons_succ]))
    (refine rtake_12 (v := ?_) (by kernel_rfl) (by kernel_rfl) (by kernel_rfl) (fun _ _ _ h => h) (Or.inl ⟨by rfl, ?_⟩) (by assumption) ?_; rotate_left; focus ((intro w hSw; (try dsimp only at hSw); go_simp); try (with_reducible rfl)); (try simp only [Act.put, List.setIfInBounds_toArray, List.set_cons_zero, List.set_cons_succ]))
    (refine rtake_13 (v := ?_) (by kernel_rfl) (by kernel_rfl) (by kernel_rfl) (fun _ _ _ h => h) (Or.inl ⟨by rfl, ?_⟩) (by assumption) ?_; rotate_left; focus ((intro w hSw; (try dsimp only at hSw); go_simp); try (with_reducible rfl)); (try simp only [Act.put, List.setIfInBounds_toArray, List.set_cons_zero, List.set_cons_succ]))
    (refine rtake_14 (v := ?_) (by kernel_rfl) (by kernel_rfl) (by kernel_rfl) (fun _ _ _ h => h) (Or.inl ⟨by rfl, ?_⟩) (by assumption) ?_; rotate_left; focus ((intro w hSw; (try dsimp only at hSw); go_simp); try (with_reducible rfl)); (try simp only [Act.put, List.setIfInBounds_toArray, List.set_cons_zero, List.set_cons_succ]))
    (refine rtake_15 (v := ?_) (by kernel_rfl) (by kernel_rfl) (by kernel_rfl) (fun _ _ _ h => h) (Or.inl ⟨by rfl, ?_⟩) (by assumption) ?_; rotate_left; focus ((intro w hSw; (try dsimp only at hSw); go_simp); try (with_reducible rfl)); (try simp only [Act.put, List.setIfInBounds_toArray, List.set_cons_zero, List.set_cons_succ]))
    (refine rtake_16 (v := ?_) (by kernel_rfl) (by kernel_rfl) (by kernel_rfl) (fun _ _ _ h => h) (Or.inl ⟨by rfl, ?_⟩) (by assumption) ?_; rotate_left; focus ((intro w hSw; (try dsimp only at hSw); go_simp); try (with_reducible rfl)); (try simp only [Act.put, List.setIfInBounds_toArray, List.set_cons_zero, List.set_cons_succ]))
    (refine rtake_17 (v := ?_) (by kernel_rfl) (by kernel_rfl) (by kernel_rfl) (fun _ _ _ h => h) (Or.inl ⟨by rfl, ?_⟩) (by assumption) ?_; rotate_left; focus ((intro w hSw; (try dsimp only at hSw); go_simp); try (with_reducible rfl)); (try simp only [Act.put, List.setIfInBounds_toArray, List.set_cons_zero, List.set_cons_succ]))
    (refine rtake_18 (v := ?_) (by kernel_rfl) (by kernel_rfl) (by kernel_rfl) (fun _ _ _ h => h) (Or.inl ⟨by rfl, ?_⟩) (by assumption) ?_; rotate_left; focus ((intro w hSw; (try dsimp only at hSw); go_simp); try (with_reducible rfl)); (try simp only [Act.put, List.setIfInBounds_toArray, List.set_cons_zero, List.set_cons_succ]))
    (refine rtake_20 (v := ?_) (by kernel_rfl) (by kernel_rfl) (by kernel_rfl) (fun _ _ _ h => h) (Or.inl ⟨by rfl, ?_⟩) (by assumption) ?_; rotate_left; focus ((intro w hSw; (try dsimp only at hSw); go_simp); try (with_reducible rfl)); (try simp only [Act.put, List.setIfInBounds_toArray, List.set_cons_zero, List.set_cons_succ]))
    (refine wpAnyH_ready (rs := [19]) (by kernel_rfl) (by simp) ?_; refine rcons_19 (fun K hK => ?_) (AllReadyH.nil))
    go_simp
    (with_reducible refine (HAL.out _ (by (repeat (first | (with_reducible exact Kept.refl _ _) | (with_reducible assumption) | (with_reducible refine Kept.alloc ?_ _) | (with_reducible refine Kept.drew ?_) | (with_reducible refine Kept.drewN ?_ _) | (with_reducible refine Kept.setCell ?_ ?_ _) | (exact .inr (Nat.le_refl _)) | (exact .inr (by simp only; omega)) | (exact .inr (by omega)))))).mono ?_)
    rintro r w3 ⟨A3, c3, rfl, hf3⟩
    have hk3 : Kept [] w w3 := ((Kept.refl [] w).drew).trans hf3.2.1
    have HS3 := Lib.hid (HKS.out _ hk3)
    obtain ⟨ag, ao, ha, hal, hcl⟩ := hf3.reads.addr (by omega) (by omega)
    subst ha
    have hcj := hcl k (.int .i64 V) (by rw [List.getElem?_map, HV.out]; rfl)
    have HK3 := Lib.hid hk3
    clear hf3 hk3 hcl
    try go_simp
    refine hK.out _ _ HS3.out (fun hHeld => ?_)
    clear hK K
    (try simp only [Act.put, List.setIfInBounds_toArray, List.set_cons_zero, List.set_cons_succ])
    (refine rtake_21 (v := ?_) (by kernel_rfl) (by kernel_rfl) (by kernel_rfl) (fun _ _ _ h => h) (Or.inl ⟨by rfl, ?_⟩) (by assumption) ?_; rotate_left; focus ((intro w hSw; (try dsimp only at hSw); go_simp); try (with_reducible rfl)); (try simp only [Act.put, List.setIfInBounds_toArray, List.set_cons_zero, List.set_cons_succ]))
    (refine wpAnyH_ready (rs := [22]) (by kernel_rfl) (by simp) ?_; refine rcons_22 (fun K hK => ?_) (AllReadyH.nil))
    go_simp
    refine hK.out _ _ HS3.out (fun hHeld => ?_)
    clear hK K
    (try simp only [Act.put, List.setIfInBounds_toArray, List.set_cons_zero, List.set_cons_succ])
    (refine rtake_23 (v := ?_) (by kernel_rfl) (by kernel_rfl) (by kernel_rfl) (fun _ _ _ h => h) (Or.inl ⟨by rfl, ?_⟩) (by assumption) ?_; rotate_left; focus ((intro w hSw; (try dsimp only at hSw); go_simp); try (with_reducible rfl)); (try simp only [Act.put, List.setIfInBounds_toArray, List.set_cons_zero, List.set_cons_succ]))
    refine wpAnyH_done (by kernel_rfl) ?_ _
    simp only [Act.put, List.setIfInBounds_toArray, List.set_cons_zero, List.set_cons_succ]
    go_wp2_with fail
    go_ret
    exact ⟨rfl, HK3.out⟩
  · rw [if_neg ct]
    have hd : decide (0 ≤ t ∧ t < (f.level.length : Int)) = false := by simp; omega
    rw [hd] at HT
    clear hd ct h hw
    go_enter Tryz.func34, Tryz.ntmps34
    go_wp2_with fail
    refine (HT.out).mono ?_
    rintro e w1 ⟨rfl, rfl⟩
    go_wp2_with fail
    go_ret
    exact ⟨rfl, Kept.refl _ _⟩

end Go.Proofs.YtfoeijiejpenpaaGreatDoor

