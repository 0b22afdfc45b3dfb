/- Package replay in memory: an account; Package replay: who runs on a processor (on), walked; printed by a program. -/
import Derived.Test.YtccodklfplfleaaP19
import Derived.Test.YtccodklfplfleaaP04
import Derived.Test.YtccodklfplfleaaP02
import Derived.Deep.MidRow
import Derived.Deep.WholeRow

/- Package replay in memory: an account. -/
namespace Go.Proofs.Ytccodklfplfleaa
open Go.RowKit

/-- A thread's cells. -/
def thL (x : Th) : List Value := [.int .i64 x.prog, .int .i64 x.pc, .int .i64 x.state, .int .i64 x.cpu, .int .u64 x.mask, .bool x.loose, .int .i64 (x.regs.getD 0 (0, 0)).1, .int .u32 (x.regs.getD 0 (0, 0)).2, .int .i64 (x.regs.getD 1 (0, 0)).1, .int .u32 (x.regs.getD 1 (0, 0)).2, .int .i64 (x.regs.getD 2 (0, 0)).1, .int .u32 (x.regs.getD 2 (0, 0)).2, .int .i64 (x.regs.getD 3 (0, 0)).1, .int .u32 (x.regs.getD 3 (0, 0)).2, .int .i64 (x.regs.getD 4 (0, 0)).1, .int .u32 (x.regs.getD 4 (0, 0)).2, .int .i64 (x.regs.getD 5 (0, 0)).1, .int .u32 (x.regs.getD 5 (0, 0)).2, .int .i64 (x.regs.getD 6 (0, 0)).1, .int .u32 (x.regs.getD 6 (0, 0)).2, .int .i64 (x.regs.getD 7 (0, 0)).1, .int .u32 (x.regs.getD 7 (0, 0)).2, .int .i64 x.call, .int .i64 x.deed.op, .int .i64 x.deed.a, .int .i64 x.deed.b, .int .i64 x.deed.r, .int .u64 x.deed.n, .int .u64 x.deed.mask, .bool x.deed.loose, .int .i64 x.code]
theorem thL_len (x : Th) : (thL x).length = 31 := rfl
theorem thL_one (x : Th) : ∀ u ∈ thL x, u.oneCell' = true := by
  intro u hu
  simp only [thL, List.mem_cons, List.not_mem_nil, or_false] at hu
  rcases hu with rfl | rfl | rfl | rfl | rfl | rfl | rfl | rfl | rfl | rfl | rfl | rfl | rfl | rfl | rfl | rfl | rfl | rfl | rfl | rfl | rfl | rfl | rfl | rfl | rfl | rfl | rfl | rfl | rfl | rfl | rfl <;> rfl
theorem flatK_set {α : Type} (enc : α → List Value) (m : Nat) (hm : ∀ x, (enc x).length = m) : ∀ (l : List α) (i j : Nat) (h : i < l.length) (x' : α) (u : Value), j < m → enc x' = (enc l[i]).set j u → (l.flatMap enc).set (i * m + j) u = (l.set i x').flatMap enc
  | [], i, j, h, _, _, _, _ => by simp at h
  | a :: t, 0, j, h, x', u, hj, hx => by
    simp only [List.flatMap_cons, List.set_cons_zero, Nat.zero_mul, Nat.zero_add]
    rw [hx, List.set_append_left _ _ (by rw [hm]; exact hj)]
    rfl
  | a :: t, i + 1, j, h, x', u, hj, hx => by
    have hi : i < t.length := by simpa using h
    have ih := flatK_set enc m hm t i j hi x' u hj (by simpa using hx)
    simp only [List.flatMap_cons, List.set_cons_succ]
    rw [← ih, List.set_append_right _ _ (by rw [hm, Nat.add_mul]; omega), hm, show (i + 1) * m + j - m = i * m + j by rw [Nat.add_mul]; omega]
/-- The addresses of an account. -/
structure AcA where
  g : Nat
  gr : Nat
  AP : Option Addr
  cP : Nat
  AT : Option Addr
  cT : Nat
  AH : Option Addr
  cH : Nat
  A : Option Addr
  n : Nat
  c : Nat
  B : Option Addr
  m : Nat
  e : Nat
/-- Whom an account calls for which event. -/
def kindsA (g : Nat) : Array Value := #[.nilFunc, .func (.func 56) #[.pointer (some ⟨g, 0, none⟩)] #[], .func (.func 57) #[.pointer (some ⟨g, 0, none⟩)] #[], .func (.func 58) #[.pointer (some ⟨g, 0, none⟩)] #[], .func (.func 59) #[.pointer (some ⟨g, 0, none⟩)] #[], .func (.func 60) #[.pointer (some ⟨g, 0, none⟩)] #[], .func (.func 61) #[.pointer (some ⟨g, 0, none⟩)] #[], .func (.func 62) #[.pointer (some ⟨g, 0, none⟩)] #[], .func (.func 63) #[.pointer (some ⟨g, 0, none⟩)] #[], .func (.func 64) #[.pointer (some ⟨g, 0, none⟩)] #[], .func (.func 65) #[.pointer (some ⟨g, 0, none⟩)] #[]]
/-- An account's cells; its pieces. -/
def accC (b : AcA) (d : Du) (a : Acc) (K : Array Value) : Array Value := uC d b.A b.n b.c b.B b.m b.e ++ #[.pointer (some ⟨b.gr, 0, none⟩), .slice b.AT a.T.length b.cT, .slice b.AH a.held.length b.cH] ++ K
def accP (b : AcA) (d : Du) (a : Acc) (K : Array Value) : List Piece := [
  .blk b.g 68 (accC b d a K),
  .blk b.gr 99 #[.slice b.AP a.P.length b.cP],
  .row 101 2 (.slice b.AP a.P.length b.cP) a.P.length (a.P.flatMap plL),
  .row 71 31 (.slice b.AT a.T.length b.cT) a.T.length (a.T.flatMap thL),
  .row 3 1 (.slice b.AH a.held.length b.cH) a.held.length (a.held.map (Value.int .i64))]
abbrev AccAt (w : World) (b : AcA) (d : Du) (a : Acc) (K : Array Value) : Prop := Holds w (accP b d a K)
structure AccIs (w0 : Base) (w : World) (b : AcA) (d : Du) (a : Acc) (K : Array Value) : Prop where
  at_ : AccAt w b d a K
  new : NewerB w0 (accP b d a K)
  kept : Kept w0.F w0.w w
section
variable {w0 : Base} {w w' : World} {b : AcA} {d : Du} {a a' : Acc} {K K' : Array Value}
theorem AccIs.old (h : AccIs w0 w b d a K) (hk : Kept [] w w') : AccIs w0 w' b d a K := ⟨h.at_.old hk, h.new, h.kept.trans (hk.mono (by simp))⟩
theorem AccAt.blk (h : AccAt w b d a K) : Blk w b.g 68 (accC b d a K) := Holds.get h (i := 0) rfl
theorem AccAt.roll (h : AccAt w b d a K) : RlAt w b.gr b.AP b.cP a.P := ⟨Holds.get h (i := 1) rfl, Holds.get h (i := 2) rfl⟩
theorem AccAt.cells (h : AccAt w b d a K) : w.cell? ⟨b.g, 0, none⟩ = some (.int .i64 d.cpus) ∧ w.cell? ⟨b.g, 2, none⟩ = some (.int .i64 d.locks) ∧ w.cell? ⟨b.g, 7, none⟩ = some (.slice b.A b.n b.c) ∧ w.cell? ⟨b.g, 9, none⟩ = some (.pointer (some ⟨b.gr, 0, none⟩)) ∧ w.cell? ⟨b.g, 10, none⟩ = some (.slice b.AT a.T.length b.cT) ∧ w.cell? ⟨b.g, 11, none⟩ = some (.slice b.AH a.held.length b.cH) ∧ b.g < w.heap.size :=
  ⟨(h.blk.cell 0).trans (by simp [accC, uC, Array.getElem?_append]), (h.blk.cell 2).trans (by simp [accC, uC, Array.getElem?_append]), (h.blk.cell 7).trans (by simp [accC, uC, Array.getElem?_append]), (h.blk.cell 9).trans (by simp [accC, uC, Array.getElem?_append]), (h.blk.cell 10).trans (by simp [accC, uC, Array.getElem?_append]), (h.blk.cell 11).trans (by simp [accC, uC, Array.getElem?_append]), h.blk.lt⟩
/-- A thread's cells, read. -/
theorem AccAt.thr (h : AccAt w b d a K) (k : Nat) (hk : k < a.T.length) : ∃ g, b.AT = some ⟨g, 0, none⟩ ∧ (∀ j u, (thL (a.th k))[j]? = some u → w.cell? ⟨g, k * 31 + j, none⟩ = some u) ∧ g < w.heap.size ∧ ∀ j, w.frozen? ⟨g, j, none⟩ = false := by
  have hr : w.ownsRow 0 71 31 (.slice b.AT a.T.length b.cT) a.T.length (a.T.flatMap thL) := Holds.get h (i := 3) rfl
  rcases hr.2 with ⟨_, h0⟩ | ⟨g, cap, cur, e, _⟩
  · omega
  · injection e with e1 e2 e3
    rw [e1] at hr
    refine ⟨g, e1, fun j u hu => ?_, own_lt hr g (by simp [fp_some]), fun j => hr.frozenAt j⟩
    have hx : a.th k = a.T[k] := by unfold Acc.th; rw [List.getD_eq_getElem?_getD, List.getElem?_eq_getElem hk]; rfl
    rw [hx] at hu
    have hj : j < 31 := by have := (List.getElem?_eq_some_iff.1 hu).1; rw [thL_len] at this; exact this
    have hl := flatK_len thL 31 thL_len a.T
    rw [hr.cellAt (k * 31 + j) (by omega), flatK_get thL 31 thL_len a.T k j hk hj]
    exact hu
theorem AccAt.hld (h : AccAt w b d a K) (l : Nat) (hl : l < a.held.length) : ∃ g, b.AH = some ⟨g, 0, none⟩ ∧ w.cell? ⟨g, l, none⟩ = some (.int .i64 (a.hl l)) ∧ g < w.heap.size ∧ ∀ j, w.frozen? ⟨g, j, none⟩ = false := by
  have hr : w.ownsRow 0 3 1 (.slice b.AH a.held.length b.cH) a.held.length (a.held.map (Value.int .i64)) := Holds.get h (i := 4) rfl
  rcases hr.2 with ⟨_, h0⟩ | ⟨g, cap, cur, e, _⟩
  · omega
  · injection e with e1 e2 e3
    rw [e1] at hr
    refine ⟨g, e1, ?_, own_lt hr g (by simp [fp_some]), fun j => hr.frozenAt j⟩
    rw [hr.cellAt l (by omega), List.getElem?_map, List.getElem?_eq_getElem hl]
    unfold Acc.hl
    rw [List.getD_eq_getElem?_getD, List.getElem?_eq_getElem hl]
    rfl
/-- A thread's cell is stored. -/
theorem AccIs.setTh (h : AccIs w0 w b d a K) {g : Nat} (hg : b.AT = some ⟨g, 0, none⟩) (k : Nat) (hk : k < a.T.length) (j : Nat) (x' : Th) (u : Value) (hj : j < 31) (hx : thL x' = (thL (a.th k)).set j u) : AccIs w0 (w.setCell ⟨g, k * 31 + j, none⟩ u) b d (a.setT k x') K := by
  have hx2 : a.th k = a.T[k] := by unfold Acc.th; rw [List.getD_eq_getElem?_getD, List.getElem?_eq_getElem hk]; rfl
  rw [hx2] at hx
  have hset : Kept [g] w (w.setCell ⟨g, k * 31 + j, none⟩ u) := (Kept.refl _ _).setCell (.inl (by simp)) u
  have hp : (accP b d a K)[3]? = some (.row 71 31 (.slice (some ⟨g, 0, none⟩) a.T.length b.cT) a.T.length (a.T.flatMap thL)) := by rw [← hg]; rfl
  have hr : w.ownsRow 0 71 31 (.slice (some ⟨g, 0, none⟩) a.T.length b.cT) a.T.length (a.T.flatMap thL) := Holds.get h.at_ hp
  have hs := (hr.stored (k * 31 + j) u).1
  rw [flatK_set thL 31 thL_len a.T k j hk x' u hj hx] at hs
  have he : (accP b d a K).set 3 (.row 71 31 (.slice (some ⟨g, 0, none⟩) a.T.length b.cT) a.T.length ((a.T.set k x').flatMap thL)) = accP b d (a.setT k x') K := by
    rw [← hg]; simp [accP, accC, Acc.setT]
  have hk' : Kept (Piece.fp (.row 71 31 (.slice (some ⟨g, 0, none⟩) a.T.length b.cT) a.T.length (a.T.flatMap thL))) w (w.setCell ⟨g, k * 31 + j, none⟩ u) := by simpa [Piece.fp, fp_some] using hset
  refine ⟨?_, ?_, h.new.kept hp h.kept hk'⟩
  · show Holds _ _
    rw [← he]
    exact Holds.turn h.at_ hp hk' hs (fun q hq => .inl hq)
  · rw [← he]
    exact h.new.turn hp h.kept.size (fun q hq => .inl hq)
/-- A lock's holder is stored. -/
theorem AccIs.setH (h : AccIs w0 w b d a K) {g : Nat} (hg : b.AH = some ⟨g, 0, none⟩) (l : Nat) (x : Int) : AccIs w0 (w.setCell ⟨g, l, none⟩ (.int .i64 x)) b d { a with held := a.held.set l x } K := by
  have hset : Kept [g] w (w.setCell ⟨g, l, none⟩ (.int .i64 x)) := (Kept.refl _ _).setCell (.inl (by simp)) _
  have hp : (accP b d a K)[4]? = some (.row 3 1 (.slice (some ⟨g, 0, none⟩) a.held.length b.cH) a.held.length (a.held.map (Value.int .i64))) := by rw [← hg]; rfl
  have hr : w.ownsRow 0 3 1 (.slice (some ⟨g, 0, none⟩) a.held.length b.cH) a.held.length (a.held.map (Value.int .i64)) := Holds.get h.at_ hp
  have hs := (hr.stored l (.int .i64 x)).1
  have e1 : (a.held.map (Value.int .i64)).set l (.int .i64 x) = (a.held.set l x).map (Value.int .i64) := by rw [List.map_set]
  rw [e1] at hs
  have he : (accP b d a K).set 4 (.row 3 1 (.slice (some ⟨g, 0, none⟩) a.held.length b.cH) a.held.length ((a.held.set l x).map (Value.int .i64))) = accP b d { a with held := a.held.set l x } K := by
    rw [← hg]; simp [accP, accC]
  have hk' : Kept (Piece.fp (.row 3 1 (.slice (some ⟨g, 0, none⟩) a.held.length b.cH) a.held.length (a.held.map (Value.int .i64)))) w (w.setCell ⟨g, l, none⟩ (.int .i64 x)) := by simpa [Piece.fp, fp_some] using hset
  refine ⟨?_, ?_, h.new.kept hp h.kept hk'⟩
  · show Holds _ _
    rw [← he]
    exact Holds.turn h.at_ hp hk' hs (fun q hq => .inl hq)
  · rw [← he]
    exact h.new.turn hp h.kept.size (fun q hq => .inl hq)
/-- The roll has turned. -/
theorem AccIs.setP (h : AccIs w0 w b d a K) {Q : List Pl} (hQ : Q.length = a.P.length) (hr : RlAt w' b.gr b.AP b.cP Q) (hk : Kept (fp (.slice b.AP a.P.length b.cP)) w w') : AccIs w0 w' b d { a with P := Q } K := by
  have hp : (accP b d a K)[2]? = some (.row 101 2 (.slice b.AP a.P.length b.cP) a.P.length (a.P.flatMap plL)) := rfl
  have he : (accP b d a K).set 2 (.row 101 2 (.slice b.AP a.P.length b.cP) a.P.length (Q.flatMap plL)) = accP b d { a with P := Q } K := by
    simp [accP, accC, hQ]
  have hrow := hr.row
  rw [hQ] at hrow
  refine ⟨?_, ?_, h.new.kept hp h.kept hk⟩
  · show Holds _ _
    rw [← he]
    exact Holds.turn h.at_ hp hk hrow (fun q hq => .inl hq)
  · rw [← he]
    exact h.new.turn hp h.kept.size (fun q hq => .inl hq)
end
/-- A register's cells. -/
theorem thL_reg (x : Th) (r : Nat) (hr : r < 8) : (thL x)[6 + r * 2]? = some (.int .i64 (x.regs.getD r (0, 0)).1) ∧ (thL x)[6 + r * 2 + 1]? = some (.int .u32 (x.regs.getD r (0, 0)).2) := by
  match r, hr with
  | 0, _ => exact ⟨rfl, rfl⟩
  | 1, _ => exact ⟨rfl, rfl⟩
  | 2, _ => exact ⟨rfl, rfl⟩
  | 3, _ => exact ⟨rfl, rfl⟩
  | 4, _ => exact ⟨rfl, rfl⟩
  | 5, _ => exact ⟨rfl, rfl⟩
  | 6, _ => exact ⟨rfl, rfl⟩
  | 7, _ => exact ⟨rfl, rfl⟩
theorem thL_setreg (x : Th) (hl : x.regs.length = 8) (r : Nat) (hr : r < 8) (v : Int × Nat) : thL { x with regs := x.regs.set r v } = ((thL x).set (6 + r * 2) (.int .i64 v.1)).set (6 + r * 2 + 1) (.int .u32 v.2) := by
  obtain ⟨p, pc, st, cp, m, lo, regs, cl, dd, co⟩ := x
  simp only at hl
  match regs, hl with
  | [a0, a1, a2, a3, a4, a5, a6, a7], _ =>
    match r, hr with
    | 0, _ => rfl
    | 1, _ => rfl
    | 2, _ => rfl
    | 3, _ => rfl
    | 4, _ => rfl
    | 5, _ => rfl
    | 6, _ => rfl
    | 7, _ => rfl

end Go.Proofs.Ytccodklfplfleaa

/- Package replay: who runs on a processor (on), walked; printed by a program. -/
namespace Go.Proofs.Ytccodklfplfleaa
open Go.RowKit

/-- A value goes whole into the block that was made last. -/
theorem wp_store_new {P : Program} {op : Oper} {a : Act} {w : World} {K : Act → World → Prop} {Q : Exit → Act → World → Prop} (t : TypeId) (x y : Operand) (ho : op.op = .store t x y)
    (c c' : Array Value) (b : Nat) (hb : b = w.heap.size) (hx : a.eval x = .pointer (some ⟨b, 0, none⟩)) (hy : a.eval y = .agg c') (hi : (P.info? t).map (·.size) = some c'.size) (hc : c.size = c'.size) (h1 : c'.all (·.oneCell') = true)
    {W0 : World} (hW : W0 = w.alloc (.cells c t)) (h : K (a.put op.dst undef) (w.alloc (.cells c' t))) : op.wp P a W0 K Q := by
  subst hb hW
  unfold Oper.wp execOp
  simp only [ho, hx, hy, Sem.run_bind, run_storeAt_new (P := P) w t c c' hi hc h1]
  exact h
/-- All cells of a thread, at its address. -/
def TCells (W : World) (g o : Nat) (x : Th) : Prop := ∀ j u, (thL x)[j]? = some u → W.cell? ⟨g, o + j, none⟩ = some u
theorem AccAt.tcells {w : World} {b : AcA} {d : Du} {a : Acc} {K : Array Value} (h : AccAt w b d a K) (k : Nat) (hk : k < a.T.length) : ∃ g, b.AT = some ⟨g, 0, none⟩ ∧ TCells w g (k * 31) (a.th k) ∧ g < w.heap.size ∧ ∀ j, w.frozen? ⟨g, j, none⟩ = false := h.thr k hk

set_option maxHeartbeats 6400000 in
set_option maxRecDepth 100000 in
theorem rpon_any {w : World} {b : AcA} {d : Du} {a : Acc} {K : Array Value} (h : AccAt w b d a K) (hw : AWhole d a) (cpu : Int) :
    Calls Try.prog 83 #[.pointer (some ⟨b.g, 0, none⟩), .int .i64 cpu] w fun e w' => e = .returned (.int .i64 (onA a cpu)) ∧ Kept [] w w' := by
  have hmix : Try.prog.follows .mixedOrders = true := by kernel_rfl
  have HAL := Lib.hid (rlAll_any h.roll hw.n64)
  have HC : Hid (∀ W, Kept [] w W → W.cell? ⟨b.g, 9, none⟩ = some (.pointer (some ⟨b.gr, 0, none⟩)) ∧ W.cell? ⟨b.g, 10, none⟩ = some (.slice b.AT a.T.length b.cT) ∧ b.g < W.heap.size) := fun W hk => by
    have hc := AccAt.cells (Holds.old h hk)
    exact ⟨hc.2.2.2.1, hc.2.2.2.2.1, hc.2.2.2.2.2.2⟩
  have HT : Hid (∀ W, Kept [] w W → ∀ k, k < a.T.length → ∃ g, b.AT = some ⟨g, 0, none⟩ ∧ TCells W g (k * 31) (a.th k) ∧ g < W.heap.size) := fun W hk k hk1 => by
    obtain ⟨g, e, h1, h2, _⟩ := AccAt.tcells (Holds.old h hk) k hk1
    exact ⟨g, e, h1, h2⟩
  have hpos : ∀ x ∈ allK a.P a.P.length, x.1 ≠ -1 := allK_pos
  have HAT := Lib.hid (fun (i : Nat) (x : Int × Nat) (hx : (allK a.P a.P.length)[i]? = some x) (h1 : onL a cpu ((allK a.P a.P.length).take i) = -1) (hm : matchB a cpu x = true) => onL_at hpos hx h1 hm)
  have HNO := Lib.hid (fun (i : Nat) (x : Int × Nat) (hx : (allK a.P a.P.length)[i]? = some x) (h1 : onL a cpu ((allK a.P a.P.length).take i) = -1) (hm : matchB a cpu x = false) => onL_no hpos hx h1 hm)
  have HMEM : Hid (∀ x ∈ allK a.P a.P.length, ∃ t : Nat, x.1 = t ∧ t < a.T.length) := fun x hx => by
    obtain ⟨t, rfl, h1, _⟩ := allK_mem _ _ x hx
    exact ⟨t, rfl, by rw [hw.tl]; exact h1⟩
  have hon : onA a cpu = onL a cpu (allK a.P a.P.length) := (onL_all a cpu a.P.length).symm
  have HMB : Hid (∀ x : Int × Nat, matchB a cpu x = thB cpu (a.th x.1.toNat)) := fun _ => rfl
  have hl64 : (allK a.P a.P.length).length ≤ 64 := Nat.le_trans (allK_len _ _) hw.n64
  rw [hon]
  obtain ⟨hq1, hq2, hq3⟩ := HC.out w (Kept.refl _ _)
  clear h hw hpos hon
  generalize allK a.P a.P.length = L at *
  obtain ⟨nT, hnT⟩ : ∃ nT, a.T.length = nT := ⟨_, rfl⟩
  rw [hnT] at HC HT HMEM hq2
  clear hnT
  go_enter Try.func83, Try.ntmps83
  go_wp2_with fail
  refine (HAL.out).mono ?_
  rintro e w1 ⟨A1, c1, rfl, hF⟩
  have HF := Lib.hid hF
  have hLN : Hid (onL a cpu L = onL a cpu (L.take L.length)) := by rw [List.take_length]; exact rfl
  obtain ⟨ln, hln⟩ : ∃ ln, L.length = ln := ⟨_, rfl⟩
  have HLL := Lib.hid hln
  rw [hln] at HF hl64 hLN ⊢
  clear hF hln hq1 hq2 hq3
  go_wp2_with fail
  go_loopw [14] (fun iv wr => ∃ i : Nat, i ≤ ln ∧ iv = .int .i64 i ∧ Hid (onL a cpu (L.take i) = -1) ∧ Hid (Kept [] w1 wr)) (fun i _ => ln - (intOf i).toNat)
  case atStart => exact ⟨0, by omega, rfl, Lib.hid (by simp [onL]), Kept.refl _ _⟩
  case round =>
    obtain ⟨i, hi, rfl, HN, HK⟩ := hrel
    have HF2 := Lib.hid (HF.out.later HK.out)
    by_cases hlt : i < ln
    · have hlt' : i < L.length := by rw [HLL.out]; exact hlt
      obtain ⟨x, hx⟩ : ∃ x, L[i]? = some x := ⟨_, List.getElem?_eq_getElem hlt'⟩
      obtain ⟨t, ht, htn⟩ := HMEM.out x (List.mem_of_getElem? hx)
      obtain ⟨bb, oo, e1, hb1, hcc⟩ := (Reads.of_own HF2.out.1).cellsK idL 2 idL_len (by omega) (by omega)
      have d0 : wr.cell? ⟨bb, oo + i * 2, none⟩ = some (.int .i64 x.1) := hcc i x hx 0 (by omega)
      have d1 : wr.cell? ⟨bb, oo + i * 2 + 1, none⟩ = some (.int .u32 x.2) := hcc i x hx 1 (by omega)
      have HX := Lib.hid hx
      have hb2 := hb1
      subst e1
      obtain ⟨x1, x2⟩ := x
      simp only at ht d0 d1
      subst ht
      have hin : (i : Int) < (ln : Int) := by omega
      have hi0 : (0 : Int) ≤ (i : Int) := by omega
      have ht0 : (0 : Int) ≤ (t : Int) := by omega
      have ht1 : (t : Int) < (nT : Int) := by omega
      have HKA : Hid (Kept [] w ((wr.alloc (.cells #[.int .i64 t, .int .u32 x2] 53)).drew)) := ((HF2.out.2.1).alloc _).drew
      obtain ⟨bT, hAT, HTC', hbT⟩ := HT.out _ HKA.out t htn
      obtain ⟨th, hth⟩ : ∃ th, a.th t = th := ⟨_, rfl⟩
      obtain ⟨hq1, hq2, hq3⟩ := HC.out _ HKA.out
      rw [hAT] at hq2
      have hB := (Blk.new wr 53 #[.int .i64 t, .int .u32 x2]).drew
      have hb0 : (wr.alloc (.cells #[.int .i64 t, .int .u32 x2] 53)).drew.cell? ⟨wr.heap.size, 0, none⟩ = some (.int .i64 t) := hB.cell 0
      have hmb := HMB.out ((t : Int), x2)
      simp only [Int.toNat_natCast] at hmb
      have HTC'' := HTC'
      rw [hth] at HTC'' hmb
      clear HTC'
      have HSA : Hid (∀ cs : Array Value, (((wr.alloc (.cells #[.int .i64 t, .int .u32 x2] 53)).drew.alloc (.cells cs 71)).cell? ⟨b.g, 10, none⟩ = some (.slice (some ⟨bT, 0, none⟩) nT b.cT) ∧ ((wr.alloc (.cells #[.int .i64 t, .int .u32 x2] 53)).drew.alloc (.cells cs 71)).cell? ⟨wr.heap.size, 0, none⟩ = some (.int .i64 t)) ∧ TCells ((wr.alloc (.cells #[.int .i64 t, .int .u32 x2] 53)).drew.alloc (.cells cs 71)) bT (t * 31) th) := fun cs => by
        have hka : Kept [] (wr.alloc (.cells #[.int .i64 t, .int .u32 x2] 53)).drew ((wr.alloc (.cells #[.int .i64 t, .int .u32 x2] 53)).drew.alloc (.cells cs 71)) := (Kept.refl _ _).alloc _
        exact ⟨⟨hka.cell_some hq2 (by simp), hka.cell_some hb0 (by simp)⟩, fun j u hu => hka.cell_some (HTC'' j u hu) (by simp)⟩
      have HWS := Lib.hid (show wr.heap.size + 1 = (wr.alloc (.cells #[.int .i64 t, .int .u32 x2] 53)).drew.heap.size by simp)
      have HTC := Lib.hid HTC''
      clear hcc hx hb1 hB HTC'' hth
      go_wp2_with fail
      refine wp_region_held_drew (S := fun W => (W.cell? ⟨b.g, 10, none⟩ = some (.slice (some ⟨bT, 0, none⟩) nT b.cT) ∧ W.cell? ⟨wr.heap.size, 0, none⟩ = some (.int .i64 t)) ∧ TCells W bT (t * 31) th) hmix ⟨⟨hq2, hb0⟩, HTC.out⟩ (fun hHeld => ?_)
      (refine rtake_0 (v := ?_) (by kernel_rfl) (by kernel_rfl) (by kernel_rfl) (fun _ _ _ h => h) (Or.inl ⟨by rfl, ?_⟩) (by assumption) ?_; rotate_left; (focus ((intro w hSw; (try dsimp only at hSw); go_simp); try (with_reducible rfl))); (try dsimp only [Act.put]); (try simp only [List.setIfInBounds_toArray, List.set_cons_zero, List.set_cons_succ]))
      (refine rtake_1 (v := ?_) (by kernel_rfl) (by kernel_rfl) (by kernel_rfl) (fun _ _ _ h => h) (Or.inl ⟨by rfl, ?_⟩) (by assumption) ?_; rotate_left; (focus ((intro w hSw; (try dsimp only at hSw); go_simp); try (with_reducible rfl))); (try dsimp only [Act.put]); (try simp only [List.setIfInBounds_toArray, List.set_cons_zero, List.set_cons_succ]))
      (refine rtake_2 (v := ?_) (by kernel_rfl) (by kernel_rfl) (by kernel_rfl) (fun _ _ _ h => h) (Or.inl ⟨by rfl, ?_⟩) (by assumption) ?_; rotate_left; (focus ((intro w hSw; (try dsimp only at hSw); go_simp); try (with_reducible rfl))); (try dsimp only [Act.put]); (try simp only [List.setIfInBounds_toArray, List.set_cons_zero, List.set_cons_succ]))
      (refine rtake_3 (v := ?_) (by kernel_rfl) (by kernel_rfl) (by kernel_rfl) (fun _ _ _ h => h) (Or.inl ⟨by rfl, ?_⟩) (by assumption) ?_; rotate_left; (focus ((intro w hSw; (try dsimp only at hSw); go_simp); try (with_reducible rfl))); (try dsimp only [Act.put]); (try simp only [List.setIfInBounds_toArray, List.set_cons_zero, List.set_cons_succ]))
      (refine rtake_4 (v := ?_) (by kernel_rfl) (by kernel_rfl) (by kernel_rfl) (fun _ _ _ h => h) (Or.inl ⟨by rfl, ?_⟩) (by assumption) ?_; rotate_left; (focus ((intro w hSw; (try dsimp only at hSw); go_simp); try (with_reducible rfl))); (try dsimp only [Act.put]); (try simp only [List.setIfInBounds_toArray, List.set_cons_zero, List.set_cons_succ]))
      (refine rtake_5 (v := ?_) (by kernel_rfl) (by kernel_rfl) (by kernel_rfl) (fun _ _ _ h => h) (Or.inl ⟨by rfl, ?_⟩) (by assumption) ?_; rotate_left; (focus ((intro w hSw; (try dsimp only at hSw); go_simp); try (with_reducible rfl))); (try dsimp only [Act.put]); (try simp only [List.setIfInBounds_toArray, List.set_cons_zero, List.set_cons_succ]))
      (refine rtake_6 (v := ?_) (by kernel_rfl) (by kernel_rfl) (by kernel_rfl) (fun _ _ _ h => h) (Or.inl ⟨by rfl, ?_⟩) (by assumption) ?_; rotate_left; (focus ((intro w hSw; (try dsimp only at hSw); go_simp); try (with_reducible rfl))); (try dsimp only [Act.put]); (try simp only [List.setIfInBounds_toArray, List.set_cons_zero, List.set_cons_succ]))
      refine rtake_7 (v := .agg (thL th).toArray) (by kernel_rfl) (by kernel_rfl) (by kernel_rfl) (fun _ _ _ h => h) (yieldsIf_load_mid (by rfl) 71 (.tmp 24) rfl bT (t * 31) rfl (thL th) _ (fun w hS => hS.2) Try.underlying71 rfl (by kernel_rfl)) (by assumption) ?_
      (try dsimp only [Act.put])
      (try simp only [List.setIfInBounds_toArray, List.set_cons_zero, List.set_cons_succ])
      (refine wpAnyH_ready (rs := [8]) (by kernel_rfl) (by simp) ?_; refine rcons_8 (fun K hK => ?_) (AllReadyH.nil))
      go_simp
      refine hK.out _ _ (HSA.out _) (fun hHeld => ?_)
      clear hK K
      (try simp only [Act.put, List.setIfInBounds_toArray, List.set_cons_zero, List.set_cons_succ])
      (refine wpAnyH_ready (rs := [9]) (by kernel_rfl) (by simp) ?_; refine rcons_9 (fun K hK => ?_) (AllReadyH.nil))
      rw [if_pos (by rfl)]
      refine wp_store_new (w := (wr.alloc (.cells #[.int .i64 t, .int .u32 x2] 53)).drew) 71 (.tmp 7) (.tmp 25) rfl (thL Th.zero).toArray (thL th).toArray _ HWS.out rfl rfl (by kernel_rfl) rfl (all_oneCell_toArray (thL_one th)) rfl ?_
      refine hK.out _ _ (HSA.out _) (fun hHeld => ?_)
      clear hK K
      (try simp only [Act.put, List.setIfInBounds_toArray, List.set_cons_zero, List.set_cons_succ])
      have h51 : Blk ((wr.alloc (.cells #[.int .i64 t, .int .u32 x2] 53)).drew.alloc (.cells (thL th).toArray 71)) (wr.heap.size + 1) 71 (thL th).toArray := by rw [HWS.out]; exact Blk.new _ _ _
      have h52 : Blk ((wr.alloc (.cells #[.int .i64 t, .int .u32 x2] 53)).drew.alloc (.cells (thL th).toArray 71)) wr.heap.size 53 #[.int .i64 t, .int .u32 x2] := (Blk.new wr _ _).drew.kept ((Kept.refl [] _).alloc _) (by simp)
      have h53 : Kept [] wr ((wr.alloc (.cells #[.int .i64 t, .int .u32 x2] 53)).drew.alloc (.cells (thL th).toArray 71)) := (((Kept.refl [] wr).alloc _).drew).alloc _
      clear hHeld HSA HWS HTC hq1 hq2 hq3 hb0
      generalize (wr.alloc (.cells #[.int .i64 t, .int .u32 x2] 53)).drew.alloc (.cells (thL th).toArray 71) = w5 at *
      have s2 : w5.cell? ⟨wr.heap.size + 1, 2, none⟩ = some (.int .i64 th.state) := h51.cell 2
      have s3 : w5.cell? ⟨wr.heap.size + 1, 3, none⟩ = some (.int .i64 th.cpu) := h51.cell 3
      have s0 : w5.cell? ⟨wr.heap.size, 0, none⟩ = some (.int .i64 t) := h52.cell 0
      have sl1 := h51.lt
      have sl2 := h52.lt
      have HK5 := Lib.hid (HK.out.trans h53)
      have HKW := Lib.hid (HF.out.2.1.trans HK5.out)
      clear h51 h52 h53
      refine wpAnyH_done (by kernel_rfl) ?_ _
      unfold thB at hmb
      by_cases g1 : th.state = 3
      · by_cases g2 : th.cpu = cpu
        · have f1 : (th.state == 3) = true := beq_iff_eq.2 g1
          have f2 : (th.cpu == cpu) = true := beq_iff_eq.2 g2
          rw [f1, f2] at hmb
          have HR := Lib.hid (HAT.out i _ HX.out HN.out hmb)
          clear g1 g2 hmb
          generalize th.state = zs at *
          generalize th.cpu = zc at *
          go_wp2_with fail
          go_ret
          exact ⟨by rw [HR.out]; rfl, HKW.out⟩
        · have f1 : (th.state == 3) = true := beq_iff_eq.2 g1
          have f2 : (th.cpu == cpu) = false := beq_eq_false_iff_ne.2 g2
          rw [f1, f2] at hmb
          have HR := Lib.hid (HNO.out i _ HX.out HN.out hmb)
          clear g1 g2 hmb
          generalize th.state = zs at *
          generalize th.cpu = zc at *
          go_wp2_with fail
          go_roundw
          case rel => exact ⟨i + 1, by omega, by go_num, HR.out, HK5.out⟩
          case measure => simp [intOf]; omega
      · have f1 : (th.state == 3) = false := beq_eq_false_iff_ne.2 g1
        rw [f1] at hmb
        have HR := Lib.hid (HNO.out i _ HX.out HN.out hmb)
        clear g1 hmb
        generalize th.state = zs at *
        generalize th.cpu = zc at *
        go_wp2_with fail
        go_roundw
        case rel => exact ⟨i + 1, by omega, by go_num, HR.out, HK5.out⟩
        case measure => simp [intOf]; omega
    · obtain rfl : i = ln := by omega
      have HR := Lib.hid (hLN.out.trans HN.out)
      have HKW := Lib.hid (HF.out.2.1.trans HK.out)
      go_wp2_with fail
      go_ret
      exact ⟨by rw [HR.out]; rfl, HKW.out⟩

end Go.Proofs.Ytccodklfplfleaa

