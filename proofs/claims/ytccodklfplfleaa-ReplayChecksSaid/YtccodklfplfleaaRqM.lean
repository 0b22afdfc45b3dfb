/- The document's account of a trace (layer 35) in memory. -/
import Derived.Test.YtccodklfplfleaaP01
import Derived.Test.YtccodklfplfleaaP02
import Derived.Test.YtccodklfplfleaaP04
namespace Go.Proofs.Ytccodklfplfleaa
open Go.RowKit

theorem set_same {α : Type} {l : List α} {k : Nat} {v : α} (h : l[k]? = some v) : l.set k v = l := by
  apply List.ext_getElem?
  intro j
  rw [List.getElem?_set]
  split
  · rename_i e; subst e
    rw [if_pos (List.getElem?_eq_some_iff.1 h).1, h]
  · rfl
/-- A thread's cells. -/
def oneL (x : Th) : List Value := [.int .i64 x.prog, .int .i64 x.pc, .int .i64 x.state, .int .i64 x.cpu, .int .i64 x.call, .int .u64 x.mask, .bool x.loose, .int .i64 (x.regs.getD 0 (0, 0)).1, .int .u32 (x.regs.getD 0 (0, 0)).2, .int .i64 (x.regs.getD 1 (0, 0)).1, .int .u32 (x.regs.getD 1 (0, 0)).2, .int .i64 (x.regs.getD 2 (0, 0)).1, .int .u32 (x.regs.getD 2 (0, 0)).2, .int .i64 (x.regs.getD 3 (0, 0)).1, .int .u32 (x.regs.getD 3 (0, 0)).2, .int .i64 (x.regs.getD 4 (0, 0)).1, .int .u32 (x.regs.getD 4 (0, 0)).2, .int .i64 (x.regs.getD 5 (0, 0)).1, .int .u32 (x.regs.getD 5 (0, 0)).2, .int .i64 (x.regs.getD 6 (0, 0)).1, .int .u32 (x.regs.getD 6 (0, 0)).2, .int .i64 (x.regs.getD 7 (0, 0)).1, .int .u32 (x.regs.getD 7 (0, 0)).2, .int .i64 x.deed.op, .int .i64 x.deed.a, .int .i64 x.deed.b, .int .i64 x.deed.r, .int .u64 x.deed.n, .int .u64 x.deed.mask, .bool x.deed.loose, .int .i64 x.code]
theorem oneL_len (x : Th) : (oneL x).length = 31 := rfl
theorem oneL_one (x : Th) : ∀ u ∈ oneL x, u.oneCell' = true := by
  intro u hu
  simp only [oneL, List.mem_cons, List.not_mem_nil, or_false] at hu
  rcases hu with rfl | rfl | rfl | rfl | rfl | rfl | rfl | rfl | rfl | rfl | rfl | rfl | rfl | rfl | rfl | rfl | rfl | rfl | rfl | rfl | rfl | rfl | rfl | rfl | rfl | rfl | rfl | rfl | rfl | rfl | rfl <;> rfl
/-- A register's cells. -/
theorem oneL_reg (x : Th) (r : Nat) (hr : r < 8) : (oneL x)[7 + r * 2]? = some (.int .i64 (x.regs.getD r (0, 0)).1) ∧ (oneL x)[7 + r * 2 + 1]? = some (.int .u32 (x.regs.getD r (0, 0)).2) := by
  match r, hr with
  | 0, _ => exact ⟨rfl, rfl⟩
  | 1, _ => exact ⟨rfl, rfl⟩
  | 2, _ => exact ⟨rfl, rfl⟩
  | 3, _ => exact ⟨rfl, rfl⟩
  | 4, _ => exact ⟨rfl, rfl⟩
  | 5, _ => exact ⟨rfl, rfl⟩
  | 6, _ => exact ⟨rfl, rfl⟩
  | 7, _ => exact ⟨rfl, rfl⟩
theorem oneL_setreg (x : Th) (hl : x.regs.length = 8) (r : Nat) (hr : r < 8) (v : Int × Nat) : oneL { x with regs := x.regs.set r v } = ((oneL x).set (7 + r * 2) (.int .i64 v.1)).set (7 + r * 2 + 1) (.int .u32 v.2) := by
  obtain ⟨p, pc, st, cp, m, lo, regs, cl, dd, co⟩ := x
  simp only at hl
  match regs, hl with
  | [a0, a1, a2, a3, a4, a5, a6, a7], _ =>
    match r, hr with
    | 0, _ => rfl
    | 1, _ => rfl
    | 2, _ => rfl
    | 3, _ => rfl
    | 4, _ => rfl
    | 5, _ => rfl
    | 6, _ => rfl
    | 7, _ => rfl
/-- The addresses of an account: the account, the roll, the rows. -/
structure RqA where
  g : Nat
  gr : Nat
  gP : Nat
  gG : Nat
  gT : Nat
  AH : Option Addr
  cH : Nat
  A : Option Addr
  n : Nat
  c : Nat
  B : Option Addr
  m : Nat
  e : Nat
/-- A place's cells. -/
def tkV (p : Pl) : Value := .bool p.taken
def gnV (p : Pl) : Value := .int .u32 p.gen
def rqC (b : RqA) (d : Du) (a : Acc) : Array Value := uC d b.A b.n b.c b.B b.m b.e ++ #[.pointer (some ⟨b.gr, 0, none⟩), .slice (some ⟨b.gT, 0, none⟩) a.T.length a.T.length, .slice b.AH a.held.length b.cH]
def rqP (b : RqA) (d : Du) (a : Acc) : List Piece := [
  .blk b.g 43 (rqC b d a),
  .blk b.gr 77 #[.slice (some ⟨b.gP, 0, none⟩) a.P.length a.P.length, .slice (some ⟨b.gG, 0, none⟩) a.P.length a.P.length],
  .row 4 1 (.slice (some ⟨b.gP, 0, none⟩) a.P.length a.P.length) a.P.length (a.P.map tkV),
  .row 51 1 (.slice (some ⟨b.gG, 0, none⟩) a.P.length a.P.length) a.P.length (a.P.map gnV),
  .row 79 31 (.slice (some ⟨b.gT, 0, none⟩) a.T.length a.T.length) a.T.length (a.T.flatMap oneL),
  .row 3 1 (.slice b.AH a.held.length b.cH) a.held.length (a.held.map (Value.int .i64))]
abbrev RqAt (w : World) (b : RqA) (d : Du) (a : Acc) : Prop := Holds w (rqP b d a)
abbrev RqIs (w0 : Base) (w : World) (b : RqA) (d : Du) (a : Acc) : Prop := IsP w0 w (rqP b d a)
section
variable {w0 : Base} {w w' : World} {b : RqA} {d : Du} {a a' : Acc}
theorem RqAt.old (h : RqAt w b d a) (hk : Kept [] w w') : RqAt w' b d a := Holds.old h hk
theorem RqAt.blk (h : RqAt w b d a) : Blk w b.g 43 (rqC b d a) := Holds.get h (i := 0) rfl
theorem RqAt.rol (h : RqAt w b d a) : Blk w b.gr 77 #[.slice (some ⟨b.gP, 0, none⟩) a.P.length a.P.length, .slice (some ⟨b.gG, 0, none⟩) a.P.length a.P.length] := Holds.get h (i := 1) rfl
theorem RqAt.cells (h : RqAt w b d a) : w.cell? ⟨b.g, 0, none⟩ = some (.int .i64 d.cpus) ∧ w.cell? ⟨b.g, 2, none⟩ = some (.int .i64 d.locks) ∧ w.cell? ⟨b.g, 7, none⟩ = some (.slice b.A b.n b.c) ∧ w.cell? ⟨b.g, 9, none⟩ = some (.pointer (some ⟨b.gr, 0, none⟩)) ∧ w.cell? ⟨b.g, 10, none⟩ = some (.slice (some ⟨b.gT, 0, none⟩) a.T.length a.T.length) ∧ w.cell? ⟨b.g, 11, none⟩ = some (.slice b.AH a.held.length b.cH) ∧ b.g < w.heap.size :=
  ⟨(h.blk.cell 0).trans (by simp [rqC, uC]), (h.blk.cell 2).trans (by simp [rqC, uC]), (h.blk.cell 7).trans (by simp [rqC, uC]), (h.blk.cell 9).trans (by simp [rqC, uC]), (h.blk.cell 10).trans (by simp [rqC, uC]), (h.blk.cell 11).trans (by simp [rqC, uC]), h.blk.lt⟩
theorem RqAt.rolc (h : RqAt w b d a) : w.cell? ⟨b.gr, 0, none⟩ = some (.slice (some ⟨b.gP, 0, none⟩) a.P.length a.P.length) ∧ w.cell? ⟨b.gr, 1, none⟩ = some (.slice (some ⟨b.gG, 0, none⟩) a.P.length a.P.length) ∧ b.gr < w.heap.size := ⟨h.rol.cell 0, h.rol.cell 1, h.rol.lt⟩
theorem RqAt.pl (h : RqAt w b d a) {k : Nat} (hk : k < a.P.length) : w.cell? ⟨b.gP, k, none⟩ = some (.bool (a.pl k).taken) ∧ w.cell? ⟨b.gG, k, none⟩ = some (.int .u32 (a.pl k).gen) ∧ b.gP < w.heap.size ∧ b.gG < w.heap.size ∧ (∀ j, w.frozen? ⟨b.gP, j, none⟩ = false) ∧ ∀ j, w.frozen? ⟨b.gG, j, none⟩ = false := by
  obtain ⟨g, x, e, hx, hc, hl, hf⟩ := Holds.ones h (i := 2) (f := tkV) rfl rfl hk
  obtain ⟨g', x', e', hx', hc', hl', hf'⟩ := Holds.ones h (i := 3) (f := gnV) rfl rfl hk
  cases e; cases e'
  obtain rfl : x = x' := by rw [hx] at hx'; exact Option.some.inj hx'
  have hp : a.pl k = x := by unfold Acc.pl; rw [List.getD_eq_getElem?_getD, hx]; rfl
  rw [hp]
  exact ⟨hc, hc', hl, hl', hf, hf'⟩
theorem RqAt.th (h : RqAt w b d a) {k : Nat} (hk : k < a.T.length) : (∀ j u, (oneL (a.th k))[j]? = some u → w.cell? ⟨b.gT, k * 31 + j, none⟩ = some u) ∧ b.gT < w.heap.size ∧ ∀ j, w.frozen? ⟨b.gT, j, none⟩ = false := by
  obtain ⟨g, x, e, hx, hc, hl, hf⟩ := Holds.recs h (i := 4) rfl oneL_len rfl hk
  cases e
  have hp : a.th k = x := by unfold Acc.th; rw [List.getD_eq_getElem?_getD, hx]; rfl
  rw [hp]
  exact ⟨hc, hl, hf⟩
theorem RqAt.hld (h : RqAt w b d a) {l : Nat} (hl : l < a.held.length) : ∃ g, b.AH = some ⟨g, 0, none⟩ ∧ w.cell? ⟨g, l, none⟩ = some (.int .i64 (a.hl l)) ∧ g < w.heap.size ∧ ∀ j, w.frozen? ⟨g, j, none⟩ = false := by
  obtain ⟨g, x, e, hx, hc, hg, hf⟩ := Holds.ones h (i := 5) rfl rfl hl
  refine ⟨g, e, ?_, hg, hf⟩
  have hp : a.hl l = x := by unfold Acc.hl; rw [List.getD_eq_getElem?_getD, hx]; rfl
  rw [hp]; exact hc
/-- A thread's cells, one by one. -/
theorem RqAt.tf (h : RqAt w b d a) {k : Nat} (hk : k < a.T.length) :
    (w.cell? ⟨b.gT, k * 31, none⟩ = some (.int .i64 (a.th k).prog) ∧ w.cell? ⟨b.gT, k * 31 + 1, none⟩ = some (.int .i64 (a.th k).pc) ∧ w.cell? ⟨b.gT, k * 31 + 2, none⟩ = some (.int .i64 (a.th k).state) ∧ w.cell? ⟨b.gT, k * 31 + 3, none⟩ = some (.int .i64 (a.th k).cpu) ∧ w.cell? ⟨b.gT, k * 31 + 4, none⟩ = some (.int .i64 (a.th k).call) ∧ w.cell? ⟨b.gT, k * 31 + 6, none⟩ = some (.bool (a.th k).loose)) ∧
    w.cell? ⟨b.gT, k * 31 + 30, none⟩ = some (.int .i64 (a.th k).code) ∧ b.gT < w.heap.size := by
  obtain ⟨hc, hl, _⟩ := RqAt.th h hk
  exact ⟨⟨hc 0 _ rfl, hc 1 _ rfl, hc 2 _ rfl, hc 3 _ rfl, hc 4 _ rfl, hc 6 _ rfl⟩, hc 30 _ rfl, hl⟩
theorem RqAt.df (h : RqAt w b d a) {k : Nat} (hk : k < a.T.length) :
    w.cell? ⟨b.gT, k * 31 + 23, none⟩ = some (.int .i64 (a.th k).deed.op) ∧ w.cell? ⟨b.gT, k * 31 + 24, none⟩ = some (.int .i64 (a.th k).deed.a) ∧ w.cell? ⟨b.gT, k * 31 + 25, none⟩ = some (.int .i64 (a.th k).deed.b) ∧ w.cell? ⟨b.gT, k * 31 + 26, none⟩ = some (.int .i64 (a.th k).deed.r) ∧ w.cell? ⟨b.gT, k * 31 + 27, none⟩ = some (.int .u64 (a.th k).deed.n) ∧ w.cell? ⟨b.gT, k * 31 + 28, none⟩ = some (.int .u64 (a.th k).deed.mask) ∧ w.cell? ⟨b.gT, k * 31 + 29, none⟩ = some (.bool (a.th k).deed.loose) := by
  obtain ⟨hc, hl, _⟩ := RqAt.th h hk
  exact ⟨hc 23 _ rfl, hc 24 _ rfl, hc 25 _ rfl, hc 26 _ rfl, hc 27 _ rfl, hc 28 _ rfl, hc 29 _ rfl⟩
theorem RqAt.rf (h : RqAt w b d a) {k : Nat} (hk : k < a.T.length) {r : Nat} (hr : r < 8) :
    w.cell? ⟨b.gT, k * 31 + 7 + r * 2, none⟩ = some (.int .i64 ((a.th k).regs.getD r (0, 0)).1) ∧ w.cell? ⟨b.gT, k * 31 + 7 + r * 2 + 1, none⟩ = some (.int .u32 ((a.th k).regs.getD r (0, 0)).2) := by
  obtain ⟨hc, hl, _⟩ := RqAt.th h hk
  have h1 := oneL_reg (a.th k) r hr
  have c1 := hc _ _ h1.1
  have c2 := hc _ _ h1.2
  exact ⟨by rw [Nat.add_assoc]; exact c1, by rw [Nat.add_assoc, Nat.add_assoc, ← Nat.add_assoc 7]; exact c2⟩
/-- Cells of a thread are stored. -/
theorem RqIs.sts (h : RqIs w0 w b d a) {t : Nat} (ht : t < a.T.length) (l : List (Nat × Value)) (hl : ∀ p ∈ l, p.1 < 31) (x' : Th) (hx : l.foldl (fun X p => X.set p.1 p.2) (oneL (a.th t)) = oneL x') :
    RqIs w0 (l.foldl (fun (W : World) p => W.setCell ⟨b.gT, t * 31 + p.1, none⟩ p.2) w) b d (a.setT t x') := by
  have hg : a.th t = a.T[t] := by unfold Acc.th; rw [List.getD_eq_getElem?_getD, List.getElem?_eq_getElem ht]; rfl
  rw [hg] at hx
  have := IsP.sts h 4 rfl oneL_len ht l hl x' hx
  have he : (rqP b d a).set 4 (.row 79 31 (.slice (some ⟨b.gT, 0, none⟩) a.T.length a.T.length) a.T.length ((a.T.set t x').flatMap oneL)) = rqP b d (a.setT t x') := by simp [rqP, rqC, Acc.setT]
  rw [he] at this
  exact this
theorem RqIs.setH (h : RqIs w0 w b d a) {g : Nat} (hg : b.AH = some ⟨g, 0, none⟩) (l : Nat) (x : Int) : RqIs w0 (w.setCell ⟨g, l, none⟩ (.int .i64 x)) b d { a with held := a.held.set l x } := by
  have hp : (rqP b d a)[5]? = some (.row 3 1 (.slice (some ⟨g, 0, none⟩) a.held.length b.cH) a.held.length (a.held.map (Value.int .i64))) := by rw [← hg]; rfl
  have := IsP.put1 h 5 hp l x
  have he : (rqP b d a).set 5 (.row 3 1 (.slice (some ⟨g, 0, none⟩) a.held.length b.cH) a.held.length ((a.held.set l x).map (Value.int .i64))) = rqP b d { a with held := a.held.set l x } := by rw [← hg]; simp [rqP, rqC]
  rw [he] at this
  exact this
/-- A place is taken, or free again, with a number of its own. -/
theorem RqIs.setT1 (h : RqIs w0 w b d a) (k : Nat) (x : Bool) (g : Nat) : RqIs w0 ((w.setCell ⟨b.gP, k, none⟩ (.bool x)).setCell ⟨b.gG, k, none⟩ (.int .u32 g)) b d { a with P := a.P.set k ⟨x, g⟩ } := by
  have h1 := IsP.turn h (i := 2) rfl (p' := .row 4 1 (.slice (some ⟨b.gP, 0, none⟩) a.P.length a.P.length) a.P.length ((a.P.map tkV).set k (.bool x))) (by simpa [Piece.fp, fp_some] using (Kept.refl [b.gP] w).setCell (p := ⟨b.gP, k, none⟩) (.inl (by simp)) (.bool x)) (show World.ownsRow _ 0 _ _ _ _ _ from (World.ownsRow.stored (Holds.get h.at_ (i := 2) rfl) k (.bool x)).1) (fun q hq => .inl hq)
  have h2 := IsP.turn h1 (i := 3) rfl (p' := .row 51 1 (.slice (some ⟨b.gG, 0, none⟩) a.P.length a.P.length) a.P.length ((a.P.map gnV).set k (.int .u32 g))) (by simpa [Piece.fp, fp_some] using (Kept.refl [b.gG] (w.setCell ⟨b.gP, k, none⟩ (.bool x))).setCell (p := ⟨b.gG, k, none⟩) (.inl (by simp)) (.int .u32 g)) (show World.ownsRow _ 0 _ _ _ _ _ from (World.ownsRow.stored (Holds.get h1.at_ (i := 3) rfl) k (.int .u32 g)).1) (fun q hq => .inl hq)
  have he : ((rqP b d a).set 2 (.row 4 1 (.slice (some ⟨b.gP, 0, none⟩) a.P.length a.P.length) a.P.length ((a.P.map tkV).set k (.bool x)))).set 3 (.row 51 1 (.slice (some ⟨b.gG, 0, none⟩) a.P.length a.P.length) a.P.length ((a.P.map gnV).set k (.int .u32 g))) = rqP b d { a with P := a.P.set k ⟨x, g⟩ } := by
    simp [rqP, rqC, List.map_set, tkV, gnV]
  rw [he] at h2
  exact h2
theorem RqIs.setTaken (h : RqIs w0 w b d a) {k : Nat} (hk : k < a.P.length) (x : Bool) : RqIs w0 (w.setCell ⟨b.gP, k, none⟩ (.bool x)) b d { a with P := a.P.set k ⟨x, (a.pl k).gen⟩ } := by
  have h1 := IsP.turn h (i := 2) rfl (p' := .row 4 1 (.slice (some ⟨b.gP, 0, none⟩) a.P.length a.P.length) a.P.length ((a.P.map tkV).set k (.bool x))) (by simpa [Piece.fp, fp_some] using (Kept.refl [b.gP] w).setCell (p := ⟨b.gP, k, none⟩) (.inl (by simp)) (.bool x)) (show World.ownsRow _ 0 _ _ _ _ _ from (World.ownsRow.stored (Holds.get h.at_ (i := 2) rfl) k (.bool x)).1) (fun q hq => .inl hq)
  have hg : (a.P.map gnV) = (a.P.set k ⟨x, (a.pl k).gen⟩).map gnV := by
    rw [List.map_set]
    have : (a.P.map gnV)[k]? = some (.int .u32 (a.pl k).gen) := by
      rw [List.getElem?_map]; unfold Acc.pl; rw [List.getD_eq_getElem?_getD, List.getElem?_eq_getElem hk]; rfl
    exact (set_same this).symm
  have he : (rqP b d a).set 2 (.row 4 1 (.slice (some ⟨b.gP, 0, none⟩) a.P.length a.P.length) a.P.length ((a.P.map tkV).set k (.bool x))) = rqP b d { a with P := a.P.set k ⟨x, (a.pl k).gen⟩ } := by
    simp only [rqP, rqC, List.length_set]
    rw [← hg]
    simp [List.map_set, tkV]
  rw [he] at h1
  exact h1
end

end Go.Proofs.Ytccodklfplfleaa
