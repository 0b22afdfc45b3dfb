/- Rows of elements of k cells each: as lists; copy, append of zeros and clear on a block that is known whole. No program in sight; slices.Insert and slices.Delete at the rows of waiters; slices.Delete and slices.IndexFunc at the rows of waiters; Package wait: the order of waiters, the closures, put and take of a row. -/
import Derived.Test.YtahpjoknmclbfaaDoorMem
import Derived.Laws.CopyRow
import Derived.Lib.AppendZerosOnto
import Derived.Lib.Overlaps
import Derived.Laws.Externs
import Derived.Test.YtahpjoknmclbfaaDoorProg
import Derived.Shelf.RegionOpenPlain
import Derived.Deep.QuietTactic
import Derived.BigQuiet
import Derived.Deep.RegionHeld3
import Derived.Deep.DrawnRows

/- Rows of elements of k cells each: as lists; copy, append of zeros and clear on a block that is known whole. No program in sight. -/
namespace Go.Proofs.YtahpjoknmclbfaaDoor
open Go.RowKit

section
variable {α : Type} (enc : α → List Value) (k : Nat) (hk : ∀ x, (enc x).length = k)
include hk
theorem flatK_len (l : List α) : (l.flatMap enc).length = l.length * k := by
  induction l with
  | nil => simp
  | cons a t ih => rw [List.flatMap_cons, List.length_append, ih, hk, List.length_cons, Nat.add_mul]; omega
theorem flatK_get (l : List α) (i j : Nat) (h : i < l.length) (hj : j < k) : (l.flatMap enc)[i * k + j]? = (enc l[i])[j]? := by
  induction l generalizing i with
  | nil => simp at h
  | cons a t ih =>
    simp only [List.flatMap_cons]
    cases i with
    | zero => rw [List.getElem?_append_left (by rw [hk]; omega)]; simp
    | succ i =>
      rw [List.getElem?_append_right (by rw [hk, Nat.add_mul]; omega), hk, show (i + 1) * k + j - k = i * k + j by rw [Nat.add_mul]; omega, ih i (by simpa using h)]
      simp
theorem flatK_take (l : List α) (i : Nat) : (l.flatMap enc).take (i * k) = (l.take i).flatMap enc := by
  induction l generalizing i with
  | nil => simp
  | cons a t ih =>
    cases i with
    | zero => simp
    | succ i =>
      rw [List.flatMap_cons, List.take_succ_cons, List.flatMap_cons, ← ih i, List.take_append, hk, List.take_of_length_le (by rw [hk, Nat.add_mul]; omega)]
      congr 2
      rw [Nat.add_mul]; omega
theorem flatK_drop (l : List α) (i : Nat) : (l.flatMap enc).drop (i * k) = (l.drop i).flatMap enc := by
  induction l generalizing i with
  | nil => simp
  | cons a t ih =>
    cases i with
    | zero => simp
    | succ i =>
      rw [List.flatMap_cons, List.drop_succ_cons, ← ih i, List.drop_append, hk, List.drop_of_length_le (by rw [hk, Nat.add_mul]; omega), List.nil_append]
      congr 1
      rw [Nat.add_mul]; omega
theorem Reads.cellsK {w : World} {A : Option Addr} {n : Nat} {l : List α} (h : Reads w k A n (l.flatMap enc)) (hk0 : 0 < k) (h0 : 0 < n) : ∃ b o, A = some ⟨b, o, none⟩ ∧ b < w.heap.size ∧ ∀ i e, l[i]? = some e → ∀ j, j < k → w.cell? ⟨b, o + (i * k + j), none⟩ = (enc e)[j]? := by
  obtain ⟨b, o, rfl, hb, hc⟩ := Reads.addr h h0 hk0
  refine ⟨b, o, rfl, hb, fun i e he j hj => ?_⟩
  obtain ⟨hi, rfl⟩ := List.getElem?_eq_some_iff.1 he
  have h1 := flatK_get enc k hk l i j hi hj
  have h2 : (enc l[i])[j]? = some ((enc l[i])[j]'(by rw [hk]; exact hj)) := List.getElem?_eq_getElem _
  rw [h2]
  exact hc _ _ (h1.trans h2)
theorem Reads.lenK {w : World} {A : Option Addr} {n : Nat} {l : List α} (h : Reads w k A n (l.flatMap enc)) (hk0 : 0 < k) : n = l.length := by
  have := h.1
  rw [flatK_len enc k hk] at this
  exact Nat.eq_of_mul_eq_mul_right hk0 this.symm
end

theorem Blk.setRow {w : World} {g : Nat} {t : TypeId} {cs : Array Value} (h : Blk w g t cs) (cs' : Array Value) : Blk (w.setRow g cs') g t cs' := setRow_heap w g cs cs' t (0, 0) h
theorem Kept.setRow {G : List Nat} {w w' : World} (h : Kept G w w') {g : Nat} (hg : g ∈ G ∨ w.heap.size ≤ g) (cs : Array Value) : Kept G w (w'.setRow g cs) :=
  ⟨h.os, h.tape, h.output, by simpa using h.size, fun k hk hn => (setRow_other w' g k cs (by
    rintro rfl
    rcases hg with hg | hg
    · exact hn hg
    · omega)).trans (h.block k hk hn)⟩

section
variable {P : Program}
theorem run_copy_rowK (w : World) (dT sT ty elem : TypeId) (k g o dLen dCap : Nat) (a : Addr) (sLen sCap : Nat) (cur : Array Value) (t : TypeId) (cs : List Value)
    (hu : P.underlying dT = some (.slice elem)) (hs : (P.info? elem).map (·.size) = some k)
    (hg : Blk w g t cur) (m : Nat) (hm : Nat.min sLen dLen = m) (hn : cs.length = m * k)
    (hsrc : ∀ j v, cs[j]? = some v → w.cell? (a.add j) = some v) (hfit : o + cs.length ≤ cur.size) (h1 : ∀ v ∈ cs, v.oneCell' = true) :
    (Builtin.copy_ #[dT, sT] ty #[.slice (some ⟨g, o, none⟩) dLen dCap, .slice (some a) sLen sCap]).run P w =
      .ok (goInt m) (w.setRow g (cur.toList.take o ++ cs ++ cur.toList.drop (o + cs.length)).toArray) := by
  have hl := run_loadCells_list (P := P) w a cs hsrc
  have hst := run_storeCells_at P g o t cs 0 cur w hg (by simpa using hfit) h1
  cases hq : P.info? elem with
  | none => simp [hq] at hs
  | some i =>
    have hi : i.size = k := by simpa [hq] using hs
    simp [Builtin.copy_, run_underlying hu, Builtin.lenOf, Builtin.firstCells, sizeOf, typeInfo, hq, hi, hm, ← hn, hl, hst]

theorem wp_copy_runK (w : World) {o : Oper} {a : Act} {K : Act → World → Prop} {Q : Exit → Act → World → Prop} (d s : Operand) (t t' : TypeId)
    (ho : o.op = .call { callee := .builtin .copy, args := #[d, s], argTypes := #[t, t'] }) (v u : Value) (hd : a.eval d = v) (hs : a.eval s = u) {v' : Value} {w' : World}
    (hr : (Builtin.copy_ #[t, t'] o.type #[v, u]).run P w = .ok v' w') (h : K (a.put o.dst v') w') : o.wp P a w K Q := by
  unfold Oper.wp execOp
  simp only [ho, resolve, invoke, builtin, Sem.run_bind, Sem.run_pure, Result.andThen_ok, List.map_toArray, List.map_cons, List.map_nil, hd, hs, hr]
  exact h
theorem wpList_copy_runK (w : World) {ops : Array Oper} {rest : List Oper} {o : Oper} {a : Act} {Q : Exit → Act → World → Prop} (hgd : o.guard = none) (d s : Operand) (t t' : TypeId)
    (ho : o.op = .call { callee := .builtin .copy, args := #[d, s], argTypes := #[t, t'] }) (v u : Value) (hd : a.eval d = v) (hs : a.eval s = u) {v' : Value} {w' : World}
    (hr : (Builtin.copy_ #[t, t'] o.type #[v, u]).run P w = .ok v' w') (h : wpList P ops Q rest (a.put o.dst v') w') : wpList P ops Q (o :: rest) a w :=
  wpList_plain hgd fun _ hK => wp_copy_runK w d s t t' ho v u hd hs hr (hK _ _ h)
theorem step_copy_runK {ops : Array Oper} {o : Oper} {a : Act} {w : World} {K : Act → World → Prop} {Q : Exit → Act → World → Prop} {E : Prop}
    (hg : o.guard = none) (d x : Operand) (dT sT : TypeId) (hop : o.op = Op.call { callee := Callee.builtin Builtin.copy, args := #[d, x], argTypes := #[dT, sT] })
    (v u : Value) (hd : a.eval d = v) (hx : a.eval x = u) {v' : Value} {w' : World} (hr : (Builtin.copy_ #[dT, sT] o.type #[v, u]).run P w = .ok v' w') (hK : K (a.put o.dst v') w') :
    if Region.wanted o (yielded ops a.tmps) = true then Oper.wp P o a w K Q else E := by
  have hw : Region.wanted o (yielded ops a.tmps) = true := by simp [Region.wanted, hg]
  rw [if_pos hw]
  exact wp_copy_runK w d x dT sT hop v u hd hx hr hK
theorem step_append_runK {ops : Array Oper} {o : Oper} {a : Act} {w : World} {K : Act → World → Prop} {Q : Exit → Act → World → Prop} {E : Prop}
    (hg : o.guard = none) (d x : Operand) (dT sT : TypeId) (hop : o.op = Op.call { callee := Callee.builtin Builtin.append, args := #[d, x], argTypes := #[dT, sT] })
    (v u : Value) (hd : a.eval d = v) (hx : a.eval x = u) {v' : Value} {w' : World} (hr : (Builtin.append_ #[dT, sT] o.type #[v, u]).run P w = .ok v' w') (hK : K (a.put o.dst v') w') :
    if Region.wanted o (yielded ops a.tmps) = true then Oper.wp P o a w K Q else E := by
  have hw : Region.wanted o (yielded ops a.tmps) = true := by simp [Region.wanted, hg]
  rw [if_pos hw]
  exact Lib.wp_append_run w d x dT sT hop v u hd hx v' w' hr hK

/-- append(s[:i], s[j:]...) on one block: what stood from j on comes to stand at i. -/
theorem run_append_downK (w : World) (t ty e : TypeId) (k g i cap ln c2 : Nat) (cur : Array Value) (off : Nat) (cs : List Value)
    (hu : P.underlying t = some (.slice e)) (hs : (P.info? e).map (·.size) = some k)
    (hg : Blk w g e cur) (hn : cs.length = ln * k) (hsrc : ∀ j v, cs[j]? = some v → cur.toList[off + j]? = some v) (hcap : i + ln ≤ cap) (hfit : i * k + cs.length ≤ cur.size) (h1 : ∀ v ∈ cs, v.oneCell' = true) :
    (Builtin.append_ #[t, t] ty #[.slice (some ⟨g, 0, none⟩) i cap, .slice (some ⟨g, off, none⟩) ln c2]).run P w =
      .ok (.slice (some ⟨g, 0, none⟩) (i + ln) cap) (w.setRow g (cur.toList.take (i * k) ++ cs ++ cur.toList.drop (i * k + cs.length)).toArray) := by
  have hl := run_loadCells_list (P := P) w ⟨g, off, none⟩ cs (fun j v hj => by
    rw [add_mk, hg.cell, ← Array.getElem?_toList]; exact hsrc j v hj)
  have hst := run_storeCells_at P g (i * k) e cs 0 cur w hg (by simpa using hfit) h1
  have ha : (⟨g, 0, none⟩ : Addr).add (i * k) = ⟨g, i * k, none⟩ := by rw [add_mk, Nat.zero_add]
  cases hq : P.info? e with
  | none => simp [hq] at hs
  | some i0 =>
    have hi : i0.size = k := by simpa [hq] using hs
    simp [Builtin.append_, run_underlying hu, Builtin.lenOf, Builtin.firstCells, sizeOf, typeInfo, hq, hi, ← hn, hl, hcap, ha, hst]
end

end Go.Proofs.YtahpjoknmclbfaaDoor

/- slices.Insert and slices.Delete at the rows of waiters. -/
namespace Go.Proofs.YtahpjoknmclbfaaDoor
open Go.RowKit

/-- A waiter: its place, its level, when it came. -/
structure WO where
  p : Int
  l : Int
  n : Nat
abbrev oC (p l : Int) (n : Nat) : Array Value := #[.int .i64 p, .int .i64 l, .int .u64 n]
def oL (x : WO) : List Value := [.int .i64 x.p, .int .i64 x.l, .int .u64 x.n]
theorem oL_len (x : WO) : (oL x).length = 3 := rfl
theorem oL_one (x : WO) : ∀ u ∈ oL x, u.oneCell' = true := by
  intro u hu
  simp [oL] at hu
  rcases hu with rfl | rfl | rfl <;> rfl
theorem flat_one (l : List WO) : ∀ u ∈ l.flatMap oL, u.oneCell' = true := by
  intro u hu
  obtain ⟨x, _, hx⟩ := List.mem_flatMap.1 hu
  exact oL_one x u hx
/-- The address of x[l:], x a slice at A with this capacity, elements of that many cells. -/
def cutK (A : Option Addr) (l cap size : Nat) : Option Addr := if cap = l then A else A.map (·.add (l * size))
theorem run_cutK {P : Program} (t e : TypeId) (size : Nat) (ht : P.underlying t = some (.slice e)) (hs : (P.info? e).map (·.size) = some size) (A : Option Addr) (len cap : Nat) (k : IntKind) (lo : Int) (l : Nat) (hl : lo = l) (h1 : l ≤ len) (w : World) :
    (Instr.slice t (.slice A len cap) (some (.int k lo)) none none).run P w = .ok (.slice (cutK A l cap size) (len - l) (cap - l)) w := by
  subst hl
  cases hq : P.info? e with
  | none => simp [hq] at hs
  | some i =>
    have hi : i.size = size := by simpa [hq] using hs
    simp [Instr.slice, Instr.sliceBounds, Instr.sliceBound, run_underlying ht, sizeOf, typeInfo, hq, hi, asIntOf, h1, cutK]

theorem take_pre {α : Type} {a b : List α} {n : Nat} (h : a.length = n) : (a ++ b).take n = a := by subst h; simp
theorem drop_pre {α : Type} {a b : List α} {n : Nat} (h : a.length = n) : (a ++ b).drop n = b := by subst h; simp
/-- The cells behind an insertion in place. -/
theorem ins_cells (cur : List Value) (l : List WO) (i : Nat) (x : WO) (hi : i ≤ l.length) (hc : l.length * 3 + 3 ≤ cur.length) (h4 : cur.take (l.length * 3) = l.flatMap oL) :
    ((cur.take (i * 3 + 3) ++ (l.drop i).flatMap oL ++ cur.drop (i * 3 + 3 + ((l.drop i).flatMap oL).length)).take (i * 3) ++ oL x ++ (cur.take (i * 3 + 3) ++ (l.drop i).flatMap oL ++ cur.drop (i * 3 + 3 + ((l.drop i).flatMap oL).length)).drop (i * 3 + (oL x).length))
      = (l.take i ++ x :: l.drop i).flatMap oL ++ cur.drop (l.length * 3 + 3) := by
  have hd : ((l.drop i).flatMap oL).length = (l.length - i) * 3 := by rw [flatK_len oL 3 oL_len, List.length_drop]
  have h5 : cur.take (i * 3) = (l.take i).flatMap oL := by
    have h := congrArg (List.take (i * 3)) h4
    rw [flatK_take oL 3 oL_len, List.take_take, Nat.min_eq_left (by omega)] at h
    exact h
  have h6 : (cur.take (i * 3 + 3)).length = i * 3 + 3 := by rw [List.length_take]; omega
  have e1 : (cur.take (i * 3 + 3) ++ (l.drop i).flatMap oL ++ cur.drop (l.length * 3 + 3)).drop (i * 3 + 3) = (l.drop i).flatMap oL ++ cur.drop (l.length * 3 + 3) := by
    rw [List.append_assoc]; exact drop_pre h6
  have e2 : (cur.take (i * 3 + 3) ++ (l.drop i).flatMap oL ++ cur.drop (l.length * 3 + 3)).take (i * 3) = (l.take i).flatMap oL := by
    rw [List.append_assoc, List.take_append, List.take_take, Nat.min_eq_left (by omega), h5, h6, show i * 3 - (i * 3 + 3) = 0 by omega, List.take_zero, List.append_nil]
  rw [hd, oL_len, show i * 3 + 3 + (l.length - i) * 3 = l.length * 3 + 3 by omega, e1, e2, List.flatMap_append, List.flatMap_cons]
  simp only [List.append_assoc]

end Go.Proofs.YtahpjoknmclbfaaDoor

/- slices.Delete and slices.IndexFunc at the rows of waiters. -/
namespace Go.Proofs.YtahpjoknmclbfaaDoor
open Go.RowKit

theorem run_clearK {P : Program} (w : World) (t ty e : TypeId) (k g o c n : Nat) (cur : Array Value) (z : Value) (hu : P.underlying t = some (.slice e)) (hz : (zeroValue e).run P w = .ok z w) (hs : z.cells.size = k) (hn : 0 < n)
    (hg : Blk w g e cur) (hfit : o + n * k ≤ cur.size) (h1 : ∀ v ∈ (Builtin.zeroCells z.cells n).toList, v.oneCell' = true) :
    (Builtin.clear_ #[t] ty #[.slice (some ⟨g, o, none⟩) n c]).run P w = .ok (.tuple #[]) (w.setRow g (cur.toList.take o ++ (Builtin.zeroCells z.cells n).toList ++ cur.toList.drop (o + n * k)).toArray) := by
  have hl : (Builtin.zeroCells z.cells n).toList.length = n * k := by simp [Builtin.zeroCells, hs]
  have hst := run_storeCells_at P g o e (Builtin.zeroCells z.cells n).toList 0 cur w hg (by rw [hl]; simpa using hfit) h1
  rw [hl] at hst
  obtain ⟨m, rfl⟩ : ∃ m, n = m + 1 := ⟨n - 1, by omega⟩
  simp only [Nat.add_zero] at hst
  simp [Builtin.clear_, run_underlying hu, hz, hst]

/-- The cells behind a deletion. -/
theorem del_cells (cur : List Value) (l : List WO) (i : Nat) (hi : i < l.length) (_ : l.length * 3 ≤ cur.length) (h4 : cur.take (l.length * 3) = l.flatMap oL) (z : List Value) (_ : z.length = 3) :
    ((cur.take (i * 3) ++ (l.drop (i + 1)).flatMap oL ++ cur.drop (i * 3 + ((l.drop (i + 1)).flatMap oL).length)).take ((l.length - 1) * 3) ++ z ++ (cur.take (i * 3) ++ (l.drop (i + 1)).flatMap oL ++ cur.drop (i * 3 + ((l.drop (i + 1)).flatMap oL).length)).drop ((l.length - 1) * 3 + 3))
      = (l.take i ++ l.drop (i + 1)).flatMap oL ++ (z ++ cur.drop (l.length * 3)) := by
  have hd : ((l.drop (i + 1)).flatMap oL).length = (l.length - 1 - i) * 3 := by rw [flatK_len oL 3 oL_len, List.length_drop]; omega
  have h5 : cur.take (i * 3) = (l.take i).flatMap oL := by
    have h := congrArg (List.take (i * 3)) h4
    rw [flatK_take oL 3 oL_len, List.take_take, Nat.min_eq_left (by omega)] at h
    exact h
  have h6 : ((l.take i).flatMap oL ++ (l.drop (i + 1)).flatMap oL).length = (l.length - 1) * 3 := by rw [List.length_append, hd, flatK_len oL 3 oL_len, List.length_take]; omega
  have e1 : ((l.take i).flatMap oL ++ (l.drop (i + 1)).flatMap oL ++ cur.drop (i * 3 + (l.length - 1 - i) * 3)).drop ((l.length - 1) * 3 + 3) = cur.drop (i * 3 + (l.length - 1 - i) * 3 + 3) := by
    have := congrArg (List.drop 3) (drop_pre (b := cur.drop (i * 3 + (l.length - 1 - i) * 3)) h6)
    rw [List.drop_drop, List.drop_drop] at this
    exact this
  rw [hd, h5, take_pre h6, e1, List.flatMap_append]
  simp only [List.append_assoc]
  rw [show i * 3 + (l.length - 1 - i) * 3 + 3 = l.length * 3 by omega]

/-- The first place at which p holds, or -1. -/
def IdxOf (p : WO → Bool) (l : List WO) (v : Int) : Prop :=
  (∃ (k : Nat) (x : WO), v = k ∧ l[k]? = some x ∧ p x = true ∧ ∀ j y, j < k → l[j]? = some y → p y = false) ∨ (v = -1 ∧ ∀ x ∈ l, p x = false)

end Go.Proofs.YtahpjoknmclbfaaDoor

/- Package wait: the order of waiters, the closures, put and take of a row. -/
namespace Go.Proofs.YtahpjoknmclbfaaDoor
open Go.RowKit

/-- Stands a waiter ahead of another one? -/
def aheadB (x y : WO) : Bool := decide (x.l < y.l ∨ x.l = y.l ∧ x.n < y.n)
theorem aheadB_iff (x y : WO) : aheadB x y = true ↔ (x.l < y.l ∨ x.l = y.l ∧ x.n < y.n) := by simp [aheadB]

/-- A level, held. -/
def holdL (l : Int) : Int := if l < 0 then 0 else if 7 < l then 7 else l
theorem holdL_lo (l : Int) : 0 ≤ holdL l := by unfold holdL; split <;> (try split) <;> omega
theorem holdL_hi (l : Int) : holdL l ≤ 7 := by unfold holdL; split <;> (try split) <;> omega
set_option maxHeartbeats 1600000 in
theorem hold_any (l : Int) (w : World) : Calls Tryd.prog 34 #[.int .i64 l] w fun e w' => e = .returned (.int .i64 (holdL l)) ∧ w = w' := by
  rcases (by omega : l < 0 ∨ (0 ≤ l ∧ 7 < l) ∨ (0 ≤ l ∧ l ≤ 7)) with h | ⟨h1, h2⟩ | ⟨h1, h2⟩
  · rw [show holdL l = 0 by rw [holdL, if_pos h]]
    have h3 : ¬ (0 ≤ l) := by omega
    go_enter Tryd.func34, Tryd.ntmps34
    go_wp2
    go_ret
    exact ⟨rfl, rfl⟩
  · rw [show holdL l = 7 by rw [holdL, if_neg (by omega), if_pos h2]]
    go_enter Tryd.func34, Tryd.ntmps34
    go_wp2
    go_ret
    exact ⟨rfl, rfl⟩
  · rw [show holdL l = l by rw [holdL, if_neg (by omega), if_neg (by omega)]]
    go_enter Tryd.func34, Tryd.ntmps34
    go_wp2
    go_ret
    exact ⟨rfl, rfl⟩
end Go.Proofs.YtahpjoknmclbfaaDoor

