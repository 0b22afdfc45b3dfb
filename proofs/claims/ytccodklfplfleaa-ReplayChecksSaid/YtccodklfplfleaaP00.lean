/- Words for memory, used by all later texts of this seat: what a call leaves alone (Kept), a block that is known whole (Blk), a slice that reads as a list (Reads), appends. No program in sight; Many pieces of memory that lie apart: blocks known whole and owned rows; one of them turns, the others stay; Rows of elements of k cells each: as lists; copy, append of zeros and clear on a block that is known whole. No program in sight. -/
import Derived.WalkKit
import Derived.WalkSpells
import Derived.WalkLawsBesides
import Derived.Below
import Derived.Laws.OwnMore
import Derived.Laws.Rows
import Derived.Deep.AppendLies
import Derived.Deep.Draws
import Derived.Maps.AppendAt
import Derived.RegionTactic
import Derived.OwnWalk
import Derived.Lib.Hide
import Derived.Laws.CopyRow
import Derived.Lib.AppendZerosOnto
import Derived.Lib.Overlaps
import Derived.Laws.Externs

/- Words for memory, used by all later texts of this seat: what a call leaves alone (Kept), a block that is known whole (Blk), a slice that reads as a list (Reads), appends. No program in sight. -/
namespace Go.Proofs.Ytccodklfplfleaa
open Go.RowKit

theorem block_of_add (a : Addr) (n : Nat) : (a.add n).block = a.block := by unfold Addr.add; split <;> rfl
theorem add_mk (b o n : Nat) : (⟨b, o, none⟩ : Addr).add n = ⟨b, o + n, none⟩ := by
  unfold Addr.add; split <;> simp_all
theorem lt_of_block {w : World} {k : Nat} {o : Obj} (h : w.heap[k]? = some o) : k < w.heap.size := (Array.getElem?_eq_some_iff.1 h).1

/-- Only the blocks of G, and new ones, have turned. -/
structure Kept (G : List Nat) (w w' : World) : Prop where
  os : w'.os = w.os
  tape : w'.tape = w.tape
  output : w'.output = w.output
  size : w.heap.size ≤ w'.heap.size
  block : ∀ k, k < w.heap.size → k ∉ G → w'.heap[k]? = w.heap[k]?

namespace Kept
variable {G G' : List Nat} {w w1 w' : World}
theorem refl (G : List Nat) (w : World) : Kept G w w := ⟨rfl, rfl, rfl, Nat.le_refl _, fun _ _ _ => rfl⟩
theorem trans' (h : Kept G w w1) (h' : Kept G' w1 w') (hg : ∀ k, k ∈ G' → k ∈ G ∨ w.heap.size ≤ k) : Kept G w w' :=
  ⟨h'.os.trans h.os, h'.tape.trans h.tape, h'.output.trans h.output, Nat.le_trans h.size h'.size, fun k hk hn =>
    (h'.block k (Nat.lt_of_lt_of_le hk h.size) (fun hm => by
      rcases hg k hm with h1 | h1
      · exact hn h1
      · omega)).trans (h.block k hk hn)⟩
theorem trans (h : Kept G w w1) (h' : Kept G w1 w') : Kept G w w' := h.trans' h' fun _ hk => .inl hk
theorem mono (h : Kept G w w') (hg : ∀ k, k ∈ G → k ∈ G') : Kept G' w w' := ⟨h.os, h.tape, h.output, h.size, fun k hk hn => h.block k hk fun hm => hn (hg k hm)⟩
theorem drew (h : Kept G w w') : Kept G w w'.drew := ⟨h.os, h.tape, h.output, h.size, h.block⟩
theorem drewN (h : Kept G w w') (n : Nat) : Kept G w (w'.drewN n) := ⟨h.os, h.tape, h.output, h.size, h.block⟩
theorem alloc (h : Kept G w w') (o : Obj) : Kept G w (w'.alloc o) :=
  ⟨h.os, h.tape, h.output, Nat.le_trans h.size (by simp), fun k hk hn => (Below.heap_alloc w' o k (Nat.lt_of_lt_of_le hk h.size)).trans (h.block k hk hn)⟩
theorem setCell (h : Kept G w w') {p : Addr} (hp : p.block ∈ G ∨ w.heap.size ≤ p.block) (u : Value) : Kept G w (w'.setCell p u) :=
  ⟨h.os, h.tape, h.output, by simpa [World.setCell] using h.size, fun k hk hn => (Below.heap_setCell w' p u k (by
    rintro rfl
    rcases hp with hp | hp
    · exact hn hp
    · omega)).trans (h.block k hk hn)⟩
theorem grown (h : Kept G w w1) {row : Option Nat} (hg : w1.grownBy w' row) (hr : ∀ k, row = some k → k ∈ G ∨ w.heap.size ≤ k) : Kept G w w' :=
  ⟨hg.os.trans h.os, hg.tape.trans h.tape, hg.output.trans h.output, Nat.le_trans h.size hg.size, fun k hk hn =>
    (hg.block k (Nat.lt_of_lt_of_le hk h.size) (fun e => by
      rcases hr k e.symm with h1 | h1
      · exact hn h1
      · omega)).trans (h.block k hk hn)⟩
theorem below {B : Nat} (h : Kept G w w') (hB : B ≤ w.heap.size) (hG : ∀ k, k ∈ G → B ≤ k) : Below B w w' :=
  ⟨h.os, h.tape, h.output, h.size, fun k hk => h.block k (by omega) fun hm => by have := hG k hm; omega⟩
theorem ofBelow (h : Below w.heap.size w w') (G : List Nat) : Kept G w w' := ⟨h.os, h.tape, h.output, h.size, fun k hk _ => h.block k hk⟩
theorem toBelow (h : Kept [] w w') : Below w.heap.size w w' := h.below (Nat.le_refl _) (by simp)
theorem cell (h : Kept G w w') {p : Addr} (hp : p.block < w.heap.size) (hn : p.block ∉ G) : w'.cell? p = w.cell? p := World.cell?_of_block (w := w) (h.block _ hp hn)
theorem frozen (h : Kept G w w') {p : Addr} (hp : p.block < w.heap.size) (hn : p.block ∉ G) : w'.frozen? p = w.frozen? p := World.frozen?_of_block (w := w) (h.block _ hp hn)
theorem cell_some (h : Kept G w w') {p : Addr} {u : Value} (hc : w.cell? p = some u) (hn : p.block ∉ G) : w'.cell? p = some u := (h.cell (World.block_lt_of_cell? w p hc) hn).trans hc
end Kept

/-- Block g is just the cells cs of element type t, none frozen. -/
def Blk (w : World) (g : Nat) (t : TypeId) (cs : Array Value) : Prop := w.heap[g]? = some (.cells cs t (0, 0))

section
variable {w w' : World} {g : Nat} {t : TypeId} {cs : Array Value}
theorem Blk.lt (h : Blk w g t cs) : g < w.heap.size := lt_of_block h
theorem Blk.cell (h : Blk w g t cs) : ∀ i, w.cell? ⟨g, i, none⟩ = cs[i]? := fun i => cell_of_row w g i cs t (0, 0) h
theorem Blk.frozen (h : Blk w g t cs) : ∀ i, w.frozen? ⟨g, i, none⟩ = false := fun i => by
  unfold Blk at h
  simp [World.frozen?, h]
theorem Blk.new (w : World) (t : TypeId) (cs : Array Value) : Blk (w.alloc (.cells cs t)) w.heap.size t cs := heap_alloc_new w _
theorem Blk.newAt (hg : g = w.heap.size) (t : TypeId) (cs : Array Value) : Blk (w.alloc (.cells cs t)) g t cs := by subst hg; exact Blk.new _ _ _
theorem Blk.drew (h : Blk w g t cs) : Blk w.drew g t cs := h
theorem Blk.drewN (h : Blk w g t cs) (n : Nat) : Blk (w.drewN n) g t cs := h
theorem Blk.alloc (h : Blk w g t cs) (o : Obj) : Blk (w.alloc o) g t cs := (Below.heap_alloc w o g h.lt).trans h
theorem Blk.set (h : Blk w g t cs) (i : Nat) (u : Value) : Blk (w.setCell ⟨g, i, none⟩ u) g t (cs.setIfInBounds i u) := by
  unfold Blk at h ⊢
  simp [World.setCell, Array.getElem?_modify, h]
theorem Blk.far (h : Blk w g t cs) {p : Addr} (hp : g ≠ p.block) (u : Value) : Blk (w.setCell p u) g t cs := (Below.heap_setCell w p u g hp).trans h
theorem Blk.kept {G : List Nat} (h : Blk w g t cs) (hk : Kept G w w') (hg : g ∉ G) : Blk w' g t cs := (hk.block g h.lt hg).trans h
theorem Blk.grown {row : Option Nat} (h : Blk w g t cs) (hb : w.grownBy w' row) (hg : some g ≠ row) : Blk w' g t cs := (hb.block g h.lt hg).trans h
theorem Blk.ne {g' : Nat} {t' : TypeId} {cs' : Array Value} (h : Blk w g t cs) (h' : Blk w g' t' cs') (hne : t ≠ t') : g ≠ g' := by
  rintro rfl
  unfold Blk at h h'
  rw [h] at h'
  injection h' with h'
  injection h' with _ ht
  exact hne ht
theorem own_blk_ne {base : Nat} {e : TypeId} {size n : Nat} {v : Value} {xs : List Value} (h : w.ownsRow base e size v n xs) (hg : Blk w g t cs) (hne : e ≠ t) : v.ownBlock ≠ some g := by
  rcases h.2 with ⟨rfl, _⟩ | ⟨g', cap, cur, rfl, _, hh, _⟩
  · simp [Value.ownBlock]
  · intro he
    have : g' = g := by simpa [Value.ownBlock] using he
    subst this
    exact Blk.ne (t := e) hh hg hne rfl
end

/-- The blocks that a slice value owns. -/
def fp (v : Value) : List Nat := v.ownBlock.toList
theorem mem_fp {v : Value} {k : Nat} : k ∈ fp v ↔ v.ownBlock = some k := by simp [fp]
theorem fp_some (g o n c : Nat) : fp (.slice (some ⟨g, o, none⟩) n c) = [g] := rfl

section
variable {w w' : World} {base : Nat} {e : TypeId} {size : Nat} {v : Value} {n : Nat} {xs : List Value}
theorem fp_slice (A : Option Addr) (n c : Nat) : fp (.slice A n c) = (A.map (·.block)).toList := by cases A <;> rfl
theorem own_kept {G : List Nat} (h : w.ownsRow base e size v n xs) (hk : Kept G w w') (hd : ∀ k, k ∈ fp v → k ∉ G) : w'.ownsRow base e size v n xs := by
  refine ⟨h.1, ?_⟩
  rcases h.2 with hn | ⟨g, cap, cur, rfl, hb, hh, r⟩
  · exact .inl hn
  · exact .inr ⟨g, cap, cur, rfl, hb, (hk.block g (lt_of_block hh) (hd g (by simp [fp, Value.ownBlock]))).trans hh, r⟩
theorem own_lt (h : w.ownsRow base e size v n xs) : ∀ k, k ∈ fp v → k < w.heap.size := fun k hk => (h.lt k (mem_fp.1 hk)).2
theorem own_form (h : w.ownsRow base e size v n xs) : ∃ A c, v = .slice A n c ∧ n ≤ c ∧ c ≤ maxLen := by
  rcases h.2 with ⟨rfl, rfl⟩ | ⟨g, cap, cur, rfl, _, _, hl, hm, _⟩
  · exact ⟨none, 0, rfl, Nat.le_refl _, Nat.zero_le _⟩
  · exact ⟨_, cap, rfl, hl, hm⟩
end

/-- The slice value '.slice A n c' holds the cells xs. -/
def Reads (w : World) (size : Nat) (A : Option Addr) (n : Nat) (xs : List Value) : Prop :=
  xs.length = n * size ∧ (0 < n → ∃ ad, A = some ad ∧ ∀ j u, xs[j]? = some u → w.cell? (ad.add j) = some u)

section
variable {w w' : World} {size n : Nat} {A : Option Addr} {xs : List Value}
theorem Reads.none_ : Reads w size A 0 [] := ⟨by simp, fun h => absurd h (by omega)⟩
theorem Reads.at_ {k : Nat} (h : Reads w 1 A n xs) (hk : k < n) : ∃ ad u, A = some ad ∧ xs[k]? = some u ∧ w.cell? (ad.add k) = some u := by
  obtain ⟨ad, e, hc⟩ := h.2 (by omega)
  have hl : k < xs.length := by have := h.1; omega
  exact ⟨ad, xs[k], e, List.getElem?_eq_getElem hl, hc k _ (List.getElem?_eq_getElem hl)⟩
theorem spot_of_cell {w : World} {a : Addr} {u : Value} (h : w.cell? a = some u) : a = ⟨a.block, a.off, none⟩ := by
  obtain ⟨b, o, p⟩ := a
  cases p with
  | none => rfl
  | some x => simp only [World.cell?] at h; split at h <;> simp at h
theorem Reads.addr (h : Reads w size A n xs) (hn : 0 < n) (hs : 0 < size) : ∃ b o, A = some ⟨b, o, none⟩ ∧ b < w.heap.size ∧ ∀ j u, xs[j]? = some u → w.cell? ⟨b, o + j, none⟩ = some u := by
  obtain ⟨ad, rfl, hc⟩ := h.2 hn
  have hl : 0 < xs.length := by rw [h.1]; exact Nat.mul_pos hn hs
  have h0 := hc 0 xs[0] (List.getElem?_eq_getElem hl)
  have hz : ad.add 0 = ad := by simp [Addr.add]
  rw [hz] at h0
  have hb := World.block_lt_of_cell? w ad h0
  have e := spot_of_cell h0
  refine ⟨ad.block, ad.off, by rw [← e], hb, fun j u hu => ?_⟩
  have := hc j u hu
  rw [e, add_mk] at this
  exact this
theorem Reads.keep (h : Reads w size A n xs) (hk : ∀ (p : Addr) (u : Value), (∃ ad, A = some ad ∧ p.block = ad.block) → w.cell? p = some u → w'.cell? p = some u) : Reads w' size A n xs :=
  ⟨h.1, fun hn => by
    obtain ⟨ad, e, hc⟩ := h.2 hn
    exact ⟨ad, e, fun j u hu => hk _ u ⟨ad, e, block_of_add _ _⟩ (hc j u hu)⟩⟩
theorem Reads.kept {G : List Nat} (h : Reads w size A n xs) (hk : Kept G w w') (hA : ∀ ad, A = some ad → ad.block ∉ G) : Reads w' size A n xs :=
  h.keep fun p _ ⟨ad, e, hb⟩ hc => hk.cell_some hc (by rw [hb]; exact hA ad e)
theorem Reads.old {w w' : World} {size n : Nat} {A : Option Addr} {xs : List Value} (h : Reads w size A n xs) (hk : Kept [] w w') : Reads w' size A n xs := h.kept hk (by simp)
theorem Reads.drew (h : Reads w size A n xs) : Reads w.drew size A n xs := h
theorem Reads.drewN (h : Reads w size A n xs) (k : Nat) : Reads (w.drewN k) size A n xs := h
theorem Reads.alloc (h : Reads w size A n xs) (o : Obj) : Reads (w.alloc o) size A n xs := h.keep fun p _ _ hc => (World.cell?_alloc_lt w o p (World.block_lt_of_cell? w p hc)).trans hc
theorem Reads.of_own {base : Nat} {e : TypeId} {c : Nat} (h : w.ownsRow base e size (.slice A n c) n xs) : Reads w size A n xs := by
  refine ⟨h.1, fun hn => ?_⟩
  obtain ⟨g, cap, hv, _, hlt⟩ := h.form hn
  have hA : A = some ⟨g, 0, none⟩ := by injection hv
  subst hA
  exact ⟨_, rfl, h.cells (g := g) rfl⟩
end

section
variable {P : Program} (w : World)

theorem run_append_of_nil (base : Nat) (t ty e : TypeId) (i : TypeInfo) (size : Nat) (ht : P.underlying t = some (.slice e)) (hi : P.info? e = some i)
    (v : Value) (n : Nat) (xs : List Value) (hown : w.ownsRow base e size v n xs) (c : Nat) : (Builtin.append_ #[t, t] ty #[v, .slice none 0 c]).run P w = .ok v w := by
  rcases hown.2 with ⟨rfl, rfl⟩ | ⟨g, cap, cur, rfl, _, _, hnc, _⟩
  · simp [Builtin.append_, run_underlying ht, sizeOf, typeInfo, hi, Builtin.lenOf, Builtin.firstCells]
  · simp [Builtin.append_, run_underlying ht, sizeOf, typeInfo, hi, Builtin.lenOf, Builtin.firstCells, hnc, storeCells]

theorem run_append_any (base : Nat) (t ty e : TypeId) (i : TypeInfo) (z : Value) (size bytes : Nat) (ht : P.underlying t = some (.slice e)) (hi : P.info? e = some i) (hz : i.zero = some z)
    (hsize : i.size = size) (hby : i.bytes = bytes) (hzs : z.cells.size = size) (hsz : 0 < size)
    (v : Value) (n : Nat) (xs : List Value) (hown : w.ownsRow base e size v n xs)
    (A : Option Addr) (m c : Nat) (news : List Value) (hr : Reads w size A m news) (h1 : ∀ u ∈ news, u.oneCell' = true)
    (h63 : n + m ≤ maxLen) (hbytes : (n + m) * bytes ≤ 140737488355328) (hbase : base ≤ w.heap.size) :
    ∃ v' w', (Builtin.append_ #[t, t] ty #[v, .slice A m c]).run P w = .ok v' w' ∧ w'.ownsRow base e size v' (n + m) (xs ++ news) ∧ w.grownBy w' v.ownBlock ∧
      (v'.ownBlock = v.ownBlock ∨ v'.ownBlock = some w.heap.size) := by
  rcases A with _ | ad
  · have hm : m = 0 := by
      rcases Nat.eq_zero_or_pos m with h0 | h0
      · exact h0
      · obtain ⟨ad, h, _⟩ := hr.2 h0
        cases h
    subst hm
    have hn : news = [] := List.eq_nil_of_length_eq_zero (by simpa using hr.1)
    subst hn
    exact ⟨v, w, run_append_of_nil w base t ty e i size ht hi v n xs hown c, by simpa using hown, World.grownBy.refl w _, .inl rfl⟩
  · have hcells : ∀ j u, news[j]? = some u → w.cell? (ad.add j) = some u := by
      intro j u hu
      rcases Nat.eq_zero_or_pos m with h0 | h0
      · subst h0
        have hn : news = [] := List.eq_nil_of_length_eq_zero (by simpa using hr.1)
        subst hn
        simp at hu
      · obtain ⟨ad', h, hc⟩ := hr.2 h0
        injection h with h
        subst h
        exact hc j u hu
    obtain ⟨v', w', hrun, h2, h3, _, h5⟩ := run_append_own_at (P := P) w base t ty e i z size bytes ht hi hz hsize hby hzs hsz v n xs hown ad m c news hr.1 hcells h1 h63 hbytes hbase
    exact ⟨v', w', hrun, h2, h3, h5⟩

/-- What an append onto an owned row leaves. -/
def Appended (w w' : World) (e : TypeId) (size : Nat) (v v' : Value) (n : Nat) (xs : List Value) : Prop :=
  w'.ownsRow 0 e size v' n xs ∧ Kept (fp v) w w' ∧ ∀ k, k ∈ fp v' → k ∈ fp v ∨ w.heap.size ≤ k

theorem wp_append_any {o : Oper} {a : Act} {K : Act → World → Prop} {Q : Exit → Act → World → Prop} (s x : Operand) (t : TypeId)
    (ho : o.op = .call { callee := .builtin .append, args := #[s, x], argTypes := #[t, t] })
    (e : TypeId) (z : Value) (size bytes : Nat) (ht : P.underlying t = some (.slice e)) (hi : (P.info? e).map (fun i => (i.zero, i.size, i.bytes)) = some (some z, size, bytes)) (hzs : z.cells.size = size) (hsz : 0 < size)
    (v : Value) (n : Nat) (xs : List Value) (hs : a.eval s = v) (hown : w.ownsRow 0 e size v n xs)
    (A : Option Addr) (m c : Nat) (news : List Value) (hx : a.eval x = .slice A m c) (hr : Reads w size A m news) (h1 : ∀ u ∈ news, u.oneCell' = true)
    (h63 : n + m ≤ maxLen) (hbytes : (n + m) * bytes ≤ 140737488355328)
    (h : ∀ A' c' w', Appended w w' e size v (.slice A' (n + m) c') (n + m) (xs ++ news) → K (a.put o.dst (.slice A' (n + m) c')) w') : o.wp P a w K Q := by
  obtain ⟨i, hi0, hz, hsize, hby⟩ := info_parts hi
  obtain ⟨v', w', hrun, h2, h3, h4⟩ := run_append_any (P := P) w 0 t o.type e i z size bytes ht hi0 hz hsize hby hzs hsz v n xs hown A m c news hr h1 h63 hbytes (Nat.zero_le _)
  unfold Oper.wp execOp
  simp only [ho, resolve, invoke, builtin, Sem.run_bind, Sem.run_pure, Result.andThen_ok, List.map_toArray, List.map_cons, List.map_nil, hs, hx, hrun]
  obtain ⟨A', c', rfl, _, _⟩ := own_form h2
  refine h A' c' w' ⟨h2, (Kept.refl _ _).grown h3 fun k hk => .inl (mem_fp.2 hk), fun k hk => ?_⟩
  rw [mem_fp] at hk
  rcases h4 with h4 | h4
  · exact .inl (mem_fp.2 (h4 ▸ hk))
  · rw [h4] at hk; injection hk with hk; exact .inr (Nat.le_of_eq hk)

theorem wpList_append_any {ops : Array Oper} {rest : List Oper} {o : Oper} {a : Act} {Q : Exit → Act → World → Prop} (hgd : o.guard = none) (s x : Operand) (t : TypeId)
    (ho : o.op = .call { callee := .builtin .append, args := #[s, x], argTypes := #[t, t] })
    (e : TypeId) (z : Value) (size bytes : Nat) (ht : P.underlying t = some (.slice e)) (hi : (P.info? e).map (fun i => (i.zero, i.size, i.bytes)) = some (some z, size, bytes)) (hzs : z.cells.size = size) (hsz : 0 < size)
    (v : Value) (n : Nat) (xs : List Value) (hs : a.eval s = v) (hown : w.ownsRow 0 e size v n xs)
    (A : Option Addr) (m c : Nat) (news : List Value) (hx : a.eval x = .slice A m c) (hr : Reads w size A m news) (h1 : ∀ u ∈ news, u.oneCell' = true)
    (h63 : n + m ≤ maxLen) (hbytes : (n + m) * bytes ≤ 140737488355328)
    (h : ∀ A' c' w', Appended w w' e size v (.slice A' (n + m) c') (n + m) (xs ++ news) → wpList P ops Q rest (a.put o.dst (.slice A' (n + m) c')) w') : wpList P ops Q (o :: rest) a w :=
  wpList_plain hgd fun _ hK => wp_append_any w s x t ho e z size bytes ht hi hzs hsz v n xs hs hown A m c news hx hr h1 h63 hbytes fun A' c' w' h2 => hK _ _ (h A' c' w' h2)

end

section
variable {P : Program}
end

theorem reads_one (w : World) (t : TypeId) (x : Value) : Reads (w.alloc (.cells #[x] t)) 1 (some ⟨w.heap.size, 0, none⟩) 1 [x] := by
  refine ⟨by simp, fun _ => ⟨_, rfl, fun j u hu => ?_⟩⟩
  rcases j with _ | j
  · simp at hu; subst hu; rw [add_mk, (Blk.new w t #[x]).cell]; rfl
  · simp at hu

end Go.Proofs.Ytccodklfplfleaa

/- Many pieces of memory that lie apart: blocks known whole and owned rows; one of them turns, the others stay. -/
namespace Go.Proofs.Ytccodklfplfleaa
open Go.RowKit

/-- A piece of memory: a block that is known whole, or an owned row. -/
inductive Piece where
  | blk (g : Nat) (t : TypeId) (cs : Array Value)
  | row (e : TypeId) (s : Nat) (v : Value) (n : Nat) (xs : List Value)
  | obj (g : Nat) (o : Obj)
namespace Piece
/-- The blocks of a piece. -/
def fp : Piece → List Nat
  | .blk g _ _ => [g]
  | .row _ _ v _ _ => Go.Proofs.Ytccodklfplfleaa.fp v
  | .obj g _ => [g]
/-- Does a piece hold in a world? -/
def holds (w : World) : Piece → Prop
  | .blk g t cs => Blk w g t cs
  | .row e s v n xs => w.ownsRow 0 e s v n xs
  | .obj g o => w.heap[g]? = some o
theorem lt {w : World} {p : Piece} (h : p.holds w) : ∀ k, k ∈ p.fp → k < w.heap.size := by
  intro k hk
  cases p with
  | blk g t cs => obtain rfl := List.mem_singleton.1 hk; exact Blk.lt h
  | row e s v n xs => exact own_lt h k hk
  | obj g o => obtain rfl := List.mem_singleton.1 hk; exact lt_of_block h
theorem kept {G : List Nat} {w w' : World} {p : Piece} (h : p.holds w) (hk : Kept G w w') (hd : ∀ k, k ∈ p.fp → k ∉ G) : p.holds w' := by
  cases p with
  | blk g t cs => exact Blk.kept h hk (hd g (by simp [fp]))
  | row e s v n xs => exact own_kept h hk hd
  | obj g o => exact (hk.block g (lt_of_block h) (hd g (by simp [fp]))).trans h
end Piece

/-- Pieces that lie apart. -/
def Holds (w : World) (ps : List Piece) : Prop := (∀ p ∈ ps, p.holds w) ∧ ∀ (i j : Nat) (p q : Piece), i < j → ps[i]? = some p → ps[j]? = some q → ∀ k, k ∈ p.fp → k ∉ q.fp
theorem Holds.nil (w : World) : Holds w [] := ⟨by simp, fun i j p q _ h => by simp at h⟩
theorem Holds.get {w : World} {ps : List Piece} (h : Holds w ps) {i : Nat} {p : Piece} (hp : ps[i]? = some p) : p.holds w := h.1 p (List.mem_of_getElem? hp)
theorem Holds.apart {w : World} {ps : List Piece} (h : Holds w ps) {i j : Nat} {p q : Piece} (hij : i ≠ j) (hp : ps[i]? = some p) (hq : ps[j]? = some q) : ∀ k, k ∈ p.fp → k ∉ q.fp := by
  rcases Nat.lt_or_gt_of_ne hij with hlt | hlt
  · exact h.2 i j p q hlt hp hq
  · exact fun k hk hk' => h.2 j i q p hlt hq hp k hk' hk
theorem Holds.old {w w' : World} {ps : List Piece} (h : Holds w ps) (hk : Kept [] w w') : Holds w' ps := ⟨fun p hp => Piece.kept (h.1 p hp) hk (by simp), h.2⟩
theorem Holds.drew {w : World} {ps : List Piece} (h : Holds w ps) : Holds w.drew ps := h.old ((Kept.refl [] w).drew)
/-- One piece turns. -/
theorem Holds.turn {w w' : World} {ps : List Piece} (h : Holds w ps) {i : Nat} {p p' : Piece} (hp : ps[i]? = some p) (hk : Kept p.fp w w') (hp' : p'.holds w') (hf : ∀ k, k ∈ p'.fp → k ∈ p.fp ∨ w.heap.size ≤ k) : Holds w' (ps.set i p') := by
  have hi := (List.getElem?_eq_some_iff.1 hp).1
  have hne : ∀ j q, j ≠ i → ps[j]? = some q → ∀ k, k ∈ p'.fp → k ∉ q.fp := fun j q hj hq k hk1 hk2 => by
    rcases hf k hk1 with h1 | h1
    · exact h.apart (Ne.symm hj) hp hq k h1 hk2
    · have := Piece.lt (h.get hq) k hk2; omega
  refine ⟨fun q hq => ?_, fun a b q r hab hq hr k hk1 hk2 => ?_⟩
  · obtain ⟨j, hj⟩ := List.mem_iff_getElem?.1 hq
    by_cases hji : j = i
    · subst hji
      rw [List.getElem?_set_self hi] at hj
      injection hj with hj
      subst hj
      exact hp'
    · rw [List.getElem?_set_ne (Ne.symm hji)] at hj
      exact Piece.kept (h.get hj) hk (h.apart hji hj hp)
  · by_cases ha : a = i
    · subst ha
      rw [List.getElem?_set_self hi] at hq
      injection hq with hq
      subst hq
      rw [List.getElem?_set_ne (by omega)] at hr
      exact hne b r (by omega) hr k hk1 hk2
    · rw [List.getElem?_set_ne (Ne.symm ha)] at hq
      by_cases hb : b = i
      · subst hb
        rw [List.getElem?_set_self hi] at hr
        injection hr with hr
        subst hr
        exact hne a q ha hq k hk2 hk1
      · rw [List.getElem?_set_ne (Ne.symm hb)] at hr
        exact h.2 a b q r hab hq hr k hk1 hk2
/-- All pieces are newer than a world. -/
def Newer (w0 : World) (ps : List Piece) : Prop := ∀ p ∈ ps, ∀ k, k ∈ p.fp → w0.heap.size ≤ k
theorem Newer.turn {w0 w : World} {ps : List Piece} (h : Newer w0 ps) {i : Nat} {p p' : Piece} (hp : ps[i]? = some p) (hw : w0.heap.size ≤ w.heap.size) (hf : ∀ k, k ∈ p'.fp → k ∈ p.fp ∨ w.heap.size ≤ k) : Newer w0 (ps.set i p') := by
  intro q hq k hk
  rcases List.mem_or_eq_of_mem_set hq with h1 | rfl
  · exact h q h1 k hk
  · rcases hf k hk with h2 | h2
    · exact h p (List.mem_of_getElem? hp) k h2
    · omega
/-- A world in which a new piece has turned, kept behind an elder one. -/
theorem Newer.kept {w0 w w' : World} {ps : List Piece} (h : Newer w0 ps) {i : Nat} {p : Piece} (hp : ps[i]? = some p) (h0 : Kept [] w0 w) (hk : Kept p.fp w w') : Kept [] w0 w' :=
  h0.trans' hk (fun k hk' => .inr (h p (List.mem_of_getElem? hp) k hk'))
/-- An elder world, and which of its blocks may have turned. -/
structure Base where
  w : World
  F : List Nat
instance : Coe World Base := ⟨fun w => ⟨w, []⟩⟩
/-- All pieces are newer than an elder world, but for those that may turn. -/
def NewerB (b : Base) (ps : List Piece) : Prop := ∀ p ∈ ps, ∀ k, k ∈ p.fp → k ∈ b.F ∨ b.w.heap.size ≤ k
theorem NewerB.turn {b : Base} {w : World} {ps : List Piece} (h : NewerB b ps) {i : Nat} {p p' : Piece} (hp : ps[i]? = some p) (hw : b.w.heap.size ≤ w.heap.size) (hf : ∀ k, k ∈ p'.fp → k ∈ p.fp ∨ w.heap.size ≤ k) : NewerB b (ps.set i p') := by
  intro q hq k hk
  rcases List.mem_or_eq_of_mem_set hq with h1 | rfl
  · exact h q h1 k hk
  · rcases hf k hk with h2 | h2
    · exact h p (List.mem_of_getElem? hp) k h2
    · exact .inr (by omega)
theorem NewerB.kept {b : Base} {w w' : World} {ps : List Piece} (h : NewerB b ps) {i : Nat} {p : Piece} (hp : ps[i]? = some p) (h0 : Kept b.F b.w w) (hk : Kept p.fp w w') : Kept b.F b.w w' :=
  h0.trans' hk (fun k hk' => h p (List.mem_of_getElem? hp) k hk')
/-- An element of an owned row is stored. -/
theorem Holds.store {w : World} {ps : List Piece} (h : Holds w ps) {i : Nat} {e : TypeId} {g n c : Nat} {xs : List Value} (hp : ps[i]? = some (.row e 1 (.slice (some ⟨g, 0, none⟩) n c) n xs)) (k : Nat) (hk : k < xs.length) (u : Value) : Holds (w.setCell ⟨g, k, none⟩ u) (ps.set i (.row e 1 (.slice (some ⟨g, 0, none⟩) n c) n (xs.set k u))) := by
  have hr : w.ownsRow 0 e 1 (.slice (some ⟨g, 0, none⟩) n c) n xs := h.get hp
  obtain ⟨hs, _⟩ := hr.stored k u
  exact h.turn hp ((Kept.refl _ _).setCell (.inl (by simp [Piece.fp, fp_some])) u) hs (fun q hq => .inl hq)
/-- A cell of a block is stored. -/
theorem Holds.put {w : World} {ps : List Piece} (h : Holds w ps) {i : Nat} {g : Nat} {t : TypeId} {cs : Array Value} (hp : ps[i]? = some (.blk g t cs)) (k : Nat) (u : Value) : Holds (w.setCell ⟨g, k, none⟩ u) (ps.set i (.blk g t (cs.setIfInBounds k u))) :=
  h.turn hp ((Kept.refl _ _).setCell (.inl (by simp [Piece.fp])) u) (Blk.set (h.get hp) k u) (fun q hq => .inl hq)

end Go.Proofs.Ytccodklfplfleaa

/- Rows of elements of k cells each: as lists; copy, append of zeros and clear on a block that is known whole. No program in sight. -/
namespace Go.Proofs.Ytccodklfplfleaa
open Go.RowKit

section
variable {α : Type} (enc : α → List Value) (k : Nat) (hk : ∀ x, (enc x).length = k)
include hk
theorem flatK_len (l : List α) : (l.flatMap enc).length = l.length * k := by
  induction l with
  | nil => simp
  | cons a t ih => rw [List.flatMap_cons, List.length_append, ih, hk, List.length_cons, Nat.add_mul]; omega
theorem flatK_get (l : List α) (i j : Nat) (h : i < l.length) (hj : j < k) : (l.flatMap enc)[i * k + j]? = (enc l[i])[j]? := by
  induction l generalizing i with
  | nil => simp at h
  | cons a t ih =>
    simp only [List.flatMap_cons]
    cases i with
    | zero => rw [List.getElem?_append_left (by rw [hk]; omega)]; simp
    | succ i =>
      rw [List.getElem?_append_right (by rw [hk, Nat.add_mul]; omega), hk, show (i + 1) * k + j - k = i * k + j by rw [Nat.add_mul]; omega, ih i (by simpa using h)]
      simp
theorem Reads.cellsK {w : World} {A : Option Addr} {n : Nat} {l : List α} (h : Reads w k A n (l.flatMap enc)) (hk0 : 0 < k) (h0 : 0 < n) : ∃ b o, A = some ⟨b, o, none⟩ ∧ b < w.heap.size ∧ ∀ i e, l[i]? = some e → ∀ j, j < k → w.cell? ⟨b, o + (i * k + j), none⟩ = (enc e)[j]? := by
  obtain ⟨b, o, rfl, hb, hc⟩ := Reads.addr h h0 hk0
  refine ⟨b, o, rfl, hb, fun i e he j hj => ?_⟩
  obtain ⟨hi, rfl⟩ := List.getElem?_eq_some_iff.1 he
  have h1 := flatK_get enc k hk l i j hi hj
  have h2 : (enc l[i])[j]? = some ((enc l[i])[j]'(by rw [hk]; exact hj)) := List.getElem?_eq_getElem _
  rw [h2]
  exact hc _ _ (h1.trans h2)
theorem Reads.lenK {w : World} {A : Option Addr} {n : Nat} {l : List α} (h : Reads w k A n (l.flatMap enc)) (hk0 : 0 < k) : n = l.length := by
  have := h.1
  rw [flatK_len enc k hk] at this
  exact Nat.eq_of_mul_eq_mul_right hk0 this.symm
end

theorem Blk.setRow {w : World} {g : Nat} {t : TypeId} {cs : Array Value} (h : Blk w g t cs) (cs' : Array Value) : Blk (w.setRow g cs') g t cs' := setRow_heap w g cs cs' t (0, 0) h
theorem Kept.setRow {G : List Nat} {w w' : World} (h : Kept G w w') {g : Nat} (hg : g ∈ G ∨ w.heap.size ≤ g) (cs : Array Value) : Kept G w (w'.setRow g cs) :=
  ⟨h.os, h.tape, h.output, by simpa using h.size, fun k hk hn => (setRow_other w' g k cs (by
    rintro rfl
    rcases hg with hg | hg
    · exact hn hg
    · omega)).trans (h.block k hk hn)⟩

section
variable {P : Program}
end

end Go.Proofs.Ytccodklfplfleaa

