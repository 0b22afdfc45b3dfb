/- slices.Insert and slices.Delete at the rows of waiters. -/
import Derived.Test.YtfoeijiejpenpaaGreatDoorProg
import Derived.Test.YtfoeijiejpenpaaGreatDoorRowK
import Derived.Shelf.RegionOpenPlain
namespace Go.Proofs.YtfoeijiejpenpaaGreatDoor
open Go.RowKit

/-- A waiter: its place, its level, when it came. -/
structure WO where
  p : Int
  l : Int
  n : Nat
abbrev oC (p l : Int) (n : Nat) : Array Value := #[.int .i64 p, .int .i64 l, .int .u64 n]
def oL (x : WO) : List Value := [.int .i64 x.p, .int .i64 x.l, .int .u64 x.n]
theorem oL_len (x : WO) : (oL x).length = 3 := rfl
theorem oL_one (x : WO) : ∀ u ∈ oL x, u.oneCell' = true := by
  intro u hu
  simp [oL] at hu
  rcases hu with rfl | rfl | rfl <;> rfl
theorem flat_one (l : List WO) : ∀ u ∈ l.flatMap oL, u.oneCell' = true := by
  intro u hu
  obtain ⟨x, _, hx⟩ := List.mem_flatMap.1 hu
  exact oL_one x u hx
theorem Tryz.info108 : (Tryz.prog.info? 108).map (fun i => (i.zero, i.size, i.bytes)) = some (some (.agg (oC 0 0 0)), 3, 24) := by kernel_rfl
theorem Tryz.size108 : (Tryz.prog.info? 108).map (·.size) = some 3 := by kernel_rfl

/-- A row of waiters that is one's own. -/
def Row (w : World) (v : Value) (l : List WO) : Prop := w.ownsRow 0 108 3 v l.length (l.flatMap oL)
theorem Row.kept {G : List Nat} {w w' : World} {v : Value} {l : List WO} (h : Row w v l) (hk : Kept G w w') (hd : ∀ k, k ∈ fp v → k ∉ G) : Row w' v l := own_kept h hk hd
theorem Row.old {w w' : World} {v : Value} {l : List WO} (h : Row w v l) (hk : Kept [] w w') : Row w' v l := own_kept h hk (by simp)
theorem Row.nil (w : World) : Row w (.slice none 0 0) [] := World.ownsRow_nil _ _ _ _
/-- What a call on a row leaves: another row; but for the old one all is as it was. -/
def RowGoes (w : World) (v : Value) (w' : World) (v' : Value) (l' : List WO) : Prop := Row w' v' l' ∧ Kept (fp v) w w' ∧ ∀ k, k ∈ fp v' → k ∈ fp v ∨ w.heap.size ≤ k
theorem Row.open_ {w : World} {v : Value} {l : List WO} (h : Row w v l) (hl : 0 < l.length) : ∃ g cap cur, v = .slice (some ⟨g, 0, none⟩) l.length cap ∧ Blk w g 108 cur ∧ l.length ≤ cap ∧ cap ≤ maxLen ∧ cur.size = cap * 3 ∧ cur.toList.take (l.length * 3) = l.flatMap oL := by
  rcases h.2 with ⟨_, h0⟩ | ⟨g, cap, cur, hv, _, hb, h1, h2, h3, h4⟩
  · omega
  · exact ⟨g, cap, cur, hv, hb, h1, h2, h3, h4⟩
theorem Row.mk_ {w : World} {g cap : Nat} {cur : Array Value} {l : List WO} (hb : Blk w g 108 cur) (h1 : l.length ≤ cap) (h2 : cap ≤ maxLen) (h3 : cur.size = cap * 3) (h4 : cur.toList.take (l.length * 3) = l.flatMap oL) : Row w (.slice (some ⟨g, 0, none⟩) l.length cap) l :=
  ⟨flatK_len oL 3 oL_len l, .inr ⟨g, cap, cur, rfl, Nat.zero_le _, hb, h1, h2, h3, h4⟩⟩

/-- The address of x[l:], x a slice at A with this capacity, elements of that many cells. -/
def cutK (A : Option Addr) (l cap size : Nat) : Option Addr := if cap = l then A else A.map (·.add (l * size))
theorem run_cutK {P : Program} (t e : TypeId) (size : Nat) (ht : P.underlying t = some (.slice e)) (hs : (P.info? e).map (·.size) = some size) (A : Option Addr) (len cap : Nat) (k : IntKind) (lo : Int) (l : Nat) (hl : lo = l) (h1 : l ≤ len) (w : World) :
    (Instr.slice t (.slice A len cap) (some (.int k lo)) none none).run P w = .ok (.slice (cutK A l cap size) (len - l) (cap - l)) w := by
  subst hl
  cases hq : P.info? e with
  | none => simp [hq] at hs
  | some i =>
    have hi : i.size = size := by simpa [hq] using hs
    simp [Instr.slice, Instr.sliceBounds, Instr.sliceBound, run_underlying ht, sizeOf, typeInfo, hq, hi, asIntOf, h1, cutK]

theorem take_pre {α : Type} {a b : List α} {n : Nat} (h : a.length = n) : (a ++ b).take n = a := by subst h; simp
theorem drop_pre {α : Type} {a b : List α} {n : Nat} (h : a.length = n) : (a ++ b).drop n = b := by subst h; simp
/-- The cells behind an insertion in place. -/
theorem ins_cells (cur : List Value) (l : List WO) (i : Nat) (x : WO) (hi : i ≤ l.length) (hc : l.length * 3 + 3 ≤ cur.length) (h4 : cur.take (l.length * 3) = l.flatMap oL) :
    ((cur.take (i * 3 + 3) ++ (l.drop i).flatMap oL ++ cur.drop (i * 3 + 3 + ((l.drop i).flatMap oL).length)).take (i * 3) ++ oL x ++ (cur.take (i * 3 + 3) ++ (l.drop i).flatMap oL ++ cur.drop (i * 3 + 3 + ((l.drop i).flatMap oL).length)).drop (i * 3 + (oL x).length))
      = (l.take i ++ x :: l.drop i).flatMap oL ++ cur.drop (l.length * 3 + 3) := by
  have hd : ((l.drop i).flatMap oL).length = (l.length - i) * 3 := by rw [flatK_len oL 3 oL_len, List.length_drop]
  have h5 : cur.take (i * 3) = (l.take i).flatMap oL := by
    have h := congrArg (List.take (i * 3)) h4
    rw [flatK_take oL 3 oL_len, List.take_take, Nat.min_eq_left (by omega)] at h
    exact h
  have h6 : (cur.take (i * 3 + 3)).length = i * 3 + 3 := by rw [List.length_take]; omega
  have e1 : (cur.take (i * 3 + 3) ++ (l.drop i).flatMap oL ++ cur.drop (l.length * 3 + 3)).drop (i * 3 + 3) = (l.drop i).flatMap oL ++ cur.drop (l.length * 3 + 3) := by
    rw [List.append_assoc]; exact drop_pre h6
  have e2 : (cur.take (i * 3 + 3) ++ (l.drop i).flatMap oL ++ cur.drop (l.length * 3 + 3)).take (i * 3) = (l.take i).flatMap oL := by
    rw [List.append_assoc, List.take_append, List.take_take, Nat.min_eq_left (by omega), h5, h6, show i * 3 - (i * 3 + 3) = 0 by omega, List.take_zero, List.append_nil]
  rw [hd, oL_len, show i * 3 + 3 + (l.length - i) * 3 = l.length * 3 + 3 by omega, e1, e2, List.flatMap_append, List.flatMap_cons]
  simp only [List.append_assoc]

set_option maxHeartbeats 4000000 in
set_option maxRecDepth 100000 in
theorem insert_any (v : Value) (l : List WO) (i : Nat) (x : WO) (vb c : Nat) (w : World) (h : Row w v l) (hi : i ≤ l.length) (hl : l.length ≤ 100000) (hvb : Blk w vb 108 (oL x).toArray) (hne : vb ∉ fp v) :
    Calls Tryz.prog 113 #[v, .int .i64 i, .slice (some ⟨vb, 0, none⟩) 1 c] w fun e w' => ∃ v', e = .returned v' ∧ RowGoes w v w' v' (l.take i ++ x :: l.drop i) := by
  have hmix : Tryz.prog.follows .mixedOrders = true := by kernel_rfl
  rcases Nat.lt_or_ge i l.length with hlt | hge
  · obtain ⟨g, cap, cur, rfl, hb, hlc, hcm, hcs, h4⟩ := h.open_ (by omega)
    unfold maxLen at hcm
    have hcl : cur.toList.length = cap * 3 := by simpa using hcs
    have hgv : vb ≠ g := by simpa [fp, Value.ownBlock] using hne
    have hsrc : ∀ (W : World), Blk W vb 108 (oL x).toArray → ∀ j u, (oL x)[j]? = some u → W.cell? ((⟨vb, 0, none⟩ : Addr).add j) = some u := fun W hW j u hu => by
      rw [add_mk, Nat.zero_add, hW.cell]; simpa using hu
    have hz0 : ¬ ((i : Int) = (l.length : Int)) := by omega
    by_cases hroom : l.length + 1 ≤ cap
    · -- there is room
      have hdl : ((l.drop i).flatMap oL).length = (l.length - i) * 3 := by rw [flatK_len oL 3 oL_len, List.length_drop]
      have hcp1 : ∀ ty dc sc, (Builtin.copy_ #[87, 87] ty #[.slice (some ⟨g, (i + 1) * 3, none⟩) (l.length - i) dc, .slice (some ⟨g, i * 3, none⟩) (l.length + 1 - i) sc]).run Tryz.prog w.drew = .ok (goInt ((l.length - i : Nat) : Int)) (w.drew.setRow g (cur.toList.take (i * 3 + 3) ++ (l.drop i).flatMap oL ++ cur.toList.drop (i * 3 + 3 + ((l.drop i).flatMap oL).length)).toArray) := fun ty dc sc => by
        have := run_copy_rowK (P := Tryz.prog) w.drew 87 87 ty 108 3 g ((i + 1) * 3) (l.length - i) dc ⟨g, i * 3, none⟩ (l.length + 1 - i) sc cur 108 ((l.drop i).flatMap oL) Tryz.underlying87 Tryz.size108 hb.drew (l.length - i) (by show min _ _ = _; omega) hdl
          (fun j u hu => by
            rw [add_mk, hb.drew.cell, ← Array.getElem?_toList]
            rw [← flatK_drop oL 3 oL_len, List.getElem?_drop, ← h4, List.getElem?_take] at hu
            split at hu
            · exact hu
            · cases hu) (by rw [hdl]; omega) (flat_one _)
        rw [show (i + 1) * 3 = i * 3 + 3 by omega] at this
        rw [show (i + 1) * 3 = i * 3 + 3 by omega]
        exact this
      obtain ⟨W1, hW1⟩ : ∃ W1, W1 = w.drew.setRow g (cur.toList.take (i * 3 + 3) ++ (l.drop i).flatMap oL ++ cur.toList.drop (i * 3 + 3 + ((l.drop i).flatMap oL).length)).toArray := ⟨_, rfl⟩
      rw [← hW1] at hcp1
      have hb1 : Blk W1 g 108 (cur.toList.take (i * 3 + 3) ++ (l.drop i).flatMap oL ++ cur.toList.drop (i * 3 + 3 + ((l.drop i).flatMap oL).length)).toArray := by rw [hW1]; exact hb.drew.setRow _
      have hk1 : Kept [g] w W1 := by rw [hW1]; exact (Kept.refl _ _).drew.setRow (.inl (by simp)) _
      have hv1 : Blk W1 vb 108 (oL x).toArray := hvb.kept hk1 (by simpa using hgv)
      have hcp2 : ∀ ty dc, (Builtin.copy_ #[87, 87] ty #[.slice (some ⟨g, i * 3, none⟩) (l.length + 1 - i) dc, .slice (some ⟨vb, 0, none⟩) 1 c]).run Tryz.prog W1 = .ok (goInt 1) (W1.setRow g ((l.take i ++ x :: l.drop i).flatMap oL ++ cur.toList.drop (l.length * 3 + 3)).toArray) := fun ty dc => by
        have := run_copy_rowK (P := Tryz.prog) W1 87 87 ty 108 3 g (i * 3) (l.length + 1 - i) dc ⟨vb, 0, none⟩ 1 c _ 108 (oL x) Tryz.underlying87 Tryz.size108 hb1 1 (by show min _ _ = _; omega) rfl (hsrc W1 hv1) (by
          simp only [List.size_toArray, List.length_append, hdl, oL_len, List.length_take, Array.length_toList, hcs]; omega) (oL_one x)
        rw [List.toList_toArray, ins_cells cur.toList l i x hi (by simp [hcs]; omega) h4] at this
        exact this
      have hfin : ∀ W2, W2 = W1.setRow g ((l.take i ++ x :: l.drop i).flatMap oL ++ cur.toList.drop (l.length * 3 + 3)).toArray → RowGoes w (.slice (some ⟨g, 0, none⟩) l.length cap) W2 (.slice (some ⟨g, 0, none⟩) (l.length + 1) cap) (l.take i ++ x :: l.drop i) := by
        rintro W2 rfl
        have hll : (l.take i ++ x :: l.drop i).length = l.length + 1 := by simp; omega
        refine ⟨?_, ?_, fun k hk => .inl hk⟩
        · rw [← hll]
          refine Row.mk_ (hb1.setRow _) (by omega) (by unfold maxLen; omega) ?_ ?_
          · rw [List.size_toArray, List.length_append, flatK_len oL 3 oL_len, hll, List.length_drop, hcl]; omega
          · rw [List.toList_toArray, take_pre (flatK_len oL 3 oL_len _)]
        · exact (hk1.mono (by simp [fp, Value.ownBlock])).setRow (.inl (by simp [fp, Value.ownBlock])) _
      have hov : ∀ lb cb, (callFunc 120 #[.slice (some ⟨vb, 0, none⟩) 1 c, .slice (some ⟨g, (i + 1) * 3, none⟩) lb cb]).run Tryz.prog w = .ok (.value (.bool false)) w := fun lb cb => by
        rw [run_callFunc_extern Tryz.func120 (by kernel_rfl) (by kernel_rfl) (by kernel_rfl) (e := Extern.SlicesOverlaps.overlaps #[87, 87] #[4]) (by kernel_rfl),
          Lib.run_overlaps_apart w 87 4 108 Tryz.underlying87 3 (fun _ => by kernel_rfl) ⟨vb, 0, none⟩ ⟨g, (i + 1) * 3, none⟩ 1 c lb cb hgv 108 108 3 cur.size (by unfold Blk at hvb; simp [World.shape?, hvb, oL]) (by unfold Blk at hb; simp [World.shape?, hb]) (by omega) (hvb.frozen 0) (hvb.frozen _)]
        rfl
      have HC1 := Lib.hid hcp1
      have HC2 := Lib.hid hcp2
      have HF := Lib.hid hfin
      have hw1 : IntKind.i64.wrap ((i : Int) + 1) = (i : Int) + 1 := by rw [IntKind.wrap_i64]; omega
      have hb1' : (0 : Int) ≤ (i : Int) + 1 := by omega
      have hin : i ≤ l.length := by omega
      have htn : ((i : Int) + 1).toNat = i + 1 := by omega
      have hb2 : ¬ (cap = i + 1) := by omega
      have hb3 : (i : Int) ≤ (l.length : Int) + 1 := by omega
      have hb4 : ¬ (cap = i) := by omega
      clear h hb h4 hcs hcl hfin hW1 hb1 hk1 hv1 hsrc hdl hvb hne hi
      go_enter Tryz.func113, Tryz.ntmps113
      go_wp2_with (simp only [hov])
      go_region
      go_wp2
      go_ret
      exact ⟨_, rfl, HF.out _ (by simp only [List.flatMap_append, List.flatMap_cons, List.append_assoc])⟩
    · -- there is none: a new row
      obtain rfl : cap = l.length := by omega
      obtain ⟨i0, hi0, hz0, hz1, hz2⟩ := info_parts Tryz.info108
      have hdl : ((l.drop i).flatMap oL).length = (l.length - i) * 3 := by rw [flatK_len oL 3 oL_len, List.length_drop]
      have htl : ((l.take i).flatMap oL).length = i * 3 := by rw [flatK_len oL 3 oL_len, List.length_take, Nat.min_eq_left hi]
      have hrow : ∀ j u, (l.flatMap oL)[j]? = some u → cur[j]? = some u := fun j u hu => by
        rw [← h4, List.getElem?_take] at hu
        split at hu
        · rw [← Array.getElem?_toList]; exact hu
        · cases hu
      have hold : (Builtin.firstCells i0.size i (.slice (some ⟨g, 0, none⟩) i l.length)).run Tryz.prog w.drew = .ok ((l.take i).flatMap oL).toArray w.drew := by
        rw [hz1]
        exact run_firstCells_some w.drew 3 i ⟨g, 0, none⟩ i l.length ((l.take i).flatMap oL) htl (fun j u hu => by
          rw [add_mk, Nat.zero_add, hb.drew.cell]
          refine hrow j u ?_
          rw [← flatK_take oL 3 oL_len, List.getElem?_take] at hu
          split at hu
          · exact hu
          · cases hu)
      have hrz : ∀ ty, (Builtin.append_ #[87, 3] ty #[.slice (some ⟨g, 0, none⟩) i l.length, .int .i64 ((l.length : Int) + 1 - (i : Int))]).run Tryz.prog w =
          .ok (.slice (some ⟨w.heap.size, 0, none⟩) (l.length + 1) (grownCap w (l.length + 1) l.length 108)) (w.drew.alloc (.cells (((l.take i).flatMap oL).toArray ++ Builtin.zeroCells (oC 0 0 0) (l.length + 1 - i) ++ Builtin.zeroCells (oC 0 0 0) (grownCap w (l.length + 1) l.length 108 - (l.length + 1))) 108)) := fun ty => by
        have h := Lib.run_append_grow_zeros w 87 3 ty 108 i0 _ .i64 .i64 Tryz.underlying87 Tryz.underlying3 hi0 hz0 (some ⟨g, 0, none⟩) i l.length ((l.take i).flatMap oL) hold (l.length + 1 - i) (by omega) (by rw [hz1]; omega) (by omega) (by omega) (by rw [hz2]; omega) (by rw [hz2, show i + (l.length + 1 - i) = l.length + 1 by omega]; exact growslice_fits (by omega) (by omega))
        rw [show i + (l.length + 1 - i) = l.length + 1 by omega] at h
        rw [show (l.length : Int) + 1 - (i : Int) = ((l.length + 1 - i : Nat) : Int) by omega]
        exact h
      have hG := grownCap_ge w (l.length + 1) l.length 108
      have hGm := grownCap_le_maxLen w (l.length + 1) l.length 108 (by unfold maxLen; omega)
      unfold maxLen at hGm
      generalize grownCap w (l.length + 1) l.length 108 = G at *
      obtain ⟨ROW, hROW⟩ : ∃ ROW : Array Value, ROW = ((l.take i).flatMap oL).toArray ++ Builtin.zeroCells (oC 0 0 0) (l.length + 1 - i) ++ Builtin.zeroCells (oC 0 0 0) (G - (l.length + 1)) := ⟨_, rfl⟩
      have hRs : ROW.size = G * 3 := by
        rw [hROW]; simp only [Array.size_append, List.size_toArray, htl, Builtin.zeroCells, Array.size_map, Array.size_range]
        show i * 3 + (l.length + 1 - i) * 3 + (G - (l.length + 1)) * 3 = _
        omega
      have hRt : ROW.toList.take (i * 3) = (l.take i).flatMap oL := by
        rw [hROW, Array.toList_append, Array.toList_append, List.append_assoc, List.toList_toArray, take_pre htl]
      have hRl : ROW.toList.length = G * 3 := by simpa using hRs
      rw [← hROW] at hrz
      clear hROW
      obtain ⟨W1, hW1⟩ : ∃ W1, W1 = w.drew.alloc (.cells ROW 108) := ⟨_, rfl⟩
      rw [← hW1] at hrz
      have hb1 : Blk W1 w.heap.size 108 ROW := by rw [hW1]; exact Blk.new w.drew _ _
      have hk1 : Kept [] w W1 := by rw [hW1]; exact (Kept.refl _ _).drew.alloc _
      have hgw := hb.lt
      have hvw := hvb.lt
      have hcp1 : ∀ ty dc, (Builtin.copy_ #[87, 87] ty #[.slice (some ⟨w.heap.size, i * 3, none⟩) (l.length + 1 - i) dc, .slice (some ⟨vb, 0, none⟩) 1 c]).run Tryz.prog W1 = .ok (goInt 1) (W1.setRow w.heap.size ((l.take i).flatMap oL ++ oL x ++ ROW.toList.drop (i * 3 + 3)).toArray) := fun ty dc => by
        have := run_copy_rowK (P := Tryz.prog) W1 87 87 ty 108 3 w.heap.size (i * 3) (l.length + 1 - i) dc ⟨vb, 0, none⟩ 1 c ROW 108 (oL x) Tryz.underlying87 Tryz.size108 hb1 1 (by show min _ _ = _; omega) rfl (hsrc W1 (hvb.kept hk1 (by simp))) (by rw [oL_len, hRs]; omega) (oL_one x)
        rw [hRt, oL_len] at this
        exact this
      obtain ⟨W2, hW2⟩ : ∃ W2, W2 = W1.setRow w.heap.size ((l.take i).flatMap oL ++ oL x ++ ROW.toList.drop (i * 3 + 3)).toArray := ⟨_, rfl⟩
      rw [← hW2] at hcp1
      have hb2 : Blk W2 w.heap.size 108 ((l.take i).flatMap oL ++ oL x ++ ROW.toList.drop (i * 3 + 3)).toArray := by rw [hW2]; exact hb1.setRow _
      have hk2 : Kept [] w W2 := by rw [hW2]; exact hk1.setRow (.inr (Nat.le_refl _)) _
      have hpre : ((l.take i).flatMap oL ++ oL x).length = i * 3 + 3 := by rw [List.length_append, htl, oL_len]
      have hcp2 : ∀ ty dc sc, (Builtin.copy_ #[87, 87] ty #[.slice (some ⟨w.heap.size, (i + 1) * 3, none⟩) (l.length - i) dc, .slice (some ⟨g, i * 3, none⟩) (l.length - i) sc]).run Tryz.prog W2.drew = .ok (goInt ((l.length - i : Nat) : Int)) (W2.drew.setRow w.heap.size ((l.take i).flatMap oL ++ oL x ++ (l.drop i).flatMap oL ++ ROW.toList.drop (l.length * 3 + 3)).toArray) := fun ty dc sc => by
        have := run_copy_rowK (P := Tryz.prog) W2.drew 87 87 ty 108 3 w.heap.size ((i + 1) * 3) (l.length - i) dc ⟨g, i * 3, none⟩ (l.length - i) sc _ 108 ((l.drop i).flatMap oL) Tryz.underlying87 Tryz.size108 hb2.drew (l.length - i) (by show min _ _ = _; omega) hdl
          (fun j u hu => by
            rw [add_mk, (hb.kept hk2 (by simp)).drew.cell]
            refine hrow _ u ?_
            rw [← flatK_drop oL 3 oL_len, List.getElem?_drop] at hu
            exact hu) (by rw [hdl, List.size_toArray, List.length_append, hpre, List.length_drop, hRl]; omega) (flat_one _)
        rw [show (i + 1) * 3 = i * 3 + 3 by omega, List.toList_toArray, take_pre hpre, hdl, show i * 3 + 3 + (l.length - i) * 3 = (i * 3 + 3) + (l.length - i) * 3 by omega, ← List.drop_drop, drop_pre hpre, List.drop_drop, show i * 3 + 3 + (l.length - i) * 3 = l.length * 3 + 3 by omega] at this
        rw [show (i + 1) * 3 = i * 3 + 3 by omega]
        exact this
      have hfin : ∀ W3, W3 = W2.drew.setRow w.heap.size ((l.take i).flatMap oL ++ oL x ++ (l.drop i).flatMap oL ++ ROW.toList.drop (l.length * 3 + 3)).toArray → RowGoes w (.slice (some ⟨g, 0, none⟩) l.length l.length) W3 (.slice (some ⟨w.heap.size, 0, none⟩) (l.length + 1) G) (l.take i ++ x :: l.drop i) := by
        rintro W3 rfl
        have hll : (l.take i ++ x :: l.drop i).length = l.length + 1 := by simp; omega
        have hfl : (l.take i ++ x :: l.drop i).flatMap oL = (l.take i).flatMap oL ++ oL x ++ (l.drop i).flatMap oL := by simp
        refine ⟨?_, ?_, fun k hk => .inr ?_⟩
        · rw [← hll]
          refine Row.mk_ (hb2.drew.setRow _) (by omega) (by unfold maxLen; omega) ?_ ?_
          · rw [List.size_toArray, List.length_append, List.length_append, hpre, hdl, List.length_drop, hRl]; omega
          · rw [List.toList_toArray, ← hfl, take_pre (flatK_len oL 3 oL_len _)]
        · exact (hk2.mono (by simp)).drew.setRow (.inr (Nat.le_refl _)) _
        · simp [fp, Value.ownBlock] at hk; omega
      have HF := Lib.hid hfin
      have hw1 : IntKind.i64.wrap ((i : Int) + 1) = (i : Int) + 1 := by rw [IntKind.wrap_i64]; omega
      have hb1' : (0 : Int) ≤ (i : Int) + 1 := by omega
      have hin : i ≤ l.length := by omega
      have htn : ((i : Int) + 1).toNat = i + 1 := by omega
      have hb2' : ¬ (G = i + 1) := by omega
      have hb3 : (i : Int) ≤ (l.length : Int) + 1 := by omega
      have hb4 : ¬ (G = i) := by omega
      have hb5 : ¬ (l.length = i) := by omega
      have HRZ := Lib.hid hrz
      clear h hb h4 hcs hcl hfin hW1 hb1 hk1 hW2 hb2 hk2 hsrc hdl htl hvb hne hi hrow hold hi0 hz0 hz1 hz2 hRs hRt hRl hpre hrz hgw hvw
      go_enter Tryz.func113, Tryz.ntmps113
      go_wp2_with (at_builtin; refine Lib.wpList_append_run _ rfl _ _ _ _ rfl _ _ rfl rfl _ _ (HRZ.out _) ?_)
      go_region
      go_wp2
      go_ret
      exact ⟨_, rfl, HF.out _ (by simp only [List.append_assoc])⟩
  · -- at the end
    obtain rfl : i = l.length := by omega
    obtain ⟨A, cap, rfl, hnc, hcm⟩ := own_form h
    have hcut : ∀ W, (Instr.slice 87 (.slice A l.length cap) (some (.int .i64 (l.length : Int))) none none).run Tryz.prog W = .ok (.slice (cutK A l.length cap 3) (l.length - l.length) (cap - l.length)) W := fun W => run_cutK (P := Tryz.prog) 87 108 3 Tryz.underlying87 Tryz.size108 A l.length cap .i64 _ l.length rfl (Nat.le_refl _) W
    have hbe : ((l.length : Int) == (l.length : Int)) = true := beq_self_eq_true _
    have HR := Lib.hid h
    have hr : Reads w 3 (some ⟨vb, 0, none⟩) 1 (oL x) := ⟨rfl, fun _ => ⟨_, rfl, fun j u hu => by rw [add_mk, Nat.zero_add, hvb.cell]; simpa using hu⟩⟩
    have HRD := Lib.hid hr
    rw [List.take_of_length_le (Nat.le_refl _), List.drop_of_length_le (Nat.le_refl _)]
    have hfl : (l ++ [x]).flatMap oL = l.flatMap oL ++ oL x := by simp
    have HFL := Lib.hid hfl
    clear h hr hvb hne hi hfl
    go_enter Tryz.func113, Tryz.ntmps113
    go_wp2_with (at_builtin; refine wpList_append_any _ rfl _ _ 87 rfl 108 (.agg (oC 0 0 0)) 3 24 Tryz.underlying87 Tryz.info108 rfl (by decide) _ l.length _ rfl HR.out _ 1 c _ rfl HRD.out (oL_one x) (by simp only [maxLen]; omega) (by omega) ?_; rintro A' c' w1 happ; have HA := Lib.hid happ; clear happ)
    go_ret
    refine ⟨_, rfl, ?_, HA.out.2.1, HA.out.2.2⟩
    unfold Row
    rw [HFL.out, List.length_append]
    exact HA.out.1

end Go.Proofs.YtfoeijiejpenpaaGreatDoor
