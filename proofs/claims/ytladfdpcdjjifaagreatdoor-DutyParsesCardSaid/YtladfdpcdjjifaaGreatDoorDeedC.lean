/- Package deed: the pieces of Parse; Package deed: the words of a line, taken one by one; Rows of elements of k cells each: as lists; copy, append of zeros and clear on a block that is known whole. No program in sight; Slices of deeds; packages prog and sums, and the document's: Check, cost, Add; Slices of deeds that a call has made; Duties in memory: the cells of a duty, slices of starts, slices of programs. -/
import Derived.Test.YtladfdpcdjjifaaGreatDoorDeedN
import Derived.Test.YtladfdpcdjjifaaGreatDoorNumsB
import Derived.Deep.QuietTactic
import Derived.BigQuiet
import Derived.Test.YtladfdpcdjjifaaGreatDoorMem
import Derived.Laws.CopyRow
import Derived.Lib.AppendZerosOnto
import Derived.Lib.Overlaps
import Derived.Laws.Externs
import Derived.Test.YtladfdpcdjjifaaGreatDoorDeedR4
import Derived.Test.YtladfdpcdjjifaaGreatDoorPlains

/- Package deed: the pieces of Parse. -/
namespace Go.Proofs.YtladfdpcdjjifaaGreatDoor
open Go.RowKit

theorem opOf_lt {w : List UInt8} {k : Nat} (hk : k ≤ 11) (h : ∀ j : Nat, 1 ≤ j → j < k → nameD j ≠ w) (h1 : 1 ≤ k) (hw : nameD k = w) : opOf w = k := by
  subst hw
  have : k = 1 ∨ k = 2 ∨ k = 3 ∨ k = 4 ∨ k = 5 ∨ k = 6 ∨ k = 7 ∨ k = 8 ∨ k = 9 ∨ k = 10 ∨ k = 11 := by omega
  rcases this with rfl | rfl | rfl | rfl | rfl | rfl | rfl | rfl | rfl | rfl | rfl <;> decide
theorem opOf_none {w : List UInt8} (h : ∀ j : Nat, 1 ≤ j → j < 12 → nameD j ≠ w) : opOf w = 0 := by
  unfold opOf
  rw [if_neg (fun e => h 1 (by omega) (by omega) e.symm), if_neg (fun e => h 2 (by omega) (by omega) e.symm), if_neg (fun e => h 3 (by omega) (by omega) e.symm), if_neg (fun e => h 4 (by omega) (by omega) e.symm), if_neg (fun e => h 5 (by omega) (by omega) e.symm), if_neg (fun e => h 6 (by omega) (by omega) e.symm), if_neg (fun e => h 7 (by omega) (by omega) e.symm), if_neg (fun e => h 8 (by omega) (by omega) e.symm), if_neg (fun e => h 9 (by omega) (by omega) e.symm), if_neg (fun e => h 10 (by omega) (by omega) e.symm), if_neg (fun e => h 11 (by omega) (by omega) e.symm)]

set_option maxHeartbeats 800000 in
theorem op_any (l : List UInt8) (w : World) : Calls Tryz.prog 58 #[strV l] w fun e w' => e = .returned (.int .i64 (opOf l)) ∧ w = w' := by
  have HNM := Lib.hid (fun k w => name_any k w)
  go_enter Tryz.func58, Tryz.ntmps58
  go_wp2_with fail
  go_loop [3] (fun kv => ∃ k : Nat, 1 ≤ k ∧ k ≤ 12 ∧ kv = .int .i64 k ∧ Hid (∀ j : Nat, 1 ≤ j → j < k → nameD j ≠ l)) (fun k => 12 - (intOf k).toNat)
  case atStart => exact ⟨1, by omega, by omega, rfl, fun j h1 h2 => by omega⟩
  case round =>
    obtain ⟨k, hk1, hk2, rfl, HJ⟩ := hrel
    by_cases hlt : k ≤ 11
    · by_cases he : nameD k = l
      · have HO := Lib.hid (opOf_lt hlt HJ.out hk1 he)
        have hc : ∀ w, Calls Tryz.prog 82 #[.int .i64 k] w fun e w' => e = .returned (strV l) ∧ w = w' := fun w => by have := HNM.out k w; rw [he] at this; exact this
        have HC := Lib.hid hc
        clear hc he
        go_wp2_with fail
        refine (HC.out _).mono ?_
        rintro e w1 ⟨rfl, rfl⟩
        go_wp2_with fail
        go_ret
        exact ⟨by rw [HO.out]; rfl, rfl⟩
      · obtain ⟨x, hx⟩ : ∃ x, nameD k = x := ⟨_, rfl⟩
        have hb : (x == l) = false := beq_eq_false_iff_ne.2 (hx ▸ he)
        have hc : ∀ w, Calls Tryz.prog 82 #[.int .i64 k] w fun e w' => e = .returned (strV x) ∧ w = w' := fun w => by have := HNM.out k w; rw [hx] at this; exact this
        have HC := Lib.hid hc
        have HN := Lib.hid he
        clear hc he hx
        go_wp2_with fail
        refine (HC.out _).mono ?_
        rintro e w1 ⟨rfl, rfl⟩
        go_wp2_with fail
        go_round
        case rel => exact ⟨k + 1, by omega, by omega, by go_num, fun j h1 h2 => by
          rcases Nat.lt_or_ge j k with h3 | h3
          · exact HJ.out j h1 h3
          · obtain rfl : j = k := by omega
            exact HN.out⟩
        case measure => simp [intOf]; omega
    · obtain rfl : k = 12 := by omega
      have HO := Lib.hid (opOf_none HJ.out)
      go_wp2_with fail
      go_ret
      exact ⟨by rw [HO.out]; rfl, rfl⟩

end Go.Proofs.YtladfdpcdjjifaaGreatDoor

/- Package deed: the words of a line, taken one by one. -/
namespace Go.Proofs.YtladfdpcdjjifaaGreatDoor
open Go.RowKit

/-- The words of a line that are not read yet, at block g. -/
structure IsL (w : World) (g : Nat) (A : Option Addr) (n c : Nat) (ws : List (List UInt8)) (bad : Bool) : Prop where
  blk : Blk w g 96 #[.slice A n c, .bool bad]
  reads : Reads w 1 A n (ws.map strV)
  le : n ≤ c
  cap : c ≤ 9223372036854775807
  far : ∀ ad, A = some ad → ad.block ≠ g

theorem IsL.len {w : World} {g : Nat} {A : Option Addr} {n c : Nat} {ws : List (List UInt8)} {bad : Bool} (h : IsL w g A n c ws bad) : n = ws.length := by have := h.reads.1; simpa using this.symm
theorem IsL.kept {w w' : World} {g : Nat} {A : Option Addr} {n c : Nat} {ws : List (List UInt8)} {bad : Bool} {G : List Nat} (h : IsL w g A n c ws bad) (hk : Kept G w w') (hg : g ∉ G) (hA : ∀ ad, A = some ad → ad.block ∉ G) : IsL w' g A n c ws bad :=
  ⟨h.blk.kept hk hg, h.reads.kept hk hA, h.le, h.cap, h.far⟩
theorem IsL.old {w w' : World} {g : Nat} {A : Option Addr} {n c : Nat} {ws : List (List UInt8)} {bad : Bool} (h : IsL w g A n c ws bad) (hk : Kept [] w w') : IsL w' g A n c ws bad := h.kept hk (by simp) (by simp)

/-- The line at g, with its words at A, has turned into one of these words. -/
def LGoes (w : World) (g : Nat) (A : Option Addr) (ws : List (List UInt8)) (bad : Bool) (w' : World) : Prop :=
  ∃ A' n' c', IsL w' g A' n' c' ws bad ∧ Kept [g] w w' ∧ ∀ ad, A' = some ad → ∃ a0, A = some a0 ∧ ad.block = a0.block

theorem ret_int {k : IntKind} {a b : Int} (h : a = b) : Ending.returned (.int k a) = .returned (.int k b) := by rw [h]

set_option maxHeartbeats 800000 in
theorem next_any (g : Nat) (A : Option Addr) (n c : Nat) (x : List UInt8) (ws : List (List UInt8)) (bad : Bool) (w : World) (h : IsL w g A n c (x :: ws) bad) :
    Calls Tryz.prog 86 #[.pointer (some ⟨g, 0, none⟩)] w fun e w' => e = .returned (strV x) ∧ LGoes w g A ws bad w' := by
  have hlen := h.len
  simp only [List.length_cons] at hlen
  have hn1 : 1 ≤ n := by omega
  obtain ⟨b, o, rfl, hlt, hcell⟩ := h.reads.addr (by omega) (by omega)
  have hc0 := hcell 0 (strV x) (by simp)
  rw [Nat.add_zero] at hc0
  have hne := h.far _ rfl
  simp only at hne
  have hc := h.blk.cell
  have hf := h.blk.frozen
  have hle := h.le
  have hcap := h.cap
  have H := Lib.hid h
  have HLEN := Lib.hid hlen
  have hsl := run_cut_lo (P := Tryz.prog) 34 9 (.string ByteArray.empty) 16 Tryz.underlying34 Tryz.info9 (some ⟨b, o, none⟩) n c .i64 1 1 rfl (by omega)
  have hi0 : (0 : Int) < (n : Int) := by omega
  clear h hcell hlen
  go_enter Tryz.func86, Tryz.ntmps86
  go_wp2_with fail
  go_ret
  refine ⟨rfl, cutA (some ⟨b, o, none⟩) 1 c, n - 1, c - 1, ?_, (Kept.refl _ _).setCell (.inl (by simp)) _, fun ad e => ?_⟩
  · have hk : Kept [g] w (w.setCell ⟨g, 0, none⟩ (.slice (cutA (some ⟨b, o, none⟩) 1 c) (n - 1) (c - 1))) := (Kept.refl _ _).setCell (.inl (by simp)) _
    refine ⟨H.out.blk.set 0 _, ?_, by omega, by omega, fun ad e => ?_⟩
    · have h1 := (H.out.reads.kept hk (fun ad e => by injection e with e; subst e; simpa using hne)).cutA (k := 1) (cap := c) hn1 hle
      simpa using h1
    · obtain ⟨a0, e0, b0⟩ := cutA_block e
      rw [b0]; exact H.out.far a0 e0
  · exact cutA_block e

set_option maxHeartbeats 800000 in
theorem num_any (g : Nat) (A : Option Addr) (n c : Nat) (x : List UInt8) (ws : List (List UInt8)) (bad : Bool) (w : World) (h : IsL w g A n c (x :: ws) bad) (hx : x.length ≤ 1000000) :
    Calls Tryz.prog 83 #[.pointer (some ⟨g, 0, none⟩)] w fun e w' => e = .returned (.int .u64 (readD x).1) ∧ LGoes w g A ws (bad || (readD x).2 != 0) w' := by
  have HN := Lib.hid (next_any g A n c x ws bad w h)
  have HR := Lib.hid (fun w => read_any x w (by omega))
  clear h
  generalize readD x = r at *
  obtain ⟨v, e⟩ := r
  simp only at HR ⊢
  go_enter Tryz.func83, Tryz.ntmps83
  go_wp2_with fail
  refine HN.out.mono ?_
  rintro e1 w1 ⟨rfl, A1, n1, c1, hL1, hk1, hA1⟩
  go_wp2_with fail
  refine (HR.out _).mono ?_
  rintro e2 w2 ⟨rfl, hk2⟩
  have hL2 := hL1.old hk2
  have hc2 := hL2.blk.cell
  have hf2 := hL2.blk.frozen
  have HL2 := Lib.hid hL2
  have HK2 := Lib.hid (hk1.trans (hk2.mono (by simp)))
  have HA1 := Lib.hid hA1
  clear hL1 hk1 hk2 hL2 hA1
  cases bad
  all_goals
    go_wp2_with fail
    go_ret
    refine ⟨rfl, A1, n1, c1, ?_, HK2.out.setCell (.inl (by simp)) _, HA1.out⟩
    refine ⟨HL2.out.blk.set 1 _, HL2.out.reads.kept ((Kept.refl [g] w2).setCell (.inl (by simp)) _) (fun ad e => by simpa using HL2.out.far ad e), HL2.out.le, HL2.out.cap, HL2.out.far⟩

set_option maxHeartbeats 800000 in
theorem hexw_any (g : Nat) (A : Option Addr) (n c : Nat) (x : List UInt8) (ws : List (List UInt8)) (bad : Bool) (w : World) (h : IsL w g A n c (x :: ws) bad) (hx : x.length ≤ 1000000) :
    Calls Tryz.prog 85 #[.pointer (some ⟨g, 0, none⟩)] w fun e w' => e = .returned (.int .u64 (readH x).1) ∧ LGoes w g A ws (bad || (readH x).2 != 0) w' := by
  have HN := Lib.hid (next_any g A n c x ws bad w h)
  have HR := Lib.hid (fun w => readHex_any x w (by omega))
  clear h
  generalize readH x = r at *
  obtain ⟨v, e⟩ := r
  simp only at HR ⊢
  go_enter Tryz.func85, Tryz.ntmps85
  go_wp2_with fail
  refine HN.out.mono ?_
  rintro e1 w1 ⟨rfl, A1, n1, c1, hL1, hk1, hA1⟩
  go_wp2_with fail
  refine (HR.out _).mono ?_
  rintro e2 w1' ⟨rfl, rfl⟩
  have hk2 : Kept [] w1 w1 := Kept.refl _ _
  have hL2 := hL1.old hk2
  have hc2 := hL2.blk.cell
  have hf2 := hL2.blk.frozen
  have HL2 := Lib.hid hL2
  have HK2 := Lib.hid (hk1.trans (hk2.mono (by simp)))
  have HA1 := Lib.hid hA1
  clear hL1 hk1 hk2 hL2 hA1
  cases bad
  all_goals
    go_wp2_with fail
    go_ret
    refine ⟨rfl, A1, n1, c1, ?_, HK2.out.setCell (.inl (by simp)) _, HA1.out⟩
    refine ⟨HL2.out.blk.set 1 _, HL2.out.reads.kept ((Kept.refl [g] w1).setCell (.inl (by simp)) _) (fun ad e => by simpa using HL2.out.far ad e), HL2.out.le, HL2.out.cap, HL2.out.far⟩

set_option maxHeartbeats 800000 in
theorem small_any (g : Nat) (A : Option Addr) (n c : Nat) (x : List UInt8) (ws : List (List UInt8)) (bad : Bool) (w : World) (h : IsL w g A n c (x :: ws) bad) (hx : x.length ≤ 1000000) :
    Calls Tryz.prog 84 #[.pointer (some ⟨g, 0, none⟩)] w fun e w' => e = .returned (.int .i64 ((min (readD x).1 1048576 : Nat) : Int)) ∧ LGoes w g A ws (bad || (readD x).2 != 0) w' := by
  have HN := Lib.hid (num_any g A n c x ws bad w h hx)
  clear h
  have hlt := readD_lt x
  generalize readD x = r at *
  obtain ⟨v, e⟩ := r
  simp only at HN hlt ⊢
  go_enter Tryz.func84, Tryz.ntmps84
  go_wp2_with fail
  refine HN.out.mono ?_
  rintro e1 w1 ⟨rfl, hg⟩
  have HGO := Lib.hid hg
  clear hg
  go_wp2_with fail
  go_ret
  exact ⟨ret_int (by omega), HGO.out⟩

end Go.Proofs.YtladfdpcdjjifaaGreatDoor

/- Rows of elements of k cells each: as lists; copy, append of zeros and clear on a block that is known whole. No program in sight. -/
namespace Go.Proofs.YtladfdpcdjjifaaGreatDoor
open Go.RowKit

section
variable {α : Type} (enc : α → List Value) (k : Nat) (hk : ∀ x, (enc x).length = k)
include hk
theorem flatK_len (l : List α) : (l.flatMap enc).length = l.length * k := by
  induction l with
  | nil => simp
  | cons a t ih => rw [List.flatMap_cons, List.length_append, ih, hk, List.length_cons, Nat.add_mul]; omega
theorem flatK_get (l : List α) (i j : Nat) (h : i < l.length) (hj : j < k) : (l.flatMap enc)[i * k + j]? = (enc l[i])[j]? := by
  induction l generalizing i with
  | nil => simp at h
  | cons a t ih =>
    simp only [List.flatMap_cons]
    cases i with
    | zero => rw [List.getElem?_append_left (by rw [hk]; omega)]; simp
    | succ i =>
      rw [List.getElem?_append_right (by rw [hk, Nat.add_mul]; omega), hk, show (i + 1) * k + j - k = i * k + j by rw [Nat.add_mul]; omega, ih i (by simpa using h)]
      simp
theorem flatK_take (l : List α) (i : Nat) : (l.flatMap enc).take (i * k) = (l.take i).flatMap enc := by
  induction l generalizing i with
  | nil => simp
  | cons a t ih =>
    cases i with
    | zero => simp
    | succ i =>
      rw [List.flatMap_cons, List.take_succ_cons, List.flatMap_cons, ← ih i, List.take_append, hk, List.take_of_length_le (by rw [hk, Nat.add_mul]; omega)]
      congr 2
      rw [Nat.add_mul]; omega
theorem flatK_drop (l : List α) (i : Nat) : (l.flatMap enc).drop (i * k) = (l.drop i).flatMap enc := by
  induction l generalizing i with
  | nil => simp
  | cons a t ih =>
    cases i with
    | zero => simp
    | succ i =>
      rw [List.flatMap_cons, List.drop_succ_cons, ← ih i, List.drop_append, hk, List.drop_of_length_le (by rw [hk, Nat.add_mul]; omega), List.nil_append]
      congr 1
      rw [Nat.add_mul]; omega
theorem Reads.cellsK {w : World} {A : Option Addr} {n : Nat} {l : List α} (h : Reads w k A n (l.flatMap enc)) (hk0 : 0 < k) (h0 : 0 < n) : ∃ b o, A = some ⟨b, o, none⟩ ∧ b < w.heap.size ∧ ∀ i e, l[i]? = some e → ∀ j, j < k → w.cell? ⟨b, o + (i * k + j), none⟩ = (enc e)[j]? := by
  obtain ⟨b, o, rfl, hb, hc⟩ := Reads.addr h h0 hk0
  refine ⟨b, o, rfl, hb, fun i e he j hj => ?_⟩
  obtain ⟨hi, rfl⟩ := List.getElem?_eq_some_iff.1 he
  have h1 := flatK_get enc k hk l i j hi hj
  have h2 : (enc l[i])[j]? = some ((enc l[i])[j]'(by rw [hk]; exact hj)) := List.getElem?_eq_getElem _
  rw [h2]
  exact hc _ _ (h1.trans h2)
theorem Reads.lenK {w : World} {A : Option Addr} {n : Nat} {l : List α} (h : Reads w k A n (l.flatMap enc)) (hk0 : 0 < k) : n = l.length := by
  have := h.1
  rw [flatK_len enc k hk] at this
  exact Nat.eq_of_mul_eq_mul_right hk0 this.symm
end

theorem Blk.setRow {w : World} {g : Nat} {t : TypeId} {cs : Array Value} (h : Blk w g t cs) (cs' : Array Value) : Blk (w.setRow g cs') g t cs' := setRow_heap w g cs cs' t (0, 0) h
theorem Kept.setRow {G : List Nat} {w w' : World} (h : Kept G w w') {g : Nat} (hg : g ∈ G ∨ w.heap.size ≤ g) (cs : Array Value) : Kept G w (w'.setRow g cs) :=
  ⟨h.os, h.tape, h.output, by simpa using h.size, fun k hk hn => (setRow_other w' g k cs (by
    rintro rfl
    rcases hg with hg | hg
    · exact hn hg
    · omega)).trans (h.block k hk hn)⟩

section
variable {P : Program}
theorem run_copy_rowK (w : World) (dT sT ty elem : TypeId) (k g o dLen dCap : Nat) (a : Addr) (sLen sCap : Nat) (cur : Array Value) (t : TypeId) (cs : List Value)
    (hu : P.underlying dT = some (.slice elem)) (hs : (P.info? elem).map (·.size) = some k)
    (hg : Blk w g t cur) (m : Nat) (hm : Nat.min sLen dLen = m) (hn : cs.length = m * k)
    (hsrc : ∀ j v, cs[j]? = some v → w.cell? (a.add j) = some v) (hfit : o + cs.length ≤ cur.size) (h1 : ∀ v ∈ cs, v.oneCell' = true) :
    (Builtin.copy_ #[dT, sT] ty #[.slice (some ⟨g, o, none⟩) dLen dCap, .slice (some a) sLen sCap]).run P w =
      .ok (goInt m) (w.setRow g (cur.toList.take o ++ cs ++ cur.toList.drop (o + cs.length)).toArray) := by
  have hl := run_loadCells_list (P := P) w a cs hsrc
  have hst := run_storeCells_at P g o t cs 0 cur w hg (by simpa using hfit) h1
  cases hq : P.info? elem with
  | none => simp [hq] at hs
  | some i =>
    have hi : i.size = k := by simpa [hq] using hs
    simp [Builtin.copy_, run_underlying hu, Builtin.lenOf, Builtin.firstCells, sizeOf, typeInfo, hq, hi, hm, ← hn, hl, hst]

theorem wp_copy_runK (w : World) {o : Oper} {a : Act} {K : Act → World → Prop} {Q : Exit → Act → World → Prop} (d s : Operand) (t t' : TypeId)
    (ho : o.op = .call { callee := .builtin .copy, args := #[d, s], argTypes := #[t, t'] }) (v u : Value) (hd : a.eval d = v) (hs : a.eval s = u) {v' : Value} {w' : World}
    (hr : (Builtin.copy_ #[t, t'] o.type #[v, u]).run P w = .ok v' w') (h : K (a.put o.dst v') w') : o.wp P a w K Q := by
  unfold Oper.wp execOp
  simp only [ho, resolve, invoke, builtin, Sem.run_bind, Sem.run_pure, Result.andThen_ok, List.map_toArray, List.map_cons, List.map_nil, hd, hs, hr]
  exact h
theorem wpList_copy_runK (w : World) {ops : Array Oper} {rest : List Oper} {o : Oper} {a : Act} {Q : Exit → Act → World → Prop} (hgd : o.guard = none) (d s : Operand) (t t' : TypeId)
    (ho : o.op = .call { callee := .builtin .copy, args := #[d, s], argTypes := #[t, t'] }) (v u : Value) (hd : a.eval d = v) (hs : a.eval s = u) {v' : Value} {w' : World}
    (hr : (Builtin.copy_ #[t, t'] o.type #[v, u]).run P w = .ok v' w') (h : wpList P ops Q rest (a.put o.dst v') w') : wpList P ops Q (o :: rest) a w :=
  wpList_plain hgd fun _ hK => wp_copy_runK w d s t t' ho v u hd hs hr (hK _ _ h)
theorem step_copy_runK {ops : Array Oper} {o : Oper} {a : Act} {w : World} {K : Act → World → Prop} {Q : Exit → Act → World → Prop} {E : Prop}
    (hg : o.guard = none) (d x : Operand) (dT sT : TypeId) (hop : o.op = Op.call { callee := Callee.builtin Builtin.copy, args := #[d, x], argTypes := #[dT, sT] })
    (v u : Value) (hd : a.eval d = v) (hx : a.eval x = u) {v' : Value} {w' : World} (hr : (Builtin.copy_ #[dT, sT] o.type #[v, u]).run P w = .ok v' w') (hK : K (a.put o.dst v') w') :
    if Region.wanted o (yielded ops a.tmps) = true then Oper.wp P o a w K Q else E := by
  have hw : Region.wanted o (yielded ops a.tmps) = true := by simp [Region.wanted, hg]
  rw [if_pos hw]
  exact wp_copy_runK w d x dT sT hop v u hd hx hr hK
theorem step_append_runK {ops : Array Oper} {o : Oper} {a : Act} {w : World} {K : Act → World → Prop} {Q : Exit → Act → World → Prop} {E : Prop}
    (hg : o.guard = none) (d x : Operand) (dT sT : TypeId) (hop : o.op = Op.call { callee := Callee.builtin Builtin.append, args := #[d, x], argTypes := #[dT, sT] })
    (v u : Value) (hd : a.eval d = v) (hx : a.eval x = u) {v' : Value} {w' : World} (hr : (Builtin.append_ #[dT, sT] o.type #[v, u]).run P w = .ok v' w') (hK : K (a.put o.dst v') w') :
    if Region.wanted o (yielded ops a.tmps) = true then Oper.wp P o a w K Q else E := by
  have hw : Region.wanted o (yielded ops a.tmps) = true := by simp [Region.wanted, hg]
  rw [if_pos hw]
  exact Lib.wp_append_run w d x dT sT hop v u hd hx v' w' hr hK

/-- append(s[:i], s[j:]...) on one block: what stood from j on comes to stand at i. -/
theorem run_append_downK (w : World) (t ty e : TypeId) (k g i cap ln c2 : Nat) (cur : Array Value) (off : Nat) (cs : List Value)
    (hu : P.underlying t = some (.slice e)) (hs : (P.info? e).map (·.size) = some k)
    (hg : Blk w g e cur) (hn : cs.length = ln * k) (hsrc : ∀ j v, cs[j]? = some v → cur.toList[off + j]? = some v) (hcap : i + ln ≤ cap) (hfit : i * k + cs.length ≤ cur.size) (h1 : ∀ v ∈ cs, v.oneCell' = true) :
    (Builtin.append_ #[t, t] ty #[.slice (some ⟨g, 0, none⟩) i cap, .slice (some ⟨g, off, none⟩) ln c2]).run P w =
      .ok (.slice (some ⟨g, 0, none⟩) (i + ln) cap) (w.setRow g (cur.toList.take (i * k) ++ cs ++ cur.toList.drop (i * k + cs.length)).toArray) := by
  have hl := run_loadCells_list (P := P) w ⟨g, off, none⟩ cs (fun j v hj => by
    rw [add_mk, hg.cell, ← Array.getElem?_toList]; exact hsrc j v hj)
  have hst := run_storeCells_at P g (i * k) e cs 0 cur w hg (by simpa using hfit) h1
  have ha : (⟨g, 0, none⟩ : Addr).add (i * k) = ⟨g, i * k, none⟩ := by rw [add_mk, Nat.zero_add]
  cases hq : P.info? e with
  | none => simp [hq] at hs
  | some i0 =>
    have hi : i0.size = k := by simpa [hq] using hs
    simp [Builtin.append_, run_underlying hu, Builtin.lenOf, Builtin.firstCells, sizeOf, typeInfo, hq, hi, ← hn, hl, hcap, ha, hst]
end

end Go.Proofs.YtladfdpcdjjifaaGreatDoor

/- Slices of deeds; packages prog and sums, and the document's: Check, cost, Add. -/
namespace Go.Proofs.YtladfdpcdjjifaaGreatDoor
open Go.RowKit

theorem Tryz.info60 : (Tryz.prog.info? 60).map (fun i => (i.zero, i.size, i.bytes)) = some (some (.agg (dC 0 0 0 0 0 0 false)), 7, 56) := by kernel_rfl
theorem Tryz.size60 : (Tryz.prog.info? 60).map (·.size) = some 7 := by kernel_rfl
/-- A deed's cells, as a list. -/
def dL (d : Dd) : List Value := (dC d.op d.a d.b d.r d.n d.mask d.loose).toList
theorem dL_len (d : Dd) : (dL d).length = 7 := rfl
theorem dL_one (d : Dd) : ∀ u ∈ dL d, u.oneCell' = true := by
  intro u hu
  simp [dL] at hu
  rcases hu with rfl | rfl | rfl | rfl | rfl | rfl | rfl <;> rfl
theorem dflat_one (l : List Dd) : ∀ u ∈ l.flatMap dL, u.oneCell' = true := by
  intro u hu
  obtain ⟨x, _, hx⟩ := List.mem_flatMap.1 hu
  exact dL_one x u hx
/-- A slice of deeds. -/
def ReadsD (w : World) (A : Option Addr) (n : Nat) (l : List Dd) : Prop := Reads w 7 A n (l.flatMap dL)
theorem ReadsD.len {w : World} {A : Option Addr} {n : Nat} {l : List Dd} (h : ReadsD w A n l) : n = l.length := Reads.lenK dL 7 dL_len h (by omega)
theorem ReadsD.old {w w' : World} {A : Option Addr} {n : Nat} {l : List Dd} (h : ReadsD w A n l) (hk : Kept [] w w') : ReadsD w' A n l := Reads.old h hk
theorem ReadsD.at_ {w : World} {A : Option Addr} {n : Nat} {l : List Dd} (h : ReadsD w A n l) {k : Nat} (hk : k < l.length) : ∃ (d : Dd) (b o : Nat), A = some ⟨b, o, none⟩ ∧ l[k]? = some d ∧ b < w.heap.size ∧
    w.cell? ⟨b, o + k * 7, none⟩ = some (.int .i64 d.op) ∧ w.cell? ⟨b, o + k * 7 + 1, none⟩ = some (.int .i64 d.a) ∧ w.cell? ⟨b, o + k * 7 + 2, none⟩ = some (.int .i64 d.b) ∧ w.cell? ⟨b, o + k * 7 + 3, none⟩ = some (.int .i64 d.r) ∧
    w.cell? ⟨b, o + k * 7 + 4, none⟩ = some (.int .u64 d.n) ∧ w.cell? ⟨b, o + k * 7 + 5, none⟩ = some (.int .u64 d.mask) ∧ w.cell? ⟨b, o + k * 7 + 6, none⟩ = some (.bool d.loose) := by
  have hn := h.len
  obtain ⟨b, o, rfl, hb, hc⟩ := Reads.cellsK dL 7 dL_len h (by omega) (by omega)
  have hx : l[k]? = some l[k] := List.getElem?_eq_getElem hk
  exact ⟨l[k], b, o, rfl, hx, hb, hc k _ hx 0 (by omega), hc k _ hx 1 (by omega), hc k _ hx 2 (by omega), hc k _ hx 3 (by omega), hc k _ hx 4 (by omega), hc k _ hx 5 (by omega), hc k _ hx 6 (by omega)⟩
theorem take_snoc {l : List Dd} {k : Nat} {d : Dd} (h : l[k]? = some d) : l.take (k + 1) = l.take k ++ [d] := by rw [List.take_add_one, h]; rfl
theorem mem_take_succ {l : List Dd} {k : Nat} {d : Dd} (h : l[k]? = some d) {P : Dd → Prop} (hp : ∀ x ∈ l.take k, P x) (hd : P d) : ∀ x ∈ l.take (k + 1), P x := by
  intro x hx
  rw [take_snoc h] at hx
  rcases List.mem_append.1 hx with hx | hx
  · exact hp x hx
  · simp at hx; subst hx; exact hd

set_option maxHeartbeats 1600000 in
set_option maxRecDepth 100000 in
theorem pcheck_any (A : Option Addr) (n c : Nat) (l : List Dd) (w : World) (hr : ReadsD w A n l) (hn : n ≤ 9223372036854775807) : Calls Tryz.prog 29 #[.slice A n c] w fun e w' => e = .returned (.int .i64 (checkP l)) ∧ Kept [] w w' := by
  obtain rfl := hr.len
  have HR := Lib.hid hr
  clear hr
  by_cases hl : 256 < l.length
  · have HV := Lib.hid (checkP_long hl)
    go_enter Tryz.func29, Tryz.ntmps29
    go_wp2_with fail
    go_ret
    exact ⟨ret_int (by rw [HV.out]; try rfl), Kept.refl _ _⟩
  · have hl2 : l.length ≤ 256 := by omega
    go_enter Tryz.func29, Tryz.ntmps29
    go_wp2_with fail
    go_loopw [10] (fun kv wr => ∃ k : Nat, k ≤ l.length ∧ kv = .int .i64 k ∧ Hid (∀ d ∈ l.take k, goodD d = true) ∧ Hid (Kept [] w wr)) (fun k _ => l.length - (intOf k).toNat)
    case atStart => exact ⟨0, by omega, rfl, (fun d hd => by simp at hd), Kept.refl _ _⟩
    case round =>
      obtain ⟨k, hk1, rfl, HG, HK⟩ := hrel
      by_cases hlt : k < l.length
      · obtain ⟨d, b, o, rfl, hx, hb, hc0, hc1, hc2, hc3, hc4, hc5, hc6⟩ := (HR.out.old HK.out).at_ hlt
        have hi0 : (0 : Int) ≤ (k : Int) := by omega
        have hi1 : (k : Int) < (l.length : Int) := by omega
        have HX := Lib.hid hx
        have HGD := Lib.hid (fun w => good_any d.op d.a d.b d.r d.n d.mask d.loose w)
        obtain ⟨gd, hgd⟩ : ∃ gd, goodD d = gd := ⟨_, rfl⟩
        have HGV := Lib.hid hgd
        obtain ⟨o1, a1, b1, r1, n1, m1, l1⟩ := d
        simp only at hc0 hc1 hc2 hc3 hc4 hc5 hc6 HGD
        rw [hgd] at HGD
        clear hx hgd
        cases gd
        · have HV : Hid (checkP l = 1) := checkP_bad hl2 (List.mem_of_getElem? HX.out) HGV.out
          go_wp2_with fail
          refine (HGD.out _).mono ?_
          rintro e w1 ⟨rfl, hk2⟩
          have HK2 := Lib.hid (((HK.out.alloc _)).trans hk2)
          clear hk2
          go_wp2_with fail
          go_ret
          exact ⟨ret_int (by rw [HV.out]; try rfl), HK2.out⟩
        · go_wp2_with fail
          refine (HGD.out _).mono ?_
          rintro e w1 ⟨rfl, hk2⟩
          have HK2 := Lib.hid (((HK.out.alloc _)).trans hk2)
          clear hk2
          go_wp2_with fail
          go_roundw
          case rel => exact ⟨k + 1, by omega, by go_num, mem_take_succ HX.out HG.out HGV.out, HK2⟩
          case measure => simp [intOf]; omega
      · obtain rfl : k = l.length := by omega
        have HV : Hid (checkP l = 0) := checkP_good hl2 (by have := HG.out; rwa [List.take_of_length_le (Nat.le_refl _)] at this)
        go_wp2_with fail
        go_ret
        exact ⟨ret_int (by rw [HV.out]; try rfl), HK.out⟩

set_option maxHeartbeats 1600000 in
set_option maxRecDepth 100000 in
theorem refCheckP (A : Option Addr) (n c : Nat) (l : List Dd) (w : World) (hr : ReadsD w A n l) (hn : n ≤ 9223372036854775807) : Calls Tryz.prog 41 #[.slice A n c] w fun e w' => e = .returned (.int .i64 (checkP l)) ∧ Kept [] w w' := by
  obtain rfl := hr.len
  have HR := Lib.hid hr
  clear hr
  by_cases hl : 256 < l.length
  · have HV := Lib.hid (checkP_long hl)
    go_enter Tryz.func41, Tryz.ntmps41
    go_wp2_with fail
    go_ret
    exact ⟨ret_int (by rw [HV.out]; try rfl), Kept.refl _ _⟩
  · have hl2 : l.length ≤ 256 := by omega
    go_enter Tryz.func41, Tryz.ntmps41
    go_wp2_with fail
    go_loopw [3] (fun kv wr => ∃ k : Nat, k ≤ l.length ∧ kv = .int .i64 k ∧ Hid (∀ d ∈ l.take k, goodD d = true) ∧ Hid (Kept [] w wr)) (fun k _ => l.length - (intOf k).toNat)
    case atStart => exact ⟨0, by omega, rfl, (fun d hd => by simp at hd), Kept.refl _ _⟩
    case round =>
      obtain ⟨k, hk1, rfl, HG, HK⟩ := hrel
      by_cases hlt : k < l.length
      · obtain ⟨d, b, o, rfl, hx, hb, hc0, hc1, hc2, hc3, hc4, hc5, hc6⟩ := (HR.out.old HK.out).at_ hlt
        have hi0 : (0 : Int) ≤ (k : Int) := by omega
        have hi1 : (k : Int) < (l.length : Int) := by omega
        have HX := Lib.hid hx
        have HGD := Lib.hid (fun w => refGood d.op d.a d.b d.r d.n d.mask d.loose w)
        obtain ⟨gd, hgd⟩ : ∃ gd, goodD d = gd := ⟨_, rfl⟩
        have HGV := Lib.hid hgd
        obtain ⟨o1, a1, b1, r1, n1, m1, l1⟩ := d
        simp only at hc0 hc1 hc2 hc3 hc4 hc5 hc6 HGD
        rw [hgd] at HGD
        clear hx hgd
        cases gd
        · have HV : Hid (checkP l = 1) := checkP_bad hl2 (List.mem_of_getElem? HX.out) HGV.out
          go_wp2_with fail
          refine (HGD.out _).mono ?_
          rintro e w1 ⟨rfl, hk2⟩
          have HK2 := Lib.hid ((HK.out).trans hk2)
          clear hk2
          go_wp2_with fail
          go_ret
          exact ⟨ret_int (by rw [HV.out]; try rfl), HK2.out⟩
        · go_wp2_with fail
          refine (HGD.out _).mono ?_
          rintro e w1 ⟨rfl, hk2⟩
          have HK2 := Lib.hid ((HK.out).trans hk2)
          clear hk2
          go_wp2_with fail
          go_roundw
          case rel => exact ⟨k + 1, by omega, by go_num, mem_take_succ HX.out HG.out HGV.out, HK2⟩
          case measure => simp [intOf]; omega
      · obtain rfl : k = l.length := by omega
        have HV : Hid (checkP l = 0) := checkP_good hl2 (by have := HG.out; rwa [List.take_of_length_le (Nat.le_refl _)] at this)
        go_wp2_with fail
        go_ret
        exact ⟨ret_int (by rw [HV.out]; try rfl), HK.out⟩

end Go.Proofs.YtladfdpcdjjifaaGreatDoor

/- Slices of deeds that a call has made. -/
namespace Go.Proofs.YtladfdpcdjjifaaGreatDoor
open Go.RowKit

/-- A slice of deeds that was made after w. -/
def RowD (w w' : World) (l : List Dd) (A : Option Addr) (n c : Nat) : Prop := w'.ownsRow 0 60 7 (.slice A n c) n (l.flatMap dL) ∧ ∀ k, k ∈ fp (.slice A n c) → w.heap.size ≤ k
theorem RowD.nil (w w' : World) : RowD w w' [] none 0 0 := ⟨World.ownsRow_nil _ _ _ _, by simp [fp, Value.ownBlock]⟩
theorem RowD.kept {w wr w2 : World} {G : List Nat} {l : List Dd} {A : Option Addr} {n c : Nat} (h : RowD w wr l A n c) (hk : Kept G wr w2) (hG : ∀ k, k ∈ G → k < w.heap.size) : RowD w w2 l A n c :=
  ⟨own_kept h.1 hk (fun k hk' hm => by have h1 := h.2 k hk'; have h2 := hG k hm; omega), h.2⟩
theorem RowD.reads {w w' : World} {l : List Dd} {A : Option Addr} {n c : Nat} (h : RowD w w' l A n c) : ReadsD w' A n l := Reads.of_own h.1
theorem RowD.append {w wr w2 : World} {l : List Dd} {d : Dd} {A A' : Option Addr} {n c c' : Nat} (h : RowD w wr l A n c) (hw : w.heap.size ≤ wr.heap.size) (ha : Appended wr w2 60 7 (.slice A n c) (.slice A' (n + 1) c') (n + 1) (l.flatMap dL ++ dL d)) : RowD w w2 (l ++ [d]) A' (n + 1) c' :=
  ⟨by have := ha.1; simpa using this, fun k hk' => by
    rcases ha.2.2 k hk' with h1 | h1
    · exact h.2 k h1
    · omega⟩
theorem reads_dd (w : World) (t : TypeId) (d : Dd) : Reads (w.alloc (.cells (dC d.op d.a d.b d.r d.n d.mask d.loose) t)) 7 (some ⟨w.heap.size, 0, none⟩) 1 (dL d) := by
  refine ⟨by simp [dL_len], fun _ => ⟨_, rfl, fun j u hu => ?_⟩⟩
  rw [add_mk, Nat.zero_add, (Blk.new w t _).cell]
  rw [dL, Array.getElem?_toList] at hu
  exact hu

end Go.Proofs.YtladfdpcdjjifaaGreatDoor

/- Duties in memory: the cells of a duty, slices of starts, slices of programs. -/
namespace Go.Proofs.YtladfdpcdjjifaaGreatDoor
open Go.RowKit

theorem Tryz.info49 : (Tryz.prog.info? 49).map (fun i => (i.zero, i.size, i.bytes)) = some (some (.agg #[.int .i64 0, .int .i64 0, .int .u64 0]), 3, 24) := by kernel_rfl
theorem Tryz.info47 : (Tryz.prog.info? 47).map (fun i => (i.zero, i.size, i.bytes)) = some (some (.slice none 0 0), 1, 24) := by kernel_rfl
/-- A start's cells. -/
def stL (s : St) : List Value := [.int .i64 s.prog, .int .i64 s.grade, .int .u64 s.mask]
theorem stL_len (s : St) : (stL s).length = 3 := rfl
theorem stL_one (s : St) : ∀ u ∈ stL s, u.oneCell' = true := by
  intro u hu
  simp [stL] at hu
  rcases hu with rfl | rfl | rfl <;> rfl
/-- A duty's cells. -/
def uC (d : Du) (A : Option Addr) (n c : Nat) (B : Option Addr) (m e : Nat) : Array Value :=
  #[.int .i64 d.cpus, .int .i64 d.threads, .int .i64 d.locks, .int .i64 d.cap, .int .u64 d.boost, .float .f64 d.keep, .float .f64 d.ratio, .slice A n c, .slice B m e]
/-- A slice of starts. -/
def ReadsS (w : World) (A : Option Addr) (n : Nat) (l : List St) : Prop := Reads w 3 A n (l.flatMap stL)
theorem ReadsS.len {w : World} {A : Option Addr} {n : Nat} {l : List St} (h : ReadsS w A n l) : n = l.length := Reads.lenK stL 3 stL_len h (by omega)
theorem ReadsS.old {w w' : World} {A : Option Addr} {n : Nat} {l : List St} (h : ReadsS w A n l) (hk : Kept [] w w') : ReadsS w' A n l := Reads.old h hk
theorem ReadsS.at_ {w : World} {A : Option Addr} {n : Nat} {l : List St} (h : ReadsS w A n l) {k : Nat} (hk : k < l.length) : ∃ (s : St) (b o : Nat), A = some ⟨b, o, none⟩ ∧ l[k]? = some s ∧ b < w.heap.size ∧
    w.cell? ⟨b, o + k * 3, none⟩ = some (.int .i64 s.prog) ∧ w.cell? ⟨b, o + k * 3 + 1, none⟩ = some (.int .i64 s.grade) ∧ w.cell? ⟨b, o + k * 3 + 2, none⟩ = some (.int .u64 s.mask) := by
  have hn := h.len
  obtain ⟨b, o, rfl, hb, hc⟩ := Reads.cellsK stL 3 stL_len h (by omega) (by omega)
  have hx : l[k]? = some l[k] := List.getElem?_eq_getElem hk
  exact ⟨l[k], b, o, rfl, hx, hb, hc k _ hx 0 (by omega), hc k _ hx 1 (by omega), hc k _ hx 2 (by omega)⟩
/-- A slice of programs. -/
def ReadsPP (w : World) (A : Option Addr) (n : Nat) (l : List (List Dd)) : Prop :=
  ∃ xs : List Value, Reads w 1 A n xs ∧ xs.length = l.length ∧ ∀ (i : Nat) p, l[i]? = some p → ∃ A n c, xs[i]? = some (.slice A n c) ∧ ReadsD w A n p
theorem ReadsPP.len {w : World} {A : Option Addr} {n : Nat} {l : List (List Dd)} (h : ReadsPP w A n l) : n = l.length := by
  obtain ⟨xs, h1, h2, _⟩ := h
  have := h1.1; omega
theorem ReadsPP.old {w w' : World} {A : Option Addr} {n : Nat} {l : List (List Dd)} (h : ReadsPP w A n l) (hk : Kept [] w w') : ReadsPP w' A n l := by
  obtain ⟨xs, h1, h2, h3⟩ := h
  refine ⟨xs, h1.old hk, h2, fun i p hp => ?_⟩
  obtain ⟨A, n, c, e, hr⟩ := h3 i p hp
  exact ⟨A, n, c, e, hr.old hk⟩
theorem ReadsPP.none_ (w : World) : ReadsPP w none 0 [] := ⟨[], Reads.none_, rfl, by simp⟩
theorem ReadsS.none_ (w : World) : ReadsS w none 0 [] := Reads.none_
theorem ReadsPP.at_ {w : World} {A : Option Addr} {n : Nat} {l : List (List Dd)} (h : ReadsPP w A n l) {k : Nat} (hk : k < l.length) : ∃ (p : List Dd) (b o : Nat) (Ai : Option Addr) (ni ci : Nat), A = some ⟨b, o, none⟩ ∧ l[k]? = some p ∧ b < w.heap.size ∧
    w.cell? ⟨b, o + k, none⟩ = some (.slice Ai ni ci) ∧ ReadsD w Ai ni p := by
  have hn := h.len
  obtain ⟨xs, h1, h2, h3⟩ := h
  obtain ⟨b, o, rfl, hb, hc⟩ := h1.addr (by omega) (by omega)
  have hx : l[k]? = some l[k] := List.getElem?_eq_getElem hk
  obtain ⟨Ai, ni, ci, e, hr⟩ := h3 k _ hx
  exact ⟨l[k], b, o, Ai, ni, ci, rfl, hx, hb, hc k _ e, hr⟩
/-- A duty's slices. -/
def IsU (w : World) (d : Du) (A : Option Addr) (n : Nat) (B : Option Addr) (m : Nat) : Prop := ReadsPP w A n d.progs ∧ ReadsS w B m d.starts
theorem IsU.old {w w' : World} {d : Du} {A B : Option Addr} {n m : Nat} (h : IsU w d A n B m) (hk : Kept [] w w') : IsU w' d A n B m := ⟨h.1.old hk, h.2.old hk⟩

/-- A slice of programs that was made after w: the row, and each program's own row. -/
def RowPP (w w' : World) (l : List (List Dd)) (A : Option Addr) (n c : Nat) : Prop :=
  ∃ xs : List Value, w'.ownsRow 0 47 1 (.slice A n c) n xs ∧ (∀ k, k ∈ fp (.slice A n c) → w.heap.size ≤ k) ∧ xs.length = l.length ∧ ∀ (i : Nat) p, l[i]? = some p → ∃ A n c, xs[i]? = some (.slice A n c) ∧ RowD w w' p A n c
theorem RowPP.nil (w w' : World) : RowPP w w' [] none 0 0 := ⟨[], World.ownsRow_nil _ _ _ _, by simp [fp, Value.ownBlock], rfl, by simp⟩
theorem RowPP.reads {w w' : World} {l : List (List Dd)} {A : Option Addr} {n c : Nat} (h : RowPP w w' l A n c) : ReadsPP w' A n l := by
  obtain ⟨xs, h1, h2, h3, h4⟩ := h
  refine ⟨xs, Reads.of_own h1, h3, fun i p hp => ?_⟩
  obtain ⟨A, n, c, e, hr⟩ := h4 i p hp
  exact ⟨A, n, c, e, hr.reads⟩
theorem RowPP.len {w w' : World} {l : List (List Dd)} {A : Option Addr} {n c : Nat} (h : RowPP w w' l A n c) : n = l.length := h.reads.len
theorem RowPP.kept {w wr w2 : World} {G : List Nat} {l : List (List Dd)} {A : Option Addr} {n c : Nat} (h : RowPP w wr l A n c) (hk : Kept G wr w2) (hG : ∀ k, k ∈ G → k < w.heap.size) : RowPP w w2 l A n c := by
  obtain ⟨xs, h1, h2, h3, h4⟩ := h
  refine ⟨xs, own_kept h1 hk (fun k hk' hm => by have h5 := h2 k hk'; have h6 := hG k hm; omega), h2, h3, fun i p hp => ?_⟩
  obtain ⟨A, n, c, e, hr⟩ := h4 i p hp
  exact ⟨A, n, c, e, hr.kept hk hG⟩
/-- Rows of other elements lie elsewhere. -/
theorem own_own_ne {w : World} {b1 b2 : Nat} {e1 e2 : TypeId} {s1 s2 n1 n2 : Nat} {v1 v2 : Value} {x1 x2 : List Value} (h1 : w.ownsRow b1 e1 s1 v1 n1 x1) (h2 : w.ownsRow b2 e2 s2 v2 n2 x2) (hne : e1 ≠ e2) : ∀ k, k ∈ fp v1 → k ∉ fp v2 := by
  intro k hk1 hk2
  rcases h2.2 with ⟨rfl, _⟩ | ⟨g', cap, cur, rfl, _, hh, _⟩
  · simp [fp, Value.ownBlock] at hk2
  · simp [fp, Value.ownBlock] at hk2
    subst hk2
    exact own_blk_ne (g := k) h1 hh hne (mem_fp.1 hk1)
theorem RowPP.append {w wr w2 : World} {l : List (List Dd)} {p : List Dd} {A A' Ap : Option Addr} {n c c' np cp : Nat} (h : RowPP w wr l A n c) (hp : RowD w wr p Ap np cp) (hw : w.heap.size ≤ wr.heap.size)
    (ha : ∀ xs, wr.ownsRow 0 47 1 (.slice A n c) n xs → Appended wr w2 47 1 (.slice A n c) (.slice A' (n + 1) c') (n + 1) (xs ++ [.slice Ap np cp])) : RowPP w w2 (l ++ [p]) A' (n + 1) c' := by
  obtain ⟨xs, h1, h2, h3, h4⟩ := h
  have ha := ha xs h1
  have hkd : ∀ {q : List Dd} {A n c}, RowD w wr q A n c → RowD w w2 q A n c := fun {q A' n' c'} hr => ⟨own_kept hr.1 ha.2.1 (own_own_ne hr.1 h1 (by decide)), hr.2⟩
  refine ⟨_, ha.1, fun k hk' => ?_, by simp [h3], fun i q hq => ?_⟩
  · rcases ha.2.2 k hk' with h5 | h5
    · exact h2 k h5
    · omega
  · rw [List.getElem?_append] at hq
    split at hq
    · rename_i hi
      obtain ⟨A, n, c, e, hr⟩ := h4 i q hq
      exact ⟨A, n, c, by rw [List.getElem?_append_left (by omega)]; exact e, hkd hr⟩
    · rename_i hi
      obtain ⟨hj, he⟩ := List.getElem?_eq_some_iff.1 hq
      simp at hj
      obtain rfl : i = l.length := by omega
      simp at he
      subst he
      exact ⟨Ap, np, cp, by rw [List.getElem?_append_right (by omega)]; simp [h3], hkd hp⟩
/-- A slice of starts that was made after w. -/
def RowS (w w' : World) (l : List St) (A : Option Addr) (n c : Nat) : Prop := w'.ownsRow 0 49 3 (.slice A n c) n (l.flatMap stL) ∧ ∀ k, k ∈ fp (.slice A n c) → w.heap.size ≤ k
theorem RowS.nil (w w' : World) : RowS w w' [] none 0 0 := ⟨World.ownsRow_nil _ _ _ _, by simp [fp, Value.ownBlock]⟩
theorem RowS.kept {w wr w2 : World} {G : List Nat} {l : List St} {A : Option Addr} {n c : Nat} (h : RowS w wr l A n c) (hk : Kept G wr w2) (hG : ∀ k, k ∈ G → k < w.heap.size) : RowS w w2 l A n c :=
  ⟨own_kept h.1 hk (fun k hk' hm => by have h1 := h.2 k hk'; have h2 := hG k hm; omega), h.2⟩
theorem RowS.reads {w w' : World} {l : List St} {A : Option Addr} {n c : Nat} (h : RowS w w' l A n c) : ReadsS w' A n l := Reads.of_own h.1
theorem RowS.len {w w' : World} {l : List St} {A : Option Addr} {n c : Nat} (h : RowS w w' l A n c) : n = l.length := h.reads.len
theorem RowS.append {w wr w2 : World} {l : List St} {d : St} {A A' : Option Addr} {n c c' : Nat} (h : RowS w wr l A n c) (hw : w.heap.size ≤ wr.heap.size) (ha : Appended wr w2 49 3 (.slice A n c) (.slice A' (n + 1) c') (n + 1) (l.flatMap stL ++ stL d)) : RowS w w2 (l ++ [d]) A' (n + 1) c' :=
  ⟨by have := ha.1; simpa using this, fun k hk' => by
    rcases ha.2.2 k hk' with h1 | h1
    · exact h.2 k h1
    · omega⟩
theorem reads_st (w : World) (t : TypeId) (s : St) : Reads (w.alloc (.cells (stL s).toArray t)) 3 (some ⟨w.heap.size, 0, none⟩) 1 (stL s) := by
  refine ⟨by simp [stL_len], fun _ => ⟨_, rfl, fun j u hu => ?_⟩⟩
  rw [add_mk, Nat.zero_add, (Blk.new w t _).cell]
  simpa using hu

end Go.Proofs.YtladfdpcdjjifaaGreatDoor

