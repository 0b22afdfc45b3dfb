/- Package rack: a rack and a work in memory; The works' plain law: how many steps a work may still make; The works' plain law: each step takes one away. -/
import Derived.Test.YtahpjoknmclbfaaDoorPlA
import Derived.Deep.MidRow
import Derived.Laws.Rows

/- Package rack: a rack and a work in memory. -/
namespace Go.Proofs.YtahpjoknmclbfaaDoor
open Go.RowKit

structure WorkS where
  next : Nat
  good : Value
  x : Nat
  level : Nat
  kind : Nat
  op : Value
  src : Nat
  swept : Nat
  full : Bool
  holds : Bool
  there : Bool
  sheds : Bool
  steps : Nat
  done : Bool
  err : Nat
def workC (rb : Nat) (W : WorkS) : Array Value := #[.pointer (some ⟨rb, 0, none⟩), .func (.func W.next) #[] #[], W.good, U64 W.x, .int .i64 W.level, .int .i64 W.kind, W.op, U64 W.src, U64 W.swept, .bool W.full, .bool W.holds, .bool W.there, .bool W.sheds, .int .i64 W.steps, .bool W.done, .int .i64 W.err]
/-- Where the j-th deque stands. -/
def atJ (cap j : Nat) : Nat := 1 + j * (2 + cap)
def rackC (cap : Nat) (s0 s1 : Nat) (turn : Nat) : Array Value := (Value.int .i64 0 :: ((List.range 16).flatMap fun j => [Value.int .i64 (atJ cap j), .int .i64 cap]) ++ [U64 s0, U64 s1, .int .i64 turn]).toArray
theorem rack_at (cap s0 s1 turn j : Nat) (hj : j < 16) : (rackC cap s0 s1 turn)[1 + j * 2]? = some (.int .i64 (atJ cap j)) ∧ (rackC cap s0 s1 turn)[1 + j * 2 + 1]? = some (.int .i64 cap) := by
  have : j = 0 ∨ j = 1 ∨ j = 2 ∨ j = 3 ∨ j = 4 ∨ j = 5 ∨ j = 6 ∨ j = 7 ∨ j = 8 ∨ j = 9 ∨ j = 10 ∨ j = 11 ∨ j = 12 ∨ j = 13 ∨ j = 14 ∨ j = 15 := by omega
  rcases this with rfl | rfl | rfl | rfl | rfl | rfl | rfl | rfl | rfl | rfl | rfl | rfl | rfl | rfl | rfl | rfl <;> exact ⟨rfl, rfl⟩
section
variable {w : World} {rb kb : Nat} {W : WorkS}
set_option maxHeartbeats 1600000 in
theorem kWend_any (H : Blk w kb 57 (workC rb W)) (e : Nat) : Calls Tryd.prog 41 #[.pointer (some ⟨kb, 0, none⟩), .int .i64 e] w fun r w' =>
    r = .returned (.tuple #[]) ∧ Blk w' kb 57 (workC rb { W with done := true, err := e }) ∧ Kept [kb] w w' := by
  have HM := Lib.hid H
  have hf := H.frozen
  have c7 := H.cell 14
  have c8 := H.cell 15
  simp [workC] at c7 c8
  clear H
  go_enter Tryd.func41, Tryd.ntmps41
  go_wp2
  go_end0
  exact ⟨rfl, (HM.out.set 14 _).set 15 _, ((Kept.refl _ w).setCell (.inl (by simp)) _).setCell (.inl (by simp)) _⟩
set_option maxHeartbeats 3200000 in
theorem kWdeque_any {cap s0 s1 turn : Nat} (H : Blk w kb 57 (workC rb W)) (R : Blk w rb 50 (rackC cap s0 s1 turn)) (hk : W.kind < 2) (hl : W.level < 8) : Calls Tryd.prog 36 #[.pointer (some ⟨kb, 0, none⟩)] w fun r w' =>
    r = .returned (.agg #[.int .i64 (atJ cap (W.kind * 8 + W.level)), .int .i64 cap]) ∧ Kept [] w w' := by
  obtain ⟨q1, q2⟩ := rack_at cap s0 s1 turn (W.kind * 8 + W.level) (by omega)
  have c0 := H.cell 0
  have c4 := H.cell 4
  have c5 := H.cell 5
  simp [workC] at c0 c4 c5
  have d1 : w.cell? ⟨rb, 1 + W.kind * 16 + W.level * 2, none⟩ = some (.int .i64 (atJ cap (W.kind * 8 + W.level))) := by
    rw [R.cell, show 1 + W.kind * 16 + W.level * 2 = 1 + (W.kind * 8 + W.level) * 2 by omega]; exact q1
  have d2 : w.cell? ⟨rb, 1 + W.kind * 16 + W.level * 2 + 1, none⟩ = some (.int .i64 cap) := by
    rw [R.cell, show 1 + W.kind * 16 + W.level * 2 + 1 = 1 + (W.kind * 8 + W.level) * 2 + 1 by omega]; exact q2
  generalize atJ cap (W.kind * 8 + W.level) = aj at *
  generalize W.kind = k at *
  generalize W.level = l at *
  have hk0 : (0 : Int) ≤ (k : Int) ∧ (k : Int) < 2 := by omega
  have hl0 : (0 : Int) ≤ (l : Int) ∧ (l : Int) < 8 := by omega
  have hne1 := World.new_ne w ⟨kb, 0, none⟩ c0
  have hne2 := World.new_ne w _ d1
  have hne3 := World.new_ne w _ d2
  have hne4 := World.new_ne w _ c4
  have hne5 := World.new_ne w _ c5
  clear H R q1 q2
  go_enter Tryd.func36, Tryd.ntmps36
  go_wp2_with fail
  go_region_held3 (fun w' => w'.cell? ⟨kb, 0, none⟩ = some (.pointer (some ⟨rb, 0, none⟩)) ∧ w'.cell? ⟨kb, 4, none⟩ = some (.int .i64 l) ∧ w'.cell? ⟨kb, 5, none⟩ = some (.int .i64 k) ∧ w'.cell? ⟨rb, 1 + k * 16 + l * 2, none⟩ = some (.int .i64 aj) ∧ w'.cell? ⟨rb, 1 + k * 16 + l * 2 + 1, none⟩ = some (.int .i64 cap)) (go_keep) (fail)
  all_goals
    go_wp2_with fail
    refine bodyPost_ret (v := .agg #[.int .i64 aj, .int .i64 cap]) (results_cell_row rfl _ _ w.heap.size 45 _ (0, 0) _ rfl (heap_alloc_new w _) Tryd.underlying45 rfl (by kernel_rfl)) rfl ⟨rfl, ((Kept.refl [] w).alloc _).drew⟩
end
end Go.Proofs.YtahpjoknmclbfaaDoor

/- The works' plain law: how many steps a work may still make. -/
namespace Go.Proofs.YtahpjoknmclbfaaDoor
open Go.RowKit

/-- The ends of the 16 deques. -/
def Dq (xs : List Nat) (cap n : Nat) (T B : Nat → Int) : Prop := ∀ j, j < 16 → Ends xs (atJ cap j) cap n (T j) (B j)
theorem atJ_room {cap j : Nat} (hj : j < 16) : atJ cap j + 2 + cap ≤ 1 + 16 * (2 + cap) := by
  have := Nat.mul_le_mul_right (2 + cap) (show j + 1 ≤ 16 by omega)
  rw [Nat.add_mul, Nat.one_mul] at this
  unfold atJ
  omega
theorem atJ_apart {cap i j : Nat} (h : i ≠ j) : atJ cap i + 2 + cap ≤ atJ cap j ∨ atJ cap j + 2 + cap ≤ atJ cap i := by
  unfold atJ
  by_cases hl : i < j
  · have := Nat.mul_le_mul_right (2 + cap) (show i + 1 ≤ j by omega)
    rw [Nat.add_mul, Nat.one_mul] at this
    omega
  · have := Nat.mul_le_mul_right (2 + cap) (show j + 1 ≤ i by omega)
    rw [Nat.add_mul, Nat.one_mul] at this
    omega
theorem atJ_pos (cap j : Nat) : 1 ≤ atJ cap j := by unfold atJ; omega
theorem Ends.same {xs xs' : List Nat} {base cap n m : Nat} {T B : Int} (E : Ends xs base cap n T B) (h0 : xs'.getD base 0 = xs.getD base 0) (h1 : xs'.getD (base + 1) 0 = xs.getD (base + 1) 0) (hm : n ≤ m) : Ends xs' base cap m T B :=
  ⟨h0 ▸ E.top, h1 ▸ E.bot, by have := E.t0; omega, by have := E.b0; omega, E.room⟩
/-- What stands at address 0 is no deque's. -/
theorem Dq.sign {xs : List Nat} {cap n : Nat} {T B : Nat → Int} (D : Dq xs cap n T B) (s m : Nat) (hl : 0 < xs.length) (hm : n ≤ m) : Dq (xs.set 0 s) cap m T B := fun j hj =>
  (D j hj).same (by rw [getD_set _ _ _ _ hl, if_neg (by have := atJ_pos cap j; omega)]) (by rw [getD_set _ _ _ _ hl, if_neg (by omega)]) hm
theorem Dq.later {xs : List Nat} {cap n m : Nat} {T B : Nat → Int} (D : Dq xs cap n T B) (hm : n ≤ m) : Dq xs cap m T B := fun j hj => (D j hj).same rfl rfl hm
theorem dq_turn {xs xs' : List Nat} {cap n j : Nat} {T B : Nat → Int} (D : Dq xs cap n T B) (hj : j < 16) {o o' : OpS} (hb : o.base = atJ cap j) (hc : o.cap = cap) (K : Knows o (T j) (B j)) (hn : n ≤ 100000) (hl : xs.length = 1 + 16 * (2 + cap)) (hcap : 1 ≤ cap ∧ cap ≤ 1000)
    (ht : Turn { o with steps := o.steps + 1 } xs o' xs') : ∃ T' B' : Nat → Int, Dq xs' cap (n + 1) T' B' ∧ Knows o' (T' j) (B' j) ∧ (∀ i, T i ≤ T' i) ∧ (o.kind = 2 → B' = B) ∧ xs'.length = xs.length ∧ xs'.getD 0 0 = xs.getD 0 0 := by
  have hr := atJ_room (cap := cap) hj
  obtain ⟨t, b, E, K', hT, hB, hlen, _, _, _, _, out⟩ := turn_ends (o := o) (o' := o') (xs := xs) (xs' := xs') (n := n) (T := T j) (B := B j) (by rw [hb, hc]; exact D j hj) K hn (by rw [hb, hc]; omega) (by rw [hc]; exact hcap) rfl ht
  rw [hb, hc] at E out
  refine ⟨fun i => if i = j then t else T i, fun i => if i = j then b else B i, fun i hi => ?_, by simpa using K', fun i => ?_, fun h => ?_, hlen, out 0 (.inl (atJ_pos cap j))⟩
  · try dsimp only
    by_cases h : i = j
    · subst h; simpa using E
    · rw [if_neg h, if_neg h]
      have := atJ_apart (cap := cap) h
      exact (D i hi).same (out _ (by omega)) (out _ (by omega)) (by omega)
  · try dsimp only
    by_cases h : i = j
    · subst h; simpa using hT
    · rw [if_neg h]; exact Int.le_refl _
  · funext i
    try dsimp only
    by_cases hi : i = j
    · subst hi; simpa using hB h
    · rw [if_neg hi]
/-- A deque's number, of a work. -/
def jOf (W : WorkS) : Nat := W.kind * 8 + W.level
structure OpAt (cap : Nat) (T B : Nat → Int) (W : WorkS) (o : OpS) (kind most : Nat) : Prop where
  base : o.base = atJ cap (jOf W)
  cap : o.cap = cap
  kind : o.kind = kind
  done : o.done = false
  steps : o.steps ≤ most
  knows : Knows o (T (jOf W)) (B (jOf W))
  b : o.b < 18446744073709551616
  t : o.t < 18446744073709551616
/-- From where a sweep may not go. -/
structure FromAt (W : WorkS) (F : Int) : Prop where
  src : W.src = enc F
  le : -200000 ≤ F ∧ F ≤ 200000
/-- What a work that goes on may still do: r bounds its steps. -/
inductive Wok (cap : Nat) (T B : Nat → Int) (W : WorkS) (o : OpS) (r : Int) : Prop
  | signing (h : W.next = 57) (hr : 1 ≤ r)
  | emptying (h : W.next = 60) (hr : 1 ≤ r)
  | choosing (h : W.next = 30) (hr : 5 ≤ r)
  | reading (h : W.next = 32) (hr : 6 ≤ r)
  | worst (h : W.next = 31) (hw : W.kind = 0) (hr : 7 ≤ r)
  | taking (h : W.next = 44) (O : OpAt cap T B W o 2 3) (hr : 4 - o.steps ≤ r)
  | robbing (h : W.next = 50) (O : OpAt cap T B W o 2 3) (hr : (o.steps ≤ 2 → 5 - o.steps ≤ r) ∧ 1 ≤ r)
  | minding (h : W.next = 66) (O : OpAt cap T B W o 2 3) (hs : o.steps = 3) (hr : 2 ≤ r)
  | popping (h : W.next = 47) (O : OpAt cap T B W o 1 5) (hr : 6 - o.steps ≤ r)
  | push (h : W.next = 35) (hf : W.full = false) (O : OpAt cap T B W o 0 3) (hr : (o.steps ≤ 1 → 9 * cap + 9 - o.steps ≤ r) ∧ 5 - o.steps ≤ r)
  | last (h : W.next = 35) (hf : W.full = true) (O : OpAt cap T B W o 0 3) (hr : 5 - o.steps ≤ r)
  | sweep0 (h : W.next = 55) (hf : W.full = true) (O : OpAt cap T B W o 2 3) (hs : o.steps = 0) (F : Int) (hF : FromAt W F) (hr : 9 * (F - T (jOf W)) + 7 ≤ r ∧ 7 ≤ r)
  | sweep (h : W.next = 55) (hf : W.full = true) (O : OpAt cap T B W o 2 3) (hs : 1 ≤ o.steps) (F t : Int) (hF : FromAt W F) (ht : o.t = enc t ∧ 0 ≤ t ∧ t ≤ T (jOf W) ∧ t < F) (hr : 16 - o.steps + 9 * (F - t - 1) ≤ r)
  | asking (h : W.next = 73) (hf : W.full = true) (F : Int) (hF : FromAt W F) (hr : 9 * (F - T (jOf W)) + 12 ≤ r ∧ 12 ≤ r)
  | again (h : W.next = 91) (hf : W.full = true) (O : OpAt cap T B W o 0 3) (F : Int) (hF : FromAt W F) (hr : 9 * (F - T (jOf W)) + 11 - o.steps ≤ r ∧ 11 - o.steps ≤ r)
/-- A thief's work. -/
def Thief (W : WorkS) : Prop := W.next = 32 ∨ W.next = 50 ∨ W.next = 66
theorem OpAt.rise {cap : Nat} {T B T' B' : Nat → Int} {W : WorkS} {o : OpS} {kind most : Nat} (O : OpAt cap T B W o kind most) (hT : ∀ i, T i ≤ T' i) (hB : B' = B ∨ kind = 2) : OpAt cap T' B' W o kind most := by
  refine ⟨O.base, O.cap, O.kind, O.done, O.steps, ?_, O.b, O.t⟩
  rcases hB with rfl | hB
  · exact O.knows.rise (hT _)
  · exact (O.knows.rise (hT _)).thief (O.kind.trans hB)
theorem Wok.pos {cap : Nat} {T B : Nat → Int} {W : WorkS} {o : OpS} {r : Int} (h : Wok cap T B W o r) : 1 ≤ r := by
  cases h with
  | signing h hr => exact hr
  | emptying h hr => exact hr
  | choosing h hr => omega
  | reading h hr => omega
  | worst h _ hr => omega
  | taking h O hr => have := O.steps; omega
  | robbing h O hr => exact hr.2
  | minding h O hs hr => omega
  | popping h O hr => have := O.steps; omega
  | push h hf O hr => have := O.steps; omega
  | last h hf O hr => have := O.steps; omega
  | sweep0 h hf O hs F hF hr => omega
  | sweep h hf O hs F t hF ht hr => have := O.steps; omega
  | asking h hf F hF hr => omega
  | again h hf O F hF hr => have := O.steps; omega
/-- What others do takes nothing away. -/
theorem Wok.others {cap : Nat} {T B T' B' : Nat → Int} {W : WorkS} {o : OpS} {r : Int} (h : Wok cap T B W o r) (hT : ∀ i, T i ≤ T' i) (hB : B' = B ∨ Thief W) : Wok cap T' B' W o r := by
  have hj := hT (jOf W)
  have no : ∀ {n : Nat}, W.next = n → n ≠ 32 → n ≠ 50 → n ≠ 66 → B' = B := fun h1 h2 h3 h4 => by
    rcases hB with hB | hB | hB | hB
    · exact hB
    · exact absurd (h1.symm.trans hB) h2
    · exact absurd (h1.symm.trans hB) h3
    · exact absurd (h1.symm.trans hB) h4
  cases h with
  | signing h hr => exact .signing h hr
  | emptying h hr => exact .emptying h hr
  | choosing h hr => exact .choosing h hr
  | reading h hr => exact .reading h hr
  | worst h hw hr => exact .worst h hw hr
  | taking h O hr => exact .taking h (O.rise hT (.inr rfl)) hr
  | robbing h O hr => exact .robbing h (O.rise hT (.inr rfl)) hr
  | minding h O hs hr => exact .minding h (O.rise hT (.inr rfl)) hs hr
  | popping h O hr => exact .popping h (O.rise hT (.inl (no h (by decide) (by decide) (by decide)))) hr
  | push h hf O hr => exact .push h hf (O.rise hT (.inl (no h (by decide) (by decide) (by decide)))) hr
  | last h hf O hr => exact .last h hf (O.rise hT (.inl (no h (by decide) (by decide) (by decide)))) hr
  | sweep0 h hf O hs F hF hr => exact .sweep0 h hf (O.rise hT (.inr rfl)) hs F hF ⟨by omega, hr.2⟩
  | sweep h hf O hs F t hF ht hr => exact .sweep h hf (O.rise hT (.inr rfl)) hs F t hF ⟨ht.1, ht.2.1, by omega, ht.2.2.2⟩ hr
  | asking h hf F hF hr => exact .asking h hf F hF ⟨by omega, hr.2⟩
  | again h hf O F hF hr => exact .again h hf (O.rise hT (.inl (no h (by decide) (by decide) (by decide)))) F hF ⟨by omega, hr.2⟩
/-- What a turn comes to, by kinds. -/
theorem turn0 {o o' : OpS} {xs xs' : List Nat} (h : Turn o xs o' xs') (hk : o.kind = 0) : (o'.done = false ∧ o'.steps ≤ 3) ∨ (o'.done = true ∧ ((o'.err = 6 ∧ o'.steps = 2) ∨ (o'.err = 0 ∧ o'.steps = 4))) := by
  cases h <;> simp_all
theorem turn1 {o o' : OpS} {xs xs' : List Nat} (h : Turn o xs o' xs') (hk : o.kind = 1) : o'.done = false → o'.steps ≤ 5 := by
  cases h <;> simp_all
theorem turn2 {o o' : OpS} {xs xs' : List Nat} (h : Turn o xs o' xs') (hk : o.kind = 2) : (o'.done = false ∧ o'.steps ≤ 3) ∨ (o'.done = true ∧ ((o'.err = 7 ∧ o'.steps = 2) ∨ ((o'.err = 0 ∨ o'.err = 8) ∧ o'.steps = 4))) := by
  cases h <;> simp_all
theorem Turn.same {o o' : OpS} {xs xs' : List Nat} (h : Turn o xs o' xs') : o'.base = o.base ∧ o'.cap = o.cap ∧ o'.kind = o.kind ∧ o'.steps = o.steps := by cases h <;> exact ⟨rfl, rfl, rfl, rfl⟩
theorem down_lt (x : Nat) : down x < 18446744073709551616 := by unfold down; omega
attribute [local irreducible] down up in
theorem turn_lt {o o' : OpS} {xs xs' : List Nat} (h : Turn o xs o' xs') (hb : o.b < 18446744073709551616) (ht : o.t < 18446744073709551616) (h0 : xs.getD o.base 0 < 18446744073709551616) (h1 : xs.getD (o.base + 1) 0 < 18446744073709551616) : o'.b < 18446744073709551616 ∧ o'.t < 18446744073709551616 := by
  have hd := down_lt
  generalize 18446744073709551616 = N at *
  cases h <;> (simp only at hb ht h0 h1; exact ⟨by first | exact hb | exact h1 | exact hd _, by first | exact ht | exact h0⟩)
end Go.Proofs.YtahpjoknmclbfaaDoor

/- The works' plain law: each step takes one away. -/
namespace Go.Proofs.YtahpjoknmclbfaaDoor
open Go.RowKit

/-- Whose work it is: 0 a put, 1 a take, 2 a rob, 3 a shed. -/
def famOf (n : Nat) : Nat := if n = 30 ∨ n = 44 ∨ n = 60 then 1 else if n = 32 ∨ n = 50 ∨ n = 66 then 2 else if n = 31 ∨ n = 47 then 3 else 0
theorem Thief.iff {W : WorkS} : Thief W ↔ famOf W.next = 2 := by
  unfold Thief famOf
  constructor
  · rintro (h | h | h) <;> rw [h] <;> decide
  · intro h
    split at h
    · simp at h
    · split at h
      · assumption
      · split at h <;> simp at h
theorem fin {cap : Nat} {T B : Nat → Int} {W W' : WorkS} {o : OpS} {r : Int} {a b : Nat} (h : Wok cap T B W' o r) (hN : W.next = a) (hN' : W'.next = b) (hf : famOf b = famOf a ∧ b ≠ 31) : Wok cap T B W' o r ∧ famOf W'.next = famOf W.next ∧ W'.next ≠ 31 := ⟨h, by rw [hN, hN']; exact hf.1, by rw [hN']; exact hf.2⟩
/-- What a step comes to: its work may make one step less. -/
def Next (cap n : Nat) (xs xs' : List Nat) (T B : Nat → Int) (W W' : WorkS) (o' : OpS) (r : Int) : Prop :=
  ∃ T' B' : Nat → Int, Dq xs' cap (n + 1) T' B' ∧ (∀ i, T i ≤ T' i) ∧ (Thief W → B' = B) ∧ (xs'.length = xs.length ∧ xs'.getD 0 0 = xs.getD 0 0) ∧ (W'.done = false → Wok cap T' B' W' o' (r - 1) ∧ famOf W'.next = famOf W.next ∧ W'.next ≠ 31)
theorem notThief {W : WorkS} {n : Nat} (h : W.next = n) (h2 : n ≠ 32) (h3 : n ≠ 50) (h4 : n ≠ 66) : ¬ Thief W := fun hB => by
  rcases hB with hB | hB | hB
  · exact absurd (h.symm.trans hB) h2
  · exact absurd (h.symm.trans hB) h3
  · exact absurd (h.symm.trans hB) h4
section
variable {cap n : Nat} {xs xs' : List Nat} {T B : Nat → Int} {W W' : WorkS} {o o' : OpS} {r : Int} {kind most : Nat}
/-- What a step of an operation comes to. -/
structure Turned (cap n : Nat) (xs xs' : List Nat) (T B : Nat → Int) (W : WorkS) (o o' : OpS) (kind : Nat) (T' B' : Nat → Int) : Prop where
  dq : Dq xs' cap (n + 1) T' B'
  rise : ∀ i, T i ≤ T' i
  same : kind = 2 → B' = B
  len : xs'.length = xs.length ∧ xs'.getD 0 0 = xs.getD 0 0
  kindE : o'.kind = kind
  stepsE : o'.steps = o.steps + 1
  knows : Knows o' (T' (jOf W)) (B' (jOf W))
  op : ∀ W' most, jOf W' = jOf W → o'.done = false → o'.steps ≤ most → OpAt cap T' B' W' o' kind most
theorem OpAt.turn (D : Dq xs cap n T B) (O : OpAt cap T B W o kind most) (hj : jOf W < 16) (hn : n ≤ 100000) (hl : xs.length = 1 + 16 * (2 + cap)) (hcap : 1 ≤ cap ∧ cap ≤ 1000) (ht : Turn { o with steps := o.steps + 1 } xs o' xs') : ∃ T' B', Turned cap n xs xs' T B W o o' kind T' B' := by
  obtain ⟨T', B', D', K', hT, hB, hlen⟩ := dq_turn D hj O.base O.cap O.knows hn hl hcap ht
  obtain ⟨s1, s2, s3, s4⟩ := ht.same
  simp only at s1 s2 s3 s4
  have E := D _ hj
  obtain ⟨l1, l2⟩ := turn_lt ht O.b O.t (by simp only; rw [O.base, E.top]; exact enc_lt _) (by simp only; rw [O.base, E.bot]; exact enc_lt _)
  exact ⟨T', B', D', hT, fun h => hB (O.kind.trans h), hlen, s3.trans O.kind, s4, K', fun W' m hW hd hs => ⟨by rw [hW, s1]; exact O.base, s2.trans O.cap, s3.trans O.kind, hd, hs, by rw [hW]; exact K', l1, l2⟩⟩
theorem taking_next (D : Dq xs cap n T B) (hN : W.next = 44) (O : OpAt cap T B W o 2 3) (hr : 4 - o.steps ≤ r) (hj : jOf W < 16) (hn : n ≤ 100000) (hl : xs.length = 1 + 16 * (2 + cap)) (hcap : 1 ≤ cap ∧ cap ≤ 1000) (ht : Turn { o with steps := o.steps + 1 } xs o' xs')
    (hW : jOf W' = jOf W) (h1 : o'.done = false → W'.next = 44) (h2 : o'.done = true → W'.done = true ∨ (W'.next = 60 ∧ o'.err = 7)) : Next cap n xs xs' T B W W' o' r := by
  obtain ⟨T', B', U⟩ := O.turn D hj hn hl hcap ht
  have hs := U.stepsE
  refine ⟨T', B', U.dq, U.rise, fun _ => U.same rfl, U.len, fun hd => ?_⟩
  rcases turn2 ht (by simpa using O.kind) with ⟨a1, a2⟩ | ⟨a1, a2⟩
  · exact fin (.taking (h1 a1) (U.op _ _ hW a1 a2) (by omega)) hN (h1 a1) (by decide)
  · rcases h2 a1 with h | ⟨h, h7⟩
    · rw [h] at hd; cases hd
    · exact fin (.emptying h (by omega)) hN h (by decide)
theorem robbing_next (D : Dq xs cap n T B) (hN : W.next = 50) (O : OpAt cap T B W o 2 3) (hr : (o.steps ≤ 2 → 5 - o.steps ≤ r) ∧ 1 ≤ r) (hj : jOf W < 16) (hn : n ≤ 100000) (hl : xs.length = 1 + 16 * (2 + cap)) (hcap : 1 ≤ cap ∧ cap ≤ 1000) (ht : Turn { o with steps := o.steps + 1 } xs o' xs')
    (hW : jOf W' = jOf W) (h1 : o'.done = false → W'.next = if 3 ≤ o.steps + 1 then 66 else 50) (h2 : o'.done = true → W'.done = true) : Next cap n xs xs' T B W W' o' r := by
  obtain ⟨T', B', U⟩ := O.turn D hj hn hl hcap ht
  have hs := U.stepsE
  have hk := turn2 ht (by simpa using O.kind)
  refine ⟨T', B', U.dq, U.rise, fun _ => U.same rfl, U.len, fun hd => ?_⟩
  rcases hk with ⟨a1, a2⟩ | ⟨a1, a2⟩
  · by_cases h3 : 3 ≤ o.steps + 1
    · exact fin (.minding ((h1 a1).trans (if_pos h3)) (U.op _ _ hW a1 a2) (by omega) (by omega)) hN ((h1 a1).trans (if_pos h3)) (by decide)
    · exact fin (.robbing ((h1 a1).trans (if_neg h3)) (U.op _ _ hW a1 a2) (by omega)) hN ((h1 a1).trans (if_neg h3)) (by decide)
  · rw [h2 a1] at hd; cases hd
theorem popping_next (D : Dq xs cap n T B) (hN : W.next = 47) (O : OpAt cap T B W o 1 5) (hr : 6 - o.steps ≤ r) (hj : jOf W < 16) (hn : n ≤ 100000) (hl : xs.length = 1 + 16 * (2 + cap)) (hcap : 1 ≤ cap ∧ cap ≤ 1000) (ht : Turn { o with steps := o.steps + 1 } xs o' xs')
    (hW : jOf W' = jOf W) (h1 : o'.done = false → W'.next = 47) (h2 : o'.done = true → W'.done = true) : Next cap n xs xs' T B W W' o' r := by
  obtain ⟨T', B', U⟩ := O.turn D hj hn hl hcap ht
  have hs := U.stepsE
  have hT := notThief hN (by decide) (by decide) (by decide)
  refine ⟨T', B', U.dq, U.rise, fun h => absurd h hT, U.len, fun hd => ?_⟩
  cases hd' : o'.done with
  | true => rw [h2 hd'] at hd; cases hd
  | false =>
    have a2 := turn1 ht (by simpa using O.kind) hd'
    exact fin (.popping (h1 hd') (U.op _ _ hW hd' a2) (by omega)) hN (h1 hd') (by decide)
/-- A new operation, whose deque nobody has touched. -/
theorem OpAt.new {T B : Nat → Int} {W : WorkS} (kind x : Nat) (hk : kind = 0 ∨ kind = 1 ∨ kind = 2) : OpAt cap T B W ⟨atJ cap (jOf W), cap, kind, 0, 0, 0, x, false, false, 0⟩ kind 0 :=
  ⟨rfl, rfl, rfl, rfl, Nat.le_refl _, ⟨fun _ => ⟨fun h => by simp at h, fun h => by simp at h⟩, fun _ => ⟨fun h => by simp at h, fun h => by simp at h, fun h => by simp at h⟩, fun _ h => by simp at h⟩, by simp, by simp⟩
theorem OpAt.up {most' : Nat} (O : OpAt cap T B W o kind most) (h : most ≤ most') : OpAt cap T B W o kind most' := ⟨O.base, O.cap, O.kind, O.done, Nat.le_trans O.steps h, O.knows, O.b, O.t⟩
/-- A push's step: not full before. -/
theorem push_next (D : Dq xs cap n T B) (hN : W.next = 35) (O : OpAt cap T B W o 0 3) (hr : (o.steps ≤ 1 → 9 * cap + 9 - o.steps ≤ r) ∧ 5 - o.steps ≤ r) (hj : jOf W < 16) (hn : n ≤ 100000) (hl : xs.length = 1 + 16 * (2 + cap)) (hcap : 1 ≤ cap ∧ cap ≤ 1000) (ht : Turn { o with steps := o.steps + 1 } xs o' xs')
    {o2 : OpS} (hW : jOf W' = jOf W) (h1 : o'.done = false → o2 = o' ∧ W'.next = 35 ∧ W'.full = false) (h2 : o'.done = true → o'.err ≠ 6 → W'.done = true ∨ W'.next = 57)
    (h3 : o'.done = true → o'.err = 6 → W'.next = 55 ∧ W'.full = true ∧ W'.src = o'.b ∧ o2 = ⟨atJ cap (jOf W), cap, 2, 0, 0, 0, 0, false, false, 0⟩) : Next cap n xs xs' T B W W' o2 r := by
  obtain ⟨T', B', U⟩ := O.turn D hj hn hl hcap ht
  have hs := U.stepsE
  have hT := notThief hN (by decide) (by decide) (by decide)
  refine ⟨T', B', U.dq, U.rise, fun h => absurd h hT, U.len, fun hd => ?_⟩
  rcases turn0 ht (by simpa using O.kind) with ⟨a1, a2⟩ | ⟨a1, ⟨a2, a3⟩ | ⟨a2, a3⟩⟩
  · obtain ⟨rfl, g1, g2⟩ := h1 a1
    exact fin (.push g1 g2 (U.op _ _ hW a1 a2) (by omega)) hN g1 (by decide)
  · obtain ⟨g1, g2, g3, rfl⟩ := h3 a1 a2
    have hb : o'.b = enc (B' (jOf W)) := (U.knows.1 U.kindE).1 (by omega) (by omega)
    have E := U.dq _ hj
    have e1 := E.room
    have e2 := E.b0
    refine fin (.sweep0 g1 g2 (hW ▸ (OpAt.new (W := W') 2 0 (by simp)).up (by omega)) rfl (B' (jOf W)) ⟨g3.trans hb, by omega⟩ ?_) hN g1 (by decide)
    rw [hW]
    constructor <;> omega
  · rcases h2 a1 (by omega) with h | h
    · rw [h] at hd; cases hd
    · exact fin (.signing h (by omega)) hN h (by decide)
/-- The last push's step. -/
theorem last_next (D : Dq xs cap n T B) (hN : W.next = 35) (O : OpAt cap T B W o 0 3) (hr : 5 - o.steps ≤ r) (hj : jOf W < 16) (hn : n ≤ 100000) (hl : xs.length = 1 + 16 * (2 + cap)) (hcap : 1 ≤ cap ∧ cap ≤ 1000) (ht : Turn { o with steps := o.steps + 1 } xs o' xs')
    (hW : jOf W' = jOf W) (h1 : o'.done = false → W'.next = 35 ∧ W'.full = true) (h2 : o'.done = true → W'.done = true ∨ (W'.next = 57 ∧ o'.err ≠ 6)) : Next cap n xs xs' T B W W' o' r := by
  obtain ⟨T', B', U⟩ := O.turn D hj hn hl hcap ht
  have hs := U.stepsE
  have hT := notThief hN (by decide) (by decide) (by decide)
  refine ⟨T', B', U.dq, U.rise, fun h => absurd h hT, U.len, fun hd => ?_⟩
  rcases turn0 ht (by simpa using O.kind) with ⟨a1, a2⟩ | ⟨a1, a2⟩
  · exact fin (.last (h1 a1).1 (h1 a1).2 (U.op _ _ hW a1 a2) (by omega)) hN (h1 a1).1 (by decide)
  · rcases h2 a1 with h | ⟨h, h6⟩
    · rw [h] at hd; cases hd
    · exact fin (.signing h (by omega)) hN h (by decide)
/-- The step of a push of a swept word. -/
theorem again_next (D : Dq xs cap n T B) (hN : W.next = 91) (O : OpAt cap T B W o 0 3) {F : Int} (hF : FromAt W F) (hr : 9 * (F - T (jOf W)) + 11 - o.steps ≤ r ∧ 11 - o.steps ≤ r) (hj : jOf W < 16) (hn : n ≤ 100000) (hl : xs.length = 1 + 16 * (2 + cap)) (hcap : 1 ≤ cap ∧ cap ≤ 1000) (ht : Turn { o with steps := o.steps + 1 } xs o' xs')
    {o2 : OpS} (hW : jOf W' = jOf W) (hf : W'.full = true) (hsrc : W'.src = W.src) (h1 : o'.done = false → o2 = o' ∧ W'.next = 91)
    (h2 : o'.done = true → W'.next = 55 ∧ o2 = ⟨atJ cap (jOf W), cap, 2, 0, 0, 0, 0, false, false, 0⟩) : Next cap n xs xs' T B W W' o2 r := by
  obtain ⟨T', B', U⟩ := O.turn D hj hn hl hcap ht
  have hs := U.stepsE
  have hTj := U.rise (jOf W)
  have hst := O.steps
  have hT := notThief hN (by decide) (by decide) (by decide)
  have hF' : FromAt W' F := ⟨hsrc.trans hF.src, hF.le⟩
  refine ⟨T', B', U.dq, U.rise, fun h => absurd h hT, U.len, fun hd => ?_⟩
  cases hd' : o'.done with
  | false =>
    obtain ⟨rfl, g1⟩ := h1 hd'
    have a2 : o2.steps ≤ 3 := by
      rcases turn0 ht (by simpa using O.kind) with ⟨_, a2⟩ | ⟨a1, _⟩
      · exact a2
      · rw [hd'] at a1; cases a1
    refine fin (.again g1 hf (U.op _ _ hW hd' a2) F hF' ?_) hN g1 (by decide)
    rw [hW]
    constructor <;> omega
  | true =>
    obtain ⟨g1, rfl⟩ := h2 hd'
    refine fin (.sweep0 g1 hf (hW ▸ (OpAt.new (W := W') 2 0 (by simp)).up (by omega)) rfl F hF' ?_) hN g1 (by decide)
    rw [hW]
    constructor <;> omega
/-- A steal that found one, or came too late: the top has passed. -/
theorem adv {T' B' : Nat → Int} {m j : Nat} {t : Int} {o1 : OpS} (D : Dq xs' cap m T' B') (hj : j < 16) (hm : m ≤ 200000) (hb : o1.base = atJ cap j) (hl : xs.length = 1 + 16 * (2 + cap)) (ht : Turn o1 xs o' xs') (hk : o1.kind = 2) (hs : o1.steps = 4) (he : o1.t = enc t) (h0 : 0 ≤ t ∧ t ≤ T' j) : t + 1 ≤ T' j := by
  have E := D j hj
  have e1 := E.top
  have e2 := E.t0
  have hr := atJ_room (cap := cap) hj
  cases ht with
  | steal4Y h =>
    simp only at hb he
    rw [← hb, getD_set _ _ _ _ (by omega), if_pos rfl, he, up_enc] at e1
    have := enc_inj (by omega) e1
    omega
  | steal4N h =>
    simp only at hb he
    rw [he, hb, e1] at h
    have : T' j ≠ t := fun h2 => h (by rw [h2])
    omega
  | _ => simp_all
/-- A sweep's first step. -/
theorem sweep1_next (D : Dq xs cap n T B) (hN : W.next = 55) (O : OpAt cap T B W o 2 3) (hs0 : o.steps = 0) {F : Int} (hF : FromAt W F) (hr : 9 * (F - T (jOf W)) + 7 ≤ r ∧ 7 ≤ r) (hj : jOf W < 16) (hn : n ≤ 100000) (hl : xs.length = 1 + 16 * (2 + cap)) (hcap : 1 ≤ cap ∧ cap ≤ 1000) (ht : Turn { o with steps := o.steps + 1 } xs o' xs')
    {o2 : OpS} (hW : jOf W' = jOf W) (hf : W'.full = true) (hsrc : W'.src = W.src) (h1 : ¬ ahd W.src o'.t ≤ 0 → o2 = o' ∧ W'.next = 55)
    (h2 : ahd W.src o'.t ≤ 0 → W'.next = 35 ∧ ∃ x, o2 = ⟨atJ cap (jOf W), cap, 0, 0, 0, 0, x, false, false, 0⟩) : Next cap n xs xs' T B W W' o2 r := by
  obtain ⟨T', B', U⟩ := O.turn D hj hn hl hcap ht
  have hs := U.stepsE
  have hTj := U.rise (jOf W)
  have hT := notThief hN (by decide) (by decide) (by decide)
  have hF' : FromAt W' F := ⟨hsrc.trans hF.src, hF.le⟩
  have E := D _ hj
  have e2 := E.t0
  have hle := hF.le
  have hot : o'.t = enc (T (jOf W)) := by
    rw [← E.top, ← O.base]
    have hk2 : o.kind = 2 := O.kind
    have h1 : o.steps + 1 = 1 := by omega
    clear h1 h2 U hs hTj hT hF'
    generalize ho1 : { o with steps := o.steps + 1 } = o1 at ht
    have : o1.kind = 2 := by rw [← ho1]; exact hk2
    have : o1.steps = 1 := by rw [← ho1]; simp only; omega
    have : o1.base = o.base := by rw [← ho1]
    cases ht <;> simp_all
  have hdn : o'.done = false := by
    rcases turn2 ht (by simpa using O.kind) with ⟨a1, _⟩ | ⟨a1, a2⟩
    · exact a1
    · omega
  have hah : ahd W.src o'.t = F - T (jOf W) := by rw [hF.src, hot, ahd_enc _ _ (by omega)]
  rw [hah] at h1 h2
  refine ⟨T', B', U.dq, U.rise, fun h => absurd h hT, U.len, fun hd => ?_⟩
  by_cases hc : F - T (jOf W) ≤ 0
  · obtain ⟨g1, x, rfl⟩ := h2 hc
    exact fin (.last g1 hf (hW ▸ (OpAt.new (W := W') 0 x (by simp)).up (by omega)) (by simp only; omega)) hN g1 (by decide)
  · obtain ⟨rfl, g1⟩ := h1 hc
    refine fin (.sweep g1 hf (U.op _ _ hW hdn (by omega)) (by omega) F (T (jOf W)) hF' ⟨hot, by omega, by rw [hW]; omega, by omega⟩ (by omega)) hN g1 (by decide)
/-- A sweep's later steps. -/
theorem sweep_next (D : Dq xs cap n T B) (hN : W.next = 55) (O : OpAt cap T B W o 2 3) (hs1 : 1 ≤ o.steps) {F t : Int} (hF : FromAt W F) (hte : o.t = enc t ∧ 0 ≤ t ∧ t ≤ T (jOf W) ∧ t < F) (hr : 16 - o.steps + 9 * (F - t - 1) ≤ r) (hj : jOf W < 16) (hn : n ≤ 100000) (hl : xs.length = 1 + 16 * (2 + cap)) (hcap : 1 ≤ cap ∧ cap ≤ 1000) (ht : Turn { o with steps := o.steps + 1 } xs o' xs')
    {o2 : OpS} (hW : jOf W' = jOf W) (hf : W'.full = true) (hsrc : W'.src = W.src) (h1 : o'.done = false → o2 = o' ∧ W'.next = 55)
    (h2 : o'.done = true → o'.err = 7 → W'.next = 35 ∧ ∃ x, o2 = ⟨atJ cap (jOf W), cap, 0, 0, 0, 0, x, false, false, 0⟩)
    (h3 : o'.done = true → o'.err = 8 → W'.next = 55 ∧ o2 = ⟨atJ cap (jOf W), cap, 2, 0, 0, 0, 0, false, false, 0⟩)
    (h4 : o'.done = true → o'.err = 0 → W'.next = 73) : Next cap n xs xs' T B W W' o2 r := by
  obtain ⟨T', B', U⟩ := O.turn D hj hn hl hcap ht
  have hs := U.stepsE
  have hst := O.steps
  have hTj := U.rise (jOf W)
  have hT := notThief hN (by decide) (by decide) (by decide)
  have hF' : FromAt W' F := ⟨hsrc.trans hF.src, hF.le⟩
  refine ⟨T', B', U.dq, U.rise, fun h => absurd h hT, U.len, fun hd => ?_⟩
  rcases turn2 ht (by simpa using O.kind) with ⟨a1, a2⟩ | ⟨a1, ⟨a2, a3⟩ | ⟨a2, a3⟩⟩
  · obtain ⟨rfl, g1⟩ := h1 a1
    have hot : o2.t = o.t := by
      have hk2 : o.kind = 2 := O.kind
      clear h1 h2 h3 h4 U hs hTj hT hF'
      generalize ho1 : { o with steps := o.steps + 1 } = o1 at ht
      have q1 : o1.kind = 2 := by rw [← ho1]; exact hk2
      have q2 : o1.steps = o.steps + 1 := by rw [← ho1]
      have q3 : o1.t = o.t := by rw [← ho1]
      cases ht <;> simp_all
    exact fin (.sweep g1 hf (U.op _ _ hW a1 a2) (by omega) F t hF' ⟨hot.trans hte.1, hte.2.1, by rw [hW]; omega, hte.2.2.2⟩ (by omega)) hN g1 (by decide)
  · obtain ⟨g1, x, rfl⟩ := h2 a1 a2
    exact fin (.last g1 hf (hW ▸ (OpAt.new (W := W') 0 x (by simp)).up (by omega)) (by simp only; omega)) hN g1 (by decide)
  · have ha := adv (t := t) U.dq hj (by omega) (by simpa using O.base) hl ht (by simpa using O.kind) (by simp only; omega) (by simpa using hte.1) ⟨hte.2.1, by omega⟩
    rcases a2 with a2 | a2
    · refine fin (.asking (h4 a1 a2) hf F hF' ?_) hN (h4 a1 a2) (by decide)
      rw [hW]
      constructor <;> omega
    · obtain ⟨g1, rfl⟩ := h3 a1 a2
      refine fin (.sweep0 g1 hf (hW ▸ (OpAt.new (W := W') 2 0 (by simp)).up (by omega)) rfl F hF' ?_) hN g1 (by decide)
      rw [hW]
      constructor <;> omega
end
end Go.Proofs.YtahpjoknmclbfaaDoor

