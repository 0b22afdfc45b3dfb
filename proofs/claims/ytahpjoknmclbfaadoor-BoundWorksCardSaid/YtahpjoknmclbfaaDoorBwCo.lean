/- Law 36: four workers at a rack: what a step and a beginning keep. -/
import Derived.Test.YtahpjoknmclbfaaDoorStN
namespace Go.Proofs.YtahpjoknmclbfaaDoor
open Go.RowKit

/-- Four cells. -/
def arr (f : Nat → Value) : Array Value := #[f 0, f 1, f 2, f 3]
theorem arr_get (f : Nat → Value) (k : Nat) (hk : k < 4) : (arr f)[k]? = some (f k) := by
  have : k = 0 ∨ k = 1 ∨ k = 2 ∨ k = 3 := by omega
  rcases this with rfl | rfl | rfl | rfl <;> rfl
theorem arr_set (f : Nat → Value) (k : Nat) (hk : k < 4) (u : Value) : (arr f).setIfInBounds k u = arr (fun j => if j = k then u else f j) := by
  have : k = 0 ∨ k = 1 ∨ k = 2 ∨ k = 3 := by omega
  rcases this with rfl | rfl | rfl | rfl <;> rfl
theorem arr_congr {f g : Nat → Value} (h : ∀ k, k < 4 → f k = g k) : arr f = arr g := by
  unfold arr
  rw [h 0 (by omega), h 1 (by omega), h 2 (by omega), h 3 (by omega)]
def ptrOf (o : Option VS) : Value := .pointer (o.map fun v => ⟨v.kb, 0, none⟩)
def put4 {α : Type} (f : Nat → α) (k : Nat) (u : α) : Nat → α := fun j => if j = k then u else f j
theorem put4_same {α : Type} (f : Nat → α) (k : Nat) (u : α) : put4 f k u k = u := by simp [put4]
theorem put4_other {α : Type} (f : Nat → α) {j k : Nat} (u : α) (h : j ≠ k) : put4 f k u j = f j := by simp [put4, h]
structure WorkOk (w wr : World) (rb cap : Nat) (g : GS) (k : Nat) (v : VS) (r : Int) (m : Nat) : Prop where
  mem : Wmem wr rb v
  live : Live cap g v r
  bound : (v.W.steps : Int) + r ≤ m ∧ m ≤ 1000
  thief : 1 ≤ k → Thief v.W
  new : w.heap.size ≤ v.kb ∧ w.heap.size ≤ v.ob
  good : famOf v.W.next = 0 ∨ famOf v.W.next = 2 → GoodAt w.heap.size wr v.W.good
  hop : v.W.next = 31 → v.W.op = .pointer none
structure Core (w wr : World) (mb wb rb cap i : Nat) (g : GS) (vs : Nat → Option VS) (rs : Nat → Int) (ms : Nat → Nat) : Prop where
  mach : Mach wr mb wb rb cap g
  n : g.n ≤ i
  kept : Kept [] w wr
  new : w.heap.size ≤ mb ∧ w.heap.size ≤ wb ∧ w.heap.size ≤ rb
  work : ∀ k, k < 4 → ∀ v, vs k = some v → WorkOk w wr rb cap g k v (rs k) (ms k)
  apart : ∀ j k, j < 4 → k < 4 → j ≠ k → ∀ u v, vs j = some u → vs k = some v → u.kb ≠ v.kb ∧ u.ob ≠ v.ob ∧ u.kb ≠ v.ob ∧ u.ob ≠ v.kb
section
variable {w wr : World} {mb wb rb cap i : Nat} {g : GS} {vs : Nat → Option VS} {rs : Nat → Int} {ms : Nat → Nat}
theorem Wmem.lt {v : VS} (V : Wmem wr rb v) : v.kb < wr.heap.size ∧ v.ob < wr.heap.size := by
  refine ⟨V.work.lt, ?_⟩
  rcases V.op with ⟨_, h, _⟩ | ⟨_, h⟩
  · rw [h]; exact V.work.lt
  · exact h.lt
/-- What a work's blocks are. -/
theorem Wmem.kinds {v : VS} (V : Wmem wr rb v) {b : Nat} {t : TypeId} {cs : Array Value} (h : Blk wr b t cs) (h1 : t ≠ 57) (h2 : t ≠ 88) : b ≠ v.kb ∧ b ≠ v.ob := by
  refine ⟨h.ne V.work h1, ?_⟩
  rcases V.op with ⟨_, h', _⟩ | ⟨_, h'⟩
  · rw [h']; exact h.ne V.work h1
  · exact h.ne h' h2
theorem Wmem.kept {w' : World} {Gs : List Nat} {v : VS} (V : Wmem wr rb v) (hk : Kept Gs wr w') (h1 : v.kb ∉ Gs) (h2 : v.ob ∉ Gs) : Wmem w' rb v := by
  refine ⟨V.work.kept hk h1, ?_⟩
  rcases V.op with h | ⟨h, h'⟩
  · exact .inl h
  · exact .inr ⟨h, h'.kept hk h2⟩
theorem WorkOk.kept {w' : World} {Gs : List Nat} {k : Nat} {v : VS} {r : Int} {m : Nat} (W : WorkOk w wr rb cap g k v r m) (hk : Kept Gs wr w') (h1 : v.kb ∉ Gs) (h2 : v.ob ∉ Gs) (hG : ∀ q, q ∈ Gs → w.heap.size ≤ q ∧ ∃ t cs, Blk wr q t cs ∧ t ≠ 31) : WorkOk w w' rb cap g k v r m :=
  ⟨W.mem.kept hk h1 h2, W.live, W.bound, W.thief, W.new, fun h => (W.good h).kept hk hG, W.hop⟩
theorem Core.later {j : Nat} (C : Core w wr mb wb rb cap i g vs rs ms) (h : i ≤ j) : Core w wr mb wb rb cap j g vs rs ms := ⟨C.mach, Nat.le_trans C.n h, C.kept, C.new, C.work, C.apart⟩
/-- A store into blocks of other kinds. -/
theorem Core.far {w' : World} {Gs : List Nat} (C : Core w wr mb wb rb cap i g vs rs ms) (hk : Kept Gs wr w') (hG : ∀ q, q ∈ Gs → w.heap.size ≤ q ∧ ∃ t cs, Blk wr q t cs ∧ t ≠ 31 ∧ t ≠ 57 ∧ t ≠ 88 ∧ q ≠ mb ∧ q ≠ wb ∧ q ≠ rb) : Core w w' mb wb rb cap i g vs rs ms := by
  refine ⟨C.mach.kept hk (fun h => ?_) (fun h => ?_) (fun h => ?_), C.n, C.kept.trans' hk (fun q hq => .inr (hG q hq).1), C.new, fun k hk4 v hv => ?_, C.apart⟩
  · obtain ⟨_, t, cs, _, _, _, _, h1, _, _⟩ := hG _ h; exact h1 rfl
  · obtain ⟨_, t, cs, _, _, _, _, _, h1, _⟩ := hG _ h; exact h1 rfl
  · obtain ⟨_, t, cs, _, _, _, _, _, _, h1⟩ := hG _ h; exact h1 rfl
  · have W := C.work k hk4 v hv
    refine W.kept hk (fun h => ?_) (fun h => ?_) (fun q hq => ?_)
    · obtain ⟨_, t, cs, hb, _, h1, h2, _⟩ := hG _ h; exact (W.mem.kinds hb h1 h2).1 rfl
    · obtain ⟨_, t, cs, hb, _, h1, h2, _⟩ := hG _ h; exact (W.mem.kinds hb h1 h2).2 rfl
    · obtain ⟨h0, t, cs, hb, h1, _⟩ := hG _ hq; exact ⟨h0, t, cs, hb, h1⟩
theorem Core.old {w' : World} (C : Core w wr mb wb rb cap i g vs rs ms) (hk : Kept [] wr w') : Core w w' mb wb rb cap i g vs rs ms := C.far hk (by simp)
/-- A worker goes. -/
theorem Core.drop (C : Core w wr mb wb rb cap i g vs rs ms) (k : Nat) : Core w wr mb wb rb cap i g (put4 vs k none) rs ms := by
  refine ⟨C.mach, C.n, C.kept, C.new, fun j hj v hv => ?_, fun j j' hj hj' hjj u v hu hv => ?_⟩
  · by_cases h : j = k
    · subst h; rw [put4_same] at hv; cases hv
    · rw [put4_other _ _ h] at hv; exact C.work j hj v hv
  · by_cases h : j = k
    · subst h; rw [put4_same] at hu; cases hu
    · by_cases h' : j' = k
      · subst h'; rw [put4_same] at hv; cases hv
      · rw [put4_other _ _ h] at hu
        rw [put4_other _ _ h'] at hv
        exact C.apart j j' hj hj' hjj u v hu hv
/-- A worker's step. -/
theorem Core.step {w' : World} {k : Nat} {v v' : VS} {g' : GS} (C : Core w wr mb wb rb cap i g vs rs ms) (hk : k < 4) (hv : vs k = some v) (G' : Mach w' mb wb rb cap g') (V' : Wmem w' rb v') (kb : v'.kb = v.kb) (ob : v'.ob = v.ob ∨ wr.heap.size ≤ v'.ob) (steps : v'.W.steps = v.W.steps + 1) (good : v'.W.good = v.W.good) (n : g'.n = g.n + 1) (rise : ∀ i, g.T i ≤ g'.T i) (thief : Thief v.W → g'.B = g.B) (live : v'.W.done = false → Live cap g' v' (rs k - 1) ∧ famOf v'.W.next = famOf v.W.next ∧ v'.W.next ≠ 31) (kept : Kept [mb, wb, v.ob, v.kb, rb] wr w') :
    Core w w' mb wb rb cap (i + 1) g' (put4 vs k (if v'.W.done then none else some v')) (put4 rs k (rs k - 1)) ms := by
  have W := C.work k hk v hv
  obtain ⟨um, hm⟩ := C.mach.mem
  have hG : ∀ q, q ∈ [mb, wb, v.ob, v.kb, rb] → w.heap.size ≤ q ∧ ∃ t cs, Blk wr q t cs ∧ t ≠ 31 := fun q hq => by
    simp only [List.mem_cons, List.not_mem_nil, or_false] at hq
    rcases hq with rfl | rfl | rfl | rfl | rfl
    · exact ⟨C.new.1, _, _, hm, by decide⟩
    · exact ⟨C.new.2.1, _, _, C.mach.words, by decide⟩
    · refine ⟨W.new.2, ?_⟩
      rcases W.mem.op with ⟨_, h', _⟩ | ⟨_, h'⟩
      · rw [h']; exact ⟨_, _, W.mem.work, by decide⟩
      · exact ⟨_, _, h', by decide⟩
    · exact ⟨W.new.1, _, _, W.mem.work, by decide⟩
    · exact ⟨C.new.2.2, _, _, C.mach.rack, by decide⟩
  have hK : Kept [] w w' := C.kept.trans' kept (fun q hq => .inr (hG q hq).1)
  refine ⟨G', by have := C.n; omega, hK, C.new, fun j hj u hu => ?_, fun j j' hj hj' hjj u u' hu hu' => ?_⟩
  · by_cases h : j = k
    · subst h
      rw [put4_same] at hu
      cases hd : v'.W.done with
      | true => rw [hd] at hu; cases hu
      | false =>
        rw [hd] at hu
        cases hu
        obtain ⟨L, hf, hw⟩ := live hd
        rw [put4_same]
        have hb := W.bound
        refine ⟨V', L, ⟨by rw [steps]; omega, hb.2⟩, fun h1 => Thief.iff.2 (hf.trans (Thief.iff.1 (W.thief h1))), ⟨by rw [kb]; exact W.new.1, ?_⟩, fun h => ?_, fun h => absurd h hw⟩
        · rcases ob with h | h
          · rw [h]; exact W.new.2
          · exact Nat.le_trans C.kept.size h
        · rw [hf] at h
          rw [good]
          exact (W.good h).kept kept hG
    · rw [put4_other _ _ h] at hu
      rw [put4_other _ _ h]
      have U := C.work j hj u hu
      obtain ⟨a1, a2, a3, a4⟩ := C.apart j k hj hk h u v hu hv
      obtain ⟨b1, b2⟩ := U.mem.kinds hm (by decide) (by decide)
      obtain ⟨b3, b4⟩ := U.mem.kinds C.mach.words (by decide) (by decide)
      obtain ⟨b5, b6⟩ := U.mem.kinds C.mach.rack (by decide) (by decide)
      have hB : g'.B = g.B ∨ Thief u.W := by
        rcases Nat.eq_zero_or_pos k with h0 | h0
        · exact .inr (U.thief (by omega))
        · exact .inl (thief (W.thief h0))
      exact ⟨U.mem.kept kept (by simp [Ne.symm b1, Ne.symm b3, Ne.symm b5, a1, a3]) (by simp [Ne.symm b2, Ne.symm b4, Ne.symm b6, a2, a4]), ⟨U.live.done, U.live.kind, U.live.level, U.live.wok.others rise hB⟩, U.bound, U.thief, U.new, fun h => (U.good h).kept kept hG, U.hop⟩
  · have key : ∀ j, j < 4 → j ≠ k → ∀ u, vs j = some u → u.kb ≠ v'.kb ∧ u.ob ≠ v'.ob ∧ u.kb ≠ v'.ob ∧ u.ob ≠ v'.kb := fun j hj h u hu => by
      have U := C.work j hj u hu
      obtain ⟨a1, a2, a3, a4⟩ := C.apart j k hj hk h u v hu hv
      have hl := U.mem.lt
      rw [kb]
      rcases ob with h | h
      · rw [h]; exact ⟨a1, a2, a3, a4⟩
      · exact ⟨a1, by omega, by omega, a4⟩
    have isv : ∀ {z : VS}, (if v'.W.done = true then none else some v') = some z → v' = z := fun {z} h => by
      split at h
      · cases h
      · cases h; rfl
    by_cases h : j = k
    · subst h
      rw [put4_same] at hu
      rw [put4_other _ _ (Ne.symm hjj)] at hu'
      have e := isv hu
      subst e
      obtain ⟨a1, a2, a3, a4⟩ := key j' hj' (Ne.symm hjj) u' hu'
      exact ⟨Ne.symm a1, Ne.symm a2, Ne.symm a4, Ne.symm a3⟩
    · rw [put4_other _ _ h] at hu
      by_cases h' : j' = k
      · subst h'
        rw [put4_same] at hu'
        have e := isv hu'
        subst e
        exact key j hj h u hu
      · rw [put4_other _ _ h'] at hu'
        exact C.apart j j' hj hj' hjj u u' hu hu'
/-- A worker begins. -/
theorem Core.begins {w' : World} {k : Nat} {v : VS} {m : Nat} (C : Core w wr mb wb rb cap i g vs rs ms) (hk : k < 4) (hv : vs k = none) (V : Wmem w' rb v) (L : Live cap g v m) (steps : v.W.steps = 0) (thief : 1 ≤ k → Thief v.W) (new : wr.heap.size ≤ v.kb ∧ wr.heap.size ≤ v.ob) (good : famOf v.W.next = 0 ∨ famOf v.W.next = 2 → GoodAt w.heap.size w' v.W.good) (hop : v.W.next = 31 → v.W.op = .pointer none) (m5 : 5 ≤ m ∧ m ≤ 1000) (kept : Kept [] wr w') :
    Core w w' mb wb rb cap i g (put4 vs k (some v)) (put4 rs k m) (put4 ms k m) := by
  have hs := C.kept.size
  refine ⟨C.mach.kept kept (by simp) (by simp) (by simp), C.n, C.kept.trans kept, C.new, fun j hj u hu => ?_, fun j j' hj hj' hjj u u' hu hu' => ?_⟩
  · by_cases h : j = k
    · subst h
      rw [put4_same] at hu
      cases hu
      rw [put4_same, put4_same]
      exact ⟨V, L, ⟨by rw [steps]; omega, m5.2⟩, thief, ⟨by omega, by omega⟩, good, hop⟩
    · rw [put4_other _ _ h] at hu
      rw [put4_other _ _ h, put4_other _ _ h]
      exact (C.work j hj u hu).kept kept (by simp) (by simp) (by simp)
  · have key : ∀ j, j < 4 → ∀ u, vs j = some u → u.kb ≠ v.kb ∧ u.ob ≠ v.ob ∧ u.kb ≠ v.ob ∧ u.ob ≠ v.kb := fun j hj u hu => by
      have hl := (C.work j hj u hu).mem.lt
      exact ⟨by omega, by omega, by omega, by omega⟩
    by_cases h : j = k
    · subst h
      rw [put4_same] at hu
      rw [put4_other _ _ (Ne.symm hjj)] at hu'
      cases hu
      obtain ⟨a1, a2, a3, a4⟩ := key j' hj' u' hu'
      exact ⟨Ne.symm a1, Ne.symm a2, Ne.symm a4, Ne.symm a3⟩
    · rw [put4_other _ _ h] at hu
      by_cases h' : j' = k
      · subst h'
        rw [put4_same] at hu'
        cases hu'
        exact key j hj u hu
      · rw [put4_other _ _ h'] at hu'
        exact C.apart j j' hj hj' hjj u u' hu hu'
end
end Go.Proofs.YtahpjoknmclbfaaDoor
