/- Package replay, in plain words: who runs, by the list of all ids. No program in sight; Package replay, in plain words: an account stays whole. No program in sight; The contracts of library functions, laid at this translation by a tool of the kit; The words of a text are what the library's Split leaves when empty pieces are dropped; Package nums: what each of its functions does: hex texts; Numbers and things as bytes: plain functions on lists, with no program in sight; Package nums: hex texts are printed; the document's hex texts; Package nums: words; the document's words, Join and Same; The document's words, Join and Same. -/
import Derived.Test.YtccodklfplfleaaP01
import Derived.Ground.Names2Prog
import Derived.Shelf.Slices.Clone
import Derived.Test.YtccodklfplfleaaProg
import Derived.Lib.Split
import Derived.Laws.BitsAllLaws
import Derived.Test.YtccodklfplfleaaP00
import Derived.Laws.IdiomStrings
import Derived.Deep.QuietTactic
import Derived.BigQuiet

/- Package replay, in plain words: who runs, by the list of all ids. No program in sight. -/
namespace Go.Proofs.Ytccodklfplfleaa

def matchB (a : Acc) (cpu : Int) (x : Int × Nat) : Bool := thB cpu (a.th x.1.toNat)
def onL (a : Acc) (cpu : Int) : List (Int × Nat) → Int
  | [] => -1
  | x :: r => if matchB a cpu x then x.1 else onL a cpu r
theorem onL_app (a : Acc) (cpu : Int) : ∀ (l r : List (Int × Nat)), (∀ x ∈ l, x.1 ≠ -1) → onL a cpu (l ++ r) = if onL a cpu l ≠ -1 then onL a cpu l else onL a cpu r
  | [], r, _ => by simp [onL]
  | x :: l, r, h => by
    have ih := onL_app a cpu l r (fun y hy => h y (by simp [hy]))
    rw [List.cons_append, onL, onL]
    by_cases hm : matchB a cpu x = true
    · rw [if_pos hm, if_pos hm, if_pos (h x (by simp))]
    · rw [if_neg hm, if_neg hm, ih]
theorem allK_mem (P : List Pl) : ∀ (k : Nat) (x : Int × Nat), x ∈ allK P k → ∃ t : Nat, x = ((t : Int), (P.getD t Pl.zero).gen) ∧ t < k ∧ (P.getD t Pl.zero).taken = true
  | 0, x, h => by simp [allK] at h
  | k + 1, x, h => by
    unfold allK at h
    split at h
    · rename_i ht
      rcases List.mem_append.1 h with h | h
      · obtain ⟨t, e, hl, h2⟩ := allK_mem P k x h
        exact ⟨t, e, by omega, h2⟩
      · obtain rfl := List.mem_singleton.1 h
        exact ⟨k, rfl, by omega, ht⟩
    · obtain ⟨t, e, hl, h2⟩ := allK_mem P k x h
      exact ⟨t, e, by omega, h2⟩
theorem allK_pos {P : List Pl} {k : Nat} : ∀ x ∈ allK P k, x.1 ≠ -1 := fun x hx => by
  obtain ⟨t, rfl, _⟩ := allK_mem P k x hx
  simp only
  omega
theorem onL_all (a : Acc) (cpu : Int) : ∀ k, onL a cpu (allK a.P k) = onK a cpu k
  | 0 => rfl
  | k + 1 => by
    have ih := onL_all a cpu k
    rw [onK, ← ih, show allK a.P (k + 1) = if (a.P.getD k Pl.zero).taken then allK a.P k ++ [((k : Int), (a.P.getD k Pl.zero).gen)] else allK a.P k from rfl]
    by_cases ht : (a.P.getD k Pl.zero).taken = true
    · rw [if_pos ht, onL_app _ _ _ _ allK_pos]
      have e : onL a cpu [((k : Int), (a.P.getD k Pl.zero).gen)] = if onB a cpu k then (k : Int) else -1 := by
        unfold onL onL onB matchB Acc.pl
        rw [ht, Bool.true_and]
        simp only [Int.toNat_natCast]
      rw [e]
    · rw [if_neg ht]
      have e : onB a cpu k = false := by
        unfold onB Acc.pl
        rw [Bool.not_eq_true] at ht
        rw [ht]; rfl
      rw [e]
      split
      · rfl
      · rename_i h; simpa using h
theorem onL_at {a : Acc} {cpu : Int} {L : List (Int × Nat)} (hp : ∀ x ∈ L, x.1 ≠ -1) {i : Nat} {x : Int × Nat} (hx : L[i]? = some x) (h : onL a cpu (L.take i) = -1) (hm : matchB a cpu x = true) : onL a cpu L = x.1 := by
  obtain ⟨hi, he⟩ := List.getElem?_eq_some_iff.1 hx
  have hs : L = L.take i ++ x :: L.drop (i + 1) := by rw [← he, List.getElem_cons_drop, List.take_append_drop]
  rw [hs, onL_app _ _ _ _ (fun y hy => hp y (List.mem_of_mem_take hy)), h, if_neg (by simp), onL, if_pos hm]
theorem onL_no {a : Acc} {cpu : Int} {L : List (Int × Nat)} (hp : ∀ x ∈ L, x.1 ≠ -1) {i : Nat} {x : Int × Nat} (hx : L[i]? = some x) (h : onL a cpu (L.take i) = -1) (hm : matchB a cpu x = false) : onL a cpu (L.take (i + 1)) = -1 := by
  obtain ⟨hi, he⟩ := List.getElem?_eq_some_iff.1 hx
  rw [List.take_succ_eq_append_getElem hi, he, onL_app _ _ _ _ (fun y hy => hp y (List.mem_of_mem_take hy)), h, if_neg (by simp), onL, hm]
  rfl
/-- The account is whole. -/
structure AWhole (d : Du) (a : Acc) : Prop where
  n64 : a.P.length ≤ 64
  tl : a.T.length = a.P.length
  hl : (a.held.length : Int) = d.locks
  h64 : a.held.length ≤ 64
  regs : ∀ t : Nat, t < a.T.length → (a.th t).regs.length = 8
  prog : ∀ t : Nat, t < a.T.length → (a.pl t).taken = true → 0 ≤ (a.th t).prog ∧ (a.th t).prog < d.progs.length
  pc : ∀ t : Nat, t < a.T.length → (a.th t).pc ≤ (d.progs.getD (a.th t).prog.toNat []).length ∨ (a.th t).pc = 0
  deed : ∀ t : Nat, t < a.T.length → 0 ≤ (a.th t).deed.a ∧ 0 ≤ (a.th t).deed.r ∧ (a.th t).deed.r < 8
  lock : ∀ t : Nat, t < a.T.length → ((a.th t).call = 2 ∧ (a.th t).code = 0 ∨ (a.th t).call = 3) → ((a.th t).deed.op = 9 ∨ (a.th t).deed.op = 10) → (a.th t).deed.a < d.locks

end Go.Proofs.Ytccodklfplfleaa

/- Package replay, in plain words: an account stays whole. No program in sight. -/
namespace Go.Proofs.Ytccodklfplfleaa

theorem getD_set {α : Type} (l : List α) (i j : Nat) (x d : α) : (l.set i x).getD j d = if i = j ∧ j < l.length then x else l.getD j d := by
  rw [List.getD_eq_getElem?_getD, List.getElem?_set, List.getD_eq_getElem?_getD]
  by_cases h : i = j
  · subst h
    by_cases hl : i < l.length
    · rw [if_pos rfl, if_pos hl, if_pos ⟨rfl, hl⟩]; rfl
    · rw [if_pos rfl, if_neg hl, if_neg (by simp [hl]), List.getElem?_eq_none (by omega)]
  · rw [if_neg h, if_neg (by simp [h])]
/-- A thread is whole. -/
structure TOk (d : Du) (taken : Bool) (x : Th) : Prop where
  regs : x.regs.length = 8
  prog : taken = true → 0 ≤ x.prog ∧ x.prog < d.progs.length
  pc : x.pc ≤ (d.progs.getD x.prog.toNat []).length ∨ x.pc = 0
  deed : 0 ≤ x.deed.a ∧ 0 ≤ x.deed.r ∧ x.deed.r < 8
  lock : (x.call = 2 ∧ x.code = 0 ∨ x.call = 3) → (x.deed.op = 9 ∨ x.deed.op = 10) → x.deed.a < d.locks
theorem AWhole.at_ {d : Du} {a : Acc} (h : AWhole d a) {t : Nat} (ht : t < a.T.length) : TOk d (a.pl t).taken (a.th t) :=
  ⟨h.regs t ht, h.prog t ht, h.pc t ht, h.deed t ht, h.lock t ht⟩
theorem AWhole.of {d : Du} {a : Acc} (n64 : a.P.length ≤ 64) (tl : a.T.length = a.P.length) (hl : (a.held.length : Int) = d.locks) (h64 : a.held.length ≤ 64) (h : ∀ t : Nat, t < a.T.length → TOk d (a.pl t).taken (a.th t)) : AWhole d a :=
  ⟨n64, tl, hl, h64, fun t ht => (h t ht).regs, fun t ht => (h t ht).prog, fun t ht => (h t ht).pc, fun t ht => (h t ht).deed, fun t ht => (h t ht).lock⟩
theorem AWhole.setT {d : Du} {a : Acc} (h : AWhole d a) (t : Nat) {x : Th} (hx : t < a.T.length → TOk d (a.pl t).taken x) : AWhole d (a.setT t x) := by
  refine AWhole.of h.n64 (by simp [Acc.setT, h.tl]) h.hl h.h64 fun u hu => ?_
  have hu' : u < a.T.length := by simpa [Acc.setT] using hu
  show TOk d (a.pl u).taken ((a.T.set t x).getD u Th.zero)
  rw [getD_set]
  by_cases e : t = u
  · subst e
    rw [if_pos ⟨rfl, hu'⟩]
    exact hx hu'
  · rw [if_neg (by simp [e])]
    exact h.at_ hu'
theorem AWhole.setHeld {d : Du} {a : Acc} (h : AWhole d a) {l : List Int} (hl : l.length = a.held.length) : AWhole d { a with held := l } :=
  AWhole.of h.n64 h.tl (by simp only [hl]; exact h.hl) (by simp only [hl]; exact h.h64) fun _ hu => h.at_ hu
theorem TOk.mono {d : Du} {tk : Bool} {x y : Th} (h : TOk d tk x) (h1 : y.regs = x.regs) (h2 : y.prog = x.prog) (h3 : y.pc = x.pc) (h4 : y.deed = x.deed)
    (h5 : (y.call = 2 ∧ y.code = 0 ∨ y.call = 3) → (x.deed.op = 9 ∨ x.deed.op = 10) → x.deed.a < d.locks) : TOk d tk y :=
  ⟨by rw [h1]; exact h.regs, by rw [h2]; exact h.prog, by rw [h2, h3]; exact h.pc, by rw [h4]; exact h.deed, by rw [h4]; exact h5⟩
theorem TOk.free {d : Du} {tk : Bool} {x : Th} (h : TOk d tk x) : TOk d false x := ⟨h.regs, fun h => by simp at h, h.pc, h.deed, h.lock⟩
theorem AWhole.freeP {d : Du} {a : Acc} (h : AWhole d a) (t : Nat) : AWhole d (freeP a t) := by
  refine AWhole.of (by simp [Go.Proofs.Ytccodklfplfleaa.freeP, h.n64]) (by simp [Go.Proofs.Ytccodklfplfleaa.freeP, h.tl]) h.hl h.h64 fun u hu => ?_
  show TOk d ((a.P.set t ⟨false, (a.pl t).gen⟩).getD u Pl.zero).taken (a.th u)
  rw [getD_set]
  by_cases e : t = u ∧ u < a.P.length
  · rw [if_pos e]; exact (h.at_ hu).free
  · rw [if_neg e]; exact h.at_ hu
/-- Deeds of a duty that may be. -/
theorem progs_good {d : Du} (hd : checkU d = 0) : (∀ p ∈ d.progs, p.length ≤ 256 ∧ ∀ x ∈ p, goodD x = true) := by
  intro p hp
  have h1 : badP d.progs = 0 := by
    unfold checkU at hd
    split at hd
    · simp at hd
    · split at hd
      · simp at hd
      · split at hd
        · rename_i hb; exact absurd hd hb
        · rename_i hb; simpa using hb
  exact checkP_zero (badP_take_zero h1 p hp)
theorem goodD_r {d : Dd} (h : goodD d = true) : 0 ≤ d.r ∧ d.r < 8 := by
  simp [goodD] at h
  omega
theorem nextL_ok : ∀ (p : List Dd) (i : Nat), (∀ x ∈ p, goodD x = true) → (0 ≤ (nextL p i).1.a ∧ 0 ≤ (nextL p i).1.r ∧ (nextL p i).1.r < 8) ∧ (nextL p i).2 ≤ i + p.length
  | [], i, _ => by simp [nextL]
  | x :: r, i, h => by
    rw [nextL]
    split
    · have hx := h x (by simp)
      have := goodD_a hx
      have := goodD_r hx
      refine ⟨by simp only; omega, by simp⟩
    · have ih := nextL_ok r (i + 1) (fun y hy => h y (by simp [hy]))
      refine ⟨ih.1, ?_⟩
      have := ih.2
      simp only [List.length_cons]
      omega
theorem nextD_ok {p : List Dd} (h : ∀ x ∈ p, goodD x = true) {i : Nat} (hi : i ≤ p.length) : (0 ≤ (nextD p i).1.a ∧ 0 ≤ (nextD p i).1.r ∧ (nextD p i).1.r < 8) ∧ (nextD p i).2 ≤ p.length := by
  have := nextL_ok (p.drop i) i (fun x hx => h x (List.mem_of_mem_drop hx))
  unfold nextD
  refine ⟨this.1, ?_⟩
  have h2 := this.2
  rw [List.length_drop] at h2
  omega
theorem hasA_lt {a : Acc} {s : Int} {g : Nat} (h : hasA a s g = true) : 0 ≤ s ∧ s.toNat < a.P.length ∧ (a.pl s.toNat).taken = true ∧ (a.pl s.toNat).gen = g := by
  unfold hasA hasP at h
  simp at h
  refine ⟨by omega, by omega, ?_, ?_⟩
  · unfold Acc.pl; simpa using h.2.1
  · unfold Acc.pl; simpa using h.2.2
theorem runsA_has {a : Acc} {e : Ev} (h : runsA a e = true) : hasA a e.slot e.gen = true := by
  unfold runsA at h
  simp at h
  exact h.1
theorem roomK_none {P : List Pl} : ∀ k, firstK P k = -1 → roomK P k = 0
  | 0, _ => rfl
  | k + 1, h => by
    rw [firstK] at h
    split at h
    · rename_i h1; exact absurd h h1
    · rename_i h1
      split at h
      · exact absurd h (by omega)
      · rename_i hf
        rw [roomK, roomK_none k (by simpa using h1), if_neg hf]
theorem roomA_none {a : Acc} (h : freeA a = none) : roomA a = 0 := by
  unfold freeA at h
  split at h
  · rename_i h1; exact roomK_none _ h1
  · simp at h
theorem freeA_some {a : Acc} {i : Nat} (h : freeA a = some i) : i < a.P.length ∧ (a.pl i).taken = false ∧ (a.pl i).gen < 4294967295 ∧ firstP a.P = i := by
  unfold freeA at h
  split at h
  · simp at h
  · rename_i h1
    injection h with h
    rcases firstP_rng a.P with h2 | ⟨j, h2, hj, hf⟩
    · exact absurd h2 h1
    · rw [h2] at h
      simp at h
      subst h
      simp [Pl.free] at hf
      exact ⟨hj, by simpa [Acc.pl] using hf.1, by simpa [Acc.pl] using hf.2, h2⟩
theorem newT_ok {d : Du} {prog : Int} {mask : Nat} {loose : Bool} {i g : Nat} (h0 : 0 ≤ prog) (h1 : prog < d.progs.length) : TOk d true (newT prog mask loose i g) := by
  refine ⟨by simp [newT, Th.zero], fun _ => ⟨h0, h1⟩, .inr rfl, by simp [newT, Th.zero, Dd.zero], fun h => ?_⟩
  simp [newT, Th.zero] at h
/-- What OK does keeps the account whole. -/
theorem doesA_whole {d : Du} {a : Acc} (h : AWhole d a) {t : Nat} (ht : t < a.T.length) (hk : (a.pl t).taken = true) (hc : (a.th t).call = 2) (h0 : (a.th t).code = 0)
    (hm : (a.th t).deed.op = 2 → (a.th t).deed.a < d.progs.length) : AWhole d (doesA a t) := by
  have hx := h.at_ ht
  unfold doesA
  by_cases h2 : (a.th t).deed.op = 2
  · rw [if_pos h2]
    cases hf : freeA a with
    | none => exact h
    | some i =>
      obtain ⟨hi, hn, _, _⟩ := freeA_some hf
      have hne : i ≠ t := by rintro rfl; rw [hn] at hk; simp at hk
      refine AWhole.of (by simp [h.n64]) (by simp [h.tl]) h.hl h.h64 fun u hu => ?_
      have hu' : u < a.T.length := by simpa using hu
      have hup : u < a.P.length := by rw [← h.tl]; exact hu'
      show TOk d ((a.P.set i ⟨true, (a.pl i).gen + 1⟩).getD u Pl.zero).taken (((a.T.set i _).set t _).getD u Th.zero)
      rw [getD_set, getD_set, getD_set, List.length_set]
      by_cases e : t = u
      · subst e
        rw [if_neg (by simp [hne]), if_pos ⟨rfl, hu'⟩]
        exact ⟨by simp [hx.regs], hx.prog, hx.pc, hx.deed, hx.lock⟩
      · have e0 : ¬ (t = u ∧ u < a.T.length) := by simp [e]
        by_cases e2 : i = u
        · subst e2
          rw [if_pos (⟨rfl, hup⟩ : i = i ∧ i < a.P.length), if_neg e0, if_pos (⟨rfl, hu'⟩ : i = i ∧ i < a.T.length)]
          have := newT_ok (d := d) (prog := (a.th t).deed.a) (mask := (a.th t).deed.mask) (loose := (a.th t).deed.loose) (i := i) (g := (a.pl i).gen + 1) hx.deed.1 (hm h2)
          exact ⟨by simp [this.regs], this.prog, this.pc, this.deed, this.lock⟩
        · rw [if_neg (by simp [e2] : ¬ (i = u ∧ u < a.P.length)), if_neg e0, if_neg (by simp [e2] : ¬ (i = u ∧ u < a.T.length))]
          exact h.at_ hu'
  · rw [if_neg h2]
    split
    · split
      · exact h.freeP _
      · exact h
    · split
      · exact h.setT _ fun hu => (h.at_ hu).mono rfl rfl rfl rfl (h.at_ hu).lock
      · split
        · exact h.setHeld (by simp)
        · exact h
theorem exitsA_whole {d : Du} {a : Acc} (h : AWhole d a) (t : Nat) : AWhole d (exitsA a t) := by
  have h1 : AWhole d ({ a with held := a.held.map fun x => if x = (t : Int) then -1 else x, T := a.T.set t { a.th t with state := 5 } } : Acc) :=
    AWhole.setT (h.setHeld (l := a.held.map fun x => if x = (t : Int) then -1 else x) (by simp)) t (x := { a.th t with state := 5 }) fun hu => (h.at_ hu).mono rfl rfl rfl rfl (h.at_ hu).lock
  unfold exitsA
  simp only
  split
  · exact h1.freeP t
  · exact h1
/-- A code that may be, of a deed. -/
theorem mayA_spawn {d : Du} {a : Acc} {t : Nat} (h : mayA d a t 0 = true) (h2 : (a.th t).deed.op = 2) : (a.th t).deed.a < d.progs.length ∧ freeA a ≠ none := by
  unfold mayA at h
  rw [if_pos h2] at h
  split at h
  · simp at h
  · split at h
    · simp at h
    · split at h
      · simp at h
      · rename_i h3 _ h4
        exact ⟨by omega, fun hf => h4 (roomA_none hf)⟩
theorem mayA_lock {d : Du} {a : Acc} {t : Nat} (h : mayA d a t 0 = true) (h2 : (a.th t).deed.op = 9 ∨ (a.th t).deed.op = 10 ∨ (a.th t).deed.op = 11) : (a.th t).deed.a < d.locks := by
  unfold mayA at h
  rw [if_neg (by omega), if_neg (by omega), if_neg (by omega), if_pos h2] at h
  split at h
  · simp at h
  · omega
theorem setT_th {a : Acc} {t : Nat} {x : Th} (ht : t < a.T.length) : (a.setT t x).th t = x := by
  show (a.T.set t x).getD t Th.zero = x
  rw [getD_set, if_pos ⟨rfl, ht⟩]
theorem setT_pl {a : Acc} {t : Nat} {x : Th} (u : Nat) : (a.setT t x).pl u = a.pl u := rfl
theorem ite_some {α : Type} {c : Prop} [Decidable c] {x y : Option α} {z : α} (h : (if c then x else y) = some z) : (c ∧ x = some z) ∨ (¬ c ∧ y = some z) := by
  by_cases hc : c
  · rw [if_pos hc] at h; exact .inl ⟨hc, h⟩
  · rw [if_neg hc] at h; exact .inr ⟨hc, h⟩
theorem ite_one {α : Type} {c : Prop} [Decidable c] {x z : α} (h : (if c then some x else none) = some z) : c ∧ x = z := by
  by_cases hc : c
  · rw [if_pos hc] at h; injection h with h; exact ⟨hc, h⟩
  · rw [if_neg hc] at h; cases h
/-- An event keeps the account whole. -/
theorem stepA_whole {d : Du} {a a' : Acc} {e : Ev} (hd : checkU d = 0) (h : AWhole d a) (hs : stepA d a e = some a') : AWhole d a' := by
  unfold stepA stepB at hs
  have keep : ∀ (t : Nat) (y : Th), y.regs = (a.th t).regs → y.prog = (a.th t).prog → y.pc = (a.th t).pc → y.deed = (a.th t).deed → y.call = (a.th t).call → y.code = (a.th t).code → AWhole d (a.setT t y) :=
    fun t y h1 h2 h3 h4 h5 h6 => h.setT _ fun hu => (h.at_ hu).mono h1 h2 h3 h4 (by rw [h5, h6]; exact (h.at_ hu).lock)
  rcases ite_some hs with ⟨_, hs⟩ | ⟨_, hs⟩
  · obtain ⟨_, rfl⟩ := ite_one hs
    exact keep _ _ rfl rfl rfl rfl rfl rfl
  rcases ite_some hs with ⟨_, hs⟩ | ⟨_, hs⟩
  · obtain ⟨_, rfl⟩ := ite_one hs; exact h
  rcases ite_some hs with ⟨_, hs⟩ | ⟨_, hs⟩
  · obtain ⟨_, rfl⟩ := ite_one hs; exact h
  rcases ite_some hs with ⟨_, hs⟩ | ⟨_, hs⟩
  · obtain ⟨_, rfl⟩ := ite_one hs
    exact keep _ _ rfl rfl rfl rfl rfl rfl
  rcases ite_some hs with ⟨_, hs⟩ | ⟨hr, hs⟩
  · cases hs
  have hr : runsA a e = true := by simpa using hr
  obtain ⟨p0, p1, p2, p3⟩ := hasA_lt (runsA_has hr)
  have ht : e.slot.toNat < a.T.length := by rw [h.tl]; exact p1
  have hx := h.at_ ht
  rcases ite_some hs with ⟨_, hs⟩ | ⟨_, hs⟩
  · obtain ⟨_, rfl⟩ := ite_one hs
    refine h.setT _ fun _ => ?_
    obtain ⟨q1, q2⟩ := hx.prog p2
    have hp : d.progs.getD (a.th e.slot.toNat).prog.toNat [] ∈ d.progs := by
      rw [List.getD_eq_getElem?_getD, List.getElem?_eq_getElem (by omega)]
      exact List.getElem_mem _
    have hn := nextD_ok (progs_good hd _ hp).2 (i := (a.th e.slot.toNat).pc) (by rcases hx.pc with h1 | h1 <;> omega)
    exact ⟨hx.regs, hx.prog, .inl hn.2, hn.1, fun h1 => by simp at h1⟩
  rcases ite_some hs with ⟨_, hs⟩ | ⟨_, hs⟩
  · obtain ⟨⟨c1, c2, c3⟩, hs⟩ := ite_one hs
    by_cases h0 : e.code = 0
    · rw [if_pos h0] at hs
      subst hs
      rw [h0] at c3
      have h1 : AWhole d (a.setT e.slot.toNat { a.th e.slot.toNat with call := 2, code := e.code }) :=
        h.setT _ fun _ => hx.mono rfl rfl rfl rfl (fun _ hop => mayA_lock c3 (by omega))
      have hth := setT_th (x := { a.th e.slot.toNat with call := 2, code := e.code }) ht
      refine doesA_whole h1 (by simpa [Acc.setT] using ht) (by rw [setT_pl]; exact p2) (by rw [hth]) (by rw [hth]; exact h0) ?_
      rw [hth]
      exact fun hop => (mayA_spawn c3 hop).1
    · rw [if_neg h0] at hs
      subst hs
      exact h.setT _ fun _ => hx.mono rfl rfl rfl rfl (fun h1 => by simp [h0] at h1)
  rcases ite_some hs with ⟨_, hs⟩ | ⟨_, hs⟩
  · obtain ⟨hc, rfl⟩ := ite_one hs
    exact h.setT _ fun _ => hx.mono rfl rfl rfl rfl (fun _ => hx.lock (.inl ⟨hc.1, hc.2.1⟩))
  rcases ite_some hs with ⟨_, hs⟩ | ⟨_, hs⟩
  · injection hs with hs; subst hs
    exact keep _ _ rfl rfl rfl rfl rfl rfl
  rcases ite_some hs with ⟨_, hs⟩ | ⟨_, hs⟩
  · obtain ⟨_, rfl⟩ := ite_one hs
    exact exitsA_whole h _
  · obtain ⟨_, rfl⟩ := ite_one hs
    have h1 : AWhole d (a.setT e.slot.toNat { a.th e.slot.toNat with call := 0 }) := h.setT _ fun _ => hx.mono rfl rfl rfl rfl (fun h1 => by simp at h1)
    exact AWhole.setHeld h1 (by split <;> simp [Acc.setT])
/-- A start keeps the account whole. -/
theorem startA_whole {d : Du} {a : Acc} (h : AWhole d a) {s : St} (h0 : 0 ≤ s.prog) (h1 : s.prog < d.progs.length) : AWhole d (startA a s) := by
  unfold startA
  cases hf : freeA a with
  | none => exact h
  | some i =>
    obtain ⟨hi, _, _, _⟩ := freeA_some hf
    refine AWhole.of (by simp [h.n64]) (by simp [h.tl]) h.hl h.h64 fun u hu => ?_
    have hu' : u < a.T.length := by simpa using hu
    have hup : u < a.P.length := by rw [← h.tl]; exact hu'
    show TOk d ((a.P.set i ⟨true, (a.pl i).gen + 1⟩).getD u Pl.zero).taken ((a.T.set i _).getD u Th.zero)
    rw [getD_set, getD_set]
    by_cases e2 : i = u
    · subst e2
      rw [if_pos (⟨rfl, hup⟩ : i = i ∧ i < a.P.length), if_pos (⟨rfl, hu'⟩ : i = i ∧ i < a.T.length)]
      have := newT_ok (d := d) (prog := s.prog) (mask := s.mask) (loose := false) (i := i) (g := (a.pl i).gen + 1) h0 h1
      exact ⟨this.regs, this.prog, this.pc, this.deed, this.lock⟩
    · rw [if_neg (by simp [e2] : ¬ (i = u ∧ u < a.P.length)), if_neg (by simp [e2] : ¬ (i = u ∧ u < a.T.length))]
      exact h.at_ hu'
theorem startA_len {a : Acc} {s : St} : (startA a s).P.length = a.P.length := by
  unfold startA
  cases freeA a <;> simp
theorem checkU_parts {d : Du} (hd : checkU d = 0) : (1 ≤ d.cpus ∧ d.cpus ≤ 64) ∧ (1 ≤ d.threads ∧ d.threads ≤ 64) ∧ (0 ≤ d.locks ∧ d.locks ≤ 64) ∧ d.progs.length ≤ 64 ∧ d.starts.length ≤ 64 ∧ badS d.progs.length d.cpus d.starts = 0 := by
  unfold checkU at hd
  split at hd
  · simp at hd
  · rename_i hs
    split at hd
    · simp at hd
    · split at hd
      · rename_i hb; exact absurd hd hb
      · simp [sizedU] at hs
        refine ⟨by omega, by omega, by omega, by omega, by omega, hd⟩
theorem badS_zero {np : Nat} {cpus : Int} : ∀ {l : List St}, badS np cpus l = 0 → ∀ s ∈ l, 0 ≤ s.prog ∧ s.prog < np
  | [], _, s, hs => by simp at hs
  | x :: t, h, s, hs => by
    rw [badS] at h
    split at h
    · rename_i h1; exact absurd h h1
    · rename_i h1
      rcases List.mem_cons.1 hs with rfl | hs
      · have h2 : startC np cpus s = 0 := by simpa using h1
        unfold startC at h2
        split at h2
        · simp at h2
        · omega
      · exact badS_zero h s hs
theorem emptyA_whole {d : Du} (hd : checkU d = 0) : AWhole d (emptyA d) := by
  obtain ⟨_, h2, h3, _⟩ := checkU_parts hd
  refine AWhole.of (by simp [emptyA]; omega) (by simp [emptyA]) (by simp [emptyA]; omega) (by simp [emptyA]; omega) fun t ht => ?_
  have hp : (emptyA d).pl t = Pl.zero := by
    unfold Acc.pl emptyA
    simp [List.getD_eq_getElem?_getD, List.getElem?_replicate]
    split <;> rfl
  have hx : (emptyA d).th t = Th.zero := by
    unfold Acc.th emptyA
    simp [List.getD_eq_getElem?_getD, List.getElem?_replicate]
    split <;> rfl
  rw [hp, hx]
  exact ⟨rfl, fun h => by simp [Pl.zero] at h, .inr rfl, by simp [Th.zero, Dd.zero], fun h => by simp [Th.zero] at h⟩
theorem fold_whole {d : Du} : ∀ (l : List St) (a : Acc), AWhole d a → (∀ s ∈ l, 0 ≤ s.prog ∧ s.prog < d.progs.length) → AWhole d (l.foldl startA a) ∧ (l.foldl startA a).P.length = a.P.length
  | [], a, h, _ => ⟨h, rfl⟩
  | s :: l, a, h, hs => by
    have h1 := startA_whole h (hs s (by simp)).1 (hs s (by simp)).2
    have := fold_whole l _ h1 (fun x hx => hs x (by simp [hx]))
    rw [startA_len] at this
    exact this
theorem openA_whole {d : Du} (hd : checkU d = 0) : AWhole d (openA d) := (fold_whole d.starts _ (emptyA_whole hd) (badS_zero (checkU_parts hd).2.2.2.2.2)).1
end Go.Proofs.Ytccodklfplfleaa

/- The contracts of library functions, laid at this translation by a tool of the kit. -/
namespace Go.Proofs
open Go.Shelf
def Try.laysNm215_ren : Go.Shelf.Ren := ⟨fun | 15 => 18 | n => n, fun | 22 => 37 | 3 => 3 | 4 => 4 | n => n, fun | n => n⟩
theorem Try.laysNm215 : Go.Proofs.Lays2.n15 Try.prog Try.laysNm215_ren := {
  mixed := by kernel_rfl
  f15 := Try.func18.trans (congrArg some (by kernel_rfl))
  t3 := Try.underlying3
  a3 := Try.isAgg3
  z3 := Try.sizeOf3
  v3 := Try.zeroValue3
  t4 := Try.underlying4
  a4 := Try.isAgg4
  z4 := Try.sizeOf4
  v4 := Try.zeroValue4
  t22 := Try.underlying37
  a22 := Try.isAgg37
  z22 := Try.sizeOf37
  v22 := Try.zeroValue37
  i3 := by kernel_rfl }
open Go.RowKit Go.Lib in
theorem Try.slices_Clone_int (b off n c : Nat) (zs : List Int) (w : World) (hz : n ≤ zs.length) (hbig : n * 8 ≤ 140737488355328) (hc : ∀ j, j < zs.length → w.cell? ⟨b, off + j, none⟩ = some (.int .i64 (zs.getD j 0))) :
    Calls Try.prog 18 #[.slice (some ⟨b, off, none⟩) n c] w fun e w' => ∃ v', e = .returned v' ∧ w'.ownsRow w.heap.size 3 1 v' n ((zs.take n).map (Value.int .i64)) ∧ v' ≠ .slice none 0 0 ∧ Below w.heap.size w w' := Any.slices_Clone_int Try.laysNm215 b off n c zs w hz hbig hc
open Go.RowKit Go.Lib in
theorem Try.slices_Clone_int_nil (n c : Nat) (w : World) :
    Calls Try.prog 18 #[.slice none n c] w fun e w' => e = .returned (.slice none 0 0) ∧ w' = w := Any.slices_Clone_int_nil Try.laysNm215 n c w
open Go.RowKit Go.Lib in
theorem Try.slices_Clone_int_zero (a : Addr) (c : Nat) (w : World) :
    Calls Try.prog 18 #[.slice (some a) 0 c] w fun e w' => ∃ v', e = .returned v' ∧ w'.ownsRow w.heap.size 3 1 v' 0 [] ∧ v' ≠ .slice none 0 0 ∧ Below w.heap.size w w' := Any.slices_Clone_int_zero Try.laysNm215 a c w
end Go.Proofs

/- The words of a text are what the library's Split leaves when empty pieces are dropped. -/
namespace Go.Proofs.Ytccodklfplfleaa
open Go.RowKit

end Go.Proofs.Ytccodklfplfleaa

/- Package nums: what each of its functions does: hex texts. -/
namespace Go.Proofs.Ytccodklfplfleaa
open Go.RowKit

/-- A text as a value. -/
abbrev strV (l : List UInt8) : Value := .string ⟨l.toArray⟩
theorem ret_str {a b : ByteArray} (h : a = b) : Ending.returned (.string a) = .returned (.string b) := by rw [h]
end Go.Proofs.Ytccodklfplfleaa

/- Numbers and things as bytes: plain functions on lists, with no program in sight. -/
namespace Go.Proofs.Ytccodklfplfleaa
open Go.RowKit

/-- A byte as a value. -/
def B (b : UInt8) : Value := .int .u8 (b.toNat : Int)
/-- A reader's state: what is wrong first, and the bytes that are left. -/
abbrev RS := Int × List UInt8
end Go.Proofs.Ytccodklfplfleaa

/- Package nums: hex texts are printed; the document's hex texts. -/
namespace Go.Proofs.Ytccodklfplfleaa
open Go.RowKit

end Go.Proofs.Ytccodklfplfleaa

/- Package nums: words; the document's words, Join and Same. -/
namespace Go.Proofs.Ytccodklfplfleaa
open Go.RowKit

theorem Try.info9 : (Try.prog.info? 9).map (fun i => (i.zero, i.size, i.bytes)) = some (some (.string ByteArray.empty), 1, 16) := by kernel_rfl

end Go.Proofs.Ytccodklfplfleaa

/- The document's words, Join and Same. -/
namespace Go.Proofs.Ytccodklfplfleaa
open Go.RowKit

end Go.Proofs.Ytccodklfplfleaa

