/- Law 26: the program's locks and the document's stand beside each other: each call, of both; Law 26: does: a call, of both; walked; Law 26: same: all threads and locks stand as the document's; walked; Law 26: LockPlays, walked; LockPlays returns true for every input: the card. -/
import Derived.Test.YtfoeijiejpenpaaGreatDoorSimA
import Derived.Test.YtfoeijiejpenpaaGreatDoorLkY0
import Derived.Test.YtfoeijiejpenpaaGreatDoorRegion
import Derived.Test.YtfoeijiejpenpaaGreatDoorLkR
import Derived.BigQuiet
import Derived.Test.YtfoeijiejpenpaaGreatDoorOpenO
import Derived.Test.YtfoeijiejpenpaaGreatDoorLkTab

/- Law 26: the program's locks and the document's stand beside each other: each call, of both. -/
namespace Go.Proofs.YtfoeijiejpenpaaGreatDoor
open Go.RowKit

/-- What turns apart from locks leaves them. -/
theorem LkIs.farB {w0 : Base} {w w' : World} {a : LkA} {s : Lk} {G : List Nat} (h : LkIs w0 w a s) (hk : Kept G w w') (hd : ∀ k ∈ G, k ∉ fpL a s ∧ (k ∈ w0.F ∨ w0.w.heap.size ≤ k)) : LkIs w0 w' a s :=
  ⟨⟨h.at_.1, ⟨fun p hp => Piece.kept (h.at_.2.1 p hp) hk (fun k hk' hg => (hd k hg).1 (fpL_mem.2 ⟨p, hp, hk'⟩)), h.at_.2.2⟩⟩, h.new, h.kept.trans' hk (fun k hk' => (hd k hk').2)⟩
theorem LkIsJ.far {w0 : Base} {w w' : World} {a : LkA} {s : Lk} {js : List (List Int)} {m : Nat} {G : List Nat} (h : LkIsJ w0 w a s js m) (hk : Kept G w w') (hd : ∀ k ∈ G, k ∉ fpL a s ∧ (k ∈ w0.F ∨ w0.w.heap.size ≤ k)) : LkIsJ w0 w' a s js m := ⟨h.is.farB hk hd, h.len, h.map_⟩
theorem LkAt.fp_lt {w : World} {a : LkA} {s : Lk} (h : LkAt w a s) {k : Nat} (hk : k ∈ fpL a s) : k < w.heap.size := by
  obtain ⟨p, hp, hk'⟩ := fpL_mem.1 hk
  exact Piece.lt (h.2.1 p hp) k hk'

/-- Both stand, apart. -/
structure Beside (w0 : Base) (w : World) (n : Nat) (a : LkA) (s : Lk) (js : List (List Int)) (b : RfA) (f : Rf) : Prop where
  lk : LkIsJ w0 w a s js n
  rf : RfIs w0 w b f
  apart : ∀ k, k ∈ fpL a s → k ∉ fpR b f
section
variable {w0 : Base} {w w' : World} {n n' : Nat} {a a' : LkA} {s s' : Lk} {js js' : List (List Int)} {b : RfA} {f f' : Rf}
theorem Beside.old (h : Beside w0 w n a s js b f) (hk : Kept [] w w') : Beside w0 w' n a s js b f := ⟨h.lk.old hk, h.rf.old hk, h.apart⟩
theorem Beside.toL (h : Beside w0 w n a s js b f) (h' : LkIsJ ⟨w, fpL a s⟩ w' a' s' js' n') : Beside w0 w' n' a' s' js' b f :=
  ⟨h.lk.back h', h.rf.far h'.is.kept (fun k hk => ⟨h.apart k hk, h.lk.is.fp_new hk⟩), fun k hk hr => by
    rcases h'.is.fp_new hk with h1 | h1
    · exact h.apart k h1 hr
    · have := h.rf.at_.fp_lt hr
      have h1 : w.heap.size ≤ k := h1
      omega⟩
theorem Beside.toR (h : Beside w0 w n a s js b f) (h' : RfIs ⟨w, fpR b f⟩ w' b f') : Beside w0 w' n a s js b f' :=
  ⟨h.lk.far h'.kept (fun k hk => ⟨fun hm => h.apart k hm hk, h.rf.fp_new hk⟩), h.rf.back h', fun k hk => by rw [fpR_eq b f' f]; exact h.apart k hk⟩
end

/-- Both states are the same. -/
structure Twin (n : Nat) (s : Lk) (js : List (List Int)) (f : Rf) : Prop where
  all : LkAll s n
  j : JInv s js
  sim : Sim s js f
  last : f.last ≤ n
/-- The types of both's blocks. -/
def tysB : List TypeId := tysL ++ [30, 32]
/-- Blocks of other types stay. -/
def Far (w w' : World) : Prop := ∀ (q : Nat) (t : TypeId) (cs : Array Value), t ∉ tysB → Blk w q t cs → Blk w' q t cs
theorem rfP_ty {b : RfA} {f : Rf} {p : Piece} (hp : p ∈ rfP b f) : (∃ t ∈ tysB, p.ty = some t) ∧ ∀ g o, p ≠ .obj g o := by
  simp only [rfP, List.mem_cons, List.not_mem_nil, or_false] at hp
  rcases hp with rfl | rfl | rfl | rfl | rfl | rfl | rfl
  · exact ⟨⟨30, by decide, rfl⟩, by simp⟩
  · exact ⟨⟨32, by decide, rfl⟩, by simp⟩
  all_goals exact ⟨⟨3, by decide, rfl⟩, by simp⟩
theorem RfAt.no_blk {w : World} {b : RfA} {f : Rf} (h : RfAt w b f) {g : Nat} {t : TypeId} {cs : Array Value} (hb : Blk w g t cs) (ht : t ∉ tysB) : g ∉ fpR b f := fun hm => by
  obtain ⟨p, hp, hk⟩ := fpR_mem.1 hm
  obtain ⟨⟨t', ht', e2⟩, h2⟩ := rfP_ty hp
  exact Piece.no_blk (h.1 p hp) (fun b o e => absurd e (h2 b o)) hb (fun e => by rw [e] at e2; cases e2; exact ht ht') hk
theorem RfAt.no_row {w : World} {b : RfA} {f : Rf} (h : RfAt w b f) {z e y n : Nat} {v : Value} {xs : List Value} (hr : w.ownsRow z e y v n xs) (ht : e ∉ tysB) : ∀ k, k ∈ fp v → k ∉ fpR b f := fun k hk hm => by
  obtain ⟨p, hp, hk'⟩ := fpR_mem.1 hm
  obtain ⟨⟨t', ht', e2⟩, h2⟩ := rfP_ty hp
  exact Piece.no_row (h.1 p hp) (fun b o e => absurd e (h2 b o)) hr (fun e => by rw [e] at e2; cases e2; exact ht ht') k hk hk'
theorem Far.ofL {w0 : Base} {w w' : World} {n : Nat} {a : LkA} {s : Lk} {js : List (List Int)} {b : RfA} {f : Rf} (h : Beside w0 w n a s js b f) (hk : Kept (fpL a s) w w') : Far w w' := fun q t cs ht hb =>
  hb.kept hk (h.lk.is.at_.no_blk h.lk.exJ hb (fun hm => ht (List.mem_append.2 (.inl hm))))
theorem Far.ofR {w w' : World} {b : RfA} {f : Rf} (h : RfAt w b f) (hk : Kept (fpR b f) w w') : Far w w' := fun _ _ _ ht hb => hb.kept hk (h.no_blk hb ht)
/-- Both stand at these blocks, of so many threads and locks, and are the same. -/
def Stand (w0 w : World) (n g r N M : Nat) : Prop := ∃ a s js b f, a.g = g ∧ b.r = r ∧ s.eff.length = N ∧ s.lines.length = M ∧ Beside w0 w n a s js b f ∧ Twin n s js f
theorem Stand.old {w0 w w' : World} {n g r N M : Nat} (h : Stand w0 w n g r N M) (hk : Kept [] w w') : Stand w0 w' n g r N M := by
  obtain ⟨a, s, js, b, f, h1, h2, h3, h4, h5, h6⟩ := h
  exact ⟨a, s, js, b, f, h1, h2, h3, h4, h5.old hk, h6⟩
/-- The program has done its part. -/
def Mid (w0 : World) (g : Nat) (n : Nat) (s : Lk) (js : List (List Int)) (b : RfA) (f : Rf) (W : World) : Prop := ∃ a, a.g = g ∧ Beside w0 W n a s js b f
theorem Mid.old {w0 : World} {g n : Nat} {s : Lk} {js : List (List Int)} {b : RfA} {f : Rf} {W W' : World} (h : Mid w0 g n s js b f W) (hk : Kept [] W W') : Mid w0 g n s js b f W' := by
  obtain ⟨a, h1, h2⟩ := h
  exact ⟨a, h1, h2.old hk⟩
/-- One call, of both: what they tell is the same. -/
def Two (w0 w : World) (n g r N M : Nat) (pf rf : Nat) (args : List Value) (v : Value) : Prop := ∃ mid : World → Prop, (∀ W W', mid W → Kept [] W W' → mid W') ∧
  Calls Tryz.prog pf (.pointer (some ⟨g, 0, none⟩) :: args).toArray w (fun e w' => e = .returned v ∧ mid w' ∧ Far w w') ∧
  ∀ W, mid W → Calls Tryz.prog rf (.pointer (some ⟨r, 0, none⟩) :: args).toArray W (fun e w' => e = .returned v ∧ Stand w0 w' n g r N M ∧ Far W w')
section
variable {w0 w : World} {n g r N M : Nat}
theorem Mid.done {s' : Lk} {js' : List (List Int)} {b : RfA} {f f' : Rf} {W w' : World} {n' : Nat} (h : Mid w0 g n' s' js' b f W) (hr : b.r = r) (hN : s'.eff.length = N) (hM : s'.lines.length = M) (hT : Twin n' s' js' f') (hh : RfIs ⟨W, fpR b f⟩ w' b f') : Stand w0 w' n' g r N M := by
  obtain ⟨a, ha, hB⟩ := h
  exact ⟨a, s', js', b, f', ha, hr, hN, hM, hB.toR hh, hT⟩
theorem two_lock (h : Stand w0 w n g r N M) (hn : n ≤ 1000) (t l : Int) : ∃ bv c, Two w0 w (n + 1) g r N M 28 29 [.int .i64 t, .int .i64 l] (.tuple #[.bool bv, .int .i64 c]) := by
  obtain ⟨a, s, js, b, f, rfl, rfl, rfl, rfl, hB, hT⟩ := h
  have hs := lock_same hT.all t l
  have hsim := hT.sim.lock_ hT.all hT.j t l
  have hfw := hT.sim.whole hT.all.whole
  have hTw : Twin (n + 1) (lockS s t l) js (lockR f t l) := ⟨lock_inv hT.all t l, lock_j hT.all hT.j t l, hsim, by
    have := hT.last
    unfold lockR
    split
    · omega
    · split
      · show f.last ≤ _; omega
      · show f.last + 1 ≤ _; omega⟩
  refine ⟨lockB s t l, mayM s t l, Mid w0 a.g (n + 1) (lockS s t l) js b f, fun W W' => Mid.old, (lkLock_any hB.lk.is.self hT.all (by omega) t l).mono ?_, fun W hm => ?_⟩
  · rintro e w' ⟨rfl, a', ha, hl⟩
    exact ⟨rfl, ⟨a', congrArg Prod.fst ha, hB.toL ((hB.lk.self.step hl ha hs.n).more (Nat.le_succ n))⟩, Far.ofL hB hl.kept⟩
  · obtain ⟨a', ha, hB'⟩ := id hm
    refine (refLock hB'.rf.self hfw hT.sim.last (by have := hT.last; omega) t l).mono ?_
    rintro e w' ⟨rfl, hh⟩
    exact ⟨by rw [hT.sim.lockB hT.all, hT.sim.may hT.all], hm.done rfl hs.n hs.m hTw hh, Far.ofR hB'.rf.at_ hh.kept⟩
theorem two_try (h : Stand w0 w n g r N M) (t l : Int) : ∃ c, Two w0 w (n + 1) g r N M 13 14 [.int .i64 t, .int .i64 l] (.int .i64 c) := by
  obtain ⟨a, s, js, b, f, rfl, rfl, rfl, rfl, hB, hT⟩ := h
  have hs : Same s (tryS s t l) := by unfold tryS; split <;> exact ⟨rfl, rfl⟩
  have hsim := hT.sim.try_ hT.all t l
  have hfw := hT.sim.whole hT.all.whole
  have hTw : Twin (n + 1) (tryS s t l) js (tryR f t l) := ⟨(try_inv hT.all t l).mono (Nat.le_succ n) (fun _ x => x), try_j hT.all hT.j t l, hsim, by
    have := hT.last
    unfold tryR
    split
    · omega
    · split
      · show f.last ≤ _; omega
      · omega⟩
  refine ⟨tryE s t l, Mid w0 a.g (n + 1) (tryS s t l) js b f, fun W W' => Mid.old, (lkTry_any hB.lk.is.self hT.all.whole t l).mono ?_, fun W hm => ?_⟩
  · rintro e w' ⟨rfl, hl⟩
    exact ⟨rfl, ⟨a, rfl, hB.toL ((hB.lk.self.step hl rfl hs.n).more (Nat.le_succ n))⟩, Far.ofL hB hl.kept⟩
  · obtain ⟨a', ha, hB'⟩ := id hm
    refine (refTry hB'.rf.self hfw t l).mono ?_
    rintro e w' ⟨rfl, hh⟩
    exact ⟨by rw [hT.sim.tryE hT.all], hm.done rfl hs.n hs.m hTw hh, Far.ofR hB'.rf.at_ hh.kept⟩
theorem two_unlock (h : Stand w0 w n g r N M) (t l : Int) : ∃ m c, Two w0 w (n + 1) g r N M 15 16 [.int .i64 t, .int .i64 l] (.tuple #[.int .i64 m, .int .i64 c]) := by
  obtain ⟨a, s, js, b, f, rfl, rfl, rfl, rfl, hB, hT⟩ := h
  have hs := unl_same hT.all t l
  obtain ⟨hsim, hN⟩ := hT.sim.unl hT.all t l
  have hfw := hT.sim.whole hT.all.whole
  have hTw : Twin (n + 1) (unlS s t l) js (unlockR f t l) := ⟨(unl_inv hT.all t l).mono (Nat.le_succ n) (fun _ x => x), unl_j hT.all hT.j t l, hsim, by
    have := hT.last
    unfold unlockR
    split
    · cases lineR f l <;> (show f.last ≤ _; omega)
    · omega⟩
  refine ⟨unlN s t l, unlE s t l, Mid w0 a.g (n + 1) (unlS s t l) js b f, fun W W' => Mid.old, (lkUnlock_any hB.lk.is.self hT.all.whole t l hT.all.places).mono ?_, fun W hm => ?_⟩
  · rintro e w' ⟨rfl, a', ha, hl⟩
    exact ⟨rfl, ⟨a', congrArg Prod.fst ha, hB.toL ((hB.lk.self.step hl ha hs.n).more (Nat.le_succ n))⟩, Far.ofL hB hl.kept⟩
  · obtain ⟨a', ha, hB'⟩ := id hm
    refine (refUnlock hB'.rf.self hfw t l).mono ?_
    rintro e w' ⟨rfl, hh⟩
    exact ⟨by rw [hN, hT.sim.unlE hT.all], hm.done rfl hs.n hs.m hTw hh, Far.ofR hB'.rf.at_ hh.kept⟩
theorem two_cancel (h : Stand w0 w n g r N M) (t : Int) : ∃ bv, Two w0 w (n + 1) g r N M 17 18 [.int .i64 t] (.bool bv) := by
  obtain ⟨a, s, js, b, f, rfl, rfl, rfl, rfl, hB, hT⟩ := h
  have hs := cancel_same hT.all t
  have hsim := hT.sim.cancel hT.all t
  have hfw := hT.sim.whole hT.all.whole
  have hTw : Twin (n + 1) (cancelS s t) js (cancelR f t) := ⟨(cancel_inv hT.all t).mono (Nat.le_succ n) (fun _ x => x), cancel_j hT.all hT.j t, hsim, by
    have := hT.last
    unfold cancelR
    cases cancelBR f t <;> (show f.last ≤ _; omega)⟩
  refine ⟨decide ((0 ≤ t ∧ t < s.eff.length) ∧ (getW s.waits t).1 ≠ -1), Mid w0 a.g (n + 1) (cancelS s t) js b f, fun W W' => Mid.old, (lkCancel_any hB.lk.is.self hT.all t).mono ?_, fun W hm => ?_⟩
  · rintro e w' ⟨rfl, a', ha, hl⟩
    exact ⟨rfl, ⟨a', congrArg Prod.fst ha, hB.toL ((hB.lk.self.step hl ha hs.n).more (Nat.le_succ n))⟩, Far.ofL hB hl.kept⟩
  · obtain ⟨a', ha, hB'⟩ := id hm
    refine (refCancel hB'.rf.self hfw t).mono ?_
    rintro e w' ⟨rfl, hh⟩
    exact ⟨by rw [hT.sim.cancelB hT.all], hm.done rfl hs.n hs.m hTw hh, Far.ofR hB'.rf.at_ hh.kept⟩
theorem two_setLevel (h : Stand w0 w n g r N M) (t l : Int) : ∃ bv, Two w0 w (n + 1) g r N M 26 27 [.int .i64 t, .int .i64 l] (.bool bv) := by
  obtain ⟨a, s, js, b, f, rfl, rfl, rfl, rfl, hB, hT⟩ := h
  have hs := setLevel_same hT.all t l
  have hsim := hT.sim.setLevel hT.all t l
  have hfn := hT.sim.n hT.all.whole
  have hTw : Twin (n + 1) (setLevelS s t l) js (setLevelR f t l) := ⟨(setLevel_inv hT.all t l).mono (Nat.le_succ n) (fun _ x => x), setLevel_j hT.all hT.j t l, hsim, by
    have := hT.last
    unfold setLevelR
    split <;> (show f.last ≤ _; omega)⟩
  refine ⟨decide (0 ≤ t ∧ t < s.eff.length), Mid w0 a.g (n + 1) (setLevelS s t l) js b f, fun W W' => Mid.old, (lkSetLevel_any hB.lk.is.self hT.all.whole t l).mono ?_, fun W hm => ?_⟩
  · rintro e w' ⟨rfl, a', ha, hl⟩
    exact ⟨rfl, ⟨a', congrArg Prod.fst ha, hB.toL ((hB.lk.self.step hl ha hs.n).more (Nat.le_succ n))⟩, Far.ofL hB hl.kept⟩
  · obtain ⟨a', ha, hB'⟩ := id hm
    refine (refSetLevel hB'.rf.self t l).mono ?_
    rintro e w' ⟨rfl, hh⟩
    exact ⟨by rw [hfn], hm.done rfl hs.n hs.m hTw hh, Far.ofR hB'.rf.at_ hh.kept⟩
theorem two_join (h : Stand w0 w n g r N M) (hn : n ≤ 1000) (t u : Int) : ∃ c, Two w0 w (n + 1) g r N M 21 22 [.int .i64 t, .int .i64 u] (.int .i64 c) := by
  obtain ⟨a, s, js, b, f, rfl, rfl, rfl, rfl, hB, hT⟩ := h
  have hs : Same s (joinS s t u) := by unfold joinS; split <;> exact ⟨rfl, rfl⟩
  have hjl := hB.lk.len
  have h64 := hT.j.len hT.all.whole.nt
  have hsim := hT.sim.join_ hT.all hT.j hjl t u
  have hfw := hT.sim.whole hT.all.whole
  have hTw : Twin (n + 1) (joinS s t u) (joinJ s js t u) (joinR f t u) := ⟨(joinS_inv hT.all t u).mono (Nat.le_succ n) (fun _ x => x), join_j hT.all hT.j hjl t u, hsim, by
    have := hT.last
    unfold joinR
    split
    · show f.last + 1 ≤ _; omega
    · omega⟩
  refine ⟨joinE s t u, Mid w0 a.g (n + 1) (joinS s t u) (joinJ s js t u) b f, fun W W' => Mid.old, (lkJoin_any hB.lk.self hT.all (by omega) (fun x hx => by have := h64 x hx; omega) t u).mono ?_, fun W hm => ?_⟩
  · rintro e w' ⟨rfl, a', ha, hl⟩
    exact ⟨rfl, ⟨a', ha, hB.toL hl⟩, Far.ofL hB hl.is.kept⟩
  · obtain ⟨a', ha, hB'⟩ := id hm
    refine (refJoin hB'.rf.self hfw hT.sim.last (by have := hT.last; omega) t u).mono ?_
    rintro e w' ⟨rfl, hh⟩
    exact ⟨by rw [hT.sim.joinE hT.all], hm.done rfl hs.n hs.m hTw hh, Far.ofR hB'.rf.at_ hh.kept⟩
/-- Ended, of both: two lists, the same. -/
theorem two_ended (h : Stand w0 w n g r N M) (u : Int) : ∃ (L : List Int) (mid : Option Addr → Nat → World → Prop), L.length ≤ 64 ∧ (∀ A m W W', mid A m W → Kept [] W W' → mid A m W') ∧
    Calls Tryz.prog 24 #[.pointer (some ⟨g, 0, none⟩), .int .i64 u] w (fun e w' => ∃ A m c, e = .returned (.slice A m c) ∧ mid A m w' ∧ Far w w') ∧
    ∀ A m W, mid A m W → Calls Tryz.prog 25 #[.pointer (some ⟨r, 0, none⟩), .int .i64 u] W (fun e w' => ∃ A2 m2 c2, e = .returned (.slice A2 m2 c2) ∧ Reads w' 1 A m (L.map I64) ∧ Reads w' 1 A2 m2 (L.map I64) ∧ Stand w0 w' (n + 1) g r N M ∧ Far W w') := by
  obtain ⟨a, s, js, b, f, rfl, rfl, rfl, rfl, hB, hT⟩ := h
  have hs : Same s (endedS s js u) := ⟨rfl, rfl⟩
  have hjl := hB.lk.len
  have h64 := hT.j.len hT.all.whole.nt
  have hq := hT.sim.endq hT.all hT.j hjl u
  have hsim := hT.sim.ended hT.all hT.j hjl u
  have hfw := hT.sim.whole hT.all.whole
  have hlen := endQ_len (f := f) (l := u)
  have hn64 := hfw.n64
  have hlast : ∀ k, (endedR f (endQ f u) k).last = f.last := fun k => by
    induction k with
    | zero => rfl
    | succ k ih => exact ih
  have hTw : Twin (n + 1) (endedS s js u) (endedJ s js u) (endedR f (endQ f u) (endQ f u).length) := ⟨(ended_inv hT.all hT.j u).mono (Nat.le_succ n) (fun _ x => x), ended_j hT.all hT.j hjl u, hsim, by
    have := hT.last
    rw [hlast]; omega⟩
  refine ⟨endQ f u, fun A m W => Mid w0 a.g (n + 1) (endedS s js u) (endedJ s js u) b f W ∧ Reads W 1 A m ((endQ f u).map I64) ∧ ∀ ad, A = some ad → ad.block ∉ fpR b f, by omega, fun A m W W' hm hk => ⟨hm.1.old hk, hm.2.1.old hk, hm.2.2⟩, (lkEnded_any hB.lk.self hT.all hT.j (fun x hx => by have := h64 x hx; omega) u).mono ?_, fun A m W hm => ?_⟩
  · rintro e w' ⟨A, m, c, rfl, ⟨hR, hA⟩, a', ha, hl⟩
    rw [← hq] at hR
    refine ⟨A, m, c, rfl, ⟨⟨a', ha, hB.toL (hl.more (Nat.le_succ n))⟩, hR, fun ad hk hr => ?_⟩, Far.ofL hB hl.is.kept⟩
    rcases hA ad.block (by rw [fp_slice, hk]; simp) with h1 | h1
    · exact hB.apart _ h1 hr
    · have := hB.rf.at_.fp_lt hr
      have h1 : w.heap.size ≤ ad.block := h1
      omega
  · obtain ⟨⟨a', ha, hB'⟩, hR, hA⟩ := id hm
    refine (refEnded hB'.rf.self hfw u).mono ?_
    rintro e w' ⟨A2, c2, rfl, hD⟩
    exact ⟨A2, _, c2, rfl, hR.kept hD.is.kept hA, Reads.of_own hD.o1, hm.1.done rfl hs.n hs.m hTw hD.is, Far.ofR hB'.rf.at_ hD.is.kept⟩
/-- Drop, of both: lists, the same. -/
theorem two_drop (h : Stand w0 w n g r N M) (hn : n ≤ 1000) (hD : HasDb w0) (t : Int) : ∃ (L : List (Int × Int)) (mid : Option Addr → Nat → World → Prop), L.length ≤ 64 ∧ (∀ A m W W', mid A m W → Kept [] W W' → mid A m W') ∧
    Calls Tryz.prog 19 #[.pointer (some ⟨g, 0, none⟩), .int .i64 t] w (fun e w' => ∃ A m c, e = .returned (.slice A m c) ∧ mid A m w' ∧ Far w w') ∧
    ∀ A m W, mid A m W → Calls Tryz.prog 20 #[.pointer (some ⟨r, 0, none⟩), .int .i64 t] W (fun e w' => ∃ A1 m1 c1 A2 m2 c2, e = .returned (.tuple #[.slice A1 m1 c1, .slice A2 m2 c2]) ∧ Reads w' 2 A m (L.flatMap hL) ∧ Reads w' 1 A1 m1 ((L.map Prod.fst).map I64) ∧ Reads w' 1 A2 m2 ((L.map Prod.snd).map I64) ∧ Stand w0 w' (n + 1) g r N M ∧ Far W w') := by
  obtain ⟨a, s, js, b, f, rfl, rfl, rfl, rfl, hB, hT⟩ := h
  have hjl := hB.lk.len
  have hfw := hT.sim.whole hT.all.whole
  have hfn := hT.sim.n hT.all.whole
  have hDw : HasDb w := hD.old hB.lk.is.kept
  by_cases ht : 0 ≤ t ∧ t < (s.eff.length : Int)
  · obtain ⟨k, rfl⟩ : ∃ k : Nat, t = k := ⟨t.toNat, by omega⟩
    obtain ⟨h1, h2, hs⟩ := drop_ok hT.all hT.j hjl (k : Int)
    obtain ⟨hsim, e1, e2⟩ := hT.sim.drop hT.all hT.j hjl (k : Int) ht
    have hok := dropK_ok hfw (k : Int) (by omega) f.owner.length
    have hm64 := hfw.m64
    have hll : (dropL s k).length ≤ 64 := by
      have := hok.2.2.2.1
      rw [e1, List.length_map] at this
      omega
    have hlast : ∀ j, (dropK f k j).1.last = f.last := fun j => by
      induction j with
      | zero => rfl
      | succ j ih =>
        rw [dropK]
        split
        · cases lineR (dropK f k j).1 j <;> exact ih
        · exact ih
    have hTw : Twin (n + 1) (dropS s k) (dropJ s js k) (dropK f k f.owner.length).1 := ⟨h1.mono (Nat.le_succ n) (fun _ x => x), h2, hsim, by
      have := hT.last
      rw [hlast]; omega⟩
    refine ⟨dropL s k, fun A m W => Mid w0 a.g (n + 1) (dropS s k) (dropJ s js k) b f W ∧ Reads W 2 A m ((dropL s k).flatMap hL) ∧ ∀ ad, A = some ad → ad.block ∉ fpR b f, hll, fun A m W W' hm hk => ⟨hm.1.old hk, hm.2.1.old hk, hm.2.2⟩, (lkDrop_good hB.lk.self hT.all hT.j (by omega) hDw (LkAt.db hB.lk.is (by simp) hD.lt) hDw.lt k (by omega)).mono ?_, fun A m W hm => ?_⟩
    · rintro e w' ⟨A, m, c, rfl, ⟨hR, z, hRow⟩, a', ha, hl⟩
      have hB2 := hB.toL hl
      exact ⟨A, m, c, rfl, ⟨⟨a', ha, hB2⟩, hR, fun ad hk => hB2.rf.at_.no_row hRow (by decide) _ (by rw [fp_slice, hk]; simp)⟩, Far.ofL hB hl.is.kept⟩
    · obtain ⟨⟨a', ha, hB'⟩, hR, hA⟩ := id hm
      refine (refDrop hB'.rf.self hfw (k : Int) (by omega)).mono ?_
      rintro e w' ⟨A1, A2, c1, c2, rfl, hDr⟩
      refine ⟨A1, _, c1, A2, _, c2, rfl, hR.kept hDr.is.kept hA, ?_, ?_, hm.1.done rfl hs.n hs.m hTw hDr.is, Far.ofR hB'.rf.at_ hDr.is.kept⟩
      · rw [← e1]; exact Reads.of_own hDr.o1
      · rw [← e2]; exact Reads.of_own hDr.o2
  · have hTw : Twin (n + 1) s js f := ⟨hT.all.mono (Nat.le_succ n) (fun _ x => x), hT.j, hT.sim, by have := hT.last; omega⟩
    refine ⟨[], fun A m W => Mid w0 a.g (n + 1) s js b f W ∧ A = none ∧ m = 0, by simp, fun A m W W' hm hk => ⟨hm.1.old hk, hm.2⟩, (lkDrop_bad hB.lk.self t ht).mono ?_, fun A m W hm => ?_⟩
    · rintro e w' ⟨rfl, hl⟩
      exact ⟨none, 0, 0, rfl, ⟨⟨a, rfl, hB.toL (hl.more (Nat.le_succ n))⟩, rfl, rfl⟩, Far.ofL hB hl.is.kept⟩
    · obtain ⟨⟨a', ha, hB'⟩, rfl, rfl⟩ := id hm
      refine (refDropNo hB'.rf.at_ t (by omega)).mono ?_
      rintro e w' ⟨rfl, rfl⟩
      exact ⟨none, 0, 0, none, 0, 0, rfl, Reads.none_, Reads.none_, Reads.none_, hm.1.done rfl rfl rfl hTw hB'.rf.self, fun _ _ _ _ h => h⟩
end

end Go.Proofs.YtfoeijiejpenpaaGreatDoor

/- Law 26: does: a call, of both; walked. -/
namespace Go.Proofs.YtfoeijiejpenpaaGreatDoor
open Go.RowKit

theorem act_blk {w : World} {cs : Array Value} : Blk (w.alloc (.cells cs 35)).drew w.heap.size 35 cs := (Blk.new w 35 cs).drew

set_option maxHeartbeats 6400000 in
set_option maxRecDepth 100000 in
theorem does_try {w0 w : World} {n g r N M : Nat} (h : Stand w0 w n g r N M) (kd : Nat) (hk : kd < 256) (hr : (kd : Int) % 11 = 3) (A B : Int) :
    Calls Tryz.prog 6 #[.pointer (some ⟨g, 0, none⟩), .pointer (some ⟨r, 0, none⟩), .agg #[.int .u8 kd, .int .i64 A, .int .i64 B]] w fun e w' => e = .returned (.bool true) ∧ Stand w0 w' (n + 1) g r N M := by
  have h0 : (0 : Int) ≤ (kd : Int) := by omega
  have h1 : (kd : Int) < 256 := by omega
  have hmix : Tryz.prog.follows .mixedOrders = true := by kernel_rfl
  have hb := h.old (((Kept.refl [] w).alloc (.cells #[.int .u8 kd, .int .i64 A, .int .i64 B] 35)).drew)
  obtain ⟨c, mid, hmo, HP0, HR0⟩ := two_try hb A B
  have HP := Lib.hid HP0
  have HR := Lib.hid HR0
  have hbx : Blk (w.alloc (.cells #[.int .u8 kd, .int .i64 A, .int .i64 B] 35)).drew w.heap.size 35 #[.int .u8 kd, .int .i64 A, .int .i64 B] := act_blk
  have hbx0 : Blk (w.alloc (.cells #[.int .u8 kd, .int .i64 A, .int .i64 B] 35)) w.heap.size 35 #[.int .u8 kd, .int .i64 A, .int .i64 B] := Blk.new w 35 #[.int .u8 kd, .int .i64 A, .int .i64 B]
  have HB := Lib.hid hbx
  have HB0 := Lib.hid hbx0
  have hcA := hbx.cell 1
  have hcB := hbx.cell 2
  have hc0 := hbx0.cell 0
  clear hbx hbx0 h hb HP0 HR0 hmo hk
  go_enter Tryz.func6, Tryz.ntmps6
  go_wp2_with fail
  refine wp_region_held_drew (S := fun W => W.cell? ⟨w.heap.size, 1, none⟩ = some (.int .i64 A) ∧ W.cell? ⟨w.heap.size, 2, none⟩ = some (.int .i64 B)) hmix ⟨hcA, hcB⟩ (fun hHeld => ?_)
  (refine rtake_0 (v := ?_) (by kernel_rfl) (by kernel_rfl) (by kernel_rfl) (fun _ _ _ h => h) (Or.inl ⟨by rfl, ?_⟩) (by assumption) ?_; rotate_left; (focus ((intro w hSw; (try dsimp only at hSw); go_simp); try (with_reducible rfl))); (try dsimp only [Act.put]); (try simp only [List.setIfInBounds_toArray, List.set_cons_zero, List.set_cons_succ]))
  (refine rtake_1 (v := ?_) (by kernel_rfl) (by kernel_rfl) (by kernel_rfl) (fun _ _ _ h => h) (Or.inl ⟨by rfl, ?_⟩) (by assumption) ?_; rotate_left; (focus ((intro w hSw; (try dsimp only at hSw); go_simp); try (with_reducible rfl))); (try dsimp only [Act.put]); (try simp only [List.setIfInBounds_toArray, List.set_cons_zero, List.set_cons_succ]))
  (refine rtake_2 (v := ?_) (by kernel_rfl) (by kernel_rfl) (by kernel_rfl) (fun _ _ _ h => h) (Or.inl ⟨by rfl, ?_⟩) (by assumption) ?_; rotate_left; (focus ((intro w hSw; (try dsimp only at hSw); go_simp); try (with_reducible rfl))); (try dsimp only [Act.put]); (try simp only [List.setIfInBounds_toArray, List.set_cons_zero, List.set_cons_succ]))
  (refine rtake_3 (v := ?_) (by kernel_rfl) (by kernel_rfl) (by kernel_rfl) (fun _ _ _ h => h) (Or.inl ⟨by rfl, ?_⟩) (by assumption) ?_; rotate_left; (focus ((intro w hSw; (try dsimp only at hSw); go_simp); try (with_reducible rfl))); (try dsimp only [Act.put]); (try simp only [List.setIfInBounds_toArray, List.set_cons_zero, List.set_cons_succ]))
  (refine rtake_4 (v := ?_) (by kernel_rfl) (by kernel_rfl) (by kernel_rfl) (fun _ _ _ h => h) (Or.inl ⟨by rfl, ?_⟩) (by assumption) ?_; rotate_left; (focus ((intro w hSw; (try dsimp only at hSw); go_simp); try (with_reducible rfl))); (try dsimp only [Act.put]); (try simp only [List.setIfInBounds_toArray, List.set_cons_zero, List.set_cons_succ]))
  (refine rtake_6 (v := ?_) (by kernel_rfl) (by kernel_rfl) (by kernel_rfl) (fun _ _ _ h => h) (Or.inl ⟨by rfl, ?_⟩) (by assumption) ?_; rotate_left; (focus ((intro w hSw; (try dsimp only at hSw); go_simp); try (with_reducible rfl))); (try dsimp only [Act.put]); (try simp only [List.setIfInBounds_toArray, List.set_cons_zero, List.set_cons_succ]))
  (refine rtake_7 (v := ?_) (by kernel_rfl) (by kernel_rfl) (by kernel_rfl) (fun _ _ _ h => h) (Or.inl ⟨by rfl, ?_⟩) (by assumption) ?_; rotate_left; (focus ((intro w hSw; (try dsimp only at hSw); go_simp); try (with_reducible rfl))); (try dsimp only [Act.put]); (try simp only [List.setIfInBounds_toArray, List.set_cons_zero, List.set_cons_succ]))
  (refine rtake_8 (v := ?_) (by kernel_rfl) (by kernel_rfl) (by kernel_rfl) (fun _ _ _ h => h) (Or.inl ⟨by rfl, ?_⟩) (by assumption) ?_; rotate_left; (focus ((intro w hSw; (try dsimp only at hSw); go_simp); try (with_reducible rfl))); (try dsimp only [Act.put]); (try simp only [List.setIfInBounds_toArray, List.set_cons_zero, List.set_cons_succ]))
  (refine rtake_9 (v := ?_) (by kernel_rfl) (by kernel_rfl) (by kernel_rfl) (fun _ _ _ h => h) (Or.inl ⟨by rfl, ?_⟩) (by assumption) ?_; rotate_left; (focus ((intro w hSw; (try dsimp only at hSw); go_simp); try (with_reducible rfl))); (try dsimp only [Act.put]); (try simp only [List.setIfInBounds_toArray, List.set_cons_zero, List.set_cons_succ]))
  (refine rtake_10 (v := ?_) (by kernel_rfl) (by kernel_rfl) (by kernel_rfl) (fun _ _ _ h => h) (Or.inl ⟨by rfl, ?_⟩) (by assumption) ?_; rotate_left; (focus ((intro w hSw; (try dsimp only at hSw); go_simp); try (with_reducible rfl))); (try dsimp only [Act.put]); (try simp only [List.setIfInBounds_toArray, List.set_cons_zero, List.set_cons_succ]))
  (refine wpAnyH_ready (rs := [5]) (by kernel_rfl) (by simp) ?_; refine rcons_5 (fun K hK => ?_) (AllReadyH.nil))
  go_simp
  (with_reducible refine (HP.out).mono ?_)
  rintro e w1 ⟨rfl, hm1, hf1⟩
  have HB1 := Lib.hid (hf1 _ _ _ (by decide) HB.out)
  have HM1 := Lib.hid hm1
  have hd1 := HB1.out.cell 1
  have hd2 := HB1.out.cell 2
  clear hm1 hf1
  try go_simp
  refine hK.out _ _ ⟨hd1, hd2⟩ (fun hHeld => ?_)
  clear hK K
  (try simp only [Act.put, List.setIfInBounds_toArray, List.set_cons_zero, List.set_cons_succ])
  (refine wpAnyH_ready (rs := [11]) (by kernel_rfl) (by simp) ?_; refine rcons_11 (fun K hK => ?_) (AllReadyH.nil))
  go_simp
  (with_reducible refine (HR.out _ HM1.out).mono ?_)
  rintro e w2 ⟨rfl, hs2, hf2⟩
  have HB2 := Lib.hid (hf2 _ _ _ (by decide) HB1.out)
  have HS2 := Lib.hid hs2
  have hd3 := HB2.out.cell 1
  have hd4 := HB2.out.cell 2
  clear hs2 hf2 hd1 hd2
  try go_simp
  refine hK.out _ _ ⟨hd3, hd4⟩ (fun hHeld => ?_)
  clear hK K
  (try simp only [Act.put, List.setIfInBounds_toArray, List.set_cons_zero, List.set_cons_succ])
  (refine rtake_12 (v := ?_) (by kernel_rfl) (by kernel_rfl) (by kernel_rfl) (fun _ _ _ h => h) (Or.inl ⟨by rfl, ?_⟩) (by assumption) ?_; rotate_left; (focus ((intro w hSw; (try dsimp only at hSw); go_simp); try (with_reducible rfl))); (try dsimp only [Act.put]); (try simp only [List.setIfInBounds_toArray, List.set_cons_zero, List.set_cons_succ]))
  (refine rtake_13 (v := ?_) (by kernel_rfl) (by kernel_rfl) (by kernel_rfl) (fun _ _ _ h => h) (Or.inl ⟨by rfl, ?_⟩) (by assumption) ?_; rotate_left; (focus ((intro w hSw; (try dsimp only at hSw); go_simp); try (with_reducible rfl))); (try dsimp only [Act.put]); (try simp only [List.setIfInBounds_toArray, List.set_cons_zero, List.set_cons_succ]))
  refine wpAnyH_done (by kernel_rfl) ?_ _
  go_wp2_with fail
  go_ret
  exact ⟨rfl, HS2.out⟩

set_option maxHeartbeats 6400000 in
set_option maxRecDepth 100000 in
theorem does_unlock4 {w0 w : World} {n g r N M : Nat} (h : Stand w0 w n g r N M) (kd : Nat) (hk : kd < 256) (hr : (kd : Int) % 11 = 4) (A B : Int) :
    Calls Tryz.prog 6 #[.pointer (some ⟨g, 0, none⟩), .pointer (some ⟨r, 0, none⟩), .agg #[.int .u8 kd, .int .i64 A, .int .i64 B]] w fun e w' => e = .returned (.bool true) ∧ Stand w0 w' (n + 1) g r N M := by
  have h0 : (0 : Int) ≤ (kd : Int) := by omega
  have h1 : (kd : Int) < 256 := by omega
  have hmix : Tryz.prog.follows .mixedOrders = true := by kernel_rfl
  have hb := h.old ((Kept.refl [] w).alloc (.cells #[.int .u8 kd, .int .i64 A, .int .i64 B] 35))
  obtain ⟨m, c, mid, hmo, HP0, HR0⟩ := two_unlock hb A B
  have HP := Lib.hid HP0
  have HR := Lib.hid HR0
  have hbx0 : Blk (w.alloc (.cells #[.int .u8 kd, .int .i64 A, .int .i64 B] 35)) w.heap.size 35 #[.int .u8 kd, .int .i64 A, .int .i64 B] := Blk.new w 35 #[.int .u8 kd, .int .i64 A, .int .i64 B]
  have HB := Lib.hid hbx0
  have hc0 := hbx0.cell 0
  have hc1 := hbx0.cell 1
  have hc2 := hbx0.cell 2
  clear hbx0 h hb HP0 HR0 hmo hk
  go_enter Tryz.func6, Tryz.ntmps6
  go_wp2_with fail
  refine (HP.out).mono ?_
  rintro e w1 ⟨rfl, hm1, hf1⟩
  have HB1 := Lib.hid (hf1 _ _ _ (by decide) HB.out)
  have HM1 := Lib.hid hm1
  have hd1 := HB1.out.cell 1
  have hd2 := HB1.out.cell 2
  clear hm1 hf1 hc1 hc2
  go_wp2_with fail
  refine (HR.out _ HM1.out).mono ?_
  rintro e w2 ⟨rfl, hs2, hf2⟩
  have HS2 := Lib.hid hs2
  clear hs2 hf2
  go_wp2_with fail
  go_ret
  exact ⟨rfl, HS2.out⟩

set_option maxHeartbeats 6400000 in
set_option maxRecDepth 100000 in
theorem does_unlock5 {w0 w : World} {n g r N M : Nat} (h : Stand w0 w n g r N M) (kd : Nat) (hk : kd < 256) (hr : (kd : Int) % 11 = 5) (A B : Int) :
    Calls Tryz.prog 6 #[.pointer (some ⟨g, 0, none⟩), .pointer (some ⟨r, 0, none⟩), .agg #[.int .u8 kd, .int .i64 A, .int .i64 B]] w fun e w' => e = .returned (.bool true) ∧ Stand w0 w' (n + 1) g r N M := by
  have h0 : (0 : Int) ≤ (kd : Int) := by omega
  have h1 : (kd : Int) < 256 := by omega
  have hmix : Tryz.prog.follows .mixedOrders = true := by kernel_rfl
  have hb := h.old ((Kept.refl [] w).alloc (.cells #[.int .u8 kd, .int .i64 A, .int .i64 B] 35))
  obtain ⟨m, c, mid, hmo, HP0, HR0⟩ := two_unlock hb A B
  have HP := Lib.hid HP0
  have HR := Lib.hid HR0
  have hbx0 : Blk (w.alloc (.cells #[.int .u8 kd, .int .i64 A, .int .i64 B] 35)) w.heap.size 35 #[.int .u8 kd, .int .i64 A, .int .i64 B] := Blk.new w 35 #[.int .u8 kd, .int .i64 A, .int .i64 B]
  have HB := Lib.hid hbx0
  have hc0 := hbx0.cell 0
  have hc1 := hbx0.cell 1
  have hc2 := hbx0.cell 2
  clear hbx0 h hb HP0 HR0 hmo hk
  go_enter Tryz.func6, Tryz.ntmps6
  go_wp2_with fail
  refine (HP.out).mono ?_
  rintro e w1 ⟨rfl, hm1, hf1⟩
  have HB1 := Lib.hid (hf1 _ _ _ (by decide) HB.out)
  have HM1 := Lib.hid hm1
  have hd1 := HB1.out.cell 1
  have hd2 := HB1.out.cell 2
  clear hm1 hf1 hc1 hc2
  go_wp2_with fail
  refine (HR.out _ HM1.out).mono ?_
  rintro e w2 ⟨rfl, hs2, hf2⟩
  have HS2 := Lib.hid hs2
  clear hs2 hf2
  go_wp2_with fail
  go_ret
  exact ⟨rfl, HS2.out⟩

set_option maxHeartbeats 6400000 in
set_option maxRecDepth 100000 in
theorem does_cancel {w0 w : World} {n g r N M : Nat} (h : Stand w0 w n g r N M) (kd : Nat) (hk : kd < 256) (hr : (kd : Int) % 11 = 6) (A B : Int) :
    Calls Tryz.prog 6 #[.pointer (some ⟨g, 0, none⟩), .pointer (some ⟨r, 0, none⟩), .agg #[.int .u8 kd, .int .i64 A, .int .i64 B]] w fun e w' => e = .returned (.bool true) ∧ Stand w0 w' (n + 1) g r N M := by
  have h0 : (0 : Int) ≤ (kd : Int) := by omega
  have h1 : (kd : Int) < 256 := by omega
  have hmix : Tryz.prog.follows .mixedOrders = true := by kernel_rfl
  have hb := h.old (((Kept.refl [] w).alloc (.cells #[.int .u8 kd, .int .i64 A, .int .i64 B] 35)).drew)
  obtain ⟨bv, mid, hmo, HP0, HR0⟩ := two_cancel hb A
  have HP := Lib.hid HP0
  have HR := Lib.hid HR0
  have hbx : Blk (w.alloc (.cells #[.int .u8 kd, .int .i64 A, .int .i64 B] 35)).drew w.heap.size 35 #[.int .u8 kd, .int .i64 A, .int .i64 B] := act_blk
  have hbx0 : Blk (w.alloc (.cells #[.int .u8 kd, .int .i64 A, .int .i64 B] 35)) w.heap.size 35 #[.int .u8 kd, .int .i64 A, .int .i64 B] := Blk.new w 35 #[.int .u8 kd, .int .i64 A, .int .i64 B]
  have HB := Lib.hid hbx
  have HB0 := Lib.hid hbx0
  have hcA := hbx.cell 1
  have hcB := hbx.cell 2
  have hc0 := hbx0.cell 0
  clear hbx hbx0 h hb HP0 HR0 hmo hk
  go_enter Tryz.func6, Tryz.ntmps6
  go_wp2_with fail
  refine wp_region_held_drew (S := fun W => W.cell? ⟨w.heap.size, 1, none⟩ = some (.int .i64 A) ∧ W.cell? ⟨w.heap.size, 2, none⟩ = some (.int .i64 B)) hmix ⟨hcA, hcB⟩ (fun hHeld => ?_)
  (refine rtake_0 (v := ?_) (by kernel_rfl) (by kernel_rfl) (by kernel_rfl) (fun _ _ _ h => h) (Or.inl ⟨by rfl, ?_⟩) (by assumption) ?_; rotate_left; (focus ((intro w hSw; (try dsimp only at hSw); go_simp); try (with_reducible rfl))); (try dsimp only [Act.put]); (try simp only [List.setIfInBounds_toArray, List.set_cons_zero, List.set_cons_succ]))
  (refine rtake_1 (v := ?_) (by kernel_rfl) (by kernel_rfl) (by kernel_rfl) (fun _ _ _ h => h) (Or.inl ⟨by rfl, ?_⟩) (by assumption) ?_; rotate_left; (focus ((intro w hSw; (try dsimp only at hSw); go_simp); try (with_reducible rfl))); (try dsimp only [Act.put]); (try simp only [List.setIfInBounds_toArray, List.set_cons_zero, List.set_cons_succ]))
  (refine rtake_2 (v := ?_) (by kernel_rfl) (by kernel_rfl) (by kernel_rfl) (fun _ _ _ h => h) (Or.inl ⟨by rfl, ?_⟩) (by assumption) ?_; rotate_left; (focus ((intro w hSw; (try dsimp only at hSw); go_simp); try (with_reducible rfl))); (try dsimp only [Act.put]); (try simp only [List.setIfInBounds_toArray, List.set_cons_zero, List.set_cons_succ]))
  (refine rtake_4 (v := ?_) (by kernel_rfl) (by kernel_rfl) (by kernel_rfl) (fun _ _ _ h => h) (Or.inl ⟨by rfl, ?_⟩) (by assumption) ?_; rotate_left; (focus ((intro w hSw; (try dsimp only at hSw); go_simp); try (with_reducible rfl))); (try dsimp only [Act.put]); (try simp only [List.setIfInBounds_toArray, List.set_cons_zero, List.set_cons_succ]))
  (refine rtake_5 (v := ?_) (by kernel_rfl) (by kernel_rfl) (by kernel_rfl) (fun _ _ _ h => h) (Or.inl ⟨by rfl, ?_⟩) (by assumption) ?_; rotate_left; (focus ((intro w hSw; (try dsimp only at hSw); go_simp); try (with_reducible rfl))); (try dsimp only [Act.put]); (try simp only [List.setIfInBounds_toArray, List.set_cons_zero, List.set_cons_succ]))
  (refine rtake_6 (v := ?_) (by kernel_rfl) (by kernel_rfl) (by kernel_rfl) (fun _ _ _ h => h) (Or.inl ⟨by rfl, ?_⟩) (by assumption) ?_; rotate_left; (focus ((intro w hSw; (try dsimp only at hSw); go_simp); try (with_reducible rfl))); (try dsimp only [Act.put]); (try simp only [List.setIfInBounds_toArray, List.set_cons_zero, List.set_cons_succ]))
  (refine wpAnyH_ready (rs := [3]) (by kernel_rfl) (by simp) ?_; refine rcons_3 (fun K hK => ?_) (AllReadyH.nil))
  go_simp
  (with_reducible refine (HP.out).mono ?_)
  rintro e w1 ⟨rfl, hm1, hf1⟩
  have HB1 := Lib.hid (hf1 _ _ _ (by decide) HB.out)
  have HM1 := Lib.hid hm1
  have hd1 := HB1.out.cell 1
  have hd2 := HB1.out.cell 2
  clear hm1 hf1
  try go_simp
  refine hK.out _ _ ⟨hd1, hd2⟩ (fun hHeld => ?_)
  clear hK K
  (try simp only [Act.put, List.setIfInBounds_toArray, List.set_cons_zero, List.set_cons_succ])
  (refine wpAnyH_ready (rs := [7]) (by kernel_rfl) (by simp) ?_; refine rcons_7 (fun K hK => ?_) (AllReadyH.nil))
  go_simp
  (with_reducible refine (HR.out _ HM1.out).mono ?_)
  rintro e w2 ⟨rfl, hs2, hf2⟩
  have HB2 := Lib.hid (hf2 _ _ _ (by decide) HB1.out)
  have HS2 := Lib.hid hs2
  have hd3 := HB2.out.cell 1
  have hd4 := HB2.out.cell 2
  clear hs2 hf2 hd1 hd2
  try go_simp
  refine hK.out _ _ ⟨hd3, hd4⟩ (fun hHeld => ?_)
  clear hK K
  (try simp only [Act.put, List.setIfInBounds_toArray, List.set_cons_zero, List.set_cons_succ])
  (refine rtake_8 (v := ?_) (by kernel_rfl) (by kernel_rfl) (by kernel_rfl) (fun _ _ _ h => h) (Or.inl ⟨by rfl, ?_⟩) (by assumption) ?_; rotate_left; (focus ((intro w hSw; (try dsimp only at hSw); go_simp); try (with_reducible rfl))); (try dsimp only [Act.put]); (try simp only [List.setIfInBounds_toArray, List.set_cons_zero, List.set_cons_succ]))
  (refine rtake_9 (v := ?_) (by kernel_rfl) (by kernel_rfl) (by kernel_rfl) (fun _ _ _ h => h) (Or.inl ⟨by rfl, ?_⟩) (by assumption) ?_; rotate_left; (focus ((intro w hSw; (try dsimp only at hSw); go_simp); try (with_reducible rfl))); (try dsimp only [Act.put]); (try simp only [List.setIfInBounds_toArray, List.set_cons_zero, List.set_cons_succ]))
  refine wpAnyH_done (by kernel_rfl) ?_ _
  go_wp2_with fail
  go_ret
  exact ⟨rfl, HS2.out⟩

set_option maxHeartbeats 6400000 in
set_option maxRecDepth 100000 in
theorem does_join {w0 w : World} {n g r N M : Nat} (h : Stand w0 w n g r N M) (hn : n ≤ 1000) (kd : Nat) (hk : kd < 256) (hr : (kd : Int) % 11 = 8) (A B : Int) :
    Calls Tryz.prog 6 #[.pointer (some ⟨g, 0, none⟩), .pointer (some ⟨r, 0, none⟩), .agg #[.int .u8 kd, .int .i64 A, .int .i64 B]] w fun e w' => e = .returned (.bool true) ∧ Stand w0 w' (n + 1) g r N M := by
  have h0 : (0 : Int) ≤ (kd : Int) := by omega
  have h1 : (kd : Int) < 256 := by omega
  have hmix : Tryz.prog.follows .mixedOrders = true := by kernel_rfl
  have hb := h.old (((Kept.refl [] w).alloc (.cells #[.int .u8 kd, .int .i64 A, .int .i64 B] 35)).drew)
  obtain ⟨c, mid, hmo, HP0, HR0⟩ := two_join hb hn A B
  have HP := Lib.hid HP0
  have HR := Lib.hid HR0
  have hbx : Blk (w.alloc (.cells #[.int .u8 kd, .int .i64 A, .int .i64 B] 35)).drew w.heap.size 35 #[.int .u8 kd, .int .i64 A, .int .i64 B] := act_blk
  have hbx0 : Blk (w.alloc (.cells #[.int .u8 kd, .int .i64 A, .int .i64 B] 35)) w.heap.size 35 #[.int .u8 kd, .int .i64 A, .int .i64 B] := Blk.new w 35 #[.int .u8 kd, .int .i64 A, .int .i64 B]
  have HB := Lib.hid hbx
  have HB0 := Lib.hid hbx0
  have hcA := hbx.cell 1
  have hcB := hbx.cell 2
  have hc0 := hbx0.cell 0
  clear hbx hbx0 h hb HP0 HR0 hmo hk
  go_enter Tryz.func6, Tryz.ntmps6
  go_wp2_with fail
  refine wp_region_held_drew (S := fun W => W.cell? ⟨w.heap.size, 1, none⟩ = some (.int .i64 A) ∧ W.cell? ⟨w.heap.size, 2, none⟩ = some (.int .i64 B)) hmix ⟨hcA, hcB⟩ (fun hHeld => ?_)
  (refine rtake_0 (v := ?_) (by kernel_rfl) (by kernel_rfl) (by kernel_rfl) (fun _ _ _ h => h) (Or.inl ⟨by rfl, ?_⟩) (by assumption) ?_; rotate_left; (focus ((intro w hSw; (try dsimp only at hSw); go_simp); try (with_reducible rfl))); (try dsimp only [Act.put]); (try simp only [List.setIfInBounds_toArray, List.set_cons_zero, List.set_cons_succ]))
  (refine rtake_1 (v := ?_) (by kernel_rfl) (by kernel_rfl) (by kernel_rfl) (fun _ _ _ h => h) (Or.inl ⟨by rfl, ?_⟩) (by assumption) ?_; rotate_left; (focus ((intro w hSw; (try dsimp only at hSw); go_simp); try (with_reducible rfl))); (try dsimp only [Act.put]); (try simp only [List.setIfInBounds_toArray, List.set_cons_zero, List.set_cons_succ]))
  (refine rtake_2 (v := ?_) (by kernel_rfl) (by kernel_rfl) (by kernel_rfl) (fun _ _ _ h => h) (Or.inl ⟨by rfl, ?_⟩) (by assumption) ?_; rotate_left; (focus ((intro w hSw; (try dsimp only at hSw); go_simp); try (with_reducible rfl))); (try dsimp only [Act.put]); (try simp only [List.setIfInBounds_toArray, List.set_cons_zero, List.set_cons_succ]))
  (refine rtake_3 (v := ?_) (by kernel_rfl) (by kernel_rfl) (by kernel_rfl) (fun _ _ _ h => h) (Or.inl ⟨by rfl, ?_⟩) (by assumption) ?_; rotate_left; (focus ((intro w hSw; (try dsimp only at hSw); go_simp); try (with_reducible rfl))); (try dsimp only [Act.put]); (try simp only [List.setIfInBounds_toArray, List.set_cons_zero, List.set_cons_succ]))
  (refine rtake_4 (v := ?_) (by kernel_rfl) (by kernel_rfl) (by kernel_rfl) (fun _ _ _ h => h) (Or.inl ⟨by rfl, ?_⟩) (by assumption) ?_; rotate_left; (focus ((intro w hSw; (try dsimp only at hSw); go_simp); try (with_reducible rfl))); (try dsimp only [Act.put]); (try simp only [List.setIfInBounds_toArray, List.set_cons_zero, List.set_cons_succ]))
  (refine rtake_6 (v := ?_) (by kernel_rfl) (by kernel_rfl) (by kernel_rfl) (fun _ _ _ h => h) (Or.inl ⟨by rfl, ?_⟩) (by assumption) ?_; rotate_left; (focus ((intro w hSw; (try dsimp only at hSw); go_simp); try (with_reducible rfl))); (try dsimp only [Act.put]); (try simp only [List.setIfInBounds_toArray, List.set_cons_zero, List.set_cons_succ]))
  (refine rtake_7 (v := ?_) (by kernel_rfl) (by kernel_rfl) (by kernel_rfl) (fun _ _ _ h => h) (Or.inl ⟨by rfl, ?_⟩) (by assumption) ?_; rotate_left; (focus ((intro w hSw; (try dsimp only at hSw); go_simp); try (with_reducible rfl))); (try dsimp only [Act.put]); (try simp only [List.setIfInBounds_toArray, List.set_cons_zero, List.set_cons_succ]))
  (refine rtake_8 (v := ?_) (by kernel_rfl) (by kernel_rfl) (by kernel_rfl) (fun _ _ _ h => h) (Or.inl ⟨by rfl, ?_⟩) (by assumption) ?_; rotate_left; (focus ((intro w hSw; (try dsimp only at hSw); go_simp); try (with_reducible rfl))); (try dsimp only [Act.put]); (try simp only [List.setIfInBounds_toArray, List.set_cons_zero, List.set_cons_succ]))
  (refine rtake_9 (v := ?_) (by kernel_rfl) (by kernel_rfl) (by kernel_rfl) (fun _ _ _ h => h) (Or.inl ⟨by rfl, ?_⟩) (by assumption) ?_; rotate_left; (focus ((intro w hSw; (try dsimp only at hSw); go_simp); try (with_reducible rfl))); (try dsimp only [Act.put]); (try simp only [List.setIfInBounds_toArray, List.set_cons_zero, List.set_cons_succ]))
  (refine rtake_10 (v := ?_) (by kernel_rfl) (by kernel_rfl) (by kernel_rfl) (fun _ _ _ h => h) (Or.inl ⟨by rfl, ?_⟩) (by assumption) ?_; rotate_left; (focus ((intro w hSw; (try dsimp only at hSw); go_simp); try (with_reducible rfl))); (try dsimp only [Act.put]); (try simp only [List.setIfInBounds_toArray, List.set_cons_zero, List.set_cons_succ]))
  (refine wpAnyH_ready (rs := [5]) (by kernel_rfl) (by simp) ?_; refine rcons_5 (fun K hK => ?_) (AllReadyH.nil))
  go_simp
  (with_reducible refine (HP.out).mono ?_)
  rintro e w1 ⟨rfl, hm1, hf1⟩
  have HB1 := Lib.hid (hf1 _ _ _ (by decide) HB.out)
  have HM1 := Lib.hid hm1
  have hd1 := HB1.out.cell 1
  have hd2 := HB1.out.cell 2
  clear hm1 hf1
  try go_simp
  refine hK.out _ _ ⟨hd1, hd2⟩ (fun hHeld => ?_)
  clear hK K
  (try simp only [Act.put, List.setIfInBounds_toArray, List.set_cons_zero, List.set_cons_succ])
  (refine wpAnyH_ready (rs := [11]) (by kernel_rfl) (by simp) ?_; refine rcons_11 (fun K hK => ?_) (AllReadyH.nil))
  go_simp
  (with_reducible refine (HR.out _ HM1.out).mono ?_)
  rintro e w2 ⟨rfl, hs2, hf2⟩
  have HB2 := Lib.hid (hf2 _ _ _ (by decide) HB1.out)
  have HS2 := Lib.hid hs2
  have hd3 := HB2.out.cell 1
  have hd4 := HB2.out.cell 2
  clear hs2 hf2 hd1 hd2
  try go_simp
  refine hK.out _ _ ⟨hd3, hd4⟩ (fun hHeld => ?_)
  clear hK K
  (try simp only [Act.put, List.setIfInBounds_toArray, List.set_cons_zero, List.set_cons_succ])
  (refine rtake_12 (v := ?_) (by kernel_rfl) (by kernel_rfl) (by kernel_rfl) (fun _ _ _ h => h) (Or.inl ⟨by rfl, ?_⟩) (by assumption) ?_; rotate_left; (focus ((intro w hSw; (try dsimp only at hSw); go_simp); try (with_reducible rfl))); (try dsimp only [Act.put]); (try simp only [List.setIfInBounds_toArray, List.set_cons_zero, List.set_cons_succ]))
  (refine rtake_13 (v := ?_) (by kernel_rfl) (by kernel_rfl) (by kernel_rfl) (fun _ _ _ h => h) (Or.inl ⟨by rfl, ?_⟩) (by assumption) ?_; rotate_left; (focus ((intro w hSw; (try dsimp only at hSw); go_simp); try (with_reducible rfl))); (try dsimp only [Act.put]); (try simp only [List.setIfInBounds_toArray, List.set_cons_zero, List.set_cons_succ]))
  refine wpAnyH_done (by kernel_rfl) ?_ _
  go_wp2_with fail
  go_ret
  exact ⟨rfl, HS2.out⟩

set_option maxHeartbeats 6400000 in
set_option maxRecDepth 100000 in
theorem does_setLevel {w0 w : World} {n g r N M : Nat} (h : Stand w0 w n g r N M) (kd : Nat) (hk : kd < 256) (hr : (kd : Int) % 11 = 10) (A B : Int) :
    Calls Tryz.prog 6 #[.pointer (some ⟨g, 0, none⟩), .pointer (some ⟨r, 0, none⟩), .agg #[.int .u8 kd, .int .i64 A, .int .i64 B]] w fun e w' => e = .returned (.bool true) ∧ Stand w0 w' (n + 1) g r N M := by
  have h0 : (0 : Int) ≤ (kd : Int) := by omega
  have h1 : (kd : Int) < 256 := by omega
  have hmix : Tryz.prog.follows .mixedOrders = true := by kernel_rfl
  have hb := h.old (((Kept.refl [] w).alloc (.cells #[.int .u8 kd, .int .i64 A, .int .i64 B] 35)).drew)
  obtain ⟨bv, mid, hmo, HP0, HR0⟩ := two_setLevel hb A B
  have HP := Lib.hid HP0
  have HR := Lib.hid HR0
  have hbx : Blk (w.alloc (.cells #[.int .u8 kd, .int .i64 A, .int .i64 B] 35)).drew w.heap.size 35 #[.int .u8 kd, .int .i64 A, .int .i64 B] := act_blk
  have hbx0 : Blk (w.alloc (.cells #[.int .u8 kd, .int .i64 A, .int .i64 B] 35)) w.heap.size 35 #[.int .u8 kd, .int .i64 A, .int .i64 B] := Blk.new w 35 #[.int .u8 kd, .int .i64 A, .int .i64 B]
  have HB := Lib.hid hbx
  have HB0 := Lib.hid hbx0
  have hcA := hbx.cell 1
  have hcB := hbx.cell 2
  have hc0 := hbx0.cell 0
  clear hbx hbx0 h hb HP0 HR0 hmo hk
  go_enter Tryz.func6, Tryz.ntmps6
  go_wp2_with fail
  refine wp_region_held_drew (S := fun W => W.cell? ⟨w.heap.size, 1, none⟩ = some (.int .i64 A) ∧ W.cell? ⟨w.heap.size, 2, none⟩ = some (.int .i64 B)) hmix ⟨hcA, hcB⟩ (fun hHeld => ?_)
  (refine rtake_0 (v := ?_) (by kernel_rfl) (by kernel_rfl) (by kernel_rfl) (fun _ _ _ h => h) (Or.inl ⟨by rfl, ?_⟩) (by assumption) ?_; rotate_left; (focus ((intro w hSw; (try dsimp only at hSw); go_simp); try (with_reducible rfl))); (try dsimp only [Act.put]); (try simp only [List.setIfInBounds_toArray, List.set_cons_zero, List.set_cons_succ]))
  (refine rtake_1 (v := ?_) (by kernel_rfl) (by kernel_rfl) (by kernel_rfl) (fun _ _ _ h => h) (Or.inl ⟨by rfl, ?_⟩) (by assumption) ?_; rotate_left; (focus ((intro w hSw; (try dsimp only at hSw); go_simp); try (with_reducible rfl))); (try dsimp only [Act.put]); (try simp only [List.setIfInBounds_toArray, List.set_cons_zero, List.set_cons_succ]))
  (refine rtake_2 (v := ?_) (by kernel_rfl) (by kernel_rfl) (by kernel_rfl) (fun _ _ _ h => h) (Or.inl ⟨by rfl, ?_⟩) (by assumption) ?_; rotate_left; (focus ((intro w hSw; (try dsimp only at hSw); go_simp); try (with_reducible rfl))); (try dsimp only [Act.put]); (try simp only [List.setIfInBounds_toArray, List.set_cons_zero, List.set_cons_succ]))
  (refine rtake_3 (v := ?_) (by kernel_rfl) (by kernel_rfl) (by kernel_rfl) (fun _ _ _ h => h) (Or.inl ⟨by rfl, ?_⟩) (by assumption) ?_; rotate_left; (focus ((intro w hSw; (try dsimp only at hSw); go_simp); try (with_reducible rfl))); (try dsimp only [Act.put]); (try simp only [List.setIfInBounds_toArray, List.set_cons_zero, List.set_cons_succ]))
  (refine rtake_4 (v := ?_) (by kernel_rfl) (by kernel_rfl) (by kernel_rfl) (fun _ _ _ h => h) (Or.inl ⟨by rfl, ?_⟩) (by assumption) ?_; rotate_left; (focus ((intro w hSw; (try dsimp only at hSw); go_simp); try (with_reducible rfl))); (try dsimp only [Act.put]); (try simp only [List.setIfInBounds_toArray, List.set_cons_zero, List.set_cons_succ]))
  (refine rtake_6 (v := ?_) (by kernel_rfl) (by kernel_rfl) (by kernel_rfl) (fun _ _ _ h => h) (Or.inl ⟨by rfl, ?_⟩) (by assumption) ?_; rotate_left; (focus ((intro w hSw; (try dsimp only at hSw); go_simp); try (with_reducible rfl))); (try dsimp only [Act.put]); (try simp only [List.setIfInBounds_toArray, List.set_cons_zero, List.set_cons_succ]))
  (refine rtake_7 (v := ?_) (by kernel_rfl) (by kernel_rfl) (by kernel_rfl) (fun _ _ _ h => h) (Or.inl ⟨by rfl, ?_⟩) (by assumption) ?_; rotate_left; (focus ((intro w hSw; (try dsimp only at hSw); go_simp); try (with_reducible rfl))); (try dsimp only [Act.put]); (try simp only [List.setIfInBounds_toArray, List.set_cons_zero, List.set_cons_succ]))
  (refine rtake_8 (v := ?_) (by kernel_rfl) (by kernel_rfl) (by kernel_rfl) (fun _ _ _ h => h) (Or.inl ⟨by rfl, ?_⟩) (by assumption) ?_; rotate_left; (focus ((intro w hSw; (try dsimp only at hSw); go_simp); try (with_reducible rfl))); (try dsimp only [Act.put]); (try simp only [List.setIfInBounds_toArray, List.set_cons_zero, List.set_cons_succ]))
  (refine rtake_9 (v := ?_) (by kernel_rfl) (by kernel_rfl) (by kernel_rfl) (fun _ _ _ h => h) (Or.inl ⟨by rfl, ?_⟩) (by assumption) ?_; rotate_left; (focus ((intro w hSw; (try dsimp only at hSw); go_simp); try (with_reducible rfl))); (try dsimp only [Act.put]); (try simp only [List.setIfInBounds_toArray, List.set_cons_zero, List.set_cons_succ]))
  (refine rtake_10 (v := ?_) (by kernel_rfl) (by kernel_rfl) (by kernel_rfl) (fun _ _ _ h => h) (Or.inl ⟨by rfl, ?_⟩) (by assumption) ?_; rotate_left; (focus ((intro w hSw; (try dsimp only at hSw); go_simp); try (with_reducible rfl))); (try dsimp only [Act.put]); (try simp only [List.setIfInBounds_toArray, List.set_cons_zero, List.set_cons_succ]))
  (refine wpAnyH_ready (rs := [5]) (by kernel_rfl) (by simp) ?_; refine rcons_5 (fun K hK => ?_) (AllReadyH.nil))
  go_simp
  (with_reducible refine (HP.out).mono ?_)
  rintro e w1 ⟨rfl, hm1, hf1⟩
  have HB1 := Lib.hid (hf1 _ _ _ (by decide) HB.out)
  have HM1 := Lib.hid hm1
  have hd1 := HB1.out.cell 1
  have hd2 := HB1.out.cell 2
  clear hm1 hf1
  try go_simp
  refine hK.out _ _ ⟨hd1, hd2⟩ (fun hHeld => ?_)
  clear hK K
  (try simp only [Act.put, List.setIfInBounds_toArray, List.set_cons_zero, List.set_cons_succ])
  (refine wpAnyH_ready (rs := [11]) (by kernel_rfl) (by simp) ?_; refine rcons_11 (fun K hK => ?_) (AllReadyH.nil))
  go_simp
  (with_reducible refine (HR.out _ HM1.out).mono ?_)
  rintro e w2 ⟨rfl, hs2, hf2⟩
  have HB2 := Lib.hid (hf2 _ _ _ (by decide) HB1.out)
  have HS2 := Lib.hid hs2
  have hd3 := HB2.out.cell 1
  have hd4 := HB2.out.cell 2
  clear hs2 hf2 hd1 hd2
  try go_simp
  refine hK.out _ _ ⟨hd3, hd4⟩ (fun hHeld => ?_)
  clear hK K
  (try simp only [Act.put, List.setIfInBounds_toArray, List.set_cons_zero, List.set_cons_succ])
  (refine rtake_12 (v := ?_) (by kernel_rfl) (by kernel_rfl) (by kernel_rfl) (fun _ _ _ h => h) (Or.inl ⟨by rfl, ?_⟩) (by assumption) ?_; rotate_left; (focus ((intro w hSw; (try dsimp only at hSw); go_simp); try (with_reducible rfl))); (try dsimp only [Act.put]); (try simp only [List.setIfInBounds_toArray, List.set_cons_zero, List.set_cons_succ]))
  (refine rtake_13 (v := ?_) (by kernel_rfl) (by kernel_rfl) (by kernel_rfl) (fun _ _ _ h => h) (Or.inl ⟨by rfl, ?_⟩) (by assumption) ?_; rotate_left; (focus ((intro w hSw; (try dsimp only at hSw); go_simp); try (with_reducible rfl))); (try dsimp only [Act.put]); (try simp only [List.setIfInBounds_toArray, List.set_cons_zero, List.set_cons_succ]))
  refine wpAnyH_done (by kernel_rfl) ?_ _
  go_wp2_with fail
  go_ret
  exact ⟨rfl, HS2.out⟩

set_option maxHeartbeats 6400000 in
set_option maxRecDepth 100000 in
theorem does_lock0 {w0 w : World} {n g r N M : Nat} (h : Stand w0 w n g r N M) (hn : n ≤ 1000) (kd : Nat) (hk : kd < 256) (hr : (kd : Int) % 11 = 0) (A B : Int) :
    Calls Tryz.prog 6 #[.pointer (some ⟨g, 0, none⟩), .pointer (some ⟨r, 0, none⟩), .agg #[.int .u8 kd, .int .i64 A, .int .i64 B]] w fun e w' => e = .returned (.bool true) ∧ Stand w0 w' (n + 1) g r N M := by
  have h0 : (0 : Int) ≤ (kd : Int) := by omega
  have h1 : (kd : Int) < 256 := by omega
  have hmix : Tryz.prog.follows .mixedOrders = true := by kernel_rfl
  have hb := h.old ((Kept.refl [] w).alloc (.cells #[.int .u8 kd, .int .i64 A, .int .i64 B] 35))
  obtain ⟨bv, c, mid, hmo, HP0, HR0⟩ := two_lock hb hn A B
  have HP := Lib.hid HP0
  have HR := Lib.hid HR0
  have hbx0 : Blk (w.alloc (.cells #[.int .u8 kd, .int .i64 A, .int .i64 B] 35)) w.heap.size 35 #[.int .u8 kd, .int .i64 A, .int .i64 B] := Blk.new w 35 #[.int .u8 kd, .int .i64 A, .int .i64 B]
  have HB := Lib.hid hbx0
  have hc0 := hbx0.cell 0
  have hc1 := hbx0.cell 1
  have hc2 := hbx0.cell 2
  clear hbx0 h hb HP0 HR0 hmo hk
  go_enter Tryz.func6, Tryz.ntmps6
  go_wp2_with fail
  refine (HP.out).mono ?_
  rintro e w1 ⟨rfl, hm1, hf1⟩
  have HB1 := Lib.hid (hf1 _ _ _ (by decide) HB.out)
  have HM1 := Lib.hid hm1
  have hd1 := HB1.out.cell 1
  have hd2 := HB1.out.cell 2
  clear hm1 hf1 hc1 hc2
  go_wp2_with fail
  refine (HR.out _ HM1.out).mono ?_
  rintro e w2 ⟨rfl, hs2, hf2⟩
  have HS2 := Lib.hid hs2
  clear hs2 hf2
  go_wp2_with fail
  go_ret
  exact ⟨rfl, HS2.out⟩

set_option maxHeartbeats 6400000 in
set_option maxRecDepth 100000 in
theorem does_lock1 {w0 w : World} {n g r N M : Nat} (h : Stand w0 w n g r N M) (hn : n ≤ 1000) (kd : Nat) (hk : kd < 256) (hr : (kd : Int) % 11 = 1) (A B : Int) :
    Calls Tryz.prog 6 #[.pointer (some ⟨g, 0, none⟩), .pointer (some ⟨r, 0, none⟩), .agg #[.int .u8 kd, .int .i64 A, .int .i64 B]] w fun e w' => e = .returned (.bool true) ∧ Stand w0 w' (n + 1) g r N M := by
  have h0 : (0 : Int) ≤ (kd : Int) := by omega
  have h1 : (kd : Int) < 256 := by omega
  have hmix : Tryz.prog.follows .mixedOrders = true := by kernel_rfl
  have hb := h.old ((Kept.refl [] w).alloc (.cells #[.int .u8 kd, .int .i64 A, .int .i64 B] 35))
  obtain ⟨bv, c, mid, hmo, HP0, HR0⟩ := two_lock hb hn A B
  have HP := Lib.hid HP0
  have HR := Lib.hid HR0
  have hbx0 : Blk (w.alloc (.cells #[.int .u8 kd, .int .i64 A, .int .i64 B] 35)) w.heap.size 35 #[.int .u8 kd, .int .i64 A, .int .i64 B] := Blk.new w 35 #[.int .u8 kd, .int .i64 A, .int .i64 B]
  have HB := Lib.hid hbx0
  have hc0 := hbx0.cell 0
  have hc1 := hbx0.cell 1
  have hc2 := hbx0.cell 2
  clear hbx0 h hb HP0 HR0 hmo hk
  go_enter Tryz.func6, Tryz.ntmps6
  go_wp2_with fail
  refine (HP.out).mono ?_
  rintro e w1 ⟨rfl, hm1, hf1⟩
  have HB1 := Lib.hid (hf1 _ _ _ (by decide) HB.out)
  have HM1 := Lib.hid hm1
  have hd1 := HB1.out.cell 1
  have hd2 := HB1.out.cell 2
  clear hm1 hf1 hc1 hc2
  go_wp2_with fail
  refine (HR.out _ HM1.out).mono ?_
  rintro e w2 ⟨rfl, hs2, hf2⟩
  have HS2 := Lib.hid hs2
  clear hs2 hf2
  go_wp2_with fail
  go_ret
  exact ⟨rfl, HS2.out⟩

set_option maxHeartbeats 6400000 in
set_option maxRecDepth 100000 in
theorem does_lock2 {w0 w : World} {n g r N M : Nat} (h : Stand w0 w n g r N M) (hn : n ≤ 1000) (kd : Nat) (hk : kd < 256) (hr : (kd : Int) % 11 = 2) (A B : Int) :
    Calls Tryz.prog 6 #[.pointer (some ⟨g, 0, none⟩), .pointer (some ⟨r, 0, none⟩), .agg #[.int .u8 kd, .int .i64 A, .int .i64 B]] w fun e w' => e = .returned (.bool true) ∧ Stand w0 w' (n + 1) g r N M := by
  have h0 : (0 : Int) ≤ (kd : Int) := by omega
  have h1 : (kd : Int) < 256 := by omega
  have hmix : Tryz.prog.follows .mixedOrders = true := by kernel_rfl
  have hb := h.old ((Kept.refl [] w).alloc (.cells #[.int .u8 kd, .int .i64 A, .int .i64 B] 35))
  obtain ⟨bv, c, mid, hmo, HP0, HR0⟩ := two_lock hb hn A B
  have HP := Lib.hid HP0
  have HR := Lib.hid HR0
  have hbx0 : Blk (w.alloc (.cells #[.int .u8 kd, .int .i64 A, .int .i64 B] 35)) w.heap.size 35 #[.int .u8 kd, .int .i64 A, .int .i64 B] := Blk.new w 35 #[.int .u8 kd, .int .i64 A, .int .i64 B]
  have HB := Lib.hid hbx0
  have hc0 := hbx0.cell 0
  have hc1 := hbx0.cell 1
  have hc2 := hbx0.cell 2
  clear hbx0 h hb HP0 HR0 hmo hk
  go_enter Tryz.func6, Tryz.ntmps6
  go_wp2_with fail
  refine (HP.out).mono ?_
  rintro e w1 ⟨rfl, hm1, hf1⟩
  have HB1 := Lib.hid (hf1 _ _ _ (by decide) HB.out)
  have HM1 := Lib.hid hm1
  have hd1 := HB1.out.cell 1
  have hd2 := HB1.out.cell 2
  clear hm1 hf1 hc1 hc2
  go_wp2_with fail
  refine (HR.out _ HM1.out).mono ?_
  rintro e w2 ⟨rfl, hs2, hf2⟩
  have HS2 := Lib.hid hs2
  clear hs2 hf2
  go_wp2_with fail
  go_ret
  exact ⟨rfl, HS2.out⟩

set_option maxHeartbeats 6400000 in
set_option maxRecDepth 100000 in
theorem does_ended {w0 w : World} {n g r N M : Nat} (h : Stand w0 w n g r N M) (kd : Nat) (hk : kd < 256) (hr : (kd : Int) % 11 = 9) (A B : Int) :
    Calls Tryz.prog 6 #[.pointer (some ⟨g, 0, none⟩), .pointer (some ⟨r, 0, none⟩), .agg #[.int .u8 kd, .int .i64 A, .int .i64 B]] w fun e w' => e = .returned (.bool true) ∧ Stand w0 w' (n + 1) g r N M := by
  have h0 : (0 : Int) ≤ (kd : Int) := by omega
  have h1 : (kd : Int) < 256 := by omega
  have hmix : Tryz.prog.follows .mixedOrders = true := by kernel_rfl
  have hb := h.old (((Kept.refl [] w).alloc (.cells #[.int .u8 kd, .int .i64 A, .int .i64 B] 35)).drew)
  obtain ⟨L, mid, hL64, hmo, HP0, HR0⟩ := two_ended hb A
  have HP := Lib.hid HP0
  have HR := Lib.hid HR0
  have HSM := Lib.hid (fun A1 n1 c1 A2 n2 c2 W h1 h2 => refSameI A1 n1 c1 A2 n2 c2 L W h1 h2 (by omega))
  have hbx : Blk (w.alloc (.cells #[.int .u8 kd, .int .i64 A, .int .i64 B] 35)).drew w.heap.size 35 #[.int .u8 kd, .int .i64 A, .int .i64 B] := act_blk
  have hbx0 : Blk (w.alloc (.cells #[.int .u8 kd, .int .i64 A, .int .i64 B] 35)) w.heap.size 35 #[.int .u8 kd, .int .i64 A, .int .i64 B] := Blk.new w 35 #[.int .u8 kd, .int .i64 A, .int .i64 B]
  have HB := Lib.hid hbx
  have HB0 := Lib.hid hbx0
  have hcA := hbx.cell 1
  have hc0 := hbx0.cell 0
  clear hbx hbx0 h hb HP0 HR0 hmo hk hL64
  go_enter Tryz.func6, Tryz.ntmps6
  go_wp2_with fail
  refine wp_region_held_drew (S := fun W => W.cell? ⟨w.heap.size, 1, none⟩ = some (.int .i64 A)) hmix hcA (fun hHeld => ?_)
  (refine rtake_0 (v := ?_) (by kernel_rfl) (by kernel_rfl) (by kernel_rfl) (fun _ _ _ h => h) (Or.inl ⟨by rfl, ?_⟩) (by assumption) ?_; rotate_left; (focus ((intro w hSw; (try dsimp only at hSw); go_simp); try (with_reducible rfl))); (try dsimp only [Act.put]); (try simp only [List.setIfInBounds_toArray, List.set_cons_zero, List.set_cons_succ]))
  (refine rtake_1 (v := ?_) (by kernel_rfl) (by kernel_rfl) (by kernel_rfl) (fun _ _ _ h => h) (Or.inl ⟨by rfl, ?_⟩) (by assumption) ?_; rotate_left; (focus ((intro w hSw; (try dsimp only at hSw); go_simp); try (with_reducible rfl))); (try dsimp only [Act.put]); (try simp only [List.setIfInBounds_toArray, List.set_cons_zero, List.set_cons_succ]))
  (refine rtake_2 (v := ?_) (by kernel_rfl) (by kernel_rfl) (by kernel_rfl) (fun _ _ _ h => h) (Or.inl ⟨by rfl, ?_⟩) (by assumption) ?_; rotate_left; (focus ((intro w hSw; (try dsimp only at hSw); go_simp); try (with_reducible rfl))); (try dsimp only [Act.put]); (try simp only [List.setIfInBounds_toArray, List.set_cons_zero, List.set_cons_succ]))
  (refine rtake_4 (v := ?_) (by kernel_rfl) (by kernel_rfl) (by kernel_rfl) (fun _ _ _ h => h) (Or.inl ⟨by rfl, ?_⟩) (by assumption) ?_; rotate_left; (focus ((intro w hSw; (try dsimp only at hSw); go_simp); try (with_reducible rfl))); (try dsimp only [Act.put]); (try simp only [List.setIfInBounds_toArray, List.set_cons_zero, List.set_cons_succ]))
  (refine rtake_5 (v := ?_) (by kernel_rfl) (by kernel_rfl) (by kernel_rfl) (fun _ _ _ h => h) (Or.inl ⟨by rfl, ?_⟩) (by assumption) ?_; rotate_left; (focus ((intro w hSw; (try dsimp only at hSw); go_simp); try (with_reducible rfl))); (try dsimp only [Act.put]); (try simp only [List.setIfInBounds_toArray, List.set_cons_zero, List.set_cons_succ]))
  (refine rtake_6 (v := ?_) (by kernel_rfl) (by kernel_rfl) (by kernel_rfl) (fun _ _ _ h => h) (Or.inl ⟨by rfl, ?_⟩) (by assumption) ?_; rotate_left; (focus ((intro w hSw; (try dsimp only at hSw); go_simp); try (with_reducible rfl))); (try dsimp only [Act.put]); (try simp only [List.setIfInBounds_toArray, List.set_cons_zero, List.set_cons_succ]))
  (refine wpAnyH_ready (rs := [3]) (by kernel_rfl) (by simp) ?_; refine rcons_3 (fun K hK => ?_) (AllReadyH.nil))
  go_simp
  (with_reducible refine (HP.out).mono ?_)
  rintro e w1 ⟨A1, m1, c1, rfl, hm1, hf1⟩
  have HB1 := Lib.hid (hf1 _ _ _ (by decide) HB.out)
  have HM1 := Lib.hid hm1
  have hd1 := HB1.out.cell 1
  clear hm1 hf1
  try go_simp
  refine hK.out _ _ hd1 (fun hHeld => ?_)
  clear hK K
  (try simp only [Act.put, List.setIfInBounds_toArray, List.set_cons_zero, List.set_cons_succ])
  (refine wpAnyH_ready (rs := [7]) (by kernel_rfl) (by simp) ?_; refine rcons_7 (fun K hK => ?_) (AllReadyH.nil))
  go_simp
  (with_reducible refine (HR.out _ _ _ HM1.out).mono ?_)
  rintro e w2 ⟨A2, m2, c2, rfl, hr1, hr2, hs2, hf2⟩
  have HB2 := Lib.hid (hf2 _ _ _ (by decide) HB1.out)
  have HS2 := Lib.hid hs2
  have HQ := Lib.hid (HSM.out _ _ c1 _ _ c2 _ hr1 hr2)
  have hd2 := HB2.out.cell 1
  clear hs2 hf2 hr1 hr2 hd1
  try go_simp
  refine hK.out _ _ hd2 (fun hHeld => ?_)
  clear hK K
  (try simp only [Act.put, List.setIfInBounds_toArray, List.set_cons_zero, List.set_cons_succ])
  (refine wpAnyH_ready (rs := [8]) (by kernel_rfl) (by simp) ?_; refine rcons_8 (fun K hK => ?_) (AllReadyH.nil))
  go_simp
  (with_reducible refine (HQ.out).mono ?_)
  rintro e w3 ⟨rfl, hk3⟩
  have HS3 := Lib.hid (HS2.out.old hk3)
  have hd3 := (HB2.out.kept hk3 (by simp)).cell 1
  clear hk3 hd2
  try go_simp
  refine hK.out _ _ hd3 (fun hHeld => ?_)
  clear hK K
  (try simp only [Act.put, List.setIfInBounds_toArray, List.set_cons_zero, List.set_cons_succ])
  (refine rtake_9 (v := ?_) (by kernel_rfl) (by kernel_rfl) (by kernel_rfl) (fun _ _ _ h => h) (Or.inl ⟨by rfl, ?_⟩) (by assumption) ?_; rotate_left; (focus ((intro w hSw; (try dsimp only at hSw); go_simp); try (with_reducible rfl))); (try dsimp only [Act.put]); (try simp only [List.setIfInBounds_toArray, List.set_cons_zero, List.set_cons_succ]))
  refine wpAnyH_done (by kernel_rfl) ?_ _
  go_wp2_with fail
  go_ret
  exact ⟨rfl, HS3.out⟩

set_option maxHeartbeats 6400000 in
set_option maxRecDepth 100000 in
theorem does_drop {w0 w : World} {n g r N M : Nat} (h : Stand w0 w n g r N M) (hn : n ≤ 1000) (hD : HasDb w0) (kd : Nat) (hk : kd < 256) (hr : (kd : Int) % 11 = 7) (A B : Int) :
    Calls Tryz.prog 6 #[.pointer (some ⟨g, 0, none⟩), .pointer (some ⟨r, 0, none⟩), .agg #[.int .u8 kd, .int .i64 A, .int .i64 B]] w fun e w' => e = .returned (.bool true) ∧ Stand w0 w' (n + 1) g r N M := by
  have h0 : (0 : Int) ≤ (kd : Int) := by omega
  have h1 : (kd : Int) < 256 := by omega
  have hmix : Tryz.prog.follows .mixedOrders = true := by kernel_rfl
  have hb := h.old ((Kept.refl [] w).alloc (.cells #[.int .u8 kd, .int .i64 A, .int .i64 B] 35))
  obtain ⟨L, mid, hL64, hmo, HP0, HR0⟩ := two_drop hb hn hD A
  have HP := Lib.hid HP0
  have HR := Lib.hid HR0
  have hbx0 : Blk (w.alloc (.cells #[.int .u8 kd, .int .i64 A, .int .i64 B] 35)) w.heap.size 35 #[.int .u8 kd, .int .i64 A, .int .i64 B] := Blk.new w 35 #[.int .u8 kd, .int .i64 A, .int .i64 B]
  have HB := Lib.hid hbx0
  have hc0 := hbx0.cell 0
  have hc1 := hbx0.cell 1
  clear hbx0 h hb HP0 HR0 hmo hk hD hn
  go_enter Tryz.func6, Tryz.ntmps6
  go_wp2_with fail
  refine (HP.out).mono ?_
  rintro e w1 ⟨A0, m0, c0, rfl, hm1, hf1⟩
  have HB1 := Lib.hid (hf1 _ _ _ (by decide) HB.out)
  have HM1 := Lib.hid hm1
  have hd1 := HB1.out.cell 1
  clear hm1 hf1 hc1
  go_wp2_with fail
  refine (HR.out _ _ _ HM1.out).mono ?_
  rintro e w2 ⟨A1, m1, c1, A2, m2, c2, rfl, hr0, hr1, hr2, hs2, hf2⟩
  have HS2 := Lib.hid hs2
  clear hs2 hf2
  obtain rfl : m0 = L.length := hr0.lenK hL 2 (fun _ => rfl) (by omega)
  obtain rfl : m1 = L.length := by have := hr1.1; simp at this; omega
  obtain rfl : m2 = L.length := by have := hr2.1; simp at this; omega
  have H0 := Lib.hid hr0
  have H1 := Lib.hid hr1
  have H2 := Lib.hid hr2
  clear hr0 hr1 hr2
  have hll : ((L.length : Int) != (L.length : Int)) = false := by simp
  obtain ⟨ln, hln⟩ : ∃ ln, L.length = ln := ⟨_, rfl⟩
  have HLN := Lib.hid hln
  rw [hln] at H0 H1 H2 hll hL64 ⊢
  clear hln
  go_wp2_with fail
  go_loopw [14] (fun iv wr => ∃ i : Nat, i ≤ ln ∧ iv = .int .i64 i ∧ Hid (Kept [] w2 wr)) (fun i _ => ln - (intOf i).toNat)
  case atStart => exact ⟨0, by omega, rfl, Kept.refl _ _⟩
  case round =>
    obtain ⟨i, hi1, rfl, HW⟩ := hrel
    by_cases hlt : i < ln
    · have hlt' : i < L.length := by rw [HLN.out]; exact hlt
      have hx : L[i]? = some L[i] := List.getElem?_eq_getElem hlt'
      obtain ⟨x, y, hxy⟩ : ∃ x y, L[i] = (x, y) := ⟨_, _, rfl⟩
      rw [hxy] at hx
      obtain ⟨b0, o0, rfl, l0, q0⟩ := (H0.out.old HW.out).cellsK hL 2 (fun _ => rfl) (by omega) (by omega)
      obtain ⟨b1, o1, rfl, l1, q1⟩ := (H1.out.old HW.out).addr (by omega) (by omega)
      obtain ⟨b2, o2, rfl, l2, q2⟩ := (H2.out.old HW.out).addr (by omega) (by omega)
      have e0 : wr.cell? ⟨b0, o0 + i * 2, none⟩ = some (.int .i64 x) := q0 i _ hx 0 (by omega)
      have e1 : wr.cell? ⟨b0, o0 + i * 2 + 1, none⟩ = some (.int .i64 y) := q0 i _ hx 1 (by omega)
      have e2 : wr.cell? ⟨b1, o1 + i, none⟩ = some (.int .i64 x) := q1 i _ (by rw [List.getElem?_map, List.getElem?_map, hx]; rfl)
      have e3 : wr.cell? ⟨b2, o2 + i, none⟩ = some (.int .i64 y) := q2 i _ (by rw [List.getElem?_map, List.getElem?_map, hx]; rfl)
      have hi0 : (0 : Int) ≤ (i : Int) := by omega
      have hi2 : (i : Int) < (ln : Int) := by omega
      have hbx : (x != x) = false := by simp
      have hby : (y != y) = false := by simp
      clear q0 q1 q2 hx hxy hlt'
      go_wp2_with fail
      go_quiet (fail)
      go_wp2_with fail
      go_roundw
      case rel => exact ⟨i + 1, by omega, by go_num, HW.out.drewN _⟩
      case measure => simp [intOf]; omega
    · obtain rfl : i = ln := by omega
      go_wp2_with fail
      go_ret
      exact ⟨rfl, HS2.out.old HW.out⟩

theorem does_any {w0 w : World} {n g r N M : Nat} (h : Stand w0 w n g r N M) (hn : n ≤ 1000) (hD : HasDb w0) (kd : Nat) (hk : kd < 256) (A B : Int) :
    Calls Tryz.prog 6 #[.pointer (some ⟨g, 0, none⟩), .pointer (some ⟨r, 0, none⟩), .agg #[.int .u8 kd, .int .i64 A, .int .i64 B]] w fun e w' => e = .returned (.bool true) ∧ Stand w0 w' (n + 1) g r N M := by
  rcases (by omega : (kd : Int) % 11 = 0 ∨ (kd : Int) % 11 = 1 ∨ (kd : Int) % 11 = 2 ∨ (kd : Int) % 11 = 3 ∨ (kd : Int) % 11 = 4 ∨ (kd : Int) % 11 = 5 ∨ (kd : Int) % 11 = 6 ∨ (kd : Int) % 11 = 7 ∨ (kd : Int) % 11 = 8 ∨ (kd : Int) % 11 = 9 ∨ (kd : Int) % 11 = 10) with hr | hr | hr | hr | hr | hr | hr | hr | hr | hr | hr
  · exact does_lock0 h hn kd hk hr A B
  · exact does_lock1 h hn kd hk hr A B
  · exact does_lock2 h hn kd hk hr A B
  · exact does_try h kd hk hr A B
  · exact does_unlock4 h kd hk hr A B
  · exact does_unlock5 h kd hk hr A B
  · exact does_cancel h kd hk hr A B
  · exact does_drop h hn hD kd hk hr A B
  · exact does_join h hn kd hk hr A B
  · exact does_ended h kd hk hr A B
  · exact does_setLevel h kd hk hr A B

end Go.Proofs.YtfoeijiejpenpaaGreatDoor

/- Law 26: same: all threads and locks stand as the document's; walked. -/
namespace Go.Proofs.YtfoeijiejpenpaaGreatDoor
open Go.RowKit

set_option maxHeartbeats 6400000 in
set_option maxRecDepth 100000 in
theorem same_any {w0 w : World} {n g r N M : Nat} (h : Stand w0 w n g r N M) :
    Calls Tryz.prog 7 #[.pointer (some ⟨g, 0, none⟩), .pointer (some ⟨r, 0, none⟩)] w fun e w' => e = .returned (.bool true) ∧ Kept [] w w' := by
  obtain ⟨a, s, js, b, f, rfl, rfl, rfl, rfl, hB, hT⟩ := h
  have hall := hT.all
  have hsim := hT.sim
  have hfw := hsim.whole hall.whole
  have hfn := hsim.n hall.whole
  have hfm := hsim.m hall.whole
  have hww := hall.whole.waits
  have hoo := hall.whole.owner
  have hn64 := hall.whole.nt
  have hm64 := hall.whole.nl
  have HR0 : Hid (∀ W, Kept [] w W → W.cell? ⟨b.r, 0, none⟩ = some (.slice b.AL s.eff.length b.cL) ∧ W.cell? ⟨b.r, 1, none⟩ = some (.pointer (some ⟨b.rw, 0, none⟩)) ∧ b.r < W.heap.size ∧ W.cell? ⟨b.rw, 0, none⟩ = some (.slice b.AO s.lines.length b.cO) ∧ W.cell? ⟨b.rw, 1, none⟩ = some (.slice b.AK s.eff.length b.cK) ∧ W.cell? ⟨b.rw, 2, none⟩ = some (.slice b.AJ s.eff.length b.cJ) ∧ b.rw < W.heap.size) := fun W hk => by
    have hr : RfAt W b f := hB.rf.at_.old hk
    rw [← hfn, ← hfm]
    exact ⟨hr.blk.cell 0, hr.blk.cell 1, hr.blk.lt, hr.web.cell 0, hr.web.cell 1, hr.web.cell 2, hr.web.lt⟩
  have HTH : Hid (∀ W, Kept [] w W → ∀ t : Int, Calls Tryz.prog 30 #[.pointer (some ⟨b.rw, 0, none⟩), .int .i64 t] W fun e w' => e = .returned (.bool (decide (0 ≤ t ∧ t < (s.eff.length : Int)))) ∧ W = w') := fun W hk t => by
    rw [← hfn]; exact refThread (hB.rf.at_.old hk) t
  have HIL : Hid (∀ W, Kept [] w W → ∀ t : Int, Calls Tryz.prog 37 #[.pointer (some ⟨b.rw, 0, none⟩), .int .i64 t] W fun e w' => e = .returned (.bool (decide (0 ≤ t ∧ t < (s.lines.length : Int)))) ∧ W = w') := fun W hk t => by
    rw [← hfm]; exact refIsLock (hB.rf.at_.old hk) t
  have HWA : Hid (∀ W, Kept [] w W → ∀ t : Int, Calls Tryz.prog 31 #[.pointer (some ⟨a.g, 0, none⟩), .int .i64 t] W fun e w' => e = .returned (.tuple #[.int .i64 (getW s.waits t).1, .int .i64 (getW s.waits t).2]) ∧ Kept [] W w') := fun W hk t => lkWaits_any (hB.lk.is.at_.old hk) hall.whole t
  have HLV : Hid (∀ W, Kept [] w W → ∀ t : Int, Calls Tryz.prog 32 #[.pointer (some ⟨a.g, 0, none⟩), .int .i64 t] W fun e w' => e = .returned (.int .i64 (levM2 s t)) ∧ W = w') := fun W hk t => lkLevel_any (hB.lk.is.at_.old hk) hall.whole t
  have HEF : Hid (∀ W, Kept [] w W → ∀ t : Int, Calls Tryz.prog 33 #[.pointer (some ⟨a.g, 0, none⟩), .int .i64 t] W fun e w' => e = .returned (.int .i64 (effM s t)) ∧ W = w') := fun W hk t => lkEff_any (hB.lk.is.at_.old hk) t
  have HER : Hid (∀ W, Kept [] w W → ∀ t : Int, Calls Tryz.prog 34 #[.pointer (some ⟨b.r, 0, none⟩), .int .i64 t] W fun e w' => e = .returned (.int .i64 (effM s t)) ∧ Kept [] W w') := fun W hk t => by
    rw [← hsim.eff hall]; exact refEff (hB.rf.at_.old hk) hfw t
  have HOW : Hid (∀ W, Kept [] w W → ∀ t : Int, Calls Tryz.prog 35 #[.pointer (some ⟨a.g, 0, none⟩), .int .i64 t] W fun e w' => e = .returned (.int .u64 (ownN s t : Nat)) ∧ W = w') := fun W hk t => lkOwned_any (hB.lk.is.at_.old hk) hall.whole t
  have HOR : Hid (∀ W, Kept [] w W → ∀ t : Int, Calls Tryz.prog 36 #[.pointer (some ⟨b.r, 0, none⟩), .int .i64 t] W fun e w' => e = .returned (.int .u64 (ownN s t : Nat)) ∧ Kept [] W w') := fun W hk t => by
    rw [← hsim.own hall]; exact refOwned (hB.rf.at_.old hk) hfw t
  have HLO : Hid (∀ W, Kept [] w W → ∀ t : Int, Calls Tryz.prog 38 #[.pointer (some ⟨a.g, 0, none⟩), .int .i64 t] W fun e w' => e = .returned (.int .i64 (getO s.owner t)) ∧ W = w') := fun W hk t => lkOwner_any (hB.lk.is.at_.old hk) hall.whole t
  have HLI : Hid (∀ W, Kept [] w W → ∀ t : Int, Calls Tryz.prog 39 #[.pointer (some ⟨a.g, 0, none⟩), .int .i64 t] W fun e w' => ∃ A n c, e = .returned (.slice A n c) ∧ Reads w' 1 A n ((lineM s t).map (Value.int .i64)) ∧ Kept [] W w') := fun W hk t => by
    refine (lkLine_any (hB.lk.is.old hk) hall.whole t).mono ?_
    rintro e w' ⟨A, n, c, rfl, hF⟩
    exact ⟨A, n, c, rfl, hF.reads, hF.2.1⟩
  have HLR : Hid (∀ W, Kept [] w W → ∀ t : Int, Calls Tryz.prog 40 #[.pointer (some ⟨b.r, 0, none⟩), .int .i64 t] W fun e w' => ∃ A n c, e = .returned (.slice A n c) ∧ Reads w' 1 A n ((lineM s t).map (Value.int .i64)) ∧ Kept [] W w') := fun W hk t => by
    rw [← hsim.line hall]
    refine (refLine (hB.rf.at_.old hk) hfw t).mono ?_
    rintro e w' ⟨A, c, rfl, hF⟩
    exact ⟨A, _, c, rfl, hF.reads, hF.2.1⟩
  have hll : ∀ t, (lineM s t).length ≤ 100000 := fun t => by
    rw [← hsim.line hall]
    have := lineR_len (f := f) (l := t)
    omega
  have HSM : Hid (∀ (t : Int) (A : Option Addr) (n c : Nat) (A2 : Option Addr) (m d : Nat) (W : World), Reads W 1 A n ((lineM s t).map (Value.int .i64)) → Reads W 1 A2 m ((lineM s t).map (Value.int .i64)) → _) := fun t A n c A2 m d W h1 h2 => refSameI A n c A2 m d (lineM s t) W h1 h2 (hll t)
  have HRW : Hid (∀ W, Kept [] w W → ∀ k : Nat, k < s.eff.length → ∃ gk gj gl, b.AK = some ⟨gk, 0, none⟩ ∧ b.AJ = some ⟨gj, 0, none⟩ ∧ b.AL = some ⟨gl, 0, none⟩ ∧ W.cell? ⟨gk, k, none⟩ = some (.int .i64 (getW s.waits k).1) ∧ gk < W.heap.size ∧ W.cell? ⟨gj, k, none⟩ = some (.int .i64 (getW s.waits k).2) ∧ gj < W.heap.size ∧ W.cell? ⟨gl, k, none⟩ = some (.int .i64 (levM2 s k)) ∧ gl < W.heap.size) := fun W hk k hk1 => by
    obtain ⟨gk, e1, c1, _, l1⟩ := RfAt.lock (hB.rf.at_.old hk) hfw k (by omega)
    obtain ⟨gj, e2, c2, _, l2⟩ := RfAt.join (hB.rf.at_.old hk) hfw k (by omega)
    obtain ⟨gl, e3, c3, _, l3⟩ := RfAt.level (hB.rf.at_.old hk) k (by omega)
    rw [hsim.lock_at (by omega)] at c1
    rw [hsim.join_at (by omega)] at c2
    have e4 : f.level.getD k 0 = levM2 s k := by unfold levM2; rw [if_pos (by omega), Int.toNat_natCast, hsim.level]
    rw [e4] at c3
    exact ⟨gk, gj, gl, e1, e2, e3, c1, l1, c2, l2, c3, l3⟩
  have HRO : Hid (∀ W, Kept [] w W → ∀ k : Nat, k < s.lines.length → ∃ go, b.AO = some ⟨go, 0, none⟩ ∧ W.cell? ⟨go, k, none⟩ = some (.int .i64 (getO s.owner k)) ∧ go < W.heap.size) := fun W hk k hk1 => by
    obtain ⟨go, e1, c1, _, l1⟩ := RfAt.owner (hB.rf.at_.old hk) k (by omega)
    rw [hsim.owner_at (by omega)] at c1
    exact ⟨go, e1, c1, l1⟩
  have HOUT : Hid (∀ t : Int, ¬ (0 ≤ t ∧ t < (s.eff.length : Int)) → (getW s.waits t).1 = -1 ∧ (getW s.waits t).2 = -1 ∧ levM2 s t = 8) := fun t ht => by
    rw [getW_out (by omega)]
    refine ⟨rfl, rfl, ?_⟩
    unfold levM2; rw [if_neg ht]
  have HOUO : Hid (∀ t : Int, ¬ (0 ≤ t ∧ t < (s.lines.length : Int)) → getO s.owner t = -1) := fun t ht => getO_out (by omega)
  clear hB hT hall hsim hfw hfn hfm hww hoo hll
  obtain ⟨nn, hnn⟩ : ∃ nn, s.eff.length = nn := ⟨_, rfl⟩
  obtain ⟨mm, hmm⟩ : ∃ mm, s.lines.length = mm := ⟨_, rfl⟩
  rw [hnn] at HR0 HTH HRW HOUT hn64
  rw [hmm] at HR0 HIL HRO HOUO hm64
  clear hnn hmm
  go_enter Tryz.func7, Tryz.ntmps7
  go_wp2_with fail
  go_loopw [5] (fun kv wr => ∃ k : Nat, k ≤ nn + 2 ∧ kv = .int .i64 ((k : Int) - 1) ∧ Hid (Kept [] w wr)) (fun k _ => nn + 2 - (intOf k + 1).toNat)
  case atStart => exact ⟨0, by omega, rfl, Kept.refl _ _⟩
  case round =>
    obtain ⟨k, hk1, rfl, HK⟩ := hrel
    obtain ⟨q1, q2, q3, q4, q5, q6, q7⟩ := HR0.out _ HK.out
    obtain ⟨t, ht⟩ : ∃ t : Int, (k : Int) - 1 = t := ⟨_, rfl⟩
    rw [ht]
    by_cases hlt : k < nn + 2
    · have hc : t ≤ (nn : Int) := by omega
      have hin1 : (-1 : Int) ≤ t := by omega
      have hX := Lib.hid (HTH.out _ HK.out t)
      by_cases hv : 0 ≤ t ∧ t < (nn : Int)
      · have hd : decide (0 ≤ t ∧ t < (nn : Int)) = true := by simp; omega
        rw [hd] at hX
        obtain ⟨j, rfl⟩ : ∃ j : Nat, t = j := ⟨t.toNat, by omega⟩
        clear hd
        obtain ⟨hv1, hv2⟩ := hv
        obtain ⟨gk, gj, gl, e1, e2, e3, c1, l1, c2, l2, c3, l3⟩ := HRW.out _ HK.out j (by omega)
        rw [e3] at q1
        rw [e1] at q5
        rw [e2] at q6
        have HKQ := Lib.hid (fun nq => HWA.out _ (HK.out.drewN nq) (j : Int))
        go_wp2_with fail
        refine (hX.out).mono ?_
        rintro e w1 ⟨rfl, rfl⟩
        go_wp2_with fail
        go_quiet (fail)
        go_wp2_with fail
        refine (HKQ.out _).mono ?_
        rintro e w2 ⟨rfl, hk2⟩
        have HK2 := Lib.hid ((HK.out.drewN _).trans hk2)
        have HL2 := Lib.hid (HLV.out _ HK2.out (j : Int))
        have HE2 := Lib.hid (HEF.out _ HK2.out (j : Int))
        have HE3 := Lib.hid (HER.out _ HK2.out (j : Int))
        have HO4 := Lib.hid (fun W hk => HOW.out W hk (j : Int))
        have HO5 := Lib.hid (fun W hk => HOR.out W hk (j : Int))
        clear hk2 c1 c2 c3 HKQ
        generalize getW s.waits (j : Int) = gw at *
        generalize levM2 s (j : Int) = lv at *
        generalize effM s (j : Int) = ef at *
        generalize ownN s (j : Int) = ow at *
        go_wp2_with fail
        refine (HL2.out).mono ?_
        rintro e w3 ⟨rfl, rfl⟩
        go_wp2_with fail
        refine (HE2.out).mono ?_
        rintro e w3 ⟨rfl, rfl⟩
        go_wp2_with fail
        refine (HE3.out).mono ?_
        rintro e w4 ⟨rfl, hk4⟩
        have HK4 := Lib.hid (HK2.out.trans hk4)
        clear hk4
        go_wp2_with fail
        refine (HO4.out _ HK4.out).mono ?_
        rintro e w5 ⟨rfl, rfl⟩
        go_wp2_with fail
        refine (HO5.out _ HK4.out).mono ?_
        rintro e w6 ⟨rfl, hk6⟩
        have HK6 := Lib.hid (HK4.out.trans hk6)
        clear hk6
        go_wp2_with fail
        go_roundw
        case rel => exact ⟨k + 1, by omega, by first | go_num | (congr 1; omega), HK6.out⟩
        case measure => simp [intOf]; omega
      · have hd : decide (0 ≤ t ∧ t < (nn : Int)) = false := by simp; omega
        rw [hd] at hX
        clear hd
        obtain ⟨o1, o2, o3⟩ := HOUT.out t hv
        have HW := Lib.hid (HWA.out _ HK.out t)
        have HLV2 := Lib.hid (fun W hk => HLV.out W hk t)
        have HE2 := Lib.hid (fun W hk => HEF.out W hk t)
        have HE3 := Lib.hid (fun W hk => HER.out W hk t)
        have HO4 := Lib.hid (fun W hk => HOW.out W hk t)
        have HO5 := Lib.hid (fun W hk => HOR.out W hk t)
        rw [o1, o2] at HW
        rw [o3] at HLV2
        generalize effM s t = ef at *
        generalize ownN s t = ow at *
        clear o1 o2 o3 hv
        go_wp2_with fail
        refine (hX.out).mono ?_
        rintro e w1 ⟨rfl, rfl⟩
        go_wp2_with fail
        refine (HW.out).mono ?_
        rintro e w2 ⟨rfl, hk2⟩
        have HK2 := Lib.hid (HK.out.trans hk2)
        clear hk2
        go_wp2_with fail
        refine (HLV2.out _ HK2.out).mono ?_
        rintro e w3 ⟨rfl, rfl⟩
        go_wp2_with fail
        refine (HE2.out _ HK2.out).mono ?_
        rintro e w3 ⟨rfl, rfl⟩
        go_wp2_with fail
        refine (HE3.out _ HK2.out).mono ?_
        rintro e w4 ⟨rfl, hk4⟩
        have HK4 := Lib.hid (HK2.out.trans hk4)
        clear hk4
        go_wp2_with fail
        refine (HO4.out _ HK4.out).mono ?_
        rintro e w5 ⟨rfl, rfl⟩
        go_wp2_with fail
        refine (HO5.out _ HK4.out).mono ?_
        rintro e w6 ⟨rfl, hk6⟩
        have HK6 := Lib.hid (HK4.out.trans hk6)
        clear hk6
        go_wp2_with fail
        go_roundw
        case rel => exact ⟨k + 1, by omega, by first | go_num | (congr 1; omega), HK6.out⟩
        case measure => simp [intOf]; omega
    · obtain rfl : t = (nn : Int) + 1 := by omega
      have hc : ¬ (nn : Int) + 1 ≤ (nn : Int) := by omega
      go_wp2_with fail
      go_loopw [11] (fun kv wz => ∃ k : Nat, k ≤ mm + 2 ∧ kv = .int .i64 ((k : Int) - 1) ∧ Hid (Kept [] w wz)) (fun k _ => mm + 2 - (intOf k + 1).toNat)
      case atStart => exact ⟨0, by omega, rfl, HK.out⟩
      case round =>
        obtain ⟨k2, hk2, rfl, HKB⟩ := hrel
        obtain ⟨p1, p2, p3, p4, p5, p6, p7⟩ := HR0.out _ HKB.out
        obtain ⟨t, ht2⟩ : ∃ t : Int, (k2 : Int) - 1 = t := ⟨_, rfl⟩
        rw [ht2]
        by_cases hlt2 : k2 < mm + 2
        · have hc2 : t ≤ (mm : Int) := by omega
          have hin1 : (-1 : Int) ≤ t := by omega
          have hX := Lib.hid (HIL.out _ HKB.out t)
          have HO2 := Lib.hid (HLO.out _ HKB.out t)
          have HI2 := Lib.hid (HLI.out _ HKB.out t)
          have HI3 := Lib.hid (fun W hk => HLR.out W hk t)
          have HS2 := Lib.hid (HSM.out t)
          generalize lineM s t = lm at *
          by_cases hv : 0 ≤ t ∧ t < (mm : Int)
          · have hd : decide (0 ≤ t ∧ t < (mm : Int)) = true := by simp; omega
            rw [hd] at hX
            obtain ⟨j, rfl⟩ : ∃ j : Nat, t = j := ⟨t.toNat, by omega⟩
            clear hd
            obtain ⟨hv1, hv2⟩ := hv
            obtain ⟨go, e1, c1, l1⟩ := HRO.out _ HKB.out j (by omega)
            rw [e1] at p4
            generalize getO s.owner (j : Int) = ow at *
            go_wp2_with fail
            refine (hX.out).mono ?_
            rintro e w1 ⟨rfl, rfl⟩
            go_wp2_with fail
            refine (HO2.out).mono ?_
            rintro e w1 ⟨rfl, rfl⟩
            go_wp2_with fail
            refine (HI2.out).mono ?_
            rintro e w2 ⟨A1, n1, c1', rfl, hr1, hk1⟩
            have HK2 := Lib.hid (HKB.out.trans hk1)
            have HR1 := Lib.hid hr1
            clear hr1 hk1
            go_wp2_with fail
            refine (HI3.out _ HK2.out).mono ?_
            rintro e w3 ⟨A2, n2, c2', rfl, hr2, hk3⟩
            have HK3 := Lib.hid (HK2.out.trans hk3)
            have HS3 := Lib.hid (HS2.out _ _ c1' _ _ c2' _ (HR1.out.old hk3) hr2)
            clear hr2 hk3
            go_wp2_with fail
            refine (HS3.out).mono ?_
            rintro e w4 ⟨rfl, hk4⟩
            have HK4 := Lib.hid (HK3.out.trans hk4)
            clear hk4
            go_wp2_with fail
            go_roundw
            case rel => exact ⟨k2 + 1, by omega, by first | go_num | (congr 1; omega), HK4.out⟩
            case measure => simp [intOf]; omega
          · have hd : decide (0 ≤ t ∧ t < (mm : Int)) = false := by simp; omega
            rw [hd] at hX
            clear hd
            rw [HOUO.out t hv] at HO2
            clear hv
            go_wp2_with fail
            refine (hX.out).mono ?_
            rintro e w1 ⟨rfl, rfl⟩
            go_wp2_with fail
            refine (HO2.out).mono ?_
            rintro e w1 ⟨rfl, rfl⟩
            go_wp2_with fail
            refine (HI2.out).mono ?_
            rintro e w2 ⟨A1, n1, c1', rfl, hr1, hk1⟩
            have HK2 := Lib.hid (HKB.out.trans hk1)
            have HR1 := Lib.hid hr1
            clear hr1 hk1
            go_wp2_with fail
            refine (HI3.out _ HK2.out).mono ?_
            rintro e w3 ⟨A2, n2, c2', rfl, hr2, hk3⟩
            have HK3 := Lib.hid (HK2.out.trans hk3)
            have HS3 := Lib.hid (HS2.out _ _ c1' _ _ c2' _ (HR1.out.old hk3) hr2)
            clear hr2 hk3
            go_wp2_with fail
            refine (HS3.out).mono ?_
            rintro e w4 ⟨rfl, hk4⟩
            have HK4 := Lib.hid (HK3.out.trans hk4)
            clear hk4
            go_wp2_with fail
            go_roundw
            case rel => exact ⟨k2 + 1, by omega, by first | go_num | (congr 1; omega), HK4.out⟩
            case measure => simp [intOf]; omega
        · obtain rfl : t = (mm : Int) + 1 := by omega
          have hc2 : ¬ (mm : Int) + 1 ≤ (mm : Int) := by omega
          go_wp2_with fail
          go_ret
          exact ⟨rfl, HKB.out⟩

end Go.Proofs.YtfoeijiejpenpaaGreatDoor

/- Law 26: LockPlays, walked. -/
namespace Go.Proofs.YtfoeijiejpenpaaGreatDoor
open Go.RowKit

theorem rep_nil {n u : Nat} (hu : u < (List.replicate n ([] : List Int)).length) : (List.replicate n ([] : List Int))[u] = [] := List.eq_of_mem_replicate (List.getElem_mem hu)
theorem sim_new (n m : Nat) : Sim (newS n m) (List.replicate n []) (rf0 n m) := by
  refine ⟨rfl, rfl, by simp [rf0, newS], by simp [rf0, newS], by simp [rf0, newS], Int.le_refl _, fun x hx => ?_, fun q L last hq x hx => ?_, fun u hu => ?_, fun u hu t _ ht => ?_⟩
  · have := List.eq_of_mem_replicate hx
    subst this
    exact Int.le_refl _
  · have hh : ([], 0) = (L, last) := (List.eq_of_mem_replicate (List.mem_of_getElem? hq)).symm
    cases hh
    simp at hx
  · rw [rep_nil hu]; exact List.Pairwise.nil
  · have h1 : getW (newS n m).waits t = (-1, -1) := getW_rep n t
    rw [h1] at ht
    have ht : (-1 : Int) = u := ht
    omega
theorem stand_new {w w1 w2 : World} {a : LkA} {b : RfA} {n m : Nat} (h1 : LkIsJ w w1 a (newS n m) (List.replicate n []) 0) (h2 : RfIs w1 w2 b (rf0 n m)) (hn : n ≤ 64) (hm : m ≤ 64) : Stand w w2 0 a.g b.r n m := by
  have hk : Kept [] w1 w2 := h2.kept
  have hk0 : Kept [] w w1 := h1.is.kept
  have hnew : ∀ k, k ∈ fpR b (rf0 n m) → w1.heap.size ≤ k := fun k hk' => by
    rcases h2.fp_new hk' with h3 | h3
    · simp at h3
    · exact h3
  refine ⟨a, newS n m, List.replicate n [], b, rf0 n m, rfl, rfl, by simp [newS], by simp [newS], ⟨h1.old hk, ⟨h2.at_, fun p hp k hk' => .inr ?_, hk0.trans hk⟩, fun k hk1 hk2 => ?_⟩, new_all n m hn hm, ⟨fun u hu t ht => ?_, fun u hu => ?_⟩, sim_new n m, Int.le_refl _⟩
  · exact Nat.le_trans hk0.size (hnew k (fpR_mem.2 ⟨p, hp, hk'⟩))
  · have := h1.is.at_.fp_lt hk1
    have := hnew k hk2
    omega
  · rw [rep_nil hu] at ht; simp at ht
  · rw [rep_nil hu]; simp
theorem Stand.kept {w0 w : World} {n g r N M : Nat} (h : Stand w0 w n g r N M) : Kept [] w0 w := by
  obtain ⟨a, s, js, b, f, h1, h2, h3, h4, h5, h6⟩ := h
  exact h5.lk.is.kept

set_option maxHeartbeats 6400000 in
set_option maxRecDepth 100000 in
theorem lockPlays_any (t l : Int) (A : Option Addr) (n c : Nat) (acts : List Ac) (w : World) (hr : Reads w 3 A n (acts.flatMap aL)) (hn : n ≤ 9223372036854775807) (hk : ∀ a ∈ acts, a.k < 256) (hD : HasDb w) :
    Calls Tryz.prog 3 #[.int .i64 t, .int .i64 l, .slice A n c] w fun e w' => e = .returned (.bool true) ∧ Kept [] w w' := by
  obtain rfl : n = acts.length := hr.lenK aL 3 aL_len (by omega)
  have HR := Lib.hid hr
  have HK := Lib.hid hk
  have HD := Lib.hid hD
  clear hr hk hD
  have HNW : Hid (∀ t' l' : Int, Calls Tryz.prog 4 #[.int .i64 t', .int .i64 l'] w fun e w' => ∃ a, e = .returned (.pointer (some ⟨a.g, 0, none⟩)) ∧ LkIsJ w w' a (newS (clampM t') (clampM l')) (List.replicate (clampM t') []) 0) := fun t' l' => lkNew_anyJ t' l' _ _ rfl rfl w
  have HRN : Hid (∀ (t' l' : Int) W, Calls Tryz.prog 5 #[.int .i64 t', .int .i64 l'] W fun e w' => ∃ b : RfA, e = .returned (.pointer (some ⟨b.r, 0, none⟩)) ∧ RfIs W w' b (rf0 (clampM t') (clampM l'))) := fun t' l' W => rf26New t' l' _ _ rfl rfl W
  have h3 : (0 : Int) ≤ (acts.length : Int) := by omega
  rcases (by omega : (7 < t ∧ t < 60) ∨ (7 < t ∧ ¬ t < 60) ∨ ¬ 7 < t) with ⟨t1, t2⟩ | ⟨t1, t2⟩ | t1 <;> rcases (by omega : (7 < l ∧ l < 60) ∨ (7 < l ∧ ¬ l < 60) ∨ ¬ 7 < l) with ⟨l1, l2⟩ | ⟨l1, l2⟩ | l1
  all_goals
    go_enter Tryz.func3, Tryz.ntmps3
    go_wp2_with fail
    refine (HNW.out _ _).mono ?_
    rintro e w1 ⟨a, rfl, hl⟩
    have HL := Lib.hid hl
    clear hl
    go_wp2_with fail
    refine (HRN.out _ _ _).mono ?_
    rintro e w2 ⟨b, rfl, hf⟩
    have hst : ∃ nn mm, Stand w w2 0 a.g b.r nn mm ∧ w2.cell? ⟨b.r, 0, none⟩ = some (.slice b.AL nn b.cL) ∧ w2.cell? ⟨b.r, 1, none⟩ = some (.pointer (some ⟨b.rw, 0, none⟩)) ∧ w2.cell? ⟨b.rw, 0, none⟩ = some (.slice b.AO mm b.cO) ∧ b.r < w2.heap.size ∧ b.rw < w2.heap.size := by
      have hwf := hf.at_.blk
      have hww := hf.at_.web
      exact ⟨_, _, stand_new HL.out hf (clampM_le _) (clampM_le _), by have := hwf.cell 0; simpa [rf0] using this, hwf.cell 1, by have := hww.cell 0; simpa [rf0] using this, hwf.lt, hww.lt⟩
    obtain ⟨nn, mm, hst, q0, q1, q2, hlf, hlw⟩ := hst
    have HS := Lib.hid hst
    clear hst hf HL
    generalize a.g = g at *
    generalize b.r = r at *
    rcases (by omega : ((nn : Int) < 8 ∧ (mm : Int) < 8) ∨ ((nn : Int) < 8 ∧ ¬ (mm : Int) < 8) ∨ ¬ (nn : Int) < 8) with ⟨n8, m8⟩ | ⟨n8, m8⟩ | n8
    all_goals
      go_wp2_with fail
      go_loopw [10] (fun iv wr => ∃ i : Nat, i ≤ acts.length ∧ i ≤ 50 ∧ iv = .int .i64 i ∧ Hid (Stand w wr i g r nn mm)) (fun i _ => acts.length - (intOf i).toNat)
      case atStart => exact ⟨0, by omega, by omega, rfl, HS.out⟩
      case round =>
        obtain ⟨i, hi1, hi2, rfl, HG⟩ := hrel
        have HKW := Lib.hid HG.out.kept
        by_cases hgo : i < acts.length ∧ i < 50
        · obtain ⟨hg1, hg2⟩ := hgo
          obtain ⟨x, hx⟩ : ∃ x, acts[i]? = some x := ⟨acts[i], List.getElem?_eq_getElem hg1⟩
          have hxk := HK.out x (List.mem_of_getElem? hx)
          obtain ⟨b', o, rfl, hb0, hcc⟩ := HR.out.cellsK aL 3 aL_len (by omega) (by omega)
          have hc0 : wr.cell? ⟨b', o + i * 3, none⟩ = some (.int .u8 x.k) := HKW.out.cell_some (hcc i x hx 0 (by omega)) (by simp)
          have hc1 : wr.cell? ⟨b', o + i * 3 + 1, none⟩ = some (.int .i64 x.p) := HKW.out.cell_some (hcc i x hx 1 (by omega)) (by simp)
          have hc2 : wr.cell? ⟨b', o + i * 3 + 2, none⟩ = some (.int .i64 x.l) := HKW.out.cell_some (hcc i x hx 2 (by omega)) (by simp)
          have hj0 : (0 : Int) ≤ (i : Int) := by omega
          have hj1 : (i : Int) < (acts.length : Int) := by omega
          have hj2 : (i : Int) < 50 := by omega
          obtain ⟨ak, xp, xl⟩ := x
          simp only at hc0 hc1 hc2 hxk
          have HDO := Lib.hid (does_any HG.out (by omega) HD.out ak hxk xp xl)
          have HSA : Hid (∀ W, Stand w W (i + 1) g r nn mm → Calls Tryz.prog 7 #[.pointer (some ⟨g, 0, none⟩), .pointer (some ⟨r, 0, none⟩)] W fun e w' => e = .returned (.bool true) ∧ Kept [] W w') := fun W h => same_any h
          clear hcc hx hxk hb0
          go_wp2_with fail
          refine (HDO.out).mono ?_
          rintro e w3 ⟨rfl, hs3⟩
          have HS3 := Lib.hid hs3
          clear hs3
          go_wp2_with fail
          first
            | (refine (HSA.out _ HS3.out).mono ?_
               rintro e w4 ⟨rfl, hk4⟩
               have HS4 := Lib.hid (HS3.out.old hk4)
               clear hk4
               go_wp2_with fail
               go_roundw
               case rel => exact ⟨i + 1, by omega, by omega, by go_num, HS4.out⟩
               case measure => simp [intOf]; omega)
            | (go_roundw
               case rel => exact ⟨i + 1, by omega, by omega, by go_num, HS3.out⟩
               case measure => simp [intOf]; omega)
        · have HSA := Lib.hid (same_any HG.out)
          have HA := Lib.hid awake26
          have HFIN : Hid (∀ W, Kept [] wr W → Kept [] w W) := fun W hk => HKW.out.trans hk
          rcases (by omega : i = acts.length ∨ (i < acts.length ∧ i = 50)) with h1 | ⟨h1, h2⟩
          · subst h1
            clear hgo
            go_wp2_with fail
            refine (HSA.out).mono ?_
            rintro e w4 ⟨rfl, hk4⟩
            have HK4 := Lib.hid hk4
            clear hk4
            go_wp2_with fail
            refine (HA.out _).mono ?_
            rintro e w5 ⟨rfl, hk5⟩
            have HK5 := Lib.hid (HFIN.out _ (HK4.out.trans hk5))
            clear hk5
            go_wp2_with fail
            go_ret
            exact ⟨rfl, HK5.out⟩
          · subst h2
            have hj1 : ((50 : Nat) : Int) < (acts.length : Int) := by omega
            have hj2 : (50 : Int) < (acts.length : Int) := by omega
            clear hgo
            go_wp2_with fail
            refine (HSA.out).mono ?_
            rintro e w4 ⟨rfl, hk4⟩
            have HK4 := Lib.hid hk4
            clear hk4
            go_wp2_with fail
            refine (HA.out _).mono ?_
            rintro e w5 ⟨rfl, hk5⟩
            have HK5 := Lib.hid (HFIN.out _ (HK4.out.trans hk5))
            clear hk5
            go_wp2_with fail
            go_ret
            exact ⟨rfl, HK5.out⟩

end Go.Proofs.YtfoeijiejpenpaaGreatDoor

/- LockPlays returns true for every input: the card. -/
namespace Go.Proofs.YtfoeijiejpenpaaGreatDoor
open Go.ChangeShapes Go.WideShapes Go.ChangeAt Go.RowKit

theorem laid_lockPlays (os : Os) : laidMet Tryz.prog Rows.lockPlaysRow.laid ((laidWorld os).forCall (fun _ _ => 0) ⟨#[], #[.int .i64 0, .int .i64 0, .slice none 0 0], []⟩).memory :=
  laidMet_of_run' 8 (by kernel_rfl) (by kernel_rfl)
set_option maxRecDepth 100000 in
theorem lockPlays_contract (H : Type) (enc : TypeId × Value → H) (W : World) (base : Nat) (args : Array Value) (ds gs : List (DataW H)) (before : List MemPlace)
    (hval : ∀ (j : Nat) t v, Tryz.f3.params[j]? = some t → args[j]? = some v → Value.okWide Tryz.prog W .any base t v)
    (hW : DataW.Whole enc Tryz.prog Tryz.f3.params.toList Rows.lockPlaysSpec.vars false W args.toList ds gs before) (hL : laidMetH Tryz.prog Rows.lockPlaysRow.laid W) (hsh : W.ShapedOpen Tryz.prog) :
    Calls Tryz.prog 3 args W fun e W' => ∃ v, e = .returned v ∧ Rows.lockPlaysSpec.post enc Tryz.prog Tryz.f3 false true false false W args v W' := by
  have hW' := hW
  obtain ⟨p, q, hA0, hV, rfl, hfz, hnd⟩ := hW
  have hA : DataW.TrodAll enc Tryz.prog W 0 (fun _ => true) true Tryz.f3.params.toList args.toList ds p := hA0
  rw [Tryz.params3] at hA hval
  obtain ⟨v0, vs0, d0, ds0, p0, q0, hargs, rfl, rfl, h0, r0⟩ := trodAll_cons hA
  obtain ⟨v1, vs1, d1, ds1, p1, q1, rfl, rfl, rfl, h1, r1⟩ := trodAll_cons r0
  obtain ⟨v2, vs2, d2, ds2, p2, q2, rfl, rfl, rfl, h2, r2⟩ := trodAll_cons r1
  obtain ⟨rfl, rfl, rfl⟩ := trodAll_nil r2
  obtain rfl : args = #[v0, v1, v2] := by cases args; simp_all
  obtain ⟨rfl, rfl⟩ := trodVars_none hV
  have k0 := h0
  have lt0 : ∀ x ∈ p0, x.block < W.heap.size := by obtain ⟨m, hm⟩ := k0; exact DataW.trod_lt m _ _ _ hm
  have k1 := h1
  have lt1 : ∀ x ∈ p1, x.block < W.heap.size := by obtain ⟨m, hm⟩ := k1; exact DataW.trod_lt m _ _ _ hm
  have k2 := h2
  have lt2 : ∀ x ∈ p2, x.block < W.heap.size := by obtain ⟨m, hm⟩ := k2; exact DataW.trod_lt m _ _ _ hm
  obtain ⟨t, rfl, rfl, rfl, _⟩ := open_int Tryz.underlying3 (hval 0 3 v0 rfl rfl) h0
  obtain ⟨l, rfl, rfl, rfl, _⟩ := open_int Tryz.underlying3 (hval 1 3 v1 rfl rfl) h1
  obtain ⟨a0, l0, c0, rfl⟩ := okWide_slice Tryz.underlying22 (hval 2 22 v2 rfl rfl)
  obtain ⟨A, n, c, acts, hv, hr, hn, hk⟩ : ∃ (A : Option Addr) (n c : Nat) (acts : List Ac), (Value.slice a0 l0 c0) = .slice A n c ∧ Reads W 3 A n (acts.flatMap aL) ∧ n ≤ maxLen ∧ ∀ a ∈ acts, a.k < 256 := by
    obtain ⟨fuel, hf⟩ := h2
    exact open_acts hf
  rw [hv] at k2 hW' ⊢
  unfold maxLen at hn
  clear hA0
  refine (lockPlays_any t l A n c acts W hr (by omega) hk (hasDb_of (by kernel_rfl) hL)).mono fun e W' ⟨he, bel0⟩ => ?_
  have bel := bel0.toBelow
  subst he
  exact ⟨_, rfl, _, _, _, [], _, [], hW', trodAll_mk1 (shut_bool Tryz.underlying4 _), (trodAll_cons_mk (Below.trod Tryz.laidOut (by kernel_rfl) (of_decide_eq_true (by kernel_rfl)) k0 bel lt0) (trodAll_cons_mk (Below.trod Tryz.laidOut (by kernel_rfl) (of_decide_eq_true (by kernel_rfl)) k1 bel lt1) (trodAll_cons_mk (Below.trod Tryz.laidOut (by kernel_rfl) (of_decide_eq_true (by kernel_rfl)) k2 bel lt2) trodAll_mk0))), rfl, bel.frame _, fun h => by cases h⟩
theorem lockPlays_reads (os : Os) {H : Type} (enc : TypeId × Value → H) : ∃ places, DataW.whole enc Tryz.prog ((laidWorld os).forCall (fun _ _ => 0) ⟨#[], #[.int .i64 0, .int .i64 0, .slice none 0 0], []⟩).memory Tryz.f3.params.toList Rows.lockPlaysSpec.vars false (#[.int .i64 0, .int .i64 0, .slice none 0 0] : Array Value).toList 8 = some ([.lit (.int .i64 0), .lit (.int .i64 0), .nil], [], places) :=
  ⟨[], by kernel_rfl⟩
set_option maxRecDepth 100000 in
theorem lockPlays_lifted (os : Os) (started : os.Started) (H : Type) (enc : TypeId × Value → H) (F : Stop.Interp) :
    ReturnsInHanded {} Tryz.checked os 3 .any ((OpenSpec.ofChange Rows.lockPlaysSpec).preRow enc Tryz.prog Tryz.f3 Rows.lockPlaysRow.domain false Rows.lockPlaysRow.laid) (((OpenSpec.ofChange Rows.lockPlaysSpec).at F).post enc Tryz.prog Tryz.f3 false true false false) := by
  obtain ⟨places, hx⟩ := lockPlays_reads os enc
  refine returnsInHanded_of_row (C := Tryz.checked) (s := OpenSpec.ofChange Rows.lockPlaysSpec) Tryz.own started (by kernel_rfl) Tryz.func3
    (witness_row_at (enc := enc) (C := Tryz.checked) false (laidWorld os) #[.int .i64 0, .int .i64 0, .slice none 0 0] rfl (by kernel_rfl) (by kernel_rfl) (by kernel_rfl)
      (OpenSpec.preRow_of_cond 8 hx (by kernel_rfl) (fun k hk => by cases hk) (by kernel_rfl) (laid_lockPlays os))) ?_
  intro W base args ds gs before hval hW _ _ _ hL hsh _
  exact lockPlays_contract H enc W base args ds gs before hval hW hL hsh
theorem lockPlays_said : Rows.LockPlaysSaid :=
  OpenClaim.holds_of_cond 3 Tryz.f3 rfl rfl rfl rfl rfl rfl rfl ⟨rfl, rfl, rfl, rfl, rfl⟩ rfl rfl rfl rfl rfl (by kernel_rfl) Tryz.func3 (by kernel_rfl)
    (of_decide_eq_true (by kernel_rfl)) (by unfold Func.isWrapper; first | (rw [if_pos (by decide +kernel)]; kernel_rfl) | (rw [if_neg (by decide +kernel)]; exact ⟨rfl, rfl⟩))
    (fun os started H enc _ F => by rw [OpenClaim.pre_eq_preRow]; exact lockPlays_lifted os started H enc F)
theorem lockPlays_plain (f : FuncId) (fn : Func) (hf : Tryz.pinned.checked.prog.funcNamed "bosun/bosunlaw26.LockPlays" = some f) (hfn : Tryz.pinned.checked.prog.funcs[f]? = some fn) :
    false = Tryz.pinned.checked.prog.looks [] ∧ ∀ (j : Nat) t, fn.params[j]? = some t → Tryz.pinned.checked.prog.wantsStandIn t = false := by
  obtain rfl : f = 3 := Option.some.inj ((show Tryz.prog.funcNamed "bosun/bosunlaw26.LockPlays" = some 3 by kernel_rfl).symm.trans hf) |>.symm
  obtain rfl : fn = Tryz.f3 := (Option.some.inj (Tryz.func3.symm.trans hfn)).symm
  refine ⟨by kernel_rfl, fun j t ht => ?_⟩
  rw [Tryz.params3] at ht
  have hm : t = 3 ∨ t = 22 := by simpa using Array.mem_of_getElem? ht
  rcases hm with rfl | rfl
  · exact (show Tryz.prog.wantsStandIn 3 = false by kernel_rfl)
  · exact (show Tryz.prog.wantsStandIn 22 = false by kernel_rfl)
theorem lockPlays_card : Rows.LockPlaysCardSaid :=
  Claim7.holds_tied_plain_at .later [] _ _ _ _ lockPlays_said (fun _ h => by cases h) (by kernel_rfl) (fun _ h => by cases h) lockPlays_row_tie rfl ⟨rfl, rfl⟩ (by kernel_rfl) rfl lockPlays_plain (by kernel_rfl)

#print axioms lockPlays_card
end Go.Proofs.YtfoeijiejpenpaaGreatDoor

