/- Package wait: its functions at a line of the caller's own. -/
import Derived.Test.YtljimcdppeejfaaWait6
import Derived.Test.YtljimcdppeejfaaWaitPlain
namespace Go.Proofs.Ytljimcdppeejfaa
open Go.RowKit

/-- A line that was made after w0. -/
def MyLine (w0 w : World) (g : Nat) (l : List WO) (last : Nat) : Prop := ∃ v, IsLine w g v l last ∧ Kept [] w0 w ∧ w0.heap.size ≤ g ∧ ∀ k, k ∈ fp v → w0.heap.size ≤ k
theorem MyLine.goes {w0 w w' : World} {g : Nat} {v : Value} {l l' : List WO} {last last' : Nat} (_ : IsLine w g v l last) (hk : Kept [] w0 w) (hg : w0.heap.size ≤ g) (hv : ∀ k, k ∈ fp v → w0.heap.size ≤ k) (h : LineGoes w g v w' l' last') : MyLine w0 w' g l' last' := by
  obtain ⟨v', h1, h2, h3⟩ := h
  refine ⟨v', h1, hk.trans' h2 (fun k hk' => .inr ?_), hg, fun k hk' => ?_⟩
  · rcases List.mem_cons.1 hk' with rfl | h4
    · exact hg
    · exact hv k h4
  · rcases h3 k hk' with h4 | h4
    · exact hv k h4
    · exact Nat.le_trans hk.size h4
/-- What is no line and no row of waiters is as it was. -/
def Others (w w' : World) : Prop := ∀ (B : Nat) (t : TypeId) (cs : Array Value), Blk w B t cs → t ≠ 57 → t ≠ 55 → Blk w' B t cs
theorem Others.refl (w : World) : Others w w := fun _ _ _ h _ _ => h
theorem Others.trans {w w1 w2 : World} (h : Others w w1) (h' : Others w1 w2) : Others w w2 := fun B t cs hb h1 h2 => h' B t cs (h B t cs hb h1 h2) h1 h2
theorem Others.old {w w' : World} (h : Kept [] w w') : Others w w' := fun _ _ _ hb _ _ => hb.kept h (by simp)
theorem Others.goes {w w' : World} {g : Nat} {v : Value} {l l' : List WO} {last last' : Nat} (h : IsLine w g v l last) (hg : LineGoes w g v w' l' last') : Others w w' := fun B t cs hb h1 h2 => hb.kept hg.kept (fun hm => by
  rcases List.mem_cons.1 hm with rfl | hm
  · exact Blk.ne hb h.blk h2 rfl
  · exact own_blk_ne h.row hb (fun e => h1 e.symm) (mem_fp.1 hm))
theorem Others.own {w w' : World} (h : Others w w') {base e size n : Nat} {v : Value} {xs : List Value} (ho : w.ownsRow base e size v n xs) (h1 : e ≠ 57) (h2 : e ≠ 55) : w'.ownsRow base e size v n xs := by
  refine ⟨ho.1, ?_⟩
  rcases ho.2 with hn | ⟨g, cap, cur, rfl, hb, hh, r⟩
  · exact .inl hn
  · exact .inr ⟨g, cap, cur, rfl, hb, h g e cur hh h1 h2, r⟩
theorem MyLine.old {w0 w w' : World} {g : Nat} {l : List WO} {last : Nat} (h : MyLine w0 w g l last) (hk : Kept [] w w') : MyLine w0 w' g l last := by
  obtain ⟨v, h1, h2, h3, h4⟩ := h
  exact ⟨v, h1.old hk, h2.trans hk, h3, h4⟩
theorem MyLine.set {w0 w : World} {g B : Nat} {l : List WO} {last : Nat} {t : TypeId} {cs : Array Value} (h : MyLine w0 w g l last) (hn : w0.heap.size ≤ B) (hB : Blk w B t cs) (h1 : t ≠ 57) (h2 : t ≠ 55) (i : Nat) (u : Value) : MyLine w0 (w.setCell ⟨B, i, none⟩ u) g l last := by
  obtain ⟨v, k1, k2, k3, k4⟩ := h
  refine ⟨v, k1.kept ((Kept.refl [B] w).setCell (.inl (by simp)) u) (fun hm => ?_) (fun k hk hm => ?_), k2.setCell (.inr hn) u, k3, k4⟩
  · simp at hm; subst hm; exact Blk.ne hB k1.blk h2 rfl
  · simp at hm; subst hm; exact own_blk_ne k1.row hB (fun e => h1 e.symm) (mem_fp.1 hk)
theorem MyLine.kept {w0 w : World} {g : Nat} {l : List WO} {last : Nat} (h : MyLine w0 w g l last) : Kept [] w0 w := by
  obtain ⟨v, h1, h2, h3, h4⟩ := h
  exact h2
theorem MyLine.lt {w0 w : World} {g : Nat} {l : List WO} {last : Nat} (h : MyLine w0 w g l last) : g < w.heap.size := by
  obtain ⟨v, h1, h2, h3, h4⟩ := h
  exact h1.blk.lt

theorem my_new (w : World) : Calls Try.prog 6 #[] w fun e w' => e = .returned (.pointer (some ⟨w.heap.size, 0, none⟩)) ∧ MyLine w w' w.heap.size [] 0 :=
  (new_any w).mono fun _ _ ⟨h1, h2, h3⟩ => ⟨h1, _, h2, h3, Nat.le_refl _, by simp [fp, Value.ownBlock]⟩
theorem my_len (w0 w : World) (g : Nat) (l : List WO) (last : Nat) (h : MyLine w0 w g l last) : Calls Try.prog 10 #[.pointer (some ⟨g, 0, none⟩)] w fun e w' => e = .returned (.int .i64 l.length) ∧ w = w' := by
  obtain ⟨v, h1, h2, h3, h4⟩ := h
  exact len_any g v l last w h1
theorem my_put (w0 w : World) (g : Nat) (l : List WO) (last : Nat) (pl lev : Int) (h : MyLine w0 w g l last) (hl : l.length ≤ 1000) (hla : last ≤ 1000000) (h0 : 0 ≤ pl) (h1 : pl < 64) (hf : findW pl l = none) :
    Calls Try.prog 7 #[.pointer (some ⟨g, 0, none⟩), .int .i64 pl, .int .i64 lev] w fun e w' => e = .returned (.int .i64 0) ∧ MyLine w0 w' g (insW ⟨pl, holdL lev, last + 1⟩ l) (last + 1) ∧ Others w w' := by
  obtain ⟨v, k1, k2, k3, k4⟩ := h
  exact (put_new g v l last pl lev w k1 hl hla h0 h1 hf).mono fun _ _ ⟨e1, e2⟩ => ⟨e1, MyLine.goes k1 k2 k3 k4 e2, Others.goes k1 e2⟩
theorem my_move (w0 w : World) (g : Nat) (l : List WO) (last : Nat) (pl lev : Int) (x : WO) (h : MyLine w0 w g l last) (hl : l.length ≤ 1000) (hf : findW pl l = some x) :
    Calls Try.prog 8 #[.pointer (some ⟨g, 0, none⟩), .int .i64 pl, .int .i64 lev] w fun e w' => e = .returned (.bool true) ∧ MyLine w0 w' g (insW ⟨x.p, holdL lev, x.n⟩ (l.eraseP (isP pl))) last ∧ Others w w' := by
  obtain ⟨v, k1, k2, k3, k4⟩ := h
  exact (move_some g v l last pl lev x w k1 hl hf).mono fun _ _ ⟨e1, e2⟩ => ⟨e1, MyLine.goes k1 k2 k3 k4 e2, Others.goes k1 e2⟩
theorem my_pop (w0 w : World) (g : Nat) (x : WO) (t : List WO) (last : Nat) (h : MyLine w0 w g (x :: t) last) (hl : (x :: t).length ≤ 1000) :
    Calls Try.prog 9 #[.pointer (some ⟨g, 0, none⟩)] w fun e w' => e = .returned (.tuple #[.int .i64 x.p, .bool true]) ∧ MyLine w0 w' g t last ∧ Others w w' := by
  obtain ⟨v, k1, k2, k3, k4⟩ := h
  exact (pop_some g v x t last w k1 hl).mono fun _ _ ⟨e1, e2⟩ => ⟨e1, MyLine.goes k1 k2 k3 k4 e2, Others.goes k1 e2⟩
theorem my_remove (w0 w : World) (g : Nat) (l : List WO) (last : Nat) (pl : Int) (x : WO) (h : MyLine w0 w g l last) (hl : l.length ≤ 1000) (hf : findW pl l = some x) :
    Calls Try.prog 19 #[.pointer (some ⟨g, 0, none⟩), .int .i64 pl] w fun e w' => e = .returned (.bool true) ∧ MyLine w0 w' g (l.eraseP (isP pl)) last ∧ Others w w' := by
  obtain ⟨v, k1, k2, k3, k4⟩ := h
  exact (remove_some g v l last pl x w k1 hl hf).mono fun _ _ ⟨e1, e2⟩ => ⟨e1, MyLine.goes k1 k2 k3 k4 e2, Others.goes k1 e2⟩

set_option maxHeartbeats 3200000 in
set_option maxRecDepth 100000 in
theorem awake23 (w : World) : Calls Try.prog 11 #[] w fun e w' => e = .returned (.bool true) ∧ Kept [] w w' := by
  go_enter Try.func11, Try.ntmps11
  go_wp2_with fail
  refine (my_new w).mono ?_
  rintro e w1 ⟨rfl, h1⟩
  have H1 := Lib.hid h1
  clear h1
  go_wp2_with fail
  refine (my_put w _ w.heap.size [] 0 5 3 H1.out (by simp) (by omega) (by omega) (by omega) rfl).mono ?_
  rintro e w2 ⟨rfl, h2, _⟩
  have H2 : Hid (MyLine w w2 w.heap.size [⟨5, 3, 1⟩] 1) := h2
  clear h2
  go_wp2_with fail
  refine (my_put w _ w.heap.size [⟨5, 3, 1⟩] 1 6 1 H2.out (by simp) (by omega) (by omega) (by omega) rfl).mono ?_
  rintro e w3 ⟨rfl, h3, _⟩
  have H3 : Hid (MyLine w w3 w.heap.size [⟨6, 1, 2⟩, ⟨5, 3, 1⟩] 2) := h3
  clear h3
  go_wp2_with fail
  refine (my_put w _ w.heap.size [⟨6, 1, 2⟩, ⟨5, 3, 1⟩] 2 7 3 H3.out (by simp) (by omega) (by omega) (by omega) rfl).mono ?_
  rintro e w4 ⟨rfl, h4, _⟩
  have H4 : Hid (MyLine w w4 w.heap.size [⟨6, 1, 2⟩, ⟨5, 3, 1⟩, ⟨7, 3, 3⟩] 3) := h4
  clear h4
  go_wp2_with fail
  refine (my_move w _ w.heap.size [⟨6, 1, 2⟩, ⟨5, 3, 1⟩, ⟨7, 3, 3⟩] 3 7 1 ⟨7, 3, 3⟩ H4.out (by simp) rfl).mono ?_
  rintro e w5 ⟨rfl, h5, _⟩
  have H5 : Hid (MyLine w w5 w.heap.size [⟨6, 1, 2⟩, ⟨7, 1, 3⟩, ⟨5, 3, 1⟩] 3) := h5
  clear h5
  go_wp2_with fail
  refine (my_pop w _ w.heap.size ⟨6, 1, 2⟩ _ 3 H5.out (by simp)).mono ?_
  rintro e w6 ⟨rfl, h6, _⟩
  have H6 := Lib.hid h6
  clear h6
  go_wp2_with fail
  refine (my_pop w _ w.heap.size ⟨7, 1, 3⟩ _ 3 H6.out (by simp)).mono ?_
  rintro e w7 ⟨rfl, h7, _⟩
  have H7 := Lib.hid h7
  clear h7
  go_wp2_with fail
  refine (my_pop w _ w.heap.size ⟨5, 3, 1⟩ _ 3 H7.out (by simp)).mono ?_
  rintro e w8 ⟨rfl, h8, _⟩
  have H8 := Lib.hid h8
  clear h8
  go_wp2_with fail
  refine (my_len w _ w.heap.size [] 3 H8.out).mono ?_
  rintro e w9 ⟨rfl, rfl⟩
  go_wp2_with fail
  go_ret
  exact ⟨rfl, H8.out.kept⟩

end Go.Proofs.Ytljimcdppeejfaa
