/- Law 26: any call (plays, small), whom a thread waits for (next), and the document's Has; walked. -/
import Derived.Test.YtfoeijiejpenpaaDoorLkDr
import Derived.Test.YtfoeijiejpenpaaDoorSets1
namespace Go.Proofs.YtfoeijiejpenpaaDoor
open Go.RowKit

theorem HasDb.lt {w : World} (h : HasDb w) : 0 < w.heap.size := by
  have h0 := h 0 (by decide)
  unfold World.cell? at h0
  simp only at h0
  cases hb : w.heap[0]? with
  | none => rw [hb] at h0; simp at h0
  | some o => exact lt_of_block hb

/-- Lock, whatever it does. -/
theorem lkLock_any {w0 : Base} {w : World} {a : LkA} {s : Lk} {K : Nat} (h : LkIs w0 w a s) (hI : LkAll s K) (hK : K ≤ 1000000) (t l : Int) :
    Calls Tryd.prog 20 #[.pointer (some ⟨a.g, 0, none⟩), .int .i64 t, .int .i64 l] w fun e w' => e = .returned (.tuple #[.bool (lockB s t l), .int .i64 (mayM s t l)]) ∧ ∃ a', a'.key = a.key ∧ LkIs w0 w' a' (lockS s t l) := by
  unfold lockB lockS
  by_cases hm : mayM s t l ≠ 0
  · rw [if_pos hm]
    refine (lock_bad h hI.whole t l hm).mono ?_
    rintro e w' ⟨rfl, hl⟩
    exact ⟨by simp [hm], a, rfl, hl⟩
  · have hm0 : mayM s t l = 0 := by omega
    rw [if_neg hm, hm0]
    have hz := mayM_zero hm0
    obtain ⟨k, rfl⟩ : ∃ k : Nat, t = k := ⟨t.toNat, by omega⟩
    obtain ⟨q, rfl⟩ : ∃ q : Nat, l = q := ⟨l.toNat, by omega⟩
    simp only [Int.toNat_natCast]
    by_cases ho : getO s.owner q = -1
    · rw [if_pos ho, ho]
      refine (lock_got h hI.whole k q (by omega) (by omega) hm0 ho).mono ?_
      rintro e w' ⟨rfl, hl⟩
      exact ⟨rfl, a, rfl, hl⟩
    · rw [if_neg ho]
      have ho2 := hI.orng q
      have hw := wait_inv hI k q (by omega) (by omega) (waitsB_no hz.2.2.1) ho (closesM_no hI hz.1 (by omega) hz.2.2.2)
      refine (lock_wait h hI.whole hK k q (by omega) (by omega) hm0 ho hw.1 hw.2.1 hw.2.2.1).mono ?_
      rintro e w' ⟨rfl, hl⟩
      exact ⟨by simp [ho], hl⟩
theorem lock_same {s : Lk} {K : Nat} (h : LkAll s K) (t l : Int) : Same s (lockS s t l) := by
  refine Same.of h.whole (lock_inv h t l).whole ?_ ?_
  · unfold lockS; split
    · rfl
    · split
      · rfl
      · simp [betterS, putS]
  · unfold lockS; split
    · rfl
    · split
      · simp
      · simp [betterS, putS]
theorem unl_same {s : Lk} {K : Nat} (h : LkAll s K) (t l : Int) : Same s (unlS s t l) := by
  unfold unlS
  split
  · rename_i he
    unfold unlE at he
    split at he
    · omega
    · split at he
      · omega
      · exact pass_same h _ (by omega)
  · exact Same.refl s
theorem setLevel_same {s : Lk} {K : Nat} (h : LkAll s K) (t l : Int) : Same s (setLevelS s t l) := by
  refine Same.of h.whole (setLevel_inv h t l).whole ?_ ?_
  · unfold setLevelS; split
    · simp [worseS]
    · rfl
  · unfold setLevelS; split
    · simp [worseS]
    · rfl
theorem drop_ok {s : Lk} {js : List (List Int)} {K : Nat} (h : LkAll s K) (hj : JInv s js) (hl : js.length = s.eff.length) (t : Int) : LkAll (dropS s t) K ∧ JInv (dropS s t) (dropJ s js t) ∧ Same s (dropS s t) := by
  unfold dropS dropJ
  split
  · rename_i ht
    have h1 := cancel_inv h t
    have hs := cancel_same h t
    have h2 := leave_all h1 t (by rw [hs.n]; exact ht) (cancel_no h t)
    have h3 := leave_j h1 (cancel_j h hj t) (by rw [hs.n]; exact hl) t (by rw [hs.n]; exact ht)
    have h4 := passAll_ok h2 h3 (ownedL (leaveS (cancelS s t) t) t) (fun q hq => List.mem_range.1 (List.mem_filter.1 hq).1)
    exact ⟨h4.1, h4.2.1, (hs.trans (leave_same _ t)).trans h4.2.2⟩
  · exact ⟨h, hj, Same.refl s⟩

/-- Locks stand, of six threads and six locks, behind at most so many calls. -/
structure LkSt (w0 w : World) (g n : Nat) (a : LkA) (s : Lk) (js : List (List Int)) : Prop where
  g_ : a.g = g
  is : LkIsJ w0 w a s js n
  all : LkAll s n
  j : JInv s js
  n6 : s.eff.length = 6
  m6 : s.lines.length = 6
def LkGo (w0 w : World) (g n : Nat) : Prop := ∃ a s js, LkSt w0 w g n a s js
theorem LkSt.old {w0 w w' : World} {g n : Nat} {a : LkA} {s : Lk} {js : List (List Int)} (h : LkSt w0 w g n a s js) (hk : Kept [] w w') : LkSt w0 w' g n a s js := ⟨h.g_, h.is.old hk, h.all, h.j, h.n6, h.m6⟩
theorem LkGo.old {w0 w w' : World} {g n : Nat} (h : LkGo w0 w g n) (hk : Kept [] w w') : LkGo w0 w' g n := by
  obtain ⟨a, s, js, h⟩ := h
  exact ⟨a, s, js, h.old hk⟩
theorem LkSt.kept {w0 w : World} {g n : Nat} {a : LkA} {s : Lk} {js : List (List Int)} (h : LkSt w0 w g n a s js) : Kept [] w0 w := h.is.is.kept
theorem LkSt.to {w0 w w' : World} {g n n' : Nat} {a a' : LkA} {s s' : Lk} {js js' : List (List Int)} (h : LkSt w0 w g n a s js) (ha : a'.g = a.g) (hi : LkIsJ w0 w' a' s' js' n') (hn : n' ≤ n + 1) {K : Nat} (hI : LkAll s' K) (hK : K ≤ n + 1) (hj : JInv s' js') (hs : Same s s') : LkGo w0 w' g (n + 1) :=
  ⟨a', s', js', ha.trans h.g_, hi.more hn, hI.mono hK (fun _ x => x), hj, hs.n.trans h.n6, hs.m.trans h.m6⟩

theorem go_lock {w0 w : World} {g n : Nat} (h : LkGo w0 w g n) (hn : n ≤ 1000) (t l : Int) : Calls Tryd.prog 20 #[.pointer (some ⟨g, 0, none⟩), .int .i64 t, .int .i64 l] w fun e w' => (∃ b c, e = .returned (.tuple #[.bool b, .int .i64 c])) ∧ LkGo w0 w' g (n + 1) := by
  obtain ⟨a, s, js, h⟩ := h
  obtain rfl := h.g_
  refine (lkLock_any h.is.is h.all (by omega) t l).mono ?_
  rintro e w' ⟨rfl, a', ha, hl⟩
  have hs := lock_same h.all t l
  exact ⟨⟨_, _, rfl⟩, h.to (congrArg Prod.fst ha) (h.is.step hl ha hs.n) (by omega) (lock_inv h.all t l) (Nat.le_refl _) (lock_j h.all h.j t l) hs⟩
theorem go_try {w0 w : World} {g n : Nat} (h : LkGo w0 w g n) (_hn : n ≤ 1000) (t l : Int) : Calls Tryd.prog 22 #[.pointer (some ⟨g, 0, none⟩), .int .i64 t, .int .i64 l] w fun e w' => (∃ c, e = .returned (.int .i64 c)) ∧ LkGo w0 w' g (n + 1) := by
  obtain ⟨a, s, js, h⟩ := h
  obtain rfl := h.g_
  refine (lkTry_any h.is.is h.all.whole t l).mono ?_
  rintro e w' ⟨rfl, hl⟩
  have hs : Same s (tryS s t l) := by unfold tryS; split <;> exact ⟨rfl, rfl⟩
  exact ⟨⟨_, rfl⟩, h.to rfl (h.is.step hl rfl hs.n) (by omega) (try_inv h.all t l) (by omega) (try_j h.all h.j t l) hs⟩
theorem go_unlock {w0 w : World} {g n : Nat} (h : LkGo w0 w g n) (_hn : n ≤ 1000) (t l : Int) : Calls Tryd.prog 12 #[.pointer (some ⟨g, 0, none⟩), .int .i64 t, .int .i64 l] w fun e w' => (∃ b c, e = .returned (.tuple #[.int .i64 b, .int .i64 c])) ∧ LkGo w0 w' g (n + 1) := by
  obtain ⟨a, s, js, h⟩ := h
  obtain rfl := h.g_
  refine (lkUnlock_any h.is.is h.all.whole t l h.all.places).mono ?_
  rintro e w' ⟨rfl, a', ha, hl⟩
  have hs := unl_same h.all t l
  exact ⟨⟨_, _, rfl⟩, h.to (congrArg Prod.fst ha) (h.is.step hl ha hs.n) (by omega) (unl_inv h.all t l) (by omega) (unl_j h.all h.j t l) hs⟩
theorem go_cancel {w0 w : World} {g n : Nat} (h : LkGo w0 w g n) (_hn : n ≤ 1000) (t : Int) : Calls Tryd.prog 23 #[.pointer (some ⟨g, 0, none⟩), .int .i64 t] w fun e w' => (∃ b, e = .returned (.bool b)) ∧ LkGo w0 w' g (n + 1) := by
  obtain ⟨a, s, js, h⟩ := h
  obtain rfl := h.g_
  refine (lkCancel_any h.is.is h.all t).mono ?_
  rintro e w' ⟨rfl, a', ha, hl⟩
  have hs := cancel_same h.all t
  exact ⟨⟨_, rfl⟩, h.to (congrArg Prod.fst ha) (h.is.step hl ha hs.n) (by omega) (cancel_inv h.all t) (by omega) (cancel_j h.all h.j t) hs⟩
theorem go_setLevel {w0 w : World} {g n : Nat} (h : LkGo w0 w g n) (_hn : n ≤ 1000) (t l : Int) : Calls Tryd.prog 21 #[.pointer (some ⟨g, 0, none⟩), .int .i64 t, .int .i64 l] w fun e w' => (∃ b, e = .returned (.bool b)) ∧ LkGo w0 w' g (n + 1) := by
  obtain ⟨a, s, js, h⟩ := h
  obtain rfl := h.g_
  refine (lkSetLevel_any h.is.is h.all.whole t l).mono ?_
  rintro e w' ⟨rfl, a', ha, hl⟩
  have hs := setLevel_same h.all t l
  exact ⟨⟨_, rfl⟩, h.to (congrArg Prod.fst ha) (h.is.step hl ha hs.n) (by omega) (setLevel_inv h.all t l) (by omega) (setLevel_j h.all h.j t l) hs⟩
theorem go_join {w0 w : World} {g n : Nat} (h : LkGo w0 w g n) (hn : n ≤ 1000) (t u : Int) : Calls Tryd.prog 25 #[.pointer (some ⟨g, 0, none⟩), .int .i64 t, .int .i64 u] w fun e w' => (∃ c, e = .returned (.int .i64 c)) ∧ LkGo w0 w' g (n + 1) := by
  obtain ⟨a, s, js, h⟩ := h
  obtain rfl := h.g_
  have h64 := h.j.len (by have := h.n6; omega)
  refine (lkJoin_any h.is h.all (by omega) (fun x hx => by have := h64 x hx; omega) t u).mono ?_
  rintro e w' ⟨rfl, a', ha, hl⟩
  have hs : Same s (joinS s t u) := by unfold joinS; split <;> exact ⟨rfl, rfl⟩
  exact ⟨⟨_, rfl⟩, h.to ha hl (by omega) (joinS_inv h.all t u) (by omega) (join_j h.all h.j h.is.len t u) hs⟩
theorem go_ended {w0 w : World} {g n : Nat} (h : LkGo w0 w g n) (_hn : n ≤ 1000) (u : Int) : Calls Tryd.prog 26 #[.pointer (some ⟨g, 0, none⟩), .int .i64 u] w fun e w' => (∃ A n c, e = .returned (.slice A n c)) ∧ LkGo w0 w' g (n + 1) := by
  obtain ⟨a, s, js, h⟩ := h
  obtain rfl := h.g_
  have h64 := h.j.len (by have := h.n6; omega)
  refine (lkEnded_any h.is h.all h.j (fun x hx => by have := h64 x hx; omega) u).mono ?_
  rintro e w' ⟨A, n', c, rfl, _, a', ha, hl⟩
  have hs : Same s (endedS s js u) := ⟨rfl, rfl⟩
  exact ⟨⟨_, _, _, rfl⟩, h.to ha hl (by omega) (ended_inv h.all h.j u) (by omega) (ended_j h.all h.j h.is.len u) hs⟩
theorem go_drop {w0 w : World} {g n : Nat} (h : LkGo w0 w g n) (hn : n ≤ 1000) (hD : HasDb w0) (t : Int) : Calls Tryd.prog 24 #[.pointer (some ⟨g, 0, none⟩), .int .i64 t] w fun e w' => (∃ A n c, e = .returned (.slice A n c)) ∧ LkGo w0 w' g (n + 1) := by
  obtain ⟨a, s, js, h⟩ := h
  obtain rfl := h.g_
  have hok := drop_ok h.all h.j h.is.len t
  by_cases ht : 0 ≤ t ∧ t < s.eff.length
  · obtain ⟨k, rfl⟩ : ∃ k : Nat, t = k := ⟨t.toNat, by omega⟩
    refine (lkDrop_good h.is h.all h.j (by omega) (hD.old h.kept) (by simp) hD.lt k (by omega)).mono ?_
    rintro e w' ⟨A, n', c, rfl, _, a', ha, hl⟩
    exact ⟨⟨_, _, _, rfl⟩, h.to ha hl (by omega) hok.1 (by omega) hok.2.1 hok.2.2⟩
  · refine (lkDrop_bad h.is t ht).mono ?_
    rintro e w' ⟨rfl, hl⟩
    exact ⟨⟨_, _, _, rfl⟩, h.to rfl hl (by omega) h.all (by omega) h.j (Same.refl s)⟩

set_option maxHeartbeats 6400000 in
set_option maxRecDepth 100000 in
theorem plays_any {w0 w : World} {g n : Nat} (h : LkGo w0 w g n) (hn : n ≤ 1000) (hD : HasDb w0) (kd : Nat) (hk : kd < 256) (A B : Int) :
    Calls Tryd.prog 9 #[.pointer (some ⟨g, 0, none⟩), .agg #[.int .u8 kd, .int .i64 A, .int .i64 B]] w fun e w' => e = .returned (.tuple #[]) ∧ LkGo w0 w' g (n + 1) := by
  have hb := h.old ((Kept.refl [] w).alloc (.cells #[.int .u8 kd, .int .i64 A, .int .i64 B] 26))
  obtain ⟨r, hr, hlt⟩ : ∃ r : Nat, (kd : Int) % 11 = r ∧ r < 11 := ⟨kd % 11, by omega, by omega⟩
  have h0 : (0 : Int) ≤ (kd : Int) := by omega
  have h1 : (kd : Int) < 256 := by omega
  rcases (by omega : r = 3 ∨ r = 4 ∨ r = 5 ∨ r = 6 ∨ r = 7 ∨ r = 8 ∨ r = 9 ∨ r = 10 ∨ r = 0 ∨ r = 1 ∨ r = 2) with rfl | rfl | rfl | rfl | rfl | rfl | rfl | rfl | rfl | rfl | rfl
  · have HC := Lib.hid (go_try hb hn A B)
    clear h hb hlt hD
    go_enter Tryd.func9, Tryd.ntmps9
    go_wp2_with fail
    refine (HC.out).mono ?_
    rintro e w1 ⟨⟨c, rfl⟩, hg⟩
    have HG := Lib.hid hg
    clear hg
    go_wp2_with fail
    go_end0
    exact ⟨rfl, HG.out⟩
  · have HC := Lib.hid (go_unlock hb hn A B)
    clear h hb hlt hD
    go_enter Tryd.func9, Tryd.ntmps9
    go_wp2_with fail
    refine (HC.out).mono ?_
    rintro e w1 ⟨⟨b, c, rfl⟩, hg⟩
    have HG := Lib.hid hg
    clear hg
    go_wp2_with fail
    go_end0
    exact ⟨rfl, HG.out⟩
  · have HC := Lib.hid (go_unlock hb hn A B)
    clear h hb hlt hD
    go_enter Tryd.func9, Tryd.ntmps9
    go_wp2_with fail
    refine (HC.out).mono ?_
    rintro e w1 ⟨⟨b, c, rfl⟩, hg⟩
    have HG := Lib.hid hg
    clear hg
    go_wp2_with fail
    go_end0
    exact ⟨rfl, HG.out⟩
  · have HC := Lib.hid (go_cancel hb hn A)
    clear h hb hlt hD
    go_enter Tryd.func9, Tryd.ntmps9
    go_wp2_with fail
    refine (HC.out).mono ?_
    rintro e w1 ⟨⟨b, rfl⟩, hg⟩
    have HG := Lib.hid hg
    clear hg
    go_wp2_with fail
    go_end0
    exact ⟨rfl, HG.out⟩
  · have HC := Lib.hid (go_drop hb hn hD A)
    clear h hb hlt hD
    go_enter Tryd.func9, Tryd.ntmps9
    go_wp2_with fail
    refine (HC.out).mono ?_
    rintro e w1 ⟨⟨A1, n1, c1, rfl⟩, hg⟩
    have HG := Lib.hid hg
    clear hg
    go_wp2_with fail
    go_end0
    exact ⟨rfl, HG.out⟩
  · have HC := Lib.hid (go_join hb hn A B)
    clear h hb hlt hD
    go_enter Tryd.func9, Tryd.ntmps9
    go_wp2_with fail
    refine (HC.out).mono ?_
    rintro e w1 ⟨⟨c, rfl⟩, hg⟩
    have HG := Lib.hid hg
    clear hg
    go_wp2_with fail
    go_end0
    exact ⟨rfl, HG.out⟩
  · have HC := Lib.hid (go_ended hb hn A)
    clear h hb hlt hD
    go_enter Tryd.func9, Tryd.ntmps9
    go_wp2_with fail
    refine (HC.out).mono ?_
    rintro e w1 ⟨⟨A1, n1, c1, rfl⟩, hg⟩
    have HG := Lib.hid hg
    clear hg
    go_wp2_with fail
    go_end0
    exact ⟨rfl, HG.out⟩
  · have HC := Lib.hid (go_setLevel hb hn A B)
    clear h hb hlt hD
    go_enter Tryd.func9, Tryd.ntmps9
    go_wp2_with fail
    refine (HC.out).mono ?_
    rintro e w1 ⟨⟨b, rfl⟩, hg⟩
    have HG := Lib.hid hg
    clear hg
    go_wp2_with fail
    go_end0
    exact ⟨rfl, HG.out⟩
  · have HC := Lib.hid (go_lock hb hn A B)
    clear h hb hlt hD
    go_enter Tryd.func9, Tryd.ntmps9
    go_wp2_with fail
    refine (HC.out).mono ?_
    rintro e w1 ⟨⟨b, c, rfl⟩, hg⟩
    have HG := Lib.hid hg
    clear hg
    go_wp2_with fail
    go_end0
    exact ⟨rfl, HG.out⟩
  · have HC := Lib.hid (go_lock hb hn A B)
    clear h hb hlt hD
    go_enter Tryd.func9, Tryd.ntmps9
    go_wp2_with fail
    refine (HC.out).mono ?_
    rintro e w1 ⟨⟨b, c, rfl⟩, hg⟩
    have HG := Lib.hid hg
    clear hg
    go_wp2_with fail
    go_end0
    exact ⟨rfl, HG.out⟩
  · have HC := Lib.hid (go_lock hb hn A B)
    clear h hb hlt hD
    go_enter Tryd.func9, Tryd.ntmps9
    go_wp2_with fail
    refine (HC.out).mono ?_
    rintro e w1 ⟨⟨b, c, rfl⟩, hg⟩
    have HG := Lib.hid hg
    clear hg
    go_wp2_with fail
    go_end0
    exact ⟨rfl, HG.out⟩

end Go.Proofs.YtfoeijiejpenpaaDoor
