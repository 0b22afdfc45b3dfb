/- Law 36: in, and the function that tells whether a word may be had; Package rack: minding, asking; Package rack: asking. -/
import Derived.Test.YtahpjoknmclbfaaDoorStG
import Derived.LoopN
import Derived.Deep.RegionHeld3

/- Law 36: in, and the function that tells whether a word may be had. -/
namespace Go.Proofs.YtahpjoknmclbfaaDoor
open Go.RowKit

set_option maxHeartbeats 1600000 in
theorem in36_any (A : Option Addr) (n c : Nat) (l : List Nat) (x : Nat) (w : World) (hr : Reads w 1 A n (l.map U64)) : Calls Tryd.prog 20 #[.slice A n c, U64 x] w fun e w' => (∃ b, e = .returned (.bool b)) ∧ w = w' := by
  have HR := Lib.hid hr
  have hn0 : (0 : Int) ≤ (n : Int) := by omega
  clear hr
  go_enter Tryd.func20, Tryd.ntmps20
  go_wp2_with fail
  go_loopw [5] (fun iv wr => ∃ i : Nat, i ≤ n ∧ i ≤ 20 ∧ iv = .int .i64 i ∧ wr = w) (fun i _ => n - (intOf i).toNat)
  case atStart => exact ⟨0, by omega, by omega, rfl, rfl⟩
  case round =>
    obtain ⟨i, hi1, hi2, rfl, rfl⟩ := hrel
    by_cases hgo : i < n ∧ i < 20
    · obtain ⟨hg1, hg2⟩ := hgo
      obtain ⟨ad, u, rfl, hu, hc⟩ := HR.out.at_ hg1
      obtain ⟨y, hy, rfl⟩ : ∃ y, l[i]? = some y ∧ u = U64 y := by
        rw [List.getElem?_map] at hu
        obtain ⟨y, h1, h2⟩ := Option.map_eq_some_iff.1 hu
        exact ⟨y, h1, h2.symm⟩
      have hj0 : (0 : Int) ≤ (i : Int) := by omega
      have hj1 : (i : Int) < (n : Int) := by omega
      have hj2 : (i : Int) < 20 := by omega
      by_cases hxy : (y : Int) = x
      · clear hu hy
        go_wp2_with fail
        go_ret
        exact ⟨⟨_, rfl⟩, rfl⟩
      · clear hu hy
        go_wp2_with fail
        go_roundw
        case rel => exact ⟨i + 1, by omega, by omega, by go_num, by first | rfl | trivial⟩
        case measure => simp [intOf]; omega
    · rcases (by omega : i = n ∨ (i < n ∧ i = 20)) with h1 | ⟨h1, h2⟩
      · subst h1
        clear hgo
        go_wp2_with fail
        go_ret
        exact ⟨⟨_, rfl⟩, rfl⟩
      · subst h2
        have hj1 : ((20 : Nat) : Int) < (n : Int) := by omega
        have hj2 : (20 : Int) < (n : Int) := by omega
        clear hgo
        go_wp2_with fail
        go_ret
        exact ⟨⟨_, rfl⟩, rfl⟩
/-- A function of the law's, that tells whether a word may be had. -/
def GoodAt (N0 : Nat) (w : World) (gv : Value) : Prop := ∃ gb A n c, ∃ l : List Nat, gv = .func (.func 19) #[] #[.pointer (some ⟨gb, 0, none⟩)] ∧ Blk w gb 31 #[.slice A n c] ∧ Reads w 1 A n (l.map U64) ∧ (0 < n → ∀ ad, A = some ad → ad.block < N0)
theorem Reads.kept0 {w w' : World} {G : List Nat} {A : Option Addr} {n N0 : Nat} {l : List Nat} (h : Reads w 1 A n (l.map U64)) (hk : Kept G w w') (hA : 0 < n → ∀ ad, A = some ad → ad.block < N0) (hG : ∀ g, g ∈ G → N0 ≤ g) : Reads w' 1 A n (l.map U64) := by
  rcases Nat.eq_zero_or_pos n with h0 | h0
  · subst h0
    have hl : l = [] := by have := h.1; simpa using this
    subst hl
    exact Reads.none_
  · exact h.kept hk (fun ad e hm => by
      have := hA h0 ad e
      have := hG _ hm
      omega)
theorem GoodAt.kept {N0 : Nat} {w w' : World} {gv : Value} {G : List Nat} (h : GoodAt N0 w gv) (hk : Kept G w w') (hG : ∀ g, g ∈ G → N0 ≤ g ∧ ∃ t cs, Blk w g t cs ∧ t ≠ 31) : GoodAt N0 w' gv := by
  obtain ⟨gb, A, n, c, l, rfl, h1, h2, h3⟩ := h
  refine ⟨gb, A, n, c, l, rfl, h1.kept hk (fun hm => ?_), h2.kept0 hk h3 (fun g hg => (hG g hg).1), h3⟩
  obtain ⟨_, t, cs, hb, ht⟩ := hG gb hm
  exact hb.ne h1 ht rfl
theorem GoodAt.old {N0 : Nat} {w w' : World} {gv : Value} (h : GoodAt N0 w gv) (hk : Kept [] w w') : GoodAt N0 w' gv := h.kept hk (by simp)
set_option maxHeartbeats 1600000 in
theorem good36_any (gb n c x : Nat) (A : Option Addr) (l : List Nat) (w : World) (hb : Blk w gb 31 #[.slice A n c]) (hr : Reads w 1 A n (l.map U64)) : Calls Tryd.prog 19 #[U64 x, .pointer (some ⟨gb, 0, none⟩)] w fun e w' => (∃ b, e = .returned (.bool b)) ∧ w = w' := by
  have HI := Lib.hid (in36_any A n c l x w hr)
  have c0 := hb.cell 0
  simp at c0
  clear hr hb
  go_enter Tryd.func19, Tryd.ntmps19
  go_wp2_with fail
  refine HI.out.mono ?_
  rintro e w' ⟨⟨b, rfl⟩, rfl⟩
  go_wp2_with fail
  go_ret
  exact ⟨⟨_, rfl⟩, rfl⟩
end Go.Proofs.YtahpjoknmclbfaaDoor

/- Package rack: minding, asking. -/
namespace Go.Proofs.YtahpjoknmclbfaaDoor
open Go.RowKit

section
variable {w : World} {mb wb ob rb kb : Nat} {xs : List Nat} {o : OpS} {W : WorkS} {cap s0 s1 turn : Nat}
inductive MindPost (w' : World) (rb kb : Nat) (W : WorkS) : Prop
  | yes (h : Blk w' kb 57 (workC rb { W with next := 50 })) : MindPost w' rb kb W
  | no (h : Blk w' kb 57 (workC rb { W with next := 50, done := true, err := 10 })) : MindPost w' rb kb W
set_option maxHeartbeats 3200000 in
theorem kMinding_any {base oc k b t x err : Nat} {won dn : Bool} (H : Blk w kb 57 (workC rb W)) (hop : W.op = .pointer (some ⟨ob, 0, none⟩)) (M : MOp w mb wb ob xs ⟨base, oc, 2, k, b, t, x, won, dn, err⟩) {N0 : Nat} (hg : GoodAt N0 w W.good) (hN : N0 ≤ kb) : Calls Tryd.prog 66 #[.pointer (some ⟨kb, 0, none⟩), .pointer (some ⟨mb, 0, none⟩)] w fun r w' =>
    r = .returned (.tuple #[]) ∧ MindPost w' rb kb W ∧ Kept [kb] w w' := by
  have k1 : kb ≠ mb := by obtain ⟨u, h⟩ := M.mem; exact H.ne h (by decide)
  have k2 : kb ≠ wb := H.ne M.words (by decide)
  have k3 : kb ≠ ob := H.ne M.op (by decide)
  have c1 := H.cell 1
  have f1 := H.frozen 1
  simp [workC] at c1
  have H1 : Blk (w.setCell ⟨kb, 1, none⟩ (.func (.func 50) #[] #[])) kb 57 (workC rb { W with next := 50 }) := H.set 1 _
  have hk1 : Kept [kb] w (w.setCell ⟨kb, 1, none⟩ (.func (.func 50) #[] #[])) := (Kept.refl _ _).setCell (.inl (by simp)) _
  have HH1 := Lib.hid H1
  obtain ⟨gb, A, n, c, l, hgv, hb, hr, hA⟩ := hg
  have kg : gb ≠ kb := fun e => by subst e; exact H.ne hb (by decide) rfl
  obtain ⟨y, hs⟩ := qSeen_any (M.beside hk1 k1 k2 k3)
  have HSe := Lib.hid hs
  have HGo : Hid (∀ (W2 : World) (z : Nat), Kept [] (w.setCell ⟨kb, 1, none⟩ (.func (.func 50) #[] #[])) W2 → Calls Tryd.prog 19 #[U64 z, .pointer (some ⟨gb, 0, none⟩)] W2 fun e w' => (∃ b, e = .returned (.bool b)) ∧ W2 = w') := fun W2 z hk =>
    good36_any gb n c z A l W2 ((hb.kept hk1 (by simp [kg])).kept hk (by simp)) ((hr.kept0 hk1 hA (fun q hq => by simp only [List.mem_singleton] at hq; omega)).kept hk (by simp))
  have HK1 := Lib.hid hk1
  have c6 := H1.cell 6
  have c2 := H1.cell 2
  simp [workC] at c6 c2
  rw [hop] at c6
  rw [hgv] at c2
  clear H M H1 hk1 hs hb hr hop hgv hA hN
  go_enter Tryd.func66, Tryd.ntmps66
  go_wp2_with fail
  refine HSe.out.mono ?_
  rintro e w2 ⟨rfl, hk2⟩
  have H2 := HH1.out.kept hk2 (by simp)
  have HGo2 := Lib.hid (fun z => HGo.out w2 z hk2)
  have HK2 := Lib.hid (HK1.out.trans (hk2.mono (G' := [kb]) (by simp)))
  have c2 := hk2.cell_some c2 (by simp)
  have HE := Lib.hid (kWend_any H2 10)
  have HH2 := Lib.hid H2
  clear hk2 H2
  go_wp2_with fail
  refine (HGo2.out _).mono ?_
  rintro e w3 ⟨⟨bb, rfl⟩, rfl⟩
  cases bb with
  | true =>
    go_wp2_with fail
    first | go_end0 | refine bodyPost_ret (results_none rfl _ _ _) rfl ?_
    exact ⟨rfl, .yes HH2.out, HK2.out⟩
  | false =>
    go_wp2_with fail
    refine HE.out.mono ?_
    rintro e w4 ⟨rfl, H4, hk4⟩
    have HH4 := Lib.hid H4
    have HK4 := Lib.hid (HK2.out.trans hk4)
    clear H4 hk4
    go_wp2_with fail
    first | go_end0 | refine bodyPost_ret (results_none rfl _ _ _) rfl ?_
    exact ⟨rfl, .no HH4.out, HK4.out⟩
end
end Go.Proofs.YtahpjoknmclbfaaDoor

/- Package rack: asking. -/
namespace Go.Proofs.YtahpjoknmclbfaaDoor
open Go.RowKit

inductive AskPost (w w' : World) (rb kb cap : Nat) (W : WorkS) : Prop
  | yes (og : Nat) (g : w.heap.size ≤ og) (m : Blk w' og 88 (opC ⟨atJ cap (W.kind * 8 + W.level), cap, 0, 0, 0, 0, W.swept, false, false, 0⟩)) (h : Blk w' kb 57 (workC rb { W with op := .pointer (some ⟨og, 0, none⟩), next := 91 })) : AskPost w w' rb kb cap W
  | no (og : Nat) (g : w.heap.size ≤ og) (m : Blk w' og 88 (opC ⟨atJ cap (W.kind * 8 + W.level), cap, 2, 0, 0, 0, 0, false, false, 0⟩)) (h : Blk w' kb 57 (workC rb { W with holds := false, op := .pointer (some ⟨og, 0, none⟩), next := 55 })) : AskPost w w' rb kb cap W
section
variable {w : World} {mb wb ob rb kb : Nat} {xs : List Nat} {o : OpS} {W : WorkS} {cap s0 s1 turn : Nat}
set_option maxHeartbeats 6400000 in
theorem kAsking_any (H : Blk w kb 57 (workC rb W)) (R : Blk w rb 50 (rackC cap s0 s1 turn)) (hW : W.kind < 2 ∧ W.level < 8) {N0 : Nat} (hg : GoodAt N0 w W.good) : Calls Tryd.prog 73 #[.pointer (some ⟨kb, 0, none⟩), .pointer (some ⟨mb, 0, none⟩)] w fun r w' =>
    r = .returned (.tuple #[]) ∧ AskPost w w' rb kb cap W ∧ Kept [kb] w w' := by
  have kr : kb ≠ rb := H.ne R (by decide)
  obtain ⟨gb, A, n, c, l, hgv, hb, hr, hA⟩ := hg
  have HGo : Hid (∀ (W2 : World) (z : Nat), Kept [] w W2 → Calls Tryd.prog 19 #[U64 z, .pointer (some ⟨gb, 0, none⟩)] W2 fun e w' => (∃ b, e = .returned (.bool b)) ∧ W2 = w') := fun W2 z hk => good36_any gb n c z A l W2 (hb.kept hk (by simp)) (hr.old hk)
  have HDq : Hid (∀ (W1 : WorkS) (W2 : World), W1.kind = W.kind ∧ W1.level = W.level → Blk W2 kb 57 (workC rb W1) → Blk W2 rb 50 (rackC cap s0 s1 turn) → Calls Tryd.prog 36 #[.pointer (some ⟨kb, 0, none⟩)] W2 fun e w' => e = .returned (.agg #[.int .i64 (atJ cap (W.kind * 8 + W.level)), .int .i64 cap]) ∧ Kept [] W2 w') := fun W1 W2 h1 h2 h3 => by
    have := kWdeque_any h2 h3 (by rw [h1.1]; exact hW.1) (by rw [h1.2]; exact hW.2)
    rw [h1.1, h1.2] at this
    exact this
  have HH := Lib.hid H
  have HR := Lib.hid R
  have c2 := H.cell 2
  have c8 := H.cell 8
  simp [workC] at c2 c8
  rw [hgv] at c2
  clear H R hb hr hgv hA hW
  go_enter Tryd.func73, Tryd.ntmps73
  go_wp2_with fail
  go_region_held3 (fun w' => w'.cell? ⟨kb, 2, none⟩ = some (.func (.func 19) #[] #[.pointer (some ⟨gb, 0, none⟩)]) ∧ w'.cell? ⟨kb, 8, none⟩ = some (U64 W.swept)) (first | go_keep) (first | (go_at_call 19; refine (HGo.out _ _ ((Kept.refl [] w).drew)).mono ?_; rintro e w1 ⟨⟨bb, rfl⟩, rfl⟩))
  all_goals
    have HK1 := Lib.hid ((Kept.refl [kb] w).drew)
    cases bb with
    | true =>
      have HDq2 := Lib.hid (fun (W2 : World) (hk : Kept [] w W2) => HDq.out W W2 ⟨rfl, rfl⟩ (HH.out.kept hk (by simp)) (HR.out.kept hk (by simp)))
      clear HDq HGo
      go_wp2_with fail
      go_region_with (first
        | (go_at_call 36; refine (HDq2.out _ ((Kept.refl [] w).drew.drew)).mono ?_; rintro e w3 ⟨rfl, hk3⟩; have c8 := hk3.cell_some c8 (by simp); have HSt := Lib.hid (qPush_any (atJ cap (W.kind * 8 + W.level)) cap W.swept w3); have HK3 := Lib.hid (((Kept.refl [] w).drew.drew).trans hk3); have hs3 := hk3.size; clear hk3)
        | (go_at_call 37; refine HSt.out.mono ?_; rintro e w4 ⟨⟨g, hg, rfl, N4⟩, hk4⟩; have H4 := HH.out.kept (HK3.out.trans hk4) (by simp); have HK4 := Lib.hid (HK3.out.trans hk4); have c1 := H4.cell 1; have f1 := H4.frozen 1; have c6 := H4.cell 6; have f6 := H4.frozen 6; simp [workC] at c1 c6; have HH4 := Lib.hid H4; have HN4 := Lib.hid N4; clear H4 N4 hk4))
      all_goals
        have hge := HH4.out.ne HN4.out (by decide)
        have HH5 := Lib.hid (newOp_of (og := g) HH4.out 91)
        have HN5 := Lib.hid ((HN4.out.far (Ne.symm hge) (p := ⟨kb, 6, none⟩) (.pointer (some ⟨g, 0, none⟩))).far (Ne.symm hge) (p := ⟨kb, 1, none⟩) (.func (.func 91) #[] #[]))
        have HK5 := Lib.hid (((HK4.out.mono (G' := [kb]) (by simp)).setCell (p := ⟨kb, 6, none⟩) (.inl (by simp)) (.pointer (some ⟨g, 0, none⟩))).setCell (p := ⟨kb, 1, none⟩) (.inl (by simp)) (.func (.func 91) #[] #[]))
        have hgw : w.heap.size ≤ g := by have := HK3.out.size; omega
        go_wp2_with fail
        first | go_end0 | refine bodyPost_ret (results_none rfl _ _ _) rfl ?_
        exact ⟨rfl, .yes g hgw HN5.out HH5.out, HK5.out⟩
    | false =>
      have c10 := HH.out.cell 10
      have f10 := HH.out.frozen 10
      simp [workC] at c10
      have H2 : Blk (w.drew.setCell ⟨kb, 10, none⟩ (.bool false)) kb 57 (workC rb { W with holds := false }) := Blk.set (w := w.drew) HH.out 10 _
      have hk2 : Kept [kb] w (w.drew.setCell ⟨kb, 10, none⟩ (.bool false)) := HK1.out.setCell (.inl (by simp)) _
      have HDq2 := Lib.hid (HDq.out { W with holds := false } _ ⟨rfl, rfl⟩ H2 (HR.out.kept hk2 (by simp [Ne.symm kr])))
      have HH2 := Lib.hid H2
      have HK2 := Lib.hid hk2
      have hs2 := hk2.size
      clear HDq HGo H2 hk2
      go_wp2_with fail
      refine HDq2.out.mono ?_
      rintro e w3 ⟨rfl, hk3⟩
      have HSt := Lib.hid (qSteal_any (atJ cap (W.kind * 8 + W.level)) cap w3)
      have HH3 := Lib.hid (HH2.out.kept hk3 (by simp))
      have HK3 := Lib.hid (HK2.out.trans (hk3.mono (G' := [kb]) (by simp)))
      have hs3 := hk3.size
      clear hk3
      go_wp2_with fail
      refine HSt.out.mono ?_
      rintro e w4 ⟨⟨g, hg, rfl, N4⟩, hk4⟩
      have H4 := HH3.out.kept hk4 (by simp)
      have HK4 := Lib.hid (HK3.out.trans (hk4.mono (G' := [kb]) (by simp)))
      have c1 := H4.cell 1
      have f1 := H4.frozen 1
      have c6 := H4.cell 6
      have f6 := H4.frozen 6
      simp [workC] at c1 c6
      have hge := H4.ne N4 (by decide)
      have HH5 := Lib.hid (newOp_of (og := g) H4 55)
      have HN5 := Lib.hid ((N4.far (Ne.symm hge) (p := ⟨kb, 6, none⟩) (.pointer (some ⟨g, 0, none⟩))).far (Ne.symm hge) (p := ⟨kb, 1, none⟩) (.func (.func 55) #[] #[]))
      have HK5 := Lib.hid ((HK4.out.setCell (p := ⟨kb, 6, none⟩) (.inl (by simp)) (.pointer (some ⟨g, 0, none⟩))).setCell (p := ⟨kb, 1, none⟩) (.inl (by simp)) (.func (.func 55) #[] #[]))
      have hgw : w.heap.size ≤ g := by have := HK3.out.size; omega
      clear H4 N4 hk4 hs2 hs3 hg
      go_wp2_with fail
      first | go_end0 | refine bodyPost_ret (results_none rfl _ _ _) rfl ?_
      exact ⟨rfl, .no g hgw HN5.out HH5.out, HK5.out⟩
end
end Go.Proofs.YtahpjoknmclbfaaDoor

