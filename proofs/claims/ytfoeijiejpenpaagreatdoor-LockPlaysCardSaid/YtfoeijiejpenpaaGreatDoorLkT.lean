/- Package lock: own and wait, walked. -/
import Derived.Test.YtfoeijiejpenpaaGreatDoorLkS
namespace Go.Proofs.YtfoeijiejpenpaaGreatDoor
open Go.RowKit

/-- Locks stand: their pieces hold, all made after w0, behind which nothing elder has turned. -/
structure LkIs (w0 : Base) (w : World) (a : LkA) (s : Lk) : Prop where
  at_ : LkAt w a s
  new : NewerB w0 (lkP a s)
  kept : Kept w0.F w0.w w
theorem LkIs.old {w0 : Base} {w w' : World} {a : LkA} {s : Lk} (h : LkIs w0 w a s) (hk : Kept [] w w') : LkIs w0 w' a s := ⟨h.at_.old hk, h.new, h.kept.trans (hk.mono (by simp))⟩
/-- One piece turns. -/
theorem LkIs.turn {w0 : Base} {w w' : World} {a : LkA} {s : Lk} (h : LkIs w0 w a s) {i : Nat} {p p' : Piece} (hp : (lkP a s)[i]? = some p) (hk : Kept p.fp w w') (hp' : p'.holds w') (hf : ∀ k, k ∈ p'.fp → k ∈ p.fp ∨ w.heap.size ≤ k) :
    Holds w' ((lkP a s).set i p') ∧ NewerB w0 ((lkP a s).set i p') ∧ Kept w0.F w0.w w' :=
  ⟨h.at_.2.turn hp hk hp' hf, h.new.turn hp h.kept.size hf, h.new.kept hp h.kept hk⟩
theorem own_at0 {w : World} {b s n c : Nat} {e : TypeId} {A : Option Addr} {xs : List Value} (h : w.ownsRow b e s (.slice A n c) n xs) (hn : 0 < n) : ∃ g, A = some ⟨g, 0, none⟩ := by
  rcases h.2 with ⟨_, h0⟩ | ⟨g, cap, cur, e, _⟩
  · omega
  · injection e with e1 e2 e3; exact ⟨g, e1⟩

set_option maxHeartbeats 3200000 in
theorem lkown_any {w0 : Base} {w : World} {a : LkA} {s : Lk} {K : Nat} (h : LkIs w0 w a s) (hw : s.Whole K) (k : Nat) (hk : k < s.lines.length) (t : Int) (ht : t = -1 ∨ (0 ≤ t ∧ t < s.eff.length)) :
    Calls Tryz.prog 45 #[.pointer (some ⟨a.g, 0, none⟩), .int .i64 k, .int .i64 t] w fun e w' => e = .returned (.tuple #[]) ∧ LkIs w0 w' a { s with owner := s.owner.set k t } := by
  have hr2 : w.ownsRow 0 3 1 (.slice a.Ao s.lines.length a.co) s.lines.length (s.owner.map I64) := h.at_.2.get (i := 2) rfl
  have hr6 : w.ownsRow 0 3 1 (.slice a.AO s.lines.length a.cO) s.lines.length (s.owner.map I64) := h.at_.2.get (i := 6) rfl
  obtain ⟨bo, hbo⟩ := own_at0 hr2 (by omega)
  obtain ⟨bO, hbO⟩ := own_at0 hr6 (by omega)
  obtain ⟨ag, agw, aAo, aco, aAw, acw, aAL, acL, aAV, acV, aAW, acW, aAO, acO, aAE, acE, aJ, agls, aex⟩ := a
  simp only at hr2 hr6 hbo hbO
  subst hbo hbO
  have hko : k < s.owner.length := by rw [hw.owner]; exact hk
  have HC := Lib.hid (wbOwn_ok (h.at_.web hw) hr2.frozenAt k hko t (by rw [hw.waits]; exact ht))
  have hc0 : w.cell? ⟨ag, 0, none⟩ = some (.pointer (some ⟨agw, 0, none⟩)) := h.at_.blk.cell 0
  have hl := h.at_.blk.lt
  have hset : Kept [bo] w (w.setCell ⟨bo, k, none⟩ (.int .i64 t)) := (Kept.refl [bo] w).setCell (.inl (by simp)) _
  have h1 := h.turn (i := 2) rfl hset (p' := .row 3 1 (.slice (some ⟨bo, 0, none⟩) s.lines.length aco) s.lines.length ((s.owner.map I64).set k (.int .i64 t))) (hr2.stored k (.int .i64 t)).1 (fun q hq => .inl hq)
  have hb1 : Blk (w.setCell ⟨bo, k, none⟩ (.int .i64 t)) ag 47 _ := h1.1.get (i := 0) rfl
  have hr6b : (w.setCell ⟨bo, k, none⟩ (.int .i64 t)).ownsRow 0 3 1 (.slice (some ⟨bO, 0, none⟩) s.lines.length acO) s.lines.length (s.owner.map I64) := h1.1.get (i := 6) rfl
  have HH : Hid (LkIs w0 ((w.setCell ⟨bo, k, none⟩ (.int .i64 t)).setCell ⟨bO, k, none⟩ (.int .i64 t)) ⟨ag, agw, some ⟨bo, 0, none⟩, aco, aAw, acw, aAL, acL, aAV, acV, aAW, acW, some ⟨bO, 0, none⟩, acO, aAE, acE, aJ, agls, aex⟩ { s with owner := s.owner.set k t }) := by
    have hset2 : Kept [bO] (w.setCell ⟨bo, k, none⟩ (.int .i64 t)) ((w.setCell ⟨bo, k, none⟩ (.int .i64 t)).setCell ⟨bO, k, none⟩ (.int .i64 t)) := (Kept.refl [bO] _).setCell (.inl (by simp)) _
    have h2 := h1.1.turn (i := 6) rfl hset2 (p' := .row 3 1 (.slice (some ⟨bO, 0, none⟩) s.lines.length acO) s.lines.length ((s.owner.map I64).set k (.int .i64 t))) (hr6b.stored k (.int .i64 t)).1 (fun q hq => .inl hq)
    have h3 := h1.2.1.turn (i := 6) rfl (h1.2.2).size (p' := .row 3 1 (.slice (some ⟨bO, 0, none⟩) s.lines.length acO) s.lines.length ((s.owner.map I64).set k (.int .i64 t))) (fun q hq => .inl hq)
    have h4 := h1.2.1.kept (i := 6) rfl h1.2.2 hset2
    have he : (s.owner.map I64).set k (.int .i64 t) = (s.owner.set k t).map I64 := by rw [List.map_set]; rfl
    rw [he] at h2 h3
    exact ⟨⟨h.at_.1, h2⟩, h3, h4⟩
  have hcO : (w.setCell ⟨bo, k, none⟩ (.int .i64 t)).cell? ⟨ag, 4, none⟩ = some (.slice (some ⟨bO, 0, none⟩) s.lines.length acO) := hb1.cell 4
  have hlO := hb1.lt
  have hck : (w.setCell ⟨bo, k, none⟩ (.int .i64 t)).cell? ⟨bO, k, none⟩ = some (.int .i64 s.owner[k]) := by
    rw [hr6b.cellAt k (by omega), List.getElem?_map, List.getElem?_eq_getElem hko]; rfl
  have hfk : (w.setCell ⟨bo, k, none⟩ (.int .i64 t)).frozen? ⟨bO, k, none⟩ = false := hr6b.frozenAt k
  have hi0 : (0 : Int) ≤ (k : Int) := by omega
  have hi1 : (k : Int) < (s.lines.length : Int) := by omega
  clear h h1 hb1 hr6b hr2 hr6 hset hw
  dsimp only
  generalize s.owner[k] = x at *
  go_enter Tryz.func45, Tryz.ntmps45
  go_wp2_with fail
  refine (HC.out).mono ?_
  rintro e w1 ⟨rfl, rfl⟩
  generalize w.setCell ⟨bo, k, none⟩ (.int .i64 t) = w1 at *
  go_wp2_with fail
  go_end0
  exact ⟨rfl, HH.out⟩

set_option maxHeartbeats 1600000 in
theorem wbClear_ok {w : World} {gw bw : Nat} {Ao : Option Addr} {co cw : Nat} {owner : List Int} {waits : List (Int × Int)} (h : WebR w gw Ao co (some ⟨bw, 0, none⟩) cw owner waits) (hf : ∀ k, w.frozen? ⟨bw, k, none⟩ = false) (hne : gw ≠ bw) (k : Nat) (hk : k < waits.length) :
    Calls Tryz.prog 64 #[.pointer (some ⟨gw, 0, none⟩), .int .i64 k] w fun e w' => e = .returned (.bool true) ∧ ∃ W, Kept [] w W ∧ Kept [] ((W.setCell ⟨bw, k * 2, none⟩ (.int .i64 (-1))).setCell ⟨bw, k * 2 + 1, none⟩ (.int .i64 (-1))) w' := by
  have HC := Lib.hid (wbwait_ok h hf hne k hk (-1) (-1))
  clear h hf hne
  go_enter Tryz.func64, Tryz.ntmps64
  go_wp2_with fail
  refine (HC.out).mono ?_
  rintro e w1 ⟨rfl, hx⟩
  have HX := Lib.hid hx
  clear hx
  go_wp2_with fail
  go_ret
  exact ⟨rfl, HX.out⟩
set_option maxHeartbeats 1600000 in
theorem wbLock_ok {w : World} {gw bw : Nat} {Ao : Option Addr} {co cw : Nat} {owner : List Int} {waits : List (Int × Int)} (h : WebR w gw Ao co (some ⟨bw, 0, none⟩) cw owner waits) (hf : ∀ k, w.frozen? ⟨bw, k, none⟩ = false) (hne : gw ≠ bw) (k : Nat) (hk : k < waits.length) (l : Int) (hl : 0 ≤ l ∧ l < owner.length) :
    Calls Tryz.prog 80 #[.pointer (some ⟨gw, 0, none⟩), .int .i64 k, .int .i64 l] w fun e w' => e = .returned (.bool true) ∧ ∃ W, Kept [] w W ∧ Kept [] ((W.setCell ⟨bw, k * 2, none⟩ (.int .i64 (l))).setCell ⟨bw, k * 2 + 1, none⟩ (.int .i64 (-1))) w' := by
  have HC := Lib.hid (wbwait_ok h hf hne k hk (l) (-1))
  have HL := Lib.hid (wblock_any h l)
  have hd : decide (0 ≤ l ∧ l < (owner.length : Int)) = true := by simp; omega
  rw [hd] at HL
  clear hd
  clear h hf hne
  go_enter Tryz.func80, Tryz.ntmps80
  go_wp2_with fail
  refine (HL.out).mono ?_
  rintro e w1 ⟨rfl, rfl⟩
  go_wp2_with fail
  refine (HC.out).mono ?_
  rintro e w1 ⟨rfl, hx⟩
  have HX := Lib.hid hx
  clear hx
  go_wp2_with fail
  go_ret
  exact ⟨rfl, HX.out⟩
set_option maxHeartbeats 1600000 in
theorem wbJoin_ok {w : World} {gw bw : Nat} {Ao : Option Addr} {co cw : Nat} {owner : List Int} {waits : List (Int × Int)} (h : WebR w gw Ao co (some ⟨bw, 0, none⟩) cw owner waits) (hf : ∀ k, w.frozen? ⟨bw, k, none⟩ = false) (hne : gw ≠ bw) (k : Nat) (hk : k < waits.length) (u : Int) (hu : 0 ≤ u ∧ u < waits.length) :
    Calls Tryz.prog 61 #[.pointer (some ⟨gw, 0, none⟩), .int .i64 k, .int .i64 u] w fun e w' => e = .returned (.bool true) ∧ ∃ W, Kept [] w W ∧ Kept [] ((W.setCell ⟨bw, k * 2, none⟩ (.int .i64 (-1))).setCell ⟨bw, k * 2 + 1, none⟩ (.int .i64 (u))) w' := by
  have HC := Lib.hid (wbwait_ok h hf hne k hk (-1) (u))
  have HL := Lib.hid (wbthread_any h u)
  have hd : decide (0 ≤ u ∧ u < (waits.length : Int)) = true := by simp; omega
  rw [hd] at HL
  clear hd
  clear h hf hne
  go_enter Tryz.func61, Tryz.ntmps61
  go_wp2_with fail
  refine (HL.out).mono ?_
  rintro e w1 ⟨rfl, rfl⟩
  go_wp2_with fail
  refine (HC.out).mono ?_
  rintro e w1 ⟨rfl, hx⟩
  have HX := Lib.hid hx
  clear hx
  go_wp2_with fail
  go_ret
  exact ⟨rfl, HX.out⟩
set_option maxHeartbeats 3200000 in
theorem lkwait_none {w0 : Base} {w : World} {a : LkA} {s : Lk} {K : Nat} (h : LkIs w0 w a s) (hw : s.Whole K) (k : Nat) (hk : k < s.eff.length) :
    Calls Tryz.prog 54 #[.pointer (some ⟨a.g, 0, none⟩), .int .i64 k, .int .i64 (-1)] w fun e w' => e = .returned (.tuple #[]) ∧ LkIs w0 w' a { s with waits := s.waits.set k (-1, -1) } := by
  have hr3 : w.ownsRow 0 85 2 (.slice a.Aw s.eff.length a.cw) s.eff.length (s.waits.flatMap wL) := h.at_.2.get (i := 3) rfl
  have hr5 : w.ownsRow 0 3 1 (.slice a.AW s.eff.length a.cW) s.eff.length (s.waits.map fun x : Int × Int => I64 x.1) := h.at_.2.get (i := 5) rfl
  obtain ⟨bw, hbw⟩ := own_at0 hr3 (by omega)
  obtain ⟨bW, hbW⟩ := own_at0 hr5 (by omega)
  obtain ⟨ag, agw, aAo, aco, aAw, acw, aAL, acL, aAV, acV, aAW, acW, aAO, acO, aAE, acE, aJ, agls, aex⟩ := a
  simp only at hr3 hr5 hbw hbW
  subst hbw hbW
  have hko : k < s.waits.length := by rw [hw.waits]; exact hk
  have hne : agw ≠ bw := fun he => by
    have := h.at_.2.apart (i := 1) (j := 3) (by omega) rfl rfl agw (by simp [Piece.fp])
    exact this (by simp [Piece.fp, fp_some, he])
  have HC := Lib.hid (wbClear_ok (h.at_.web hw) hr3.frozenAt hne k hko)
  have hc0 : w.cell? ⟨ag, 0, none⟩ = some (.pointer (some ⟨agw, 0, none⟩)) := h.at_.blk.cell 0
  have hl := h.at_.blk.lt
  have HST := Lib.hid (fun w' hx => waits_stored hr3 k hko (-1) (-1) (w' := w') hx)
  have HW := Lib.hid hw
  have HH := Lib.hid h
  have hi0 : (0 : Int) ≤ (k : Int) := by omega
  have hi1 : (k : Int) < (s.eff.length : Int) := by omega
  clear h hr3 hr5 hne hw
  dsimp only
  go_enter Tryz.func54, Tryz.ntmps54
  go_wp2_with fail
  refine (HC.out).mono ?_
  rintro e w1 ⟨rfl, hx⟩
  obtain ⟨hrow, hk1⟩ := HST.out w1 hx
  have h1 := HH.out.turn (i := 3) rfl hk1 (p' := .row 85 2 (.slice (some ⟨bw, 0, none⟩) s.eff.length acw) s.eff.length ((s.waits.set k (-1, -1)).flatMap wL)) hrow (fun q hq => .inl hq)
  have hb1 : Blk w1 ag 47 _ := h1.1.get (i := 0) rfl
  have hr5b : w1.ownsRow 0 3 1 (.slice (some ⟨bW, 0, none⟩) s.eff.length acW) s.eff.length (s.waits.map fun x : Int × Int => I64 x.1) := h1.1.get (i := 5) rfl
  have HF : Hid (LkIs w0 (w1.setCell ⟨bW, k, none⟩ (.int .i64 (-1))) ⟨ag, agw, aAo, aco, some ⟨bw, 0, none⟩, acw, aAL, acL, aAV, acV, some ⟨bW, 0, none⟩, acW, aAO, acO, aAE, acE, aJ, agls, aex⟩ { s with waits := s.waits.set k (-1, -1) }) := by
    have hset2 : Kept [bW] w1 (w1.setCell ⟨bW, k, none⟩ (.int .i64 (-1))) := (Kept.refl [bW] _).setCell (.inl (by simp)) _
    have h2 := h1.1.turn (i := 5) rfl hset2 (p' := .row 3 1 (.slice (some ⟨bW, 0, none⟩) s.eff.length acW) s.eff.length ((s.waits.map fun x : Int × Int => I64 x.1).set k (.int .i64 (-1)))) (hr5b.stored k (.int .i64 (-1))).1 (fun q hq => .inl hq)
    have h3 := h1.2.1.turn (i := 5) rfl (h1.2.2).size (p' := .row 3 1 (.slice (some ⟨bW, 0, none⟩) s.eff.length acW) s.eff.length ((s.waits.map fun x : Int × Int => I64 x.1).set k (.int .i64 (-1)))) (fun q hq => .inl hq)
    have h4 := h1.2.1.kept (i := 5) rfl h1.2.2 hset2
    have he : ((s.waits.map fun x : Int × Int => I64 x.1).set k (.int .i64 (-1))) = (s.waits.set k (-1, -1)).map fun x : Int × Int => I64 x.1 := by rw [List.map_set]; rfl
    rw [he] at h2 h3
    exact ⟨⟨HH.out.at_.1, h2⟩, h3, h4⟩
  have hcW : w1.cell? ⟨ag, 3, none⟩ = some (.slice (some ⟨bW, 0, none⟩) s.eff.length acW) := hb1.cell 3
  have hlW := hb1.lt
  have hck : w1.cell? ⟨bW, k, none⟩ = some (.int .i64 s.waits[k].1) := by
    rw [hr5b.cellAt k (by omega), List.getElem?_map, List.getElem?_eq_getElem hko]; rfl
  have hfk : w1.frozen? ⟨bW, k, none⟩ = false := hr5b.frozenAt k
  generalize s.waits[k].1 = x at *
  clear h1 hb1 hr5b hrow hk1 hx
  go_wp2_with fail
  go_end0
  exact ⟨rfl, HF.out⟩
set_option maxHeartbeats 3200000 in
theorem lkwait_lock {w0 : Base} {w : World} {a : LkA} {s : Lk} {K : Nat} (h : LkIs w0 w a s) (hw : s.Whole K) (k : Nat) (hk : k < s.eff.length) (l : Int) (hl0 : 0 ≤ l ∧ l < s.lines.length) :
    Calls Tryz.prog 54 #[.pointer (some ⟨a.g, 0, none⟩), .int .i64 k, .int .i64 (l)] w fun e w' => e = .returned (.tuple #[]) ∧ LkIs w0 w' a { s with waits := s.waits.set k (l, -1) } := by
  have hr3 : w.ownsRow 0 85 2 (.slice a.Aw s.eff.length a.cw) s.eff.length (s.waits.flatMap wL) := h.at_.2.get (i := 3) rfl
  have hr5 : w.ownsRow 0 3 1 (.slice a.AW s.eff.length a.cW) s.eff.length (s.waits.map fun x : Int × Int => I64 x.1) := h.at_.2.get (i := 5) rfl
  obtain ⟨bw, hbw⟩ := own_at0 hr3 (by omega)
  obtain ⟨bW, hbW⟩ := own_at0 hr5 (by omega)
  obtain ⟨ag, agw, aAo, aco, aAw, acw, aAL, acL, aAV, acV, aAW, acW, aAO, acO, aAE, acE, aJ, agls, aex⟩ := a
  simp only at hr3 hr5 hbw hbW
  subst hbw hbW
  have hko : k < s.waits.length := by rw [hw.waits]; exact hk
  have hne : agw ≠ bw := fun he => by
    have := h.at_.2.apart (i := 1) (j := 3) (by omega) rfl rfl agw (by simp [Piece.fp])
    exact this (by simp [Piece.fp, fp_some, he])
  have HC := Lib.hid (wbLock_ok (h.at_.web hw) hr3.frozenAt hne k hko l (by rw [hw.owner]; exact hl0))
  have hc0 : w.cell? ⟨ag, 0, none⟩ = some (.pointer (some ⟨agw, 0, none⟩)) := h.at_.blk.cell 0
  have hl := h.at_.blk.lt
  have HST := Lib.hid (fun w' hx => waits_stored hr3 k hko (l) (-1) (w' := w') hx)
  have HW := Lib.hid hw
  have HH := Lib.hid h
  have hi0 : (0 : Int) ≤ (k : Int) := by omega
  have hi1 : (k : Int) < (s.eff.length : Int) := by omega
  clear h hr3 hr5 hne hw
  have hbl : (l == -1) = false := beq_eq_false_iff_ne.2 (by omega)
  dsimp only
  go_enter Tryz.func54, Tryz.ntmps54
  go_wp2_with fail
  refine (HC.out).mono ?_
  rintro e w1 ⟨rfl, hx⟩
  obtain ⟨hrow, hk1⟩ := HST.out w1 hx
  have h1 := HH.out.turn (i := 3) rfl hk1 (p' := .row 85 2 (.slice (some ⟨bw, 0, none⟩) s.eff.length acw) s.eff.length ((s.waits.set k (l, -1)).flatMap wL)) hrow (fun q hq => .inl hq)
  have hb1 : Blk w1 ag 47 _ := h1.1.get (i := 0) rfl
  have hr5b : w1.ownsRow 0 3 1 (.slice (some ⟨bW, 0, none⟩) s.eff.length acW) s.eff.length (s.waits.map fun x : Int × Int => I64 x.1) := h1.1.get (i := 5) rfl
  have HF : Hid (LkIs w0 (w1.setCell ⟨bW, k, none⟩ (.int .i64 (l))) ⟨ag, agw, aAo, aco, some ⟨bw, 0, none⟩, acw, aAL, acL, aAV, acV, some ⟨bW, 0, none⟩, acW, aAO, acO, aAE, acE, aJ, agls, aex⟩ { s with waits := s.waits.set k (l, -1) }) := by
    have hset2 : Kept [bW] w1 (w1.setCell ⟨bW, k, none⟩ (.int .i64 (l))) := (Kept.refl [bW] _).setCell (.inl (by simp)) _
    have h2 := h1.1.turn (i := 5) rfl hset2 (p' := .row 3 1 (.slice (some ⟨bW, 0, none⟩) s.eff.length acW) s.eff.length ((s.waits.map fun x : Int × Int => I64 x.1).set k (.int .i64 (l)))) (hr5b.stored k (.int .i64 (l))).1 (fun q hq => .inl hq)
    have h3 := h1.2.1.turn (i := 5) rfl (h1.2.2).size (p' := .row 3 1 (.slice (some ⟨bW, 0, none⟩) s.eff.length acW) s.eff.length ((s.waits.map fun x : Int × Int => I64 x.1).set k (.int .i64 (l)))) (fun q hq => .inl hq)
    have h4 := h1.2.1.kept (i := 5) rfl h1.2.2 hset2
    have he : ((s.waits.map fun x : Int × Int => I64 x.1).set k (.int .i64 (l))) = (s.waits.set k (l, -1)).map fun x : Int × Int => I64 x.1 := by rw [List.map_set]; rfl
    rw [he] at h2 h3
    exact ⟨⟨HH.out.at_.1, h2⟩, h3, h4⟩
  have hcW : w1.cell? ⟨ag, 3, none⟩ = some (.slice (some ⟨bW, 0, none⟩) s.eff.length acW) := hb1.cell 3
  have hlW := hb1.lt
  have hck : w1.cell? ⟨bW, k, none⟩ = some (.int .i64 s.waits[k].1) := by
    rw [hr5b.cellAt k (by omega), List.getElem?_map, List.getElem?_eq_getElem hko]; rfl
  have hfk : w1.frozen? ⟨bW, k, none⟩ = false := hr5b.frozenAt k
  generalize s.waits[k].1 = x at *
  clear h1 hb1 hr5b hrow hk1 hx
  go_wp2_with fail
  go_end0
  exact ⟨rfl, HF.out⟩

end Go.Proofs.YtfoeijiejpenpaaGreatDoor
