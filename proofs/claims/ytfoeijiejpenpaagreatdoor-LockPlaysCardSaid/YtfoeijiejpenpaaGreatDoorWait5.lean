/- Package wait: Move, Remove. -/
import Derived.Test.YtfoeijiejpenpaaGreatDoorWait4
import Derived.Deep.DeepCutAuto
namespace Go.Proofs.YtfoeijiejpenpaaGreatDoor
open Go.RowKit

/-- The block of a new variable is no one's row. -/
theorem new_far {w : World} {v : Value} {l : List WO} (h : Row w v l) : w.heap.size ∉ fp v := fun hm => by have := own_lt h _ hm; omega
theorem LineGoes.pre {w w1 w' : World} {g : Nat} {v : Value} {l' : List WO} {last : Nat} (hk : Kept [] w w1) (h : LineGoes w1 g v w' l' last) : LineGoes w g v w' l' last := by
  obtain ⟨v', h1, h2, h3⟩ := h
  exact ⟨v', h1, (hk.mono (by simp)).trans h2, fun k hk' => (h3 k hk').imp id (fun h => Nat.le_trans hk.size h)⟩
theorem LineGoes.post {w w1 w' : World} {g : Nat} {v : Value} {l' : List WO} {last : Nat} (h : LineGoes w g v w1 l' last) (hk : Kept [] w1 w') : LineGoes w g v w' l' last := by
  obtain ⟨v', h1, h2, h3⟩ := h
  exact ⟨v', h1.old hk, h2.trans (hk.mono (by simp)), h3⟩

theorem LineGoes.kept {w w' : World} {g : Nat} {v : Value} {l' : List WO} {last : Nat} (h : LineGoes w g v w' l' last) : Kept (g :: fp v) w w' := by
  obtain ⟨v', h1, h2, h3⟩ := h
  exact h2
theorem LineGoes.trans {w w1 w2 : World} {g : Nat} {v v1 : Value} {l1 l2 : List WO} {n1 n2 : Nat} (_ : IsLine w1 g v1 l1 n1) (hk : Kept (g :: fp v) w w1) (hv : ∀ k, k ∈ fp v1 → k ∈ fp v ∨ w.heap.size ≤ k) (h : LineGoes w1 g v1 w2 l2 n2) : LineGoes w g v w2 l2 n2 := by
  obtain ⟨v2, h1, h2, h3⟩ := h
  refine ⟨v2, h1, hk.trans' h2 (fun k hk' => ?_), fun k hk' => ?_⟩
  · rcases List.mem_cons.1 hk' with rfl | h4
    · exact .inl (by simp)
    · exact (hv k h4).imp (fun h => by simp [h]) id
  · rcases h3 k hk' with h4 | h4
    · exact hv k h4
    · exact .inr (Nat.le_trans hk.size h4)
/-- What take leaves, beside a variable of the caller's. -/
structure Took (w : World) (g : Nat) (v : Value) (l1 : List WO) (last : Nat) (B : Nat) (cs : Array Value) (wx : World) : Prop where
  goes : ∃ v1, IsLine wx g v1 l1 last ∧ Kept (g :: fp v) w wx ∧ (∀ k, k ∈ fp v1 → k ∈ fp v ∨ w.heap.size ≤ k) ∧ B ∉ fp v1
  var : Blk wx B 108 cs
  new : w.heap.size ≤ B
theorem Took.before {w W w1 : World} {g B last : Nat} {v : Value} {l l1 : List WO} {cs : Array Value} (hk : Kept [] w W) (h : IsLine w g v l last) (hB : Blk W B 108 cs) (hge : w.heap.size ≤ B) (hg : LineGoes W g v w1 l1 last) : Took w g v l1 last B cs w1 := by
  have hlt := h.blk.lt
  have hv := own_lt h.row
  have hBl := hB.lt
  obtain ⟨v1, h1, h2, h3⟩ := hg
  refine ⟨⟨v1, h1, (hk.mono (by simp)).trans h2, fun k hk' => (h3 k hk').imp id (fun h => Nat.le_trans hk.size h), fun hm => ?_⟩, hB.kept h2 (fun hm => ?_), hge⟩
  · rcases h3 B hm with h4 | h4
    · have := hv B h4; omega
    · omega
  · rcases List.mem_cons.1 hm with rfl | h4
    · omega
    · have := hv B h4; omega
theorem Took.behind {w W w1 : World} {g last : Nat} {v : Value} {l l1 : List WO} {cs : Array Value} (hk : Kept [] w W) (_ : IsLine w g v l last) (hg : LineGoes W g v w1 l1 last) : Took w g v l1 last w1.heap.size cs (w1.alloc (.cells cs 108)) := by
  obtain ⟨v1, h1, h2, h3⟩ := hg
  have hk2 := (hk.mono (G' := g :: fp v) (by simp)).trans h2
  exact ⟨⟨v1, h1.old ((Kept.refl _ _).alloc _), hk2.alloc _, fun k hk' => (h3 k hk').imp id (fun h => Nat.le_trans hk.size h), new_far h1.row⟩, Blk.new _ _ _, hk2.size⟩
theorem Took.set {w wx : World} {g B last : Nat} {v : Value} {l1 : List WO} {cs : Array Value} (h : Took w g v l1 last B cs wx) (hgw : g < w.heap.size) (i : Nat) (u : Value) : Took w g v l1 last B (cs.setIfInBounds i u) (wx.setCell ⟨B, i, none⟩ u) := by
  obtain ⟨⟨v1, h1, h2, h3, h4⟩, h5, h6⟩ := h
  exact ⟨⟨v1, h1.kept ((Kept.refl [B] _).setCell (.inl (by simp)) _) (by simp; omega) (fun k hk e => by simp at e; subst e; exact h4 hk), h2.setCell (.inr h6) _, h3, h4⟩, h5.set i u, h6⟩
theorem Took.drew {w wx : World} {g B last : Nat} {v : Value} {l1 : List WO} {cs : Array Value} (h : Took w g v l1 last B cs wx) : Took w g v l1 last B cs wx.drew := by
  obtain ⟨⟨v1, h1, h2, h3, h4⟩, h5, h6⟩ := h
  exact ⟨⟨v1, ⟨h1.blk.drew, h1.row⟩, h2.drew, h3, h4⟩, h5.drew, h6⟩
theorem Took.line {w wx : World} {g B last : Nat} {v : Value} {l1 : List WO} {cs : Array Value} (h : Took w g v l1 last B cs wx) : LineGoes w g v wx l1 last := by
  obtain ⟨⟨v1, h1, h2, h3, h4⟩, _, _⟩ := h
  exact ⟨v1, h1, h2, h3⟩

theorem remove_nil (pl : Int) (w : World) : Calls Tryz.prog 53 #[.pointer none, .int .i64 pl] w fun e w' => e = .returned (.bool false) ∧ Kept [] w w' := by
  go_enter Tryz.func53, Tryz.ntmps53
  go_wp2
  go_ret
  exact ⟨rfl, Kept.refl _ _⟩

theorem move_nil (pl lev : Int) (w : World) : Calls Tryz.prog 107 #[.pointer none, .int .i64 pl, .int .i64 lev] w fun e w' => e = .returned (.bool false) ∧ Kept [] w w' := by
  go_enter Tryz.func107, Tryz.ntmps107
  go_wp2
  go_ret
  exact ⟨rfl, Kept.refl _ _⟩

set_option maxHeartbeats 3200000 in
set_option maxRecDepth 100000 in
theorem remove_some (g : Nat) (v : Value) (l : List WO) (last : Nat) (pl : Int) (x : WO) (w : World) (h : IsLine w g v l last) (hl : l.length ≤ 1000) (hf : findW pl l = some x) :
    Calls Tryz.prog 53 #[.pointer (some ⟨g, 0, none⟩), .int .i64 pl] w fun e w' => e = .returned (.bool true) ∧ LineGoes w g v w' (l.eraseP (isP pl)) last := by
  have HT := Lib.hid (fun w1 bp hk hb => rtake_some g v l last pl bp x w1 (h.old hk) hl hb hf)
  have H := Lib.hid h
  have hgw := h.blk.lt
  obtain ⟨xp, xl, xn⟩ := x
  simp only at HT
  have HA1 := Lib.hid (HT.out ((w.alloc (.cells #[.int .i64 pl] 3)).alloc (.cells #[.int .i64 0, .int .i64 0, .int .u64 0] 108)).drew w.heap.size (((Kept.refl _ _).alloc _).alloc _).drew ((Blk.new _ _ _).alloc _).drew)
  have HA2 := Lib.hid (HT.out ((w.alloc (.cells #[.int .i64 0, .int .i64 0, .int .u64 0] 108)).alloc (.cells #[.int .i64 pl] 3)).drew (w.heap.size + 1) (((Kept.refl _ _).alloc _).alloc _).drew (Blk.newAt (by simp) _ _).drew)
  have HA3 := Lib.hid (HT.out (w.alloc (.cells #[.int .i64 pl] 3)).drew w.heap.size ((Kept.refl _ _).alloc _).drew (Blk.new _ _ _).drew)
  have HN1 : Hid (Blk ((w.alloc (.cells #[.int .i64 pl] 3)).alloc (.cells #[.int .i64 0, .int .i64 0, .int .u64 0] 108)).drew (w.heap.size + 1) 108 #[.int .i64 0, .int .i64 0, .int .u64 0]) := (Blk.newAt (by simp) _ _).drew
  have HN2 : Hid (Blk ((w.alloc (.cells #[.int .i64 0, .int .i64 0, .int .u64 0] 108)).alloc (.cells #[.int .i64 pl] 3)).drew w.heap.size 108 #[.int .i64 0, .int .i64 0, .int .u64 0]) := ((Blk.new _ _ _).alloc _).drew
  clear HT
  clear h hf
  go_enter Tryz.func53, Tryz.ntmps53
  go_wp2_with fail
  go_region_held3 (fun _ => True) (trivial) (first | (go_at_call 79; refine (is_any _ _).mono ?_; rintro e w1 ⟨rfl, rfl⟩) | (go_at_call 78; (with_reducible refine (HA1.out).mono ?_); rintro e w1 ⟨rfl, hg⟩; have hb := Took.before ((((Kept.refl _ _).alloc _).alloc _).drew) H.out HN1.out (by omega) hg; have HB := Lib.hid hb; have hcb := hb.var.cell; have hfb := hb.var.frozen; have hlb := hb.var.lt; clear hb hg) | (go_at_call 78; (with_reducible refine (HA2.out).mono ?_); rintro e w1 ⟨rfl, hg⟩; have hb := Took.before ((((Kept.refl _ _).alloc _).alloc _).drew) H.out HN2.out (by omega) hg; have HB := Lib.hid hb; have hcb := hb.var.cell; have hfb := hb.var.frozen; have hlb := hb.var.lt; clear hb hg) | (go_at_call 78; (with_reducible refine (HA3.out).mono ?_); rintro e w1 ⟨rfl, hg⟩; have HG := Lib.hid hg; clear hg))
  all_goals
    go_wp2_with fail
    go_ret
    first
      | exact ⟨rfl, (((HB.out.set hgw 0 _).set hgw 1 _).set hgw 2 _).line⟩
      | exact ⟨rfl, (Took.behind ((Kept.refl _ _).alloc _).drew H.out HG.out).line⟩

set_option maxHeartbeats 3200000 in
set_option maxRecDepth 100000 in
theorem remove_none (g : Nat) (v : Value) (l : List WO) (last : Nat) (pl : Int) (w : World) (h : IsLine w g v l last) (hl : l.length ≤ 1000) (hf : findW pl l = none) :
    Calls Tryz.prog 53 #[.pointer (some ⟨g, 0, none⟩), .int .i64 pl] w fun e w' => e = .returned (.bool false) ∧ Kept [] w w' := by
  have HT := Lib.hid (fun w1 bp hk hb => rtake_none g v l last pl bp w1 (h.old hk) hl hb hf)
  have H := Lib.hid h
  have hgw := h.blk.lt
  have HA1 := Lib.hid (HT.out ((w.alloc (.cells #[.int .i64 pl] 3)).alloc (.cells #[.int .i64 0, .int .i64 0, .int .u64 0] 108)).drew w.heap.size (((Kept.refl _ _).alloc _).alloc _).drew ((Blk.new _ _ _).alloc _).drew)
  have HA2 := Lib.hid (HT.out ((w.alloc (.cells #[.int .i64 0, .int .i64 0, .int .u64 0] 108)).alloc (.cells #[.int .i64 pl] 3)).drew (w.heap.size + 1) (((Kept.refl _ _).alloc _).alloc _).drew (Blk.newAt (by simp) _ _).drew)
  have HA3 := Lib.hid (HT.out (w.alloc (.cells #[.int .i64 pl] 3)).drew w.heap.size ((Kept.refl _ _).alloc _).drew (Blk.new _ _ _).drew)
  have HN1 : Hid (Blk ((w.alloc (.cells #[.int .i64 pl] 3)).alloc (.cells #[.int .i64 0, .int .i64 0, .int .u64 0] 108)).drew (w.heap.size + 1) 108 #[.int .i64 0, .int .i64 0, .int .u64 0]) := (Blk.newAt (by simp) _ _).drew
  have HN2 : Hid (Blk ((w.alloc (.cells #[.int .i64 0, .int .i64 0, .int .u64 0] 108)).alloc (.cells #[.int .i64 pl] 3)).drew w.heap.size 108 #[.int .i64 0, .int .i64 0, .int .u64 0]) := ((Blk.new _ _ _).alloc _).drew
  clear HT
  clear h hf
  go_enter Tryz.func53, Tryz.ntmps53
  go_wp2_with fail
  go_region_held3 (fun _ => True) (trivial) (first | (go_at_call 79; refine (is_any _ _).mono ?_; rintro e w1 ⟨rfl, rfl⟩) | (go_at_call 78; (with_reducible refine (HA1.out).mono ?_); rintro e w1 ⟨rfl, hg⟩; have HG := Lib.hid (Kept.trans (G := []) ((((Kept.refl _ _).alloc _).alloc _).drew) hg); have hb := Blk.kept HN1.out hg (by simp); have hcb := hb.cell; have hfb := hb.frozen; have hlb := hb.lt; clear hb hg) | (go_at_call 78; (with_reducible refine (HA2.out).mono ?_); rintro e w1 ⟨rfl, hg⟩; have HG := Lib.hid (Kept.trans (G := []) ((((Kept.refl _ _).alloc _).alloc _).drew) hg); have hb := Blk.kept HN2.out hg (by simp); have hcb := hb.cell; have hfb := hb.frozen; have hlb := hb.lt; clear hb hg) | (go_at_call 78; (with_reducible refine (HA3.out).mono ?_); rintro e w1 ⟨rfl, hg⟩; have HG := Lib.hid (Kept.trans (G := []) (((Kept.refl _ _).alloc _).drew) hg); clear hg))
  all_goals
    go_wp2_with fail
    go_ret
    first
      | exact ⟨rfl, HG.out.alloc _⟩
      | exact ⟨rfl, ((HG.out.setCell (.inr (Nat.le_refl _)) _).setCell (.inr (Nat.le_refl _)) _).setCell (.inr (Nat.le_refl _)) _⟩
      | exact ⟨rfl, ((HG.out.setCell (.inr (Nat.le_succ _)) _).setCell (.inr (Nat.le_succ _)) _).setCell (.inr (Nat.le_succ _)) _⟩

set_option maxHeartbeats 3200000 in
set_option maxRecDepth 100000 in
theorem move_none (g : Nat) (v : Value) (l : List WO) (last : Nat) (pl lev : Int) (w : World) (h : IsLine w g v l last) (hl : l.length ≤ 1000) (hf : findW pl l = none) :
    Calls Tryz.prog 107 #[.pointer (some ⟨g, 0, none⟩), .int .i64 pl, .int .i64 lev] w fun e w' => e = .returned (.bool false) ∧ Kept [] w w' := by
  have HT := Lib.hid (fun w1 bp hk hb => rtake_none g v l last pl bp w1 (h.old hk) hl hb hf)
  have H := Lib.hid h
  have hgw := h.blk.lt
  have HA1 := Lib.hid (HT.out ((w.alloc (.cells #[.int .i64 pl] 3)).alloc (.cells #[.int .i64 0, .int .i64 0, .int .u64 0] 108)).drew w.heap.size (((Kept.refl _ _).alloc _).alloc _).drew ((Blk.new _ _ _).alloc _).drew)
  have HA2 := Lib.hid (HT.out ((w.alloc (.cells #[.int .i64 0, .int .i64 0, .int .u64 0] 108)).alloc (.cells #[.int .i64 pl] 3)).drew (w.heap.size + 1) (((Kept.refl _ _).alloc _).alloc _).drew (Blk.newAt (by simp) _ _).drew)
  have HA3 := Lib.hid (HT.out (w.alloc (.cells #[.int .i64 pl] 3)).drew w.heap.size ((Kept.refl _ _).alloc _).drew (Blk.new _ _ _).drew)
  have HN1 : Hid (Blk ((w.alloc (.cells #[.int .i64 pl] 3)).alloc (.cells #[.int .i64 0, .int .i64 0, .int .u64 0] 108)).drew (w.heap.size + 1) 108 #[.int .i64 0, .int .i64 0, .int .u64 0]) := (Blk.newAt (by simp) _ _).drew
  have HN2 : Hid (Blk ((w.alloc (.cells #[.int .i64 0, .int .i64 0, .int .u64 0] 108)).alloc (.cells #[.int .i64 pl] 3)).drew w.heap.size 108 #[.int .i64 0, .int .i64 0, .int .u64 0]) := ((Blk.new _ _ _).alloc _).drew
  clear HT
  clear h hf
  go_enter Tryz.func107, Tryz.ntmps107
  go_wp2_with fail
  go_region_held3 (fun _ => True) (trivial) (first | (go_at_call 79; refine (is_any _ _).mono ?_; rintro e w1 ⟨rfl, rfl⟩) | (go_at_call 78; (with_reducible refine (HA1.out).mono ?_); rintro e w1 ⟨rfl, hg⟩; have HG := Lib.hid (Kept.trans (G := []) ((((Kept.refl _ _).alloc _).alloc _).drew) hg); have hb := Blk.kept HN1.out hg (by simp); have hcb := hb.cell; have hfb := hb.frozen; have hlb := hb.lt; clear hb hg) | (go_at_call 78; (with_reducible refine (HA2.out).mono ?_); rintro e w1 ⟨rfl, hg⟩; have HG := Lib.hid (Kept.trans (G := []) ((((Kept.refl _ _).alloc _).alloc _).drew) hg); have hb := Blk.kept HN2.out hg (by simp); have hcb := hb.cell; have hfb := hb.frozen; have hlb := hb.lt; clear hb hg) | (go_at_call 78; (with_reducible refine (HA3.out).mono ?_); rintro e w1 ⟨rfl, hg⟩; have HG := Lib.hid (Kept.trans (G := []) (((Kept.refl _ _).alloc _).drew) hg); clear hg))
  all_goals
    go_wp2_with fail
    go_ret
    first
      | exact ⟨rfl, HG.out.alloc _⟩
      | exact ⟨rfl, ((HG.out.setCell (.inr (Nat.le_refl _)) _).setCell (.inr (Nat.le_refl _)) _).setCell (.inr (Nat.le_refl _)) _⟩
      | exact ⟨rfl, ((HG.out.setCell (.inr (Nat.le_succ _)) _).setCell (.inr (Nat.le_succ _)) _).setCell (.inr (Nat.le_succ _)) _⟩

set_option maxHeartbeats 3200000 in
set_option maxRecDepth 100000 in
theorem move_some (g : Nat) (v : Value) (l : List WO) (last : Nat) (pl lev : Int) (x : WO) (w : World) (h : IsLine w g v l last) (hl : l.length ≤ 1000) (hf : findW pl l = some x) :
    Calls Tryz.prog 107 #[.pointer (some ⟨g, 0, none⟩), .int .i64 pl, .int .i64 lev] w fun e w' => e = .returned (.bool true) ∧ LineGoes w g v w' (insW ⟨x.p, holdL lev, x.n⟩ (l.eraseP (isP pl))) last := by
  have HT := Lib.hid (fun w1 bp hk hb => rtake_some g v l last pl bp x w1 (h.old hk) hl hb hf)
  have H := Lib.hid h
  have hgw := h.blk.lt
  have hel : (l.eraseP (isP pl)).length ≤ 1000 := Nat.le_trans (List.length_eraseP_le) hl
  obtain ⟨xp, xl, xn⟩ := x
  simp only at HT
  have HA1 := Lib.hid (HT.out ((w.alloc (.cells #[.int .i64 pl] 3)).alloc (.cells #[.int .i64 0, .int .i64 0, .int .u64 0] 108)).drew w.heap.size (((Kept.refl _ _).alloc _).alloc _).drew ((Blk.new _ _ _).alloc _).drew)
  have HA2 := Lib.hid (HT.out ((w.alloc (.cells #[.int .i64 0, .int .i64 0, .int .u64 0] 108)).alloc (.cells #[.int .i64 pl] 3)).drew (w.heap.size + 1) (((Kept.refl _ _).alloc _).alloc _).drew (Blk.newAt (by simp) _ _).drew)
  have HA3 := Lib.hid (HT.out (w.alloc (.cells #[.int .i64 pl] 3)).drew w.heap.size ((Kept.refl _ _).alloc _).drew (Blk.new _ _ _).drew)
  have HN1 : Hid (Blk ((w.alloc (.cells #[.int .i64 pl] 3)).alloc (.cells #[.int .i64 0, .int .i64 0, .int .u64 0] 108)).drew (w.heap.size + 1) 108 #[.int .i64 0, .int .i64 0, .int .u64 0]) := (Blk.newAt (by simp) _ _).drew
  have HN2 : Hid (Blk ((w.alloc (.cells #[.int .i64 0, .int .i64 0, .int .u64 0] 108)).alloc (.cells #[.int .i64 pl] 3)).drew w.heap.size 108 #[.int .i64 0, .int .i64 0, .int .u64 0]) := ((Blk.new _ _ _).alloc _).drew
  clear HT
  have HH := Lib.hid (fun w => hold_any lev w)
  have HP := Lib.hid (fun v1 w1 h => rput_any g v1 (l.eraseP (isP pl)) last ⟨xp, holdL lev, xn⟩ w1 h hel)
  simp only at HP
  generalize l.eraseP (isP pl) = l1 at *
  generalize holdL lev = hv at *
  clear h hf
  go_enter Tryz.func107, Tryz.ntmps107
  go_upto_region 3 with fail
  go_cut [7, 8] (fun s7 s8 wx => ∃ B, s7 = .pointer (some ⟨B, 0, none⟩) ∧ s8 = .bool true ∧ Hid (Took w g v l1 last B (oC xp xl xn) wx))
  case first =>
    go_region_held3 (fun _ => True) (trivial) (first | (go_at_call 79; refine (is_any _ _).mono ?_; rintro e w1 ⟨rfl, rfl⟩) | (go_at_call 78; (with_reducible refine (HA1.out).mono ?_); rintro e w1 ⟨rfl, hg⟩; have hb := Took.before ((((Kept.refl _ _).alloc _).alloc _).drew) H.out HN1.out (by omega) hg; have HB := Lib.hid hb; have hcb := hb.var.cell; have hfb := hb.var.frozen; have hlb := hb.var.lt; clear hb hg) | (go_at_call 78; (with_reducible refine (HA2.out).mono ?_); rintro e w1 ⟨rfl, hg⟩; have hb := Took.before ((((Kept.refl _ _).alloc _).alloc _).drew) H.out HN2.out (by omega) hg; have HB := Lib.hid hb; have hcb := hb.var.cell; have hfb := hb.var.frozen; have hlb := hb.var.lt; clear hb hg) | (go_at_call 78; (with_reducible refine (HA3.out).mono ?_); rintro e w1 ⟨rfl, hg⟩; have HG := Lib.hid hg; clear hg))
    all_goals
      go_wp2_with fail
      go_meet
      first
        | exact ⟨_, rfl, rfl, ((HB.out.set hgw 0 _).set hgw 1 _).set hgw 2 _⟩
        | exact ⟨_, rfl, rfl, Took.behind ((Kept.refl _ _).alloc _).drew H.out HG.out⟩
  case rest =>
    obtain ⟨B, rfl, rfl, HT0⟩ := hcut
    have hcB := HT0.out.var.cell
    have hfB := HT0.out.var.frozen
    have hlB := HT0.out.var.lt
    go_wp2_with fail
    refine (HH.out _).mono ?_
    rintro e w' ⟨rfl, rfl⟩
    have HT1 := Lib.hid (HT0.out.set hgw 1 (.int .i64 hv))
    clear hcB hfB hlB
    have hcB := HT1.out.var.cell
    have hfB := HT0.out.var.frozen
    have hcB0 := HT0.out.var.cell
    have hlB := HT1.out.var.lt
    have hlB0 := HT0.out.var.lt
    go_wp2_with fail
    generalize wc.setCell ⟨B, 1, none⟩ (.int .i64 hv) = W5 at *
    obtain ⟨v1, hi1, hk1, hv1, hB1⟩ := HT1.out.goes
    have HI1 := Lib.hid hi1
    have HX1 : Hid (Blk W5 B 108 (oC xp hv xn)) := HT1.out.var
    have HG1 : Hid (g ≠ B) := by have := HT1.out.new; exact Nat.ne_of_lt (by omega)
    have HC1 := Lib.hid (And.intro hk1 (And.intro hv1 hB1))
    clear hi1 hk1 hv1 hB1 hcB hfB hcB0 hlB hlB0 HT0
    have hcB := HX1.out.cell
    have hlB := HX1.out.lt
    go_region_held3 (fun w' => w'.cell? ⟨B, 0, none⟩ = some (.int .i64 xp) ∧ w'.cell? ⟨B, 1, none⟩ = some (.int .i64 hv) ∧ w'.cell? ⟨B, 2, none⟩ = some (.int .u64 xn)) (go_keep) (first | (go_at_call 93; refine (HP.out v1 _ (by exact HI1.out.old (Kept.refl _ _).drew)).mono ?_; rintro e w2 ⟨rfl, hg⟩; have HG := Lib.hid (LineGoes.pre (Kept.refl _ _).drew hg); have hcb := (HX1.out.drew.kept hg.kept (by have := HG1.out; have := HC1.out.2.2; simp; exact ⟨fun e => HG1.out e.symm, HC1.out.2.2⟩)).cell; clear hg))
    all_goals
      go_wp2_with fail
      go_ret
      exact ⟨rfl, LineGoes.trans HI1.out HC1.out.1 HC1.out.2.1 HG.out⟩


end Go.Proofs.YtfoeijiejpenpaaGreatDoor
