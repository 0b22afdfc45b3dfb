/- Package roll, walked. -/
import Derived.Test.YtccodklfplfleaaP01
import Derived.Test.YtccodklfplfleaaP00
import Derived.Test.YtccodklfplfleaaProg
import Derived.WalkKit
import Derived.Laws.ResultCell
namespace Go.Proofs.Ytccodklfplfleaa
open Go.RowKit

/-- A place's cells; an id's. -/
def plL (p : Pl) : List Value := [.bool p.taken, .int .u32 p.gen]
theorem plL_len (p : Pl) : (plL p).length = 2 := rfl
def idL (x : Int × Nat) : List Value := [.int .i64 x.1, .int .u32 x.2]
theorem idL_len (x : Int × Nat) : (idL x).length = 2 := rfl
/-- A roll stands at a block. -/
structure RlAt (w : World) (g : Nat) (A : Option Addr) (c : Nat) (P : List Pl) : Prop where
  blk : Blk w g 99 #[.slice A P.length c]
  row : w.ownsRow 0 101 2 (.slice A P.length c) P.length (P.flatMap plL)
theorem RlAt.old {w w' : World} {g : Nat} {A : Option Addr} {c : Nat} {P : List Pl} (h : RlAt w g A c P) (hk : Kept [] w w') : RlAt w' g A c P := ⟨h.blk.kept hk (by simp), own_kept h.row hk (by simp)⟩
/-- A place's cells, read. -/
theorem RlAt.cells {w : World} {g : Nat} {A : Option Addr} {c : Nat} {P : List Pl} (h : RlAt w g A c P) (k : Nat) (hk : k < P.length) : ∃ b, A = some ⟨b, 0, none⟩ ∧ w.cell? ⟨b, k * 2, none⟩ = some (.bool (P.getD k Pl.zero).taken) ∧ w.cell? ⟨b, k * 2 + 1, none⟩ = some (.int .u32 (P.getD k Pl.zero).gen) ∧ b < w.heap.size ∧ (∀ j, w.frozen? ⟨b, j, none⟩ = false) := by
  have hr := h.row
  rcases hr.2 with ⟨_, h0⟩ | ⟨b, cap, cur, e, _⟩
  · omega
  · injection e with e1 e2 e3
    subst e1
    have hc := fun i => hr.cellAt i
    have hx : P.getD k Pl.zero = P[k] := by rw [List.getD_eq_getElem?_getD, List.getElem?_eq_getElem hk]; rfl
    have h0 := flatK_get plL 2 plL_len P k 0 hk (by omega)
    have h1 := flatK_get plL 2 plL_len P k 1 hk (by omega)
    have hl := flatK_len plL 2 plL_len P
    rw [hx]
    refine ⟨b, rfl, ?_, ?_, own_lt hr b (by simp [fp_some]), fun j => hr.frozenAt j⟩
    · rw [hc (k * 2) (by omega)]; simpa [plL] using h0
    · rw [hc (k * 2 + 1) (by omega)]; simpa [plL] using h1

theorem rlopen_any (p : Pl) (w : World) : Calls Try.prog 92 #[.agg #[.bool p.taken, .int .u32 p.gen]] w fun e w' => e = .returned (.bool p.free) ∧ Kept [] w w' := by
  obtain ⟨t, g⟩ := p
  unfold Pl.free
  cases t
  · by_cases hg : g < 4294967295
    · have hd : decide (g < 4294967295) = true := by simpa using hg
      rw [hd]
      have h1 : (g : Int) < 4294967295 := by omega
      go_enter Try.func92, Try.ntmps92
      go_wp2_with fail
      go_ret
      exact ⟨rfl, by (repeat (first | (with_reducible exact Kept.refl _ _) | (with_reducible assumption) | (with_reducible refine Kept.alloc ?_ _) | (with_reducible refine Kept.drew ?_) | (with_reducible refine Kept.drewN ?_ _) | (with_reducible refine Kept.setCell ?_ ?_ _) | (exact .inr (Nat.le_refl _)) | (exact .inr (by simp only; omega)) | (exact .inr (by omega))))⟩
    · have hd : decide (g < 4294967295) = false := by simpa using hg
      rw [hd]
      have h1 : ¬ (g : Int) < 4294967295 := by omega
      go_enter Try.func92, Try.ntmps92
      go_wp2_with fail
      go_ret
      exact ⟨rfl, by (repeat (first | (with_reducible exact Kept.refl _ _) | (with_reducible assumption) | (with_reducible refine Kept.alloc ?_ _) | (with_reducible refine Kept.drew ?_) | (with_reducible refine Kept.drewN ?_ _) | (with_reducible refine Kept.setCell ?_ ?_ _) | (exact .inr (Nat.le_refl _)) | (exact .inr (by simp only; omega)) | (exact .inr (by omega))))⟩
  · go_enter Try.func92, Try.ntmps92
    go_wp2_with fail
    go_ret
    exact ⟨rfl, by (repeat (first | (with_reducible exact Kept.refl _ _) | (with_reducible assumption) | (with_reducible refine Kept.alloc ?_ _) | (with_reducible refine Kept.drew ?_) | (with_reducible refine Kept.drewN ?_ _) | (with_reducible refine Kept.setCell ?_ ?_ _) | (exact .inr (Nat.le_refl _)) | (exact .inr (by simp only; omega)) | (exact .inr (by omega))))⟩
/-- A place's id, and whether it is taken. -/
def atV (P : List Pl) (s : Int) : Int × Nat := if takenP P s then (s, (P.getD s.toNat Pl.zero).gen) else (0, 0)
set_option maxHeartbeats 3200000 in
theorem rlAt_any {w : World} {g : Nat} {A : Option Addr} {c : Nat} {P : List Pl} (h : RlAt w g A c P) (s : Int) :
    Calls Try.prog 19 #[.pointer (some ⟨g, 0, none⟩), .int .i64 s] w fun e w' => e = .returned (.tuple #[.agg #[.int .i64 (atV P s).1, .int .u32 (atV P s).2], .bool (takenP P s)]) ∧ Kept [] w w' := by
  have hc0 := h.blk.cell 0
  have hl := h.blk.lt
  unfold atV takenP
  by_cases h0 : 0 ≤ s
  · obtain ⟨k, rfl⟩ : ∃ k : Nat, s = k := ⟨s.toNat, by omega⟩
    by_cases h1 : k < P.length
    · obtain ⟨b, rfl, c1, c2, hb, _⟩ := h.cells k h1
      have hd : decide (0 ≤ (k : Int) ∧ (k : Int) < (P.length : Int)) = true := by simp; omega
      rw [hd, Int.toNat_natCast]
      generalize P.getD k Pl.zero = p at *
      obtain ⟨t, gn⟩ := p
      simp only at c1 c2 ⊢
      have h2 : ¬ (k : Int) < 0 := by omega
      have h3 : ¬ (P.length : Int) ≤ (k : Int) := by omega
      have h4 : (k : Int) < (P.length : Int) := by omega
      generalize P.length = n at *
      clear h hd
      cases t
      · go_enter Try.func19, Try.ntmps19
        go_wp2_with fail
        (try simp only [Exit.inBlock, Exit.then])
        refine bodyPost_ret (v := .tuple #[.agg #[.int .i64 (0 : Int), .int .u32 (0 : Nat)], .bool false]) (by rw [results_cell_tmp rfl]; go_simp) rfl ⟨rfl, by (repeat (first | (with_reducible exact Kept.refl _ _) | (with_reducible assumption) | (with_reducible refine Kept.alloc ?_ _) | (with_reducible refine Kept.drew ?_) | (with_reducible refine Kept.drewN ?_ _) | (with_reducible refine Kept.setCell ?_ ?_ _) | (exact .inr (Nat.le_refl _)) | (exact .inr (by simp only; omega)) | (exact .inr (by omega))))⟩
      · go_enter Try.func19, Try.ntmps19
        go_wp2_with fail
        (try simp only [Exit.inBlock, Exit.then])
        refine bodyPost_ret (v := .tuple #[.agg #[.int .i64 (k : Int), .int .u32 (gn : Nat)], .bool true]) (by rw [results_cell_tmp rfl]; go_simp) rfl ⟨rfl, by (repeat (first | (with_reducible exact Kept.refl _ _) | (with_reducible assumption) | (with_reducible refine Kept.alloc ?_ _) | (with_reducible refine Kept.drew ?_) | (with_reducible refine Kept.drewN ?_ _) | (with_reducible refine Kept.setCell ?_ ?_ _) | (exact .inr (Nat.le_refl _)) | (exact .inr (by simp only; omega)) | (exact .inr (by omega))))⟩
    · have hd : decide (0 ≤ (k : Int) ∧ (k : Int) < (P.length : Int)) = false := by simp; omega
      rw [hd]
      have h2 : ¬ (k : Int) < 0 := by omega
      have h3 : (P.length : Int) ≤ (k : Int) := by omega
      generalize P.length = n at *
      clear h hd
      go_enter Try.func19, Try.ntmps19
      go_wp2_with fail
      (try simp only [Exit.inBlock, Exit.then])
      refine bodyPost_ret (v := .tuple #[.agg #[.int .i64 (0 : Int), .int .u32 (0 : Nat)], .bool false]) (by rw [results_cell_tmp rfl]; go_simp) rfl ⟨rfl, by (repeat (first | (with_reducible exact Kept.refl _ _) | (with_reducible assumption) | (with_reducible refine Kept.alloc ?_ _) | (with_reducible refine Kept.drew ?_) | (with_reducible refine Kept.drewN ?_ _) | (with_reducible refine Kept.setCell ?_ ?_ _) | (exact .inr (Nat.le_refl _)) | (exact .inr (by simp only; omega)) | (exact .inr (by omega))))⟩
  · have hd : decide (0 ≤ s ∧ s < (P.length : Int)) = false := by simp; omega
    rw [hd]
    have h2 : s < 0 := by omega
    clear h hd
    go_enter Try.func19, Try.ntmps19
    go_wp2_with fail
    (try simp only [Exit.inBlock, Exit.then])
    refine bodyPost_ret (v := .tuple #[.agg #[.int .i64 (0 : Int), .int .u32 (0 : Nat)], .bool false]) (by rw [results_cell_tmp rfl]; go_simp) rfl ⟨rfl, by (repeat (first | (with_reducible exact Kept.refl _ _) | (with_reducible assumption) | (with_reducible refine Kept.alloc ?_ _) | (with_reducible refine Kept.drew ?_) | (with_reducible refine Kept.drewN ?_ _) | (with_reducible refine Kept.setCell ?_ ?_ _) | (exact .inr (Nat.le_refl _)) | (exact .inr (by simp only; omega)) | (exact .inr (by omega))))⟩


set_option maxHeartbeats 3200000 in
theorem rlHas_any {w : World} {g : Nat} {A : Option Addr} {c : Nat} {P : List Pl} (h : RlAt w g A c P) (s : Int) (gn : Nat) :
    Calls Try.prog 82 #[.pointer (some ⟨g, 0, none⟩), .agg #[.int .i64 s, .int .u32 gn]] w fun e w' => e = .returned (.bool (hasP P s gn)) ∧ Kept [] w w' := by
  have HA := Lib.hid (rlAt_any (h.old ((Kept.refl [] w).alloc (.cells #[.int .i64 s, .int .u32 gn] 53))) s)
  have hB : Blk (w.alloc (.cells #[.int .i64 s, .int .u32 gn] 53)) w.heap.size 53 _ := Blk.new w _ _
  have HB := Lib.hid hB
  have hX : hasP P s gn = (takenP P s && ((atV P s).2 == gn)) := by
    unfold hasP atV takenP
    cases decide (0 ≤ s ∧ s < P.length) with
    | false => rfl
    | true => cases (P.getD s.toNat Pl.zero).taken <;> rfl
  have hs : takenP P s = true → (atV P s).1 = s := fun ht => by unfold atV; rw [if_pos ht]
  rw [hX]
  have HS := Lib.hid hs
  clear hX hs h hB
  generalize atV P s = v at *
  generalize takenP P s = t at *
  obtain ⟨v1, v2⟩ := v
  go_enter Try.func82, Try.ntmps82
  go_wp2_with fail
  refine (HA.out).mono ?_
  rintro e w1 ⟨rfl, hk1⟩
  have HB1 := Lib.hid (HB.out.kept hk1 (by simp))
  have c0 : w1.cell? ⟨w.heap.size, 0, none⟩ = some (.int .i64 s) := HB1.out.cell 0
  have c1 : w1.cell? ⟨w.heap.size, 1, none⟩ = some (.int .u32 gn) := HB1.out.cell 1
  have HK1 := Lib.hid (((Kept.refl [] w).alloc (.cells #[.int .i64 s, .int .u32 gn] 53)).trans hk1)
  have hl1 := HB1.out.lt
  clear hk1
  cases t
  · go_wp2_with fail
    go_ret
    exact ⟨rfl, HK1.out.alloc _⟩
  · have hv : v1 = s := HS.out rfl
    subst hv
    by_cases hg : v2 = gn
    · subst hg
      have hb : ((v2 : Int) == (v2 : Int)) = true := by simp
      go_wp2_with fail
      go_ret
      refine ⟨by simp, HK1.out.alloc _⟩
    · have hb : ((v2 : Int) == (gn : Int)) = false := beq_eq_false_iff_ne.2 (by omega)
      have hb2 : (v2 == gn) = false := beq_eq_false_iff_ne.2 hg
      go_wp2_with fail
      go_ret
      refine ⟨by simp [hb2], HK1.out.alloc _⟩


theorem Try.info53 : (Try.prog.info? 53).map (fun i => (i.zero, i.size, i.bytes)) = some (some (.agg #[.int .i64 0, .int .u32 0]), 2, 16) := by kernel_rfl
/-- A slice of ids that was made after w. -/
def FreshId (w w' : World) (l : List (Int × Nat)) (A : Option Addr) (n c : Nat) : Prop :=
  w'.ownsRow 0 53 2 (.slice A n c) n (l.flatMap idL) ∧ Kept [] w w' ∧ ∀ k, k ∈ fp (.slice A n c) → w.heap.size ≤ k
theorem FreshId.len {w w' : World} {l : List (Int × Nat)} {A : Option Addr} {n c : Nat} (h : FreshId w w' l A n c) : n = l.length := (Reads.of_own h.1).lenK idL 2 idL_len (by omega)
theorem FreshId.later {w w' w'' : World} {l : List (Int × Nat)} {A : Option Addr} {n c : Nat} (h : FreshId w w' l A n c) (hk : Kept [] w' w'') : FreshId w w'' l A n c := ⟨own_kept h.1 hk (by simp), h.2.1.trans hk, h.2.2⟩
theorem FreshId.add {w wx w' : World} {l : List (Int × Nat)} {x : Int × Nat} {A A' : Option Addr} {n c c' : Nat} (h : FreshId w wx l A n c) (ha : Appended wx w' 53 2 (.slice A n c) (.slice A' (n + 1) c') (n + 1) (l.flatMap idL ++ idL x)) : FreshId w w' (l ++ [x]) A' (n + 1) c' :=
  ⟨by rw [List.flatMap_append]; simpa using ha.1, h.2.1.trans' ha.2.1 (fun q hq => .inr (h.2.2 q hq)), fun q hq => by
    have := h.2.1.size
    rcases ha.2.2 q hq with h1 | h1
    · exact h.2.2 q h1
    · omega⟩
theorem reads_id (w : World) (t : TypeId) (x : Int × Nat) : Reads (w.alloc (.cells #[.int .i64 x.1, .int .u32 x.2] t)) 2 (some ⟨w.heap.size, 0, none⟩) 1 (idL x) := by
  refine ⟨by simp [idL_len], fun _ => ⟨_, rfl, fun j u hu => ?_⟩⟩
  rw [add_mk, Nat.zero_add, (Blk.new w t _).cell]
  simpa [idL] using hu
theorem idL_one (x : Int × Nat) : ∀ u ∈ idL x, u.oneCell' = true := by
  intro u hu
  simp [idL] at hu
  rcases hu with rfl | rfl <;> rfl

set_option maxHeartbeats 3200000 in
set_option maxRecDepth 100000 in
theorem rlAll_any {w : World} {g : Nat} {A : Option Addr} {c : Nat} {P : List Pl} (h : RlAt w g A c P) (hP : P.length ≤ 64) :
    Calls Try.prog 85 #[.pointer (some ⟨g, 0, none⟩)] w fun e w' => ∃ A' c', e = .returned (.slice A' (allK P P.length).length c') ∧ FreshId w w' (allK P P.length) A' (allK P P.length).length c' := by
  have HAT := Lib.hid (fun W (hk : Kept [] w W) s => rlAt_any (h.old hk) s)
  have HLN := Lib.hid (allK_len P)
  have HC0 : Hid (∀ W, Kept [] w W → W.cell? ⟨g, 0, none⟩ = some (.slice A P.length c) ∧ g < W.heap.size) := fun W hk => ⟨(h.old hk).blk.cell 0, (h.old hk).blk.lt⟩
  have hq := HC0.out w (Kept.refl _ _)
  obtain ⟨hq1, hq2⟩ := hq
  have HX : Hid (∀ k : Nat, k < P.length → takenP P k = (P.getD k Pl.zero).taken ∧ (takenP P k = true → atV P k = ((k : Int), (P.getD k Pl.zero).gen))) := fun k hk => by
    have e : takenP P k = (P.getD k Pl.zero).taken := by unfold takenP; rw [decide_eq_true (by omega), Bool.true_and, Int.toNat_natCast]
    exact ⟨e, fun ht => by unfold atV; rw [if_pos ht, Int.toNat_natCast]⟩
  have HST : Hid (∀ k, allK P (k + 1) = if (P.getD k Pl.zero).taken = true then allK P k ++ [((k : Int), (P.getD k Pl.zero).gen)] else allK P k) := fun k => rfl
  clear h
  obtain ⟨n, hn⟩ : ∃ n, P.length = n := ⟨_, rfl⟩
  rw [hn] at hq1 hP HX ⊢
  clear hn HC0
  go_enter Try.func85, Try.ntmps85
  go_wp2_with fail
  go_loopw [17, 3] (fun kv av wr => ∃ (k : Nat) (A' : Option Addr) (c' : Nat), k ≤ n ∧ kv = .int .i64 k ∧ av = .slice A' (allK P k).length c' ∧ Hid (FreshId w wr (allK P k) A' (allK P k).length c')) (fun k _ _ => n - (intOf k).toNat)
  case atStart => exact ⟨0, none, 0, by omega, rfl, rfl, World.ownsRow_nil _ _ _ _, Kept.refl _ _, by simp [fp, Value.ownBlock]⟩
  case round =>
    obtain ⟨k, A', c', hk, rfl, rfl, HF⟩ := hrel
    by_cases hlt : k < n
    · have HA := Lib.hid (HAT.out _ HF.out.2.1 (k : Int))
      obtain ⟨x1, x2⟩ := HX.out k hlt
      have hst := HST.out k
      have hin : (k : Int) < (n : Int) := by omega
      have hln := HLN.out k
      cases ht : (P.getD k Pl.zero).taken
      · rw [ht] at x1 hst
        rw [x1] at HA
        have HS2 : Hid (allK P (k + 1) = allK P k) := hst
        generalize atV P k = v at *
        obtain ⟨v1, v2⟩ := v
        clear x1 x2 hst ht
        generalize hL : allK P k = L at *
        go_wp2_with fail
        refine (HA.out).mono ?_
        rintro e w1 ⟨rfl, hk1⟩
        have HF1 := Lib.hid (HF.out.later hk1)
        clear hk1
        go_wp2_with fail
        go_roundw
        case rel => exact ⟨k + 1, A', c', by omega, by go_num, by rw [HS2.out], by rw [HS2.out]; exact HF1.out.later ((Kept.refl _ _).alloc _)⟩
        case measure => simp [intOf]; omega
      · rw [ht] at x1 hst
        have hv := x2 x1
        rw [x1, hv] at HA
        have HS2 : Hid (allK P (k + 1) = allK P k ++ [((k : Int), (P.getD k Pl.zero).gen)]) := hst
        generalize (P.getD k Pl.zero).gen = gn at *
        clear x1 x2 hst ht hv
        generalize hL : allK P k = L at *
        go_wp2_with fail
        refine (HA.out).mono ?_
        rintro e w1 ⟨rfl, hk1⟩
        have HF1 := Lib.hid (HF.out.later (hk1.trans ((Kept.refl _ _).alloc (.cells #[.int .i64 (k : Int), .int .u32 gn] 53))))
        have HRD : Hid (Reads ((w1.alloc (.cells #[.int .i64 (k : Int), .int .u32 gn] 53)).alloc (.cells #[.int .i64 (k : Int), .int .u32 gn] 53)) 2 (some ⟨w1.heap.size + 1, 0, none⟩) 1 (idL ((k : Int), gn))) := by
          have h1 := reads_id (w1.alloc (.cells #[.int .i64 (k : Int), .int .u32 gn] 53)) 53 ((k : Int), gn)
          have e : (w1.alloc (.cells #[.int .i64 (k : Int), .int .u32 gn] 53)).heap.size = w1.heap.size + 1 := by simp
          rw [e] at h1
          exact h1
        clear hk1
        go_wp2_with (at_builtin; go_must (refine wpList_append_any _ rfl _ _ _ rfl 53 (.agg #[.int .i64 0, .int .u32 0]) 2 16 Try.underlying133 Try.info53 rfl (by omega) (.slice A' L.length c') L.length (L.flatMap idL) rfl (HF1.out.1.alloc _) (some ⟨_, 0, none⟩) 1 1 (idL ((k : Int), gn)) rfl HRD.out (idL_one _) (by simp only [maxLen]; omega) (by omega) ?_); intro A2 c2 w3 happ; have HA3 := Lib.hid happ; clear happ)
        go_roundw
        case rel =>
          have h1 := (HF1.out.later ((Kept.refl _ _).alloc (.cells #[.int .i64 (k : Int), .int .u32 gn] 53))).add HA3.out
          refine ⟨k + 1, A2, c2, by omega, by go_num, by rw [HS2.out]; simp, ?_⟩
          have e2 : (allK P (k + 1)).length = L.length + 1 := by rw [HS2.out]; simp
          rw [e2, HS2.out]
          exact h1
        case measure => simp [intOf]; omega
    · obtain rfl : k = n := by omega
      go_wp2_with fail
      go_ret
      exact ⟨A', c', rfl, HF.out⟩

end Go.Proofs.Ytccodklfplfleaa
