/- Package gift: Worse's function, road and Worse, walked. -/
import Derived.Test.YtfoeijiejpenpaaDoorLkGg
namespace Go.Proofs.YtfoeijiejpenpaaDoor
open Go.RowKit

/-- What Worse works on: its graph, its levels' slice, its slice of those met, the levels, those met. -/
def wP (bg bo bm b : Nat) (gv : Array Value) (n : Nat) (Am : Option Addr) (cm : Nat) (out met : List Int) : List Piece :=
  [.blk bg 56 gv, .blk bo 29 #[.slice (some ⟨b, 0, none⟩) n n], .blk bm 29 #[.slice Am met.length cm], .blk b 3 (out.map I64).toArray, .row 3 1 (.slice Am met.length cm) met.length (met.map I64)]
/-- Worse's pieces hold. -/
structure WorseAt (w0 w : World) (bg bo bm b : Nat) (gv : Array Value) (n : Nat) (Am : Option Addr) (cm : Nat) (out met : List Int) : Prop where
  holds : Holds w (wP bg bo bm b gv n Am cm out met)
  new : Newer w0 (wP bg bo bm b gv n Am cm out met)
  kept : Kept [] w0 w
theorem WorseAt.old {w0 w w' : World} {bg bo bm b : Nat} {gv : Array Value} {n : Nat} {Am : Option Addr} {cm : Nat} {out met : List Int} (h : WorseAt w0 w bg bo bm b gv n Am cm out met) (hk : Kept [] w w') : WorseAt w0 w' bg bo bm b gv n Am cm out met := ⟨h.holds.old hk, h.new, h.kept.trans hk⟩
theorem reads_blkL {w : World} {b : Nat} {t : TypeId} {xs : List Int} (h : Blk w b t (xs.map I64).toArray) : Reads w 1 (some ⟨b, 0, none⟩) xs.length (xs.map I64) :=
  ⟨by simp, fun _ => ⟨_, rfl, fun j u hu => by rw [add_mk, Nat.zero_add, h.cell, List.getElem?_toArray]; exact hu⟩⟩

set_option maxHeartbeats 6400000 in
theorem gfWorse1_any {w0 w : World} {AV : Option Addr} {cV : Nat} {AW : Option Addr} {cW : Nat} {AO : Option Addr} {cO : Nat} {owner level : List Int} {waits : List (Int × Int)} (h : GrR w0 AV cV AW cW AO cO owner level waits) (bg bo bm b : Nat) (Am : Option Addr) (cm : Nat) (out met : List Int)
    (hW : WorseAt w0 w bg bo bm b #[.slice AV level.length cV, .slice AW waits.length cW, .slice AO owner.length cO] out.length Am cm out met) (hol : out.length = waits.length) (hml : met.length ≤ 1000) (k : Nat) (hk : k < waits.length) :
    Calls Tryd.prog 81 #[.int .i64 k, .pointer (some ⟨bg, 0, none⟩), .pointer (some ⟨bo, 0, none⟩), .pointer (some ⟨bm, 0, none⟩)] w fun e w' => (dueM owner level waits out k = out.getD k 0 → e = .returned (.bool false) ∧ WorseAt w0 w' bg bo bm b #[.slice AV level.length cV, .slice AW waits.length cW, .slice AO owner.length cO] out.length Am cm out met) ∧
      (dueM owner level waits out k ≠ out.getD k 0 → e = .returned (.bool true) ∧ ∃ Am' cm', WorseAt w0 w' bg bo bm b #[.slice AV level.length cV, .slice AW waits.length cW, .slice AO owner.length cO] out.length Am' cm' (out.set k (dueM owner level waits out k)) (met ++ [(k : Int)])) ∧ Kept (bm :: b :: fp (.slice Am met.length cm)) w w' := by
  have hB3 : Blk w b 3 (out.map I64).toArray := hW.holds.get (i := 3) rfl
  have hB0 : Blk w bg 56 _ := hW.holds.get (i := 0) rfl
  have hB1 : Blk w bo 29 _ := hW.holds.get (i := 1) rfl
  have HD := Lib.hid (gfdue_any (h.old hW.kept) out (some ⟨b, 0, none⟩) out.length (reads_blkL hB3) hol k hk)
  have hko : k < out.length := by omega
  have hge : out.getD k 0 = out[k] := by rw [List.getD_eq_getElem?_getD, List.getElem?_eq_getElem hko]; rfl
  have HWW := Lib.hid hW
  have HGE := Lib.hid hge
  have hc0 := hB0.cell
  have hl0 := hB0.lt
  have hc1 : w.cell? ⟨bo, 0, none⟩ = some (.slice (some ⟨b, 0, none⟩) out.length out.length) := hB1.cell 0
  have hl1 := hB1.lt
  have hi0 : (0 : Int) ≤ (k : Int) := by omega
  have hi1 : (k : Int) < (out.length : Int) := by omega
  have HKO := Lib.hid hko
  have HML := Lib.hid hml
  clear hW hB0 hB1 hB3 hge h hol hk hml
  obtain ⟨due, hdue⟩ : ∃ x, dueM owner level waits out k = x := ⟨_, rfl⟩
  rw [hdue] at HD ⊢
  clear hdue
  by_cases heq : due = out.getD k 0
  · have hx : ∀ (P Q R : Prop), P → R → ((due = out.getD k 0 → P) ∧ (due ≠ out.getD k 0 → Q) ∧ R) := fun P Q R hp hr => ⟨fun _ => hp, fun hn => absurd heq hn, hr⟩
    have HX := Lib.hid hx
    clear hx
    go_enter Tryd.func81, Tryd.ntmps81
    go_wp2_with fail
    refine (HD.out).mono ?_
    rintro e w1 ⟨rfl, hk1⟩
    have HW1 := Lib.hid (HWW.out.old hk1)
    have HKK := Lib.hid (hk1.mono (G' := bm :: b :: fp (.slice Am met.length cm)) (by simp))
    have hB3 : Blk w1 b 3 (out.map I64).toArray := HW1.out.holds.get (i := 3) rfl
    have hB1 : Blk w1 bo 29 _ := HW1.out.holds.get (i := 1) rfl
    have hc1 : w1.cell? ⟨bo, 0, none⟩ = some (.slice (some ⟨b, 0, none⟩) out.length out.length) := hB1.cell 0
    have hl1 := hB1.lt
    have hc3 := blk_getL hB3 k HKO.out
    rw [← HGE.out, ← heq] at hc3
    have hl3 := hB3.lt
    clear hk1 hB3 hB1
    go_wp2_with fail
    go_ret
    exact HX.out _ _ _ ⟨rfl, HW1.out⟩ HKK.out
  · have hx : ∀ (P Q R : Prop), Q → R → ((due = out.getD k 0 → P) ∧ (due ≠ out.getD k 0 → Q) ∧ R) := fun P Q R hp hr => ⟨fun h => absurd h heq, fun _ => hp, hr⟩
    have HX := Lib.hid hx
    rw [HGE.out] at heq
    have hbe : (due == out[k]) = false := beq_eq_false_iff_ne.2 heq
    clear hx heq
    go_enter Tryd.func81, Tryd.ntmps81
    go_wp2_with fail
    refine (HD.out).mono ?_
    rintro e w1 ⟨rfl, hk1⟩
    have HW1 := Lib.hid (HWW.out.old hk1)
    have HKK := Lib.hid (hk1.mono (G' := bm :: b :: fp (.slice Am met.length cm)) (by simp))
    have hB3 : Blk w1 b 3 (out.map I64).toArray := HW1.out.holds.get (i := 3) rfl
    have hB1 : Blk w1 bo 29 _ := HW1.out.holds.get (i := 1) rfl
    have hc1 : w1.cell? ⟨bo, 0, none⟩ = some (.slice (some ⟨b, 0, none⟩) out.length out.length) := hB1.cell 0
    have hl1 := hB1.lt
    have hc3 := blk_getL hB3 k hko
    have hf3 := hB3.frozen
    have hl3 := hB3.lt
    have hset : Kept [b] w1 (w1.setCell ⟨b, k, none⟩ (.int .i64 due)) := (Kept.refl [b] w1).setCell (.inl (by simp)) _
    have h2 := HW1.out.holds.turn (i := 3) rfl hset (p' := .blk b 3 ((out.set k due).map I64).toArray) (blk_setL hB3 k due) (fun q hq => .inl hq)
    have h2n := HW1.out.new.turn (i := 3) rfl HW1.out.kept.size (p' := .blk b 3 ((out.set k due).map I64).toArray) (fun q hq => .inl hq)
    have HW2 : Hid (WorseAt w0 (w1.setCell ⟨b, k, none⟩ (.int .i64 due)) bg bo bm b #[.slice AV level.length cV, .slice AW waits.length cW, .slice AO owner.length cO] out.length Am cm (out.set k due) met) := ⟨h2, h2n, HW1.out.new.kept (i := 3) rfl HW1.out.kept hset⟩
    have hM2 : Blk (w1.setCell ⟨b, k, none⟩ (.int .i64 due)) bm 29 _ := HW2.out.holds.get (i := 2) rfl
    have hcm : (w1.setCell ⟨b, k, none⟩ (.int .i64 due)).cell? ⟨bm, 0, none⟩ = some (.slice Am met.length cm) := hM2.cell 0
    have hlm := hM2.lt
    have HO : Hid (∀ W, Kept [] (w1.setCell ⟨b, k, none⟩ (.int .i64 due)) W → W.ownsRow 0 3 1 (.slice Am met.length cm) met.length (met.map I64)) := fun W hk => (HW2.out.old hk).holds.get (i := 4) rfl
    have hmlx := HML.out
    generalize out[k] = y at *
    clear h2 h2n hset hM2 hB3 hB1 hk1
    go_upto_region 5 with fail
    clear hc3 hf3 hl3 hc1 hl1 hc0 hl0
    have HKB : Hid (Kept (bm :: b :: fp (.slice Am met.length cm)) w (w1.setCell ⟨b, k, none⟩ (.int .i64 due))) := HKK.out.setCell (.inl (by simp)) _
    generalize w1.setCell ⟨b, k, none⟩ (.int .i64 due) = w2 at *
    go_wp2_with (at_builtin; refine wpList_append_any _ rfl _ _ 29 rfl 3 (.int .i64 0) 1 8 Tryd.underlying29 Tryd.infoInt rfl (by decide) (.slice Am met.length cm) met.length (met.map I64) rfl (HO.out _ (by (repeat (first | (with_reducible exact Kept.refl _ _) | (with_reducible assumption) | (with_reducible refine Kept.alloc ?_ _) | (with_reducible refine Kept.drew ?_) | (with_reducible refine Kept.drewN ?_ _) | (with_reducible refine Kept.setCell ?_ ?_ _) | (exact .inr (Nat.le_refl _)) | (exact .inr (by simp only; omega)) | (exact .inr (by omega)))))) _ 1 1 [.int .i64 k] rfl (reads_one _ _ _) (by simp; rfl) (by simp only [maxLen]; omega) (by omega) ?_; rintro A2 c2 w3 happ; have HA := Lib.hid happ; have HW3 := Lib.hid ((HW2.out.old (show Kept [] w2 _ by (repeat (first | (with_reducible exact Kept.refl _ _) | (with_reducible assumption) | (with_reducible refine Kept.alloc ?_ _) | (with_reducible refine Kept.drew ?_) | (with_reducible refine Kept.drewN ?_ _) | (with_reducible refine Kept.setCell ?_ ?_ _) | (exact .inr (Nat.le_refl _)) | (exact .inr (by simp only; omega)) | (exact .inr (by omega)))))).holds.turn (i := 4) rfl happ.2.1 (p' := .row 3 1 (.slice A2 (met.length + 1) c2) (met.length + 1) (met.map I64 ++ [I64 (k : Int)])) happ.1 happ.2.2); have hM3 : Blk w3 bm 29 _ := HW3.out.get (i := 2) rfl; have hcm3 : w3.cell? ⟨bm, 0, none⟩ = some (.slice Am met.length cm) := hM3.cell 0; have hfm3 := hM3.frozen; have hlm3 := hM3.lt; clear happ hM3)
    have hw2 := HW2.out.old ((Kept.refl [] w2).alloc (.cells #[.int .i64 (k : Int)] 3))
    have hn3 := hw2.new.turn (i := 4) rfl hw2.kept.size (p' := .row 3 1 (.slice A2 (met.length + 1) c2) (met.length + 1) (met.map I64 ++ [I64 (k : Int)])) HA.out.2.2
    have hk3 := hw2.new.kept (i := 4) rfl hw2.kept HA.out.2.1
    have hset4 : Kept [bm] w3 (w3.setCell ⟨bm, 0, none⟩ (.slice A2 (met.length + 1) c2)) := (Kept.refl [bm] w3).setCell (.inl (by simp)) _
    have hM3 : Blk w3 bm 29 #[.slice Am met.length cm] := HW3.out.get (i := 2) rfl
    have h4 := HW3.out.turn (i := 2) rfl hset4 (p' := .blk bm 29 #[.slice A2 (met.length + 1) c2]) (hM3.set 0 _) (fun q hq => .inl hq)
    have hn4 := hn3.turn (i := 2) rfl hk3.size (p' := .blk bm 29 #[.slice A2 (met.length + 1) c2]) (fun q hq => .inl hq)
    have hk4 := hn3.kept (i := 2) rfl hk3 hset4
    have hlen : (met ++ [(k : Int)]).length = met.length + 1 := by simp
    have hmap : (met ++ [(k : Int)]).map I64 = met.map I64 ++ [I64 (k : Int)] := by simp [I64]
    have HF : Hid (WorseAt w0 (w3.setCell ⟨bm, 0, none⟩ (.slice A2 (met.length + 1) c2)) bg bo bm b #[.slice AV level.length cV, .slice AW waits.length cW, .slice AO owner.length cO] out.length A2 c2 (out.set k due) (met ++ [(k : Int)])) := by
      refine ⟨?_, ?_, hk4⟩
      · unfold wP; rw [hlen, hmap]; exact h4
      · unfold wP; rw [hlen, hmap]; exact hn4
    have HKF : Hid (Kept (bm :: b :: fp (.slice Am met.length cm)) w (w3.setCell ⟨bm, 0, none⟩ (.slice A2 (met.length + 1) c2))) := ((HKB.out.trans (((Kept.refl [] w2).alloc (.cells #[.int .i64 (k : Int)] 3)).mono (by simp))).trans (HA.out.2.1.mono (fun q hq => by simp [hq]))).trans (hset4.mono (fun q hq => by simp at hq; simp [hq]))
    clear h4 hn4 hk4 hn3 hk3 hset4 hM3 hw2 hlen hmap
    go_wp2_with fail
    go_ret
    exact HX.out _ _ _ ⟨rfl, A2, c2, HF.out⟩ HKF.out

end Go.Proofs.YtfoeijiejpenpaaDoor
