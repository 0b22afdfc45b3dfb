/- Package gift: road with Worse's function, and Worse, walked. -/
import Derived.Test.YtfoeijiejpenpaaDoorLkGh
import Derived.Test.YtfoeijiejpenpaaDoorSets1
import Derived.Deep.LoopGhost
import Derived.WalkMore
namespace Go.Proofs.YtfoeijiejpenpaaDoor
open Go.RowKit

/-- The walk that makes worse. -/
def roadF (owner level : List Int) (waits : List (Int × Int)) : Nat → List Bool → Int → List Int → List Int → List Int × List Int
  | 0, _, _, out, met => (out, met)
  | f + 1, vis, t, out, met => if ¬ (0 ≤ t ∧ t < waits.length) then (out, met) else if vis.getD t.toNat false then (out, met) else
    if dueM owner level waits out t.toNat = out.getD t.toNat 0 then (out, met)
    else roadF owner level waits f (vis.set t.toNat true) (nextG owner waits t) (out.set t.toNat (dueM owner level waits out t.toNat)) (met ++ [t])
/-- The levels behind a walk that makes worse, and those met. -/
def worseF (owner level : List Int) (waits : List (Int × Int)) (eff : List Int) (t : Int) : List Int × List Int := roadF owner level waits 65 (List.replicate 64 false) t eff []

theorem WorseAt.free {w0 w : World} {bg bo bm b : Nat} {gv : Array Value} {n : Nat} {Am : Option Addr} {cm : Nat} {out met : List Int} (h : WorseAt w0 w bg bo bm b gv n Am cm out met) {g : Nat} {t : TypeId} {cs : Array Value} (hb : Blk w g t cs) (h1 : 29 ≠ t) (h2 : 3 ≠ t) : g ∉ bm :: b :: fp (.slice Am met.length cm) := by
  have hm : Blk w bm 29 _ := h.holds.get (i := 2) rfl
  have hB : Blk w b 3 _ := h.holds.get (i := 3) rfl
  have hr : w.ownsRow 0 3 1 (.slice Am met.length cm) met.length (met.map I64) := h.holds.get (i := 4) rfl
  intro hmem
  rcases List.mem_cons.1 hmem with rfl | hmem
  · exact hm.ne hb h1 rfl
  · rcases List.mem_cons.1 hmem with rfl | hmem
    · exact hB.ne hb h2 rfl
    · exact own_blk_ne hr hb h2 (mem_fp.1 hmem)
theorem WorseAt.block {w0 w w' : World} {bg bo bm b : Nat} {gv : Array Value} {n : Nat} {Am : Option Addr} {cm : Nat} {out met : List Int} (h : WorseAt w0 w bg bo bm b gv n Am cm out met) {g : Nat} {t : TypeId} {cs : Array Value} (hb : Blk w g t cs) (h1 : 29 ≠ t) (h2 : 3 ≠ t) (h3 : 56 ≠ t) (hg : w0.heap.size ≤ g) (hk : Kept [g] w w') : WorseAt w0 w' bg bo bm b gv n Am cm out met := by
  have hf := h.free hb h1 h2
  have h0 : Blk w bg 56 _ := h.holds.get (i := 0) rfl
  have h1' : Blk w bo 29 _ := h.holds.get (i := 1) rfl
  refine ⟨⟨fun p hp => Piece.kept (h.holds.1 p hp) hk (fun q hq hm => ?_), h.holds.2⟩, h.new, h.kept.trans' hk (fun q hq => .inr (by simp at hq; omega))⟩
  obtain rfl := List.mem_singleton.1 hm
  simp only [wP, List.mem_cons, List.not_mem_nil, or_false] at hp
  rcases hp with rfl | rfl | rfl | rfl | rfl
  · simp only [Piece.fp, List.mem_singleton] at hq; subst hq; exact h0.ne hb h3 rfl
  · simp only [Piece.fp, List.mem_singleton] at hq; subst hq; exact h1'.ne hb h1 rfl
  · simp only [Piece.fp, List.mem_singleton] at hq; subst hq; exact hf (by simp)
  · simp only [Piece.fp, List.mem_singleton] at hq; subst hq; exact hf (by simp)
  · exact hf (by simp only [Piece.fp] at hq; simp [hq])

set_option maxHeartbeats 6400000 in
set_option maxRecDepth 100000 in
theorem gfroad_w {w0 w : World} {AV : Option Addr} {cV : Nat} {AW : Option Addr} {cW : Nat} {AO : Option Addr} {cO : Nat} {owner level : List Int} {waits : List (Int × Int)} (h : GrR w0 AV cV AW cW AO cO owner level waits) (bg bo bm b : Nat) (Am : Option Addr) (cm : Nat) (out : List Int)
    (hW : WorseAt w0 w bg bo bm b #[.slice AV level.length cV, .slice AW waits.length cW, .slice AO owner.length cO] waits.length Am cm out []) (hol : out.length = waits.length) (t : Int) :
    Calls Tryd.prog 80 #[.agg #[.slice AV level.length cV, .slice AW waits.length cW, .slice AO owner.length cO], .int .i64 t, .func (.func 81) #[] #[.pointer (some ⟨bg, 0, none⟩), .pointer (some ⟨bo, 0, none⟩), .pointer (some ⟨bm, 0, none⟩)]] w fun e w' => e = .returned (.tuple #[]) ∧
      ∃ Am' cm', WorseAt w0 w' bg bo bm b #[.slice AV level.length cV, .slice AW waits.length cW, .slice AO owner.length cO] waits.length Am' cm' (worseF owner level waits out t).1 (worseF owner level waits out t).2 := by
  have hlen := h.len
  have hnt := h.nt
  have HT := Lib.hid (fun u w => (gfthread_any AV AW AO level.length cV waits.length cW owner.length cO u w (by omega)).mono (R' := fun e w' => e = .returned (.bool (decide (0 ≤ u ∧ u < waits.length))) ∧ Kept [] w w') (fun e w' h' => ⟨by rw [h'.1, hlen], h'.2⟩))
  have HX := Lib.hid (fun W (hk : Kept [] w0 W) k hk' => gfnext_any (h.old hk) k hk')
  have HC := Lib.hid (fun W Am cm out met (hW : WorseAt w0 W bg bo bm b #[.slice AV level.length cV, .slice AW waits.length cW, .slice AO owner.length cO] waits.length Am cm out met) (hol : out.length = waits.length) hml k hk => gfWorse1_any h bg bo bm b Am cm out met (by rw [hol]; exact hW) hol hml k hk)
  obtain ⟨R, hR⟩ : ∃ R, worseF owner level waits out t = R := ⟨_, rfl⟩
  rw [hR]
  have HR := Lib.hid hR
  have HW := Lib.hid hW
  have HOL := Lib.hid hol
  have HB := Lib.hid ((Blk.new w 56 #[.slice AV level.length cV, .slice AW waits.length cW, .slice AO owner.length cO]).alloc (.cells (bC (List.replicate 64 false)) 65))
  have HV : Hid (Blk ((w.alloc (.cells #[.slice AV level.length cV, .slice AW waits.length cW, .slice AO owner.length cO] 56)).alloc (.cells (bC (List.replicate 64 false)) 65)) (w.heap.size + 1) 65 (bC (List.replicate 64 false))) := Blk.newAt (by simp) _ _
  clear hR hlen h hW hol
  go_enter Tryd.func80, Tryd.ntmps80
  go_wp2_with fail
  go_step3
  go_wp2_with fail
  go_step3
  go_wp2_with fail
  go_loopg [1] 65 (fun g tv wr => ∃ (u : Int) (vis : List Bool) (out met : List Int) (Am : Option Addr) (cm : Nat), tv = .int .i64 u ∧ vis.length = 64 ∧ g = vis.count false + 1 ∧ met.length + vis.count false = 64 ∧ Hid (out.length = waits.length) ∧ Hid (roadF owner level waits g vis u out met = R) ∧ Hid (Blk wr w.heap.size 56 #[.slice AV level.length cV, .slice AW waits.length cW, .slice AO owner.length cO]) ∧ Hid (Blk wr (w.heap.size + 1) 65 (bC vis)) ∧ Hid (WorseAt w0 wr bg bo bm b #[.slice AV level.length cV, .slice AW waits.length cW, .slice AO owner.length cO] waits.length Am cm out met))
  case atStart => exact ⟨t, List.replicate 64 false, out, [], Am, cm, rfl, rfl, rfl, rfl, HOL.out, HR.out, HB.out, HV.out, HW.out.old (show Kept [] w _ by (repeat (first | (with_reducible exact Kept.refl _ _) | (with_reducible assumption) | (with_reducible refine Kept.alloc ?_ _) | (with_reducible refine Kept.drew ?_) | (with_reducible refine Kept.drewN ?_ _) | (with_reducible refine Kept.setCell ?_ ?_ _) | (exact .inr (Nat.le_refl _)) | (exact .inr (by simp only; omega)) | (exact .inr (by omega)))))⟩
  case round =>
    have HWS := Lib.hid HW.out.kept.size
    clear HR HB HV HW HOL
    obtain ⟨u, vis, out, met, Am, cm, rfl, hvl, rfl, hmv, HOL, HD, HB, HV, HW⟩ := hrel
    have hbc := HB.out.cell
    have hbl := HB.out.lt
    have HVL := Lib.hid hvl
    have hd := HD.out
    rw [roadF] at hd
    by_cases c1 : 0 ≤ u ∧ u < waits.length
    · rw [if_neg (fun hn => hn c1)] at hd
      obtain ⟨k, rfl⟩ : ∃ k : Nat, u = k := ⟨u.toNat, by omega⟩
      have hku : k < waits.length := by omega
      have hk64 : k < 64 := by omega
      have hdt : decide (0 ≤ (k : Int) ∧ (k : Int) < (waits.length : Int)) = true := by simp; omega
      have HTK := Lib.hid (fun w => hdt ▸ HT.out (k : Int) w)
      simp only [Int.toNat_natCast] at hd
      have hi0 : (0 : Int) ≤ (k : Int) := by omega
      have hi1 : (k : Int) < 64 := by omega
      clear hdt c1 hvl
      by_cases c3 : vis.getD k false = true
      · rw [if_pos c3] at hd
        subst hd
        go_wp2_with fail
        refine (HTK.out _).mono ?_
        rintro e w1 ⟨rfl, hk1⟩
        have HV1 := Lib.hid (HV.out.kept hk1 (by simp))
        have HW1 := Lib.hid (HW.out.old hk1)
        have hcm : w1.cell? ⟨w.heap.size + 1, k, none⟩ = some (.bool true) := by rw [HV1.out.cell, bC_get _ _ (by rw [HVL.out]; exact hk64), c3]
        have hlm := HV1.out.lt
        clear hk1
        go_wp2_with fail
        (try simp only [Exit.noGoto_normal])
        go_end0
        exact ⟨rfl, Am, cm, HW1.out⟩
      · rw [if_neg c3] at hd
        have c3' : vis.getD k false = false := by simpa using c3
        have HC3 := Lib.hid c3'
        have HDD := Lib.hid hd
        clear hd c3 c3' HD
        go_wp2_with fail
        refine (HTK.out _).mono ?_
        rintro e w1 ⟨rfl, hk1⟩
        have HV1 := Lib.hid (HV.out.kept hk1 (by simp))
        have HB1 := Lib.hid (HB.out.kept hk1 (by simp))
        have HW1 := Lib.hid (HW.out.old hk1)
        have hcm : w1.cell? ⟨w.heap.size + 1, k, none⟩ = some (.bool false) := by rw [HV1.out.cell, bC_get _ _ (by rw [HVL.out]; exact hk64), HC3.out]
        have hfm := HV1.out.frozen
        have hlm := HV1.out.lt
        have hset : Kept [w.heap.size + 1] w1 (w1.setCell ⟨w.heap.size + 1, k, none⟩ (.bool true)) := (Kept.refl [w.heap.size + 1] w1).setCell (.inl (by simp)) _
        have HV2 : Hid (Blk (w1.setCell ⟨w.heap.size + 1, k, none⟩ (.bool true)) (w.heap.size + 1) 65 (bC (vis.set k true))) := by
          show Blk _ _ _ _
          rw [← bC_set]
          exact HV1.out.set _ _
        have HB2 := Lib.hid (HB1.out.kept hset (by simp))
        have HW2 := Lib.hid (HW1.out.block HV1.out (by decide) (by decide) (by decide) (by have := HWS.out; omega) hset)
        clear hk1 hset hbc hbl
        go_upto_region 4 with fail
        clear hcm hfm hlm
        generalize w1.setCell ⟨w.heap.size + 1, k, none⟩ (.bool true) = w2 at *
        go_wp2_with fail
        refine (HC.out w2 Am cm out met HW2.out HOL.out (by omega) k hku).mono ?_
        rintro e w3 ⟨hA, hB, hkk⟩
        have HV3 := Lib.hid (HV2.out.kept hkk (HW2.out.free HV2.out (by decide) (by decide)))
        have HB3 := Lib.hid (HB2.out.kept hkk (HW2.out.free HB2.out (by decide) (by decide)))
        clear hkk
        obtain ⟨due, hdue⟩ : ∃ x, dueM owner level waits out k = x := ⟨_, rfl⟩
        have hdd := HDD.out
        rw [hdue] at hA hB hdd
        by_cases heq : due = out.getD k 0
        · obtain ⟨rfl, hw3⟩ := hA heq
          rw [if_pos heq] at hdd
          subst hdd
          have hol := HOL.out
          rw [hol] at hw3
          have HW1 := Lib.hid hw3
          clear hol
          clear hA hB hw3 heq hdue
          go_wp2_with fail
          (try simp only [Exit.noGoto_normal])
          go_end0
          exact ⟨rfl, Am, cm, HW1.out⟩
        · obtain ⟨rfl, Am2, cm2, hw3⟩ := hB heq
          rw [if_neg heq] at hdd
          have HDF := Lib.hid hdd
          have hol := HOL.out
          rw [hol] at hw3
          have HW3 := Lib.hid hw3
          clear hol
          have hbc := HB3.out.cell
          have hbl := HB3.out.lt
          clear hA hB hw3 heq hdue hdd HDD
          go_wp2_with fail
          refine (HX.out _ HW3.out.kept k hku).mono ?_
          rintro e w4 ⟨rfl, hk4⟩
          have HV4 := Lib.hid (HV3.out.kept hk4 (by simp))
          have HB4 := Lib.hid (HB3.out.kept hk4 (by simp))
          have HW4 := Lib.hid (HW3.out.old hk4)
          clear hk4 hbc hbl
          go_wp2_with fail
          have hcount : (vis.set k true).count false + 1 = vis.count false := by
            have hlt : k < vis.length := by rw [HVL.out]; exact hk64
            have hke : vis[k] = false := by have := HC3.out; rw [List.getD_eq_getElem?_getD, List.getElem?_eq_getElem hlt] at this; simpa using this
            have := List.count_set (l := vis) (i := k) (a := true) (b := false) hlt
            have hpos : 0 < vis.count false := List.count_pos_iff.2 (hke ▸ List.getElem_mem hlt)
            simp [hke] at this
            omega
          go_roundg ((vis.set k true).count false + 1)
          case measure => omega
          case rel => exact ⟨_, vis.set k true, out.set k due, met ++ [(k : Int)], Am2, cm2, rfl, by rw [List.length_set]; exact HVL.out, rfl, by simp; omega, by show (out.set k due).length = _; rw [List.length_set]; exact HOL.out, by rw [hcount]; exact HDF.out, HB4.out, HV4.out, HW4.out⟩
    · rw [if_pos c1] at hd
      subst hd
      have hdt : decide (0 ≤ u ∧ u < (waits.length : Int)) = false := by simp; omega
      have HTK := Lib.hid (fun w => hdt ▸ HT.out u w)
      clear hdt
      go_wp2_with fail
      refine (HTK.out _).mono ?_
      rintro e w1 ⟨rfl, hk1⟩
      have HW1 := Lib.hid (HW.out.old hk1)
      clear hk1
      go_wp2_with fail
      (try simp only [Exit.noGoto_normal])
      go_end0
      exact ⟨rfl, Am, cm, HW1.out⟩

theorem worse_init {w w1 : World} {b n : Nat} {gv : Array Value} {out : List Int} (hb : Blk w1 b 3 (out.map I64).toArray) (hg : Blk w1 w.heap.size 56 gv) (h1 : w.heap.size < b) (hk : Kept [] w w1) :
    WorseAt w ((w1.alloc (.cells #[.slice (some ⟨b, 0, none⟩) n n] 29)).alloc (.cells #[.slice none 0 0] 29)) w.heap.size w1.heap.size (w1.heap.size + 1) b gv n none 0 out [] := by
  have hbl := hb.lt
  have hgl := hg.lt
  have hks := hk.size
  have hka : Kept [] w1 ((w1.alloc (.cells #[.slice (some ⟨b, 0, none⟩) n n] 29)).alloc (.cells #[.slice none 0 0] 29)) := ((Kept.refl _ _).alloc _).alloc _
  refine ⟨⟨fun p hp => ?_, fun i j p q hij hp hq k hk1 hk2 => ?_⟩, fun p hp k hk' => ?_, hk.trans hka⟩
  · simp only [wP, List.mem_cons, List.not_mem_nil, or_false] at hp
    rcases hp with rfl | rfl | rfl | rfl | rfl
    · exact hg.kept hka (by simp)
    · exact (Blk.new w1 _ _).alloc _
    · exact Blk.newAt (by simp) _ _
    · exact hb.kept hka (by simp)
    · exact World.ownsRow_nil _ _ _ _
  · have hj : j < 5 := (List.getElem?_eq_some_iff.1 hq).1
    rcases (by omega : (i = 0 ∧ j = 1) ∨ (i = 0 ∧ j = 2) ∨ (i = 0 ∧ j = 3) ∨ (i = 0 ∧ j = 4) ∨ (i = 1 ∧ j = 2) ∨ (i = 1 ∧ j = 3) ∨ (i = 1 ∧ j = 4) ∨ (i = 2 ∧ j = 3) ∨ (i = 2 ∧ j = 4) ∨ (i = 3 ∧ j = 4)) with ⟨rfl, rfl⟩ | ⟨rfl, rfl⟩ | ⟨rfl, rfl⟩ | ⟨rfl, rfl⟩ | ⟨rfl, rfl⟩ | ⟨rfl, rfl⟩ | ⟨rfl, rfl⟩ | ⟨rfl, rfl⟩ | ⟨rfl, rfl⟩ | ⟨rfl, rfl⟩
    all_goals
      simp [wP] at hp hq
      subst hp hq
      simp [Piece.fp, fp, Value.ownBlock] at hk1 hk2
      try omega
  · simp only [wP, List.mem_cons, List.not_mem_nil, or_false] at hp
    rcases hp with rfl | rfl | rfl | rfl | rfl
    all_goals
      simp [Piece.fp, fp, Value.ownBlock] at hk'
      try omega

set_option maxHeartbeats 3200000 in
set_option maxRecDepth 100000 in
theorem gfWorse_any {w : World} {AV : Option Addr} {cV : Nat} {AW : Option Addr} {cW : Nat} {AO : Option Addr} {cO : Nat} {owner level : List Int} {waits : List (Int × Int)} (h : GrR w AV cV AW cW AO cO owner level waits) (eff : List Int) (AE : Option Addr) (cE : Nat) (hE : Reads w 1 AE eff.length (eff.map I64)) (hel : eff.length = waits.length) (hx : ∀ x ∈ eff, 0 ≤ x ∧ x ≤ 8) (t : Int) :
    Calls Tryd.prog 64 #[.agg #[.slice AV level.length cV, .slice AW waits.length cW, .slice AO owner.length cO], .slice AE eff.length cE, .int .i64 t] w fun e w' => ∃ b Am cm, e = .returned (.tuple #[.slice (some ⟨b, 0, none⟩) waits.length waits.length, .slice Am (worseF owner level waits eff t).2.length cm]) ∧
      Blk w' b 3 ((worseF owner level waits eff t).1.map I64).toArray ∧ w.heap.size ≤ b ∧ w'.ownsRow 0 3 1 (.slice Am (worseF owner level waits eff t).2.length cm) (worseF owner level waits eff t).2.length ((worseF owner level waits eff t).2.map I64) ∧ (∀ q, q ∈ fp (.slice Am (worseF owner level waits eff t).2.length cm) → w.heap.size ≤ q) ∧ b ∉ fp (.slice Am (worseF owner level waits eff t).2.length cm) ∧ Kept [] w w' := by
  have HFL : Hid (∀ W, Kept [] w W → Calls Tryd.prog 79 #[.agg #[.slice AV level.length cV, .slice AW waits.length cW, .slice AO owner.length cO], .slice AE eff.length cE] W fun e w' => ∃ b, e = .returned (.slice (some ⟨b, 0, none⟩) waits.length waits.length) ∧ Blk w' b 3 (eff.map I64).toArray ∧ W.heap.size ≤ b ∧ Kept [] W w') := fun W hk => by
    have hf := gffilled_any AV AW AO cV waits.length cW owner.length cO eff AE cE W (hE.old hk) (by rw [hel]; exact h.nt) hx
    rw [hel] at hf
    rw [h.len, hel]
    exact hf
  have HRD := Lib.hid (fun w1 bg bo bm b (hW : WorseAt w w1 bg bo bm b #[.slice AV level.length cV, .slice AW waits.length cW, .slice AO owner.length cO] waits.length none 0 eff []) => gfroad_w h bg bo bm b none 0 eff hW hel t)
  have HBG := Lib.hid (Blk.new w 56 #[.slice AV level.length cV, .slice AW waits.length cW, .slice AO owner.length cO])
  obtain ⟨R, hR⟩ : ∃ R, worseF owner level waits eff t = R := ⟨_, rfl⟩
  rw [hR] at HRD ⊢
  obtain ⟨out, met⟩ := R
  simp only at HRD ⊢
  clear h hE hel hx hR
  go_enter Tryd.func64, Tryd.ntmps64
  go_wp2_with fail
  refine (HFL.out _ (by (repeat (first | (with_reducible exact Kept.refl _ _) | (with_reducible assumption) | (with_reducible refine Kept.alloc ?_ _) | (with_reducible refine Kept.drew ?_) | (with_reducible refine Kept.drewN ?_ _) | (with_reducible refine Kept.setCell ?_ ?_ _) | (exact .inr (Nat.le_refl _)) | (exact .inr (by simp only; omega)) | (exact .inr (by omega)))))).mono ?_
  rintro e w1 ⟨b, rfl, hb, hbg, hk1⟩
  have hg1 := HBG.out.kept hk1 (by simp)
  simp only [World.size_alloc] at hbg
  have HW := Lib.hid (worse_init (n := waits.length) hb hg1 (by omega) (((Kept.refl [] w).alloc _).trans hk1))
  have hgc := hg1.cell
  have hgl := hg1.lt
  have HBG2 := Lib.hid hbg
  clear hb hk1 hg1 hbg
  go_wp2_with fail
  refine (HRD.out _ _ _ _ _ HW.out).mono ?_
  rintro e w2 ⟨rfl, Am, cm, hw2⟩
  have HW2 := Lib.hid hw2
  have hB1 : Blk w2 w1.heap.size 29 _ := hw2.holds.get (i := 1) rfl
  have hB2 : Blk w2 (w1.heap.size + 1) 29 _ := hw2.holds.get (i := 2) rfl
  have hc1 := hB1.cell
  have hc2 := hB2.cell
  have hl1 := hB1.lt
  have hl2 := hB2.lt
  clear hw2 hB1 hB2 hgc hgl
  go_wp2_with fail
  go_big_region
  all_goals
    go_wp2_with fail
    go_ret2
    have hk3 : Kept [] w2 _ := (Kept.refl [] w2).drew
    have hw3 := HW2.out.old hk3
    exact ⟨b, Am, cm, rfl, hw3.holds.get (i := 3) rfl, by have := HBG2.out; omega, hw3.holds.get (i := 4) rfl, fun q hq => hw3.new _ (List.mem_of_getElem? (i := 4) rfl) q hq, hw3.holds.apart (i := 3) (j := 4) (by omega) rfl rfl b (by simp [Piece.fp]), hw3.kept⟩

end Go.Proofs.YtfoeijiejpenpaaDoor
