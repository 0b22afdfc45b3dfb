/- Package web: would there be a ring? walked. -/
import Derived.Test.YtfoeijiejpenpaaDoorLkWeb
import Derived.Test.YtfoeijiejpenpaaDoorSets1
import Derived.Deep.LoopGhost
import Derived.WalkMore
namespace Go.Proofs.YtfoeijiejpenpaaDoor
open Go.RowKit

/-- A thread's chain, up to whom it is gone along: is another one met? -/
def walkF (owner : List Int) (waits : List (Int × Int)) (t u : Int) : Nat → List Bool → Int → Bool → Bool
  | 0, _, _, fd => fd
  | f + 1, met, n, fd => if n = -1 then fd else if n = u then fd else if met.getD n.toNat false then fd else if (fd || n == t) then true else walkF owner waits t u f (met.set n.toNat true) (nextW owner waits n) false
/-- Would there be a ring? -/
def closesF (owner : List Int) (waits : List (Int × Int)) (t u : Int) : Bool := walkF owner waits t u 65 (List.replicate 64 false) (nextW owner waits u) (t == u)
theorem nextW_in {owner : List Int} {waits : List (Int × Int)} {n : Int} (h0 : 0 ≤ n) (h1 : ∀ x ∈ owner, -1 ≤ x ∧ x < n) (h2 : ∀ x ∈ waits, -1 ≤ x.2 ∧ x.2 < n) (t : Int) : -1 ≤ nextW owner waits t ∧ nextW owner waits t < n := by
  unfold nextW
  have hw : -1 ≤ (getW waits t).2 ∧ (getW waits t).2 < n := by
    unfold getW
    split
    · rw [List.getD_eq_getElem?_getD]
      cases h : waits[t.toNat]? with
      | none => simp; omega
      | some x => exact h2 x (List.mem_of_getElem? h)
    · simp; omega
  split
  · exact hw
  · generalize (getW waits t).1 = l
    unfold getO
    split
    · rw [List.getD_eq_getElem?_getD]
      cases h : owner[l.toNat]? with
      | none => simp; omega
      | some x => exact h1 x (List.mem_of_getElem? h)
    · omega

set_option maxHeartbeats 1600000 in
theorem wbCloses1_any (n t : Int) (fd : Bool) (bf bt : Nat) (w : World) (hf : Blk w bf 4 #[.bool fd]) (ht : Blk w bt 3 #[.int .i64 t]) :
    Calls Tryd.prog 72 #[.int .i64 n, .pointer (some ⟨bf, 0, none⟩), .pointer (some ⟨bt, 0, none⟩)] w fun e w' => e = .returned (.bool (!(fd || n == t))) ∧ w' = w.setCell ⟨bf, 0, none⟩ (.bool (fd || n == t)) := by
  have hc : w.cell? ⟨bf, 0, none⟩ = some (.bool fd) := hf.cell 0
  have hfr := hf.frozen
  have hl := hf.lt
  have hct : w.cell? ⟨bt, 0, none⟩ = some (.int .i64 t) := ht.cell 0
  have hlt := ht.lt
  have hne : bf ≠ bt := hf.ne ht (by decide)
  clear hf ht
  cases fd
  · go_enter Tryd.func72, Tryd.ntmps72
    go_wp2
    go_ret
    exact ⟨rfl, rfl⟩
  · go_enter Tryd.func72, Tryd.ntmps72
    go_wp2
    go_ret
    exact ⟨rfl, rfl⟩

set_option maxHeartbeats 3200000 in
set_option maxRecDepth 100000 in
theorem wbwalk_cl {w : World} {gw : Nat} {Ao : Option Addr} {co : Nat} {Aw : Option Addr} {cw : Nat} {owner : List Int} {waits : List (Int × Int)} (h : WebR w gw Ao co Aw cw owner waits) (h1 : ∀ x ∈ owner, -1 ≤ x ∧ x < waits.length) (h2 : ∀ x ∈ waits, -1 ≤ x.2 ∧ x.2 < waits.length)
    (t u : Int) (fd : Bool) (bf bt : Nat) (hf : Blk w bf 4 #[.bool fd]) (ht : Blk w bt 3 #[.int .i64 t]) (hA : ∀ ad, Ao = some ad → ad.block ≠ bf) (hW : ∀ ad, Aw = some ad → ad.block ≠ bf) :
    Calls Tryd.prog 71 #[.pointer (some ⟨gw, 0, none⟩), .int .i64 u, .func (.func 72) #[] #[.pointer (some ⟨bf, 0, none⟩), .pointer (some ⟨bt, 0, none⟩)]] w fun e w' => ∃ b, e = .returned (.bool b) ∧ Blk w' bf 4 #[.bool (walkF owner waits t u 65 (List.replicate 64 false) (nextW owner waits u) fd)] ∧ Kept [bf] w w' := by
  have HN := Lib.hid (fun w' (hk : Kept [bf] w w') n => wbNext_any (w := w') ⟨h.blk.kept hk (by intro hm; exact absurd (List.mem_singleton.1 hm) (h.blk.ne hf (by decide))), h.rowO.kept hk (fun ad e => by simpa using hA ad e), h.rowW.kept hk (fun ad e => by simpa using hW ad e), h.nt, h.nl⟩ n)
  have HR := Lib.hid (fun n => nextW_in (owner := owner) (waits := waits) (n := waits.length) (by omega) h1 h2 n)
  have hnt := h.nt
  obtain ⟨R, hR⟩ : ∃ R, walkF owner waits t u 65 (List.replicate 64 false) (nextW owner waits u) fd = R := ⟨_, rfl⟩
  rw [hR]
  have HRR := Lib.hid hR
  have HF := Lib.hid hf
  have HT := Lib.hid ht
  clear h h1 h2 hf ht hA hW hR
  go_enter Tryd.func71, Tryd.ntmps71
  go_wp2_with fail
  go_step3
  go_wp2_with fail
  go_step3
  go_wp2_with fail
  refine (HN.out _ (by (repeat (first | (with_reducible exact Kept.refl _ _) | (with_reducible assumption) | (with_reducible refine Kept.alloc ?_ _) | (with_reducible refine Kept.drew ?_) | (with_reducible refine Kept.drewN ?_ _) | (with_reducible refine Kept.setCell ?_ ?_ _) | (exact .inr (Nat.le_refl _)) | (exact .inr (by simp only; omega)) | (exact .inr (by omega))))) _).mono ?_
  rintro e w1 ⟨rfl, hk1⟩
  have HB0 : Hid (Blk w1 w.heap.size 65 (bC (List.replicate 64 false))) := (Blk.new w 65 (bC (List.replicate 64 false))).kept hk1 (by simp)
  have HK0 := Lib.hid ((((Kept.refl [] w).alloc (.cells (bC (List.replicate 64 false)) 65)).trans hk1).mono (G' := [bf]) (by simp))
  have HF0 := Lib.hid ((HF.out.alloc (.cells (bC (List.replicate 64 false)) 65)).kept hk1 (by simp))
  clear hk1
  go_wp2_with fail
  go_loopg [8] 65 (fun g nv wr => ∃ (n : Int) (met : List Bool) (fd : Bool), nv = .int .i64 n ∧ met.length = 64 ∧ g = met.count false + 1 ∧ -1 ≤ n ∧ n < waits.length ∧ Hid (walkF owner waits t u g met n fd = R) ∧ Hid (Blk wr w.heap.size 65 (bC met)) ∧ Hid (Blk wr bf 4 #[.bool fd]) ∧ Hid (Kept [bf] w wr))
  case atStart => exact ⟨_, List.replicate 64 false, fd, rfl, rfl, rfl, (HR.out u).1, (HR.out u).2, HRR.out, HB0.out, HF0.out, HK0.out⟩
  case round =>
    clear HRR HB0 HK0 HF0
    obtain ⟨n, met, fd, rfl, hml, rfl, hn0, hn1, HD, HB, HF2, HK⟩ := hrel
    have HT2 := Lib.hid (HT.out.kept HK.out (fun hm => HF.out.ne HT.out (by decide) (List.mem_singleton.1 hm).symm))
    have hd := HD.out
    rw [walkF] at hd
    have HML := Lib.hid hml
    by_cases c1 : n = -1
    · subst c1
      rw [if_pos rfl] at hd
      subst hd
      go_wp2_with fail
      (try simp only [Exit.noGoto_ret])
      go_ret
      exact ⟨false, rfl, HF2.out, HK.out⟩
    · rw [if_neg c1] at hd
      obtain ⟨k, rfl⟩ : ∃ k : Nat, n = k := ⟨n.toNat, by omega⟩
      have hb1 : ((k : Int) == -1) = false := beq_eq_false_iff_ne.2 c1
      by_cases c2 : (k : Int) = u
      · rw [if_pos c2] at hd
        subst hd
        have hb2 : ((k : Int) == u) = true := by rw [c2]; simp
        clear c1 c2
        go_wp2_with fail
        (try simp only [Exit.noGoto_ret])
        go_ret
        exact ⟨true, rfl, HF2.out, HK.out⟩
      · rw [if_neg c2] at hd
        have hb2 : ((k : Int) == u) = false := beq_eq_false_iff_ne.2 c2
        have hk64 : k < 64 := by omega
        simp only [Int.toNat_natCast] at hd
        have hcm : wr.cell? ⟨w.heap.size, k, none⟩ = some (.bool (met.getD k false)) := by rw [HB.out.cell, bC_get _ _ (by rw [HML.out]; exact hk64)]
        have hfm := HB.out.frozen
        have hlm := HB.out.lt
        have hi0 : (0 : Int) ≤ (k : Int) := by omega
        have hi1 : (k : Int) < 64 := by omega
        clear c1 c2 hml
        by_cases c3 : met.getD k false = true
        · rw [if_pos c3] at hd
          subst hd
          rw [c3] at hcm
          go_wp2_with fail
          (try simp only [Exit.noGoto_ret])
          go_ret
          exact ⟨false, rfl, HF2.out, HK.out⟩
        · rw [if_neg c3] at hd
          have c3' : met.getD k false = false := by simpa using c3
          rw [c3'] at hcm
          have HC := Lib.hid (wbCloses1_any k t fd bf bt wr HF2.out HT2.out)
          have HC3 := Lib.hid c3'
          clear c3 c3'
          generalize (fd || (k : Int) == t) = fd2 at *
          have hset : Kept [bf] wr (wr.setCell ⟨bf, 0, none⟩ (.bool fd2)) := (Kept.refl [bf] wr).setCell (.inl (by simp)) _
          have hbm : w.heap.size ∉ [bf] := by intro hm; have := HF.out.lt; have := List.mem_singleton.1 hm; omega
          have HBS := Lib.hid (HB.out.kept hset hbm)
          have HFS : Hid (Blk (wr.setCell ⟨bf, 0, none⟩ (.bool fd2)) bf 4 #[.bool fd2]) := HF2.out.set 0 _
          have HKS := Lib.hid (HK.out.trans hset)
          clear hset hbm
          go_wp2_with fail
          refine (HC.out).mono ?_
          rintro e w2 ⟨rfl, rfl⟩
          clear hcm hfm hlm
          generalize wr.setCell ⟨bf, 0, none⟩ (.bool fd2) = w2 at *
          by_cases c4 : fd2 = true
          · subst c4
            rw [if_pos rfl] at hd
            subst hd
            go_wp2_with fail
            (try simp only [Exit.noGoto_ret])
            go_ret
            exact ⟨false, rfl, HFS.out, HKS.out⟩
          · have c4' : fd2 = false := by simpa using c4
            subst c4'
            rw [if_neg (by simp)] at hd
            have HDD := Lib.hid hd
            have hcm : w2.cell? ⟨w.heap.size, k, none⟩ = some (.bool false) := by rw [HBS.out.cell, bC_get _ _ (by rw [HML.out]; exact hk64), HC3.out]
            have hfm := HBS.out.frozen
            have hlm := HBS.out.lt
            clear hd c4 HC
            have hset : Kept [w.heap.size] w2 (w2.setCell ⟨w.heap.size, k, none⟩ (.bool true)) := (Kept.refl [w.heap.size] w2).setCell (.inl (by simp)) _
            have HB3 : Hid (Blk (w2.setCell ⟨w.heap.size, k, none⟩ (.bool true)) w.heap.size 65 (bC (met.set k true))) := by
              show Blk _ _ _ _
              rw [← bC_set]
              exact HBS.out.set _ _
            have HF3 := Lib.hid (HFS.out.kept hset (by intro hm; have := HF.out.lt; have := List.mem_singleton.1 hm; omega))
            have HK3 := Lib.hid (HKS.out.setCell (p := ⟨w.heap.size, k, none⟩) (.inr (Nat.le_refl _)) (.bool true))
            clear hset
            go_wp2_with fail
            refine (HN.out _ HK3.out _).mono ?_
            rintro e w3 ⟨rfl, hk3⟩
            have HB4 := Lib.hid (HB3.out.kept hk3 (by simp))
            have HF4 := Lib.hid (HF3.out.kept hk3 (by simp))
            have HK4 := Lib.hid (HK3.out.trans (hk3.mono (by simp)))
            clear hk3 hcm hfm hlm
            go_wp2_with fail
            have hcount : (met.set k true).count false + 1 = met.count false := by
              have hlt : k < met.length := by rw [HML.out]; exact hk64
              have hke : met[k] = false := by have := HC3.out; rw [List.getD_eq_getElem?_getD, List.getElem?_eq_getElem hlt] at this; simpa using this
              have := List.count_set (l := met) (i := k) (a := true) (b := false) hlt
              have hpos : 0 < met.count false := List.count_pos_iff.2 (hke ▸ List.getElem_mem hlt)
              simp [hke] at this
              omega
            go_roundg ((met.set k true).count false + 1)
            case measure => omega
            case rel => exact ⟨_, met.set k true, false, rfl, by rw [List.length_set]; exact HML.out, rfl, (HR.out _).1, (HR.out _).2, by rw [hcount]; exact HDD.out, HB4.out, HF4.out, HK4.out⟩

/-- Would there be a ring? For any numbers. -/
def closesM (owner : List Int) (waits : List (Int × Int)) (t u : Int) : Bool := if (0 ≤ t ∧ t < waits.length) ∧ (0 ≤ u ∧ u < waits.length) then closesF owner waits t u else false
set_option maxHeartbeats 3200000 in
theorem wbCloses_any {w : World} {gw : Nat} {Ao : Option Addr} {co : Nat} {Aw : Option Addr} {cw : Nat} {owner : List Int} {waits : List (Int × Int)} (h : WebR w gw Ao co Aw cw owner waits) (h1 : ∀ x ∈ owner, -1 ≤ x ∧ x < waits.length) (h2 : ∀ x ∈ waits, -1 ≤ x.2 ∧ x.2 < waits.length)
    (hA : ∀ ad, Ao = some ad → ad.block < w.heap.size) (hW : ∀ ad, Aw = some ad → ad.block < w.heap.size) (t u : Int) :
    Calls Tryd.prog 50 #[.pointer (some ⟨gw, 0, none⟩), .int .i64 t, .int .i64 u] w fun e w' => e = .returned (.bool (closesM owner waits t u)) ∧ Kept [] w w' := by
  have HT := Lib.hid (fun W (hk : Kept [] w W) t => wbthread_any (h.old hk) t)
  have HW := Lib.hid (fun W (hk : Kept [] w W) t u fd bf bt hf ht (hge : w.heap.size ≤ bf) => wbwalk_cl (h.old hk) h1 h2 t u fd bf bt hf ht (fun ad e => by have := hA ad e; omega) (fun ad e => by have := hW ad e; omega))
  unfold closesM
  clear h h1 h2 hA hW
  by_cases ct : 0 ≤ t ∧ t < waits.length
  · have hd : decide (0 ≤ t ∧ t < (waits.length : Int)) = true := by simp; omega
    by_cases cu : 0 ≤ u ∧ u < waits.length
    · have hd2 : decide (0 ≤ u ∧ u < (waits.length : Int)) = true := by simp; omega
      rw [if_pos ⟨ct, cu⟩]
      have HT1 := Lib.hid (fun W hk => hd ▸ HT.out W hk t)
      have HT2 := Lib.hid (fun W hk => hd2 ▸ HT.out W hk u)
      clear HT hd hd2 ct cu
      unfold closesF
      generalize hR : walkF owner waits t u 65 (List.replicate 64 false) (nextW owner waits u) (t == u) = R
      have HRR := Lib.hid hR
      clear hR
      go_enter Tryd.func50, Tryd.ntmps50
      go_wp2_with fail
      refine (HT1.out _ (by (repeat (first | (with_reducible exact Kept.refl _ _) | (with_reducible assumption) | (with_reducible refine Kept.alloc ?_ _) | (with_reducible refine Kept.drew ?_) | (with_reducible refine Kept.drewN ?_ _) | (with_reducible refine Kept.setCell ?_ ?_ _) | (exact .inr (Nat.le_refl _)) | (exact .inr (by simp only; omega)) | (exact .inr (by omega)))))).mono ?_
      rintro e w1 ⟨rfl, rfl⟩
      go_wp2_with fail
      refine (HT2.out _ (by (repeat (first | (with_reducible exact Kept.refl _ _) | (with_reducible assumption) | (with_reducible refine Kept.alloc ?_ _) | (with_reducible refine Kept.drew ?_) | (with_reducible refine Kept.drewN ?_ _) | (with_reducible refine Kept.setCell ?_ ?_ _) | (exact .inr (Nat.le_refl _)) | (exact .inr (by simp only; omega)) | (exact .inr (by omega)))))).mono ?_
      rintro e w1 ⟨rfl, rfl⟩
      have HB1 := Lib.hid ((Blk.new w 3 #[.int .i64 t]).alloc (.cells #[.bool (t == u)] 4))
      have HB2 : Hid (Blk ((w.alloc (.cells #[.int .i64 t] 3)).alloc (.cells #[.bool (t == u)] 4)) (w.heap.size + 1) 4 #[.bool (t == u)]) := Blk.newAt (by simp) _ _
      go_wp2_with fail
      refine (HW.out _ (show Kept [] w _ by (repeat (first | (with_reducible exact Kept.refl _ _) | (with_reducible assumption) | (with_reducible refine Kept.alloc ?_ _) | (with_reducible refine Kept.drew ?_) | (with_reducible refine Kept.drewN ?_ _) | (with_reducible refine Kept.setCell ?_ ?_ _) | (exact .inr (Nat.le_refl _)) | (exact .inr (by simp only; omega)) | (exact .inr (by omega))))) t u (t == u) (w.heap.size + 1) w.heap.size HB2.out HB1.out (by omega)).mono ?_
      rintro e w2 ⟨b, rfl, hb, hk⟩
      rw [HRR.out] at hb
      have hc := hb.cell
      have hl := hb.lt
      have HK : Hid (Kept [] w w2) := Kept.trans' (show Kept [] w _ by (repeat (first | (with_reducible exact Kept.refl _ _) | (with_reducible assumption) | (with_reducible refine Kept.alloc ?_ _) | (with_reducible refine Kept.drew ?_) | (with_reducible refine Kept.drewN ?_ _) | (with_reducible refine Kept.setCell ?_ ?_ _) | (exact .inr (Nat.le_refl _)) | (exact .inr (by simp only; omega)) | (exact .inr (by omega))))) hk (fun q hq => .inr (by simp at hq; omega))
      clear hb hk
      go_wp2_with fail
      go_ret
      exact ⟨rfl, HK.out⟩
    · have hd2 : decide (0 ≤ u ∧ u < (waits.length : Int)) = false := by simp; omega
      rw [if_neg (fun h => cu h.2)]
      have HT1 := Lib.hid (fun W hk => hd ▸ HT.out W hk t)
      have HT2 := Lib.hid (fun W hk => hd2 ▸ HT.out W hk u)
      clear HT HW hd hd2 ct cu
      go_enter Tryd.func50, Tryd.ntmps50
      go_wp2_with fail
      refine (HT1.out _ (by (repeat (first | (with_reducible exact Kept.refl _ _) | (with_reducible assumption) | (with_reducible refine Kept.alloc ?_ _) | (with_reducible refine Kept.drew ?_) | (with_reducible refine Kept.drewN ?_ _) | (with_reducible refine Kept.setCell ?_ ?_ _) | (exact .inr (Nat.le_refl _)) | (exact .inr (by simp only; omega)) | (exact .inr (by omega)))))).mono ?_
      rintro e w1 ⟨rfl, rfl⟩
      go_wp2_with fail
      refine (HT2.out _ (by (repeat (first | (with_reducible exact Kept.refl _ _) | (with_reducible assumption) | (with_reducible refine Kept.alloc ?_ _) | (with_reducible refine Kept.drew ?_) | (with_reducible refine Kept.drewN ?_ _) | (with_reducible refine Kept.setCell ?_ ?_ _) | (exact .inr (Nat.le_refl _)) | (exact .inr (by simp only; omega)) | (exact .inr (by omega)))))).mono ?_
      rintro e w1 ⟨rfl, rfl⟩
      go_wp2_with fail
      go_ret
      exact ⟨rfl, by (repeat (first | (with_reducible exact Kept.refl _ _) | (with_reducible assumption) | (with_reducible refine Kept.alloc ?_ _) | (with_reducible refine Kept.drew ?_) | (with_reducible refine Kept.drewN ?_ _) | (with_reducible refine Kept.setCell ?_ ?_ _) | (exact .inr (Nat.le_refl _)) | (exact .inr (by simp only; omega)) | (exact .inr (by omega))))⟩
  · have hd : decide (0 ≤ t ∧ t < (waits.length : Int)) = false := by simp; omega
    rw [if_neg (fun h => ct h.1)]
    have HT1 := Lib.hid (fun W hk => hd ▸ HT.out W hk t)
    clear HT HW hd ct
    go_enter Tryd.func50, Tryd.ntmps50
    go_wp2_with fail
    refine (HT1.out _ (by (repeat (first | (with_reducible exact Kept.refl _ _) | (with_reducible assumption) | (with_reducible refine Kept.alloc ?_ _) | (with_reducible refine Kept.drew ?_) | (with_reducible refine Kept.drewN ?_ _) | (with_reducible refine Kept.setCell ?_ ?_ _) | (exact .inr (Nat.le_refl _)) | (exact .inr (by simp only; omega)) | (exact .inr (by omega)))))).mono ?_
    rintro e w1 ⟨rfl, rfl⟩
    go_wp2_with fail
    go_ret
    exact ⟨rfl, by (repeat (first | (with_reducible exact Kept.refl _ _) | (with_reducible assumption) | (with_reducible refine Kept.alloc ?_ _) | (with_reducible refine Kept.drew ?_) | (with_reducible refine Kept.drewN ?_ _) | (with_reducible refine Kept.setCell ?_ ?_ _) | (exact .inr (Nat.le_refl _)) | (exact .inr (by simp only; omega)) | (exact .inr (by omega))))⟩

end Go.Proofs.YtfoeijiejpenpaaDoor
