/- The document's Parse of a deed's line answers as parseD says (printed by a program: gen/refparse.py); Law 07: DeedParses: the walk; The moves of a walk through a region that draws its order, by hand: take an operation first; branch over those that may come up (printed by a program: gen/region.py). -/
import Derived.Test.YtladfdpcdjjifaaGreatDoorDeedPR2
import Derived.Test.YtladfdpcdjjifaaGreatDoorDeedA
import Derived.Deep.RegionHeld3

/- The document's Parse of a deed's line answers as parseD says (printed by a program: gen/refparse.py). -/
namespace Go.Proofs.YtladfdpcdjjifaaGreatDoor
open Go.RowKit

set_option maxHeartbeats 3200000 in
set_option maxRecDepth 100000 in
theorem refParse_word (l w0 : List UInt8) (ws : List (List UInt8)) (w : World) (hl : l.length ≤ 100000) (hw : words l = w0 :: ws) (hop : opOf w0 = 0) :
    Calls Tryz.prog 38 #[strV l] w fun e w' => e = .returned (.tuple #[.agg (dC 0 0 0 0 0 0 false), .int .i64 15]) ∧ Kept [] w w' := by
  have HW := Lib.hid (fun w => refWords l w hl)
  rw [hw] at HW
  have HOP := Lib.hid (fun w => refOp w0 w)
  rw [hop] at HOP
  simp only [List.length_cons] at HW
  clear hw hop
  go_enter Tryz.func38, Tryz.ntmps38
  go_wp2_with fail
  refine (HW.out _).mono ?_
  rintro e wa ⟨A, c, rfl, hF⟩
  have hk := hF.2.1
  obtain ⟨bw, ow, rfl, hbl, hcell⟩ := (Reads.of_own hF.1).addr (by omega) (by omega)
  have hc0 := hcell 0 (strV w0) (by simp)
  rw [Nat.add_zero] at hc0
  have HKA := Lib.hid (((Kept.refl [] w).alloc _).trans hk)
  have HBA := Lib.hid ((Blk.new w 60 (dC 0 0 0 0 0 0 false)).kept hk (by simp))
  have hi0 : (0 : Int) < (ws.length : Int) + 1 := by omega
  have hne0 : (((ws.length : Int) + 1) == 0) = false := beq_eq_false_iff_ne.2 (by omega)
  clear hF hk hcell
  go_wp2_with fail
  refine (HOP.out _).mono ?_
  rintro e wb ⟨rfl, hkb1⟩
  have hc0b := hkb1.cell_some hc0 (by simp)
  have HKb := Lib.hid (HKA.out.trans hkb1)
  have HBb := Lib.hid (HBA.out.kept hkb1 (by simp))
  clear hkb1 hc0 HKA HBA
  have hcr := HBb.out.cell
  have hfr := HBb.out.frozen
  have hlr := HBb.out.lt
  go_wp2_with fail
  refine bodyPost_ret (v := .tuple #[.agg (dC 0 0 0 0 0 0 false), .int .i64 15]) (by simp [results, Tryz.results38, go_sem, hcr]) rfl ⟨rfl, ?_⟩
  have hk2 := HKb.out
  (repeat (first | (with_reducible exact Kept.refl _ _) | (with_reducible assumption) | (with_reducible refine Kept.alloc ?_ _) | (with_reducible refine Kept.drew ?_) | (with_reducible refine Kept.drewN ?_ _) | (with_reducible refine Kept.setCell ?_ ?_ _) | (exact .inr (Nat.le_refl _)) | (exact .inr (by simp only; omega)) | (exact .inr (by omega))))

set_option maxHeartbeats 3200000 in
set_option maxRecDepth 100000 in
theorem refParse_lenM (l w0 : List UInt8) (ws : List (List UInt8)) (h4 : ws.length ≠ 4) (h5 : ws.length ≠ 5) (w : World) (hl : l.length ≤ 100000) (hw : words l = w0 :: ws) (hop : opOf w0 = 2) :
    Calls Tryz.prog 38 #[strV l] w fun e w' => e = .returned (.tuple #[.agg (dC 0 0 0 0 0 0 false), .int .i64 3]) ∧ Kept [] w w' := by
  have HW := Lib.hid (fun w => refWords l w hl)
  rw [hw] at HW
  have HOP := Lib.hid (fun w => refOp w0 w)
  rw [hop] at HOP
  simp only [List.length_cons] at HW
  have HPA := Lib.hid (fun w => refParts 2 w)
  have hkb : ((2 : Int) == 0) = false := beq_eq_false_iff_ne.2 (by omega)
  rw [show partsL 2 = [65, 66, 82, 77, 76] from rfl] at HPA
  have h4b : ((ws.length : Int) + 1 == 5) = false := beq_eq_false_iff_ne.2 (by omega)
  have h5b : ((ws.length : Int) + 1 != 6) = true := by rw [bne_iff_ne]; omega
  clear hw hop
  go_enter Tryz.func38, Tryz.ntmps38
  go_wp2_with fail
  refine (HW.out _).mono ?_
  rintro e wa ⟨A, c, rfl, hF⟩
  have hk := hF.2.1
  obtain ⟨bw, ow, rfl, hbl, hcell⟩ := (Reads.of_own hF.1).addr (by omega) (by omega)
  have hc0 := hcell 0 (strV w0) (by simp)
  rw [Nat.add_zero] at hc0
  have HKA := Lib.hid (((Kept.refl [] w).alloc _).trans hk)
  have HBA := Lib.hid ((Blk.new w 60 (dC 0 0 0 0 0 0 false)).kept hk (by simp))
  have hi0 : (0 : Int) < (ws.length : Int) + 1 := by omega
  have hne0 : (((ws.length : Int) + 1) == 0) = false := beq_eq_false_iff_ne.2 (by omega)
  clear hF hk hcell
  go_wp2_with fail
  refine (HOP.out _).mono ?_
  rintro e wb ⟨rfl, hkb1⟩
  have hc0b := hkb1.cell_some hc0 (by simp)
  have HKb := Lib.hid (HKA.out.trans hkb1)
  have HBb := Lib.hid (HBA.out.kept hkb1 (by simp))
  clear hkb1 hc0 HKA HBA
  go_wp2_with fail
  refine (HOP.out _).mono ?_
  rintro e wc ⟨rfl, hkc1⟩
  have HKc := Lib.hid (HKb.out.trans hkc1)
  have HBc := Lib.hid (HBb.out.kept hkc1 (by simp))
  clear hkc1 hc0b HKb HBb
  go_wp2_with fail
  refine (HPA.out _).mono ?_
  rintro e wd ⟨rfl, hkd1⟩
  have HKd := Lib.hid ((HKc.out.alloc _).trans hkd1)
  have HBd := Lib.hid ((HBc.out.alloc _).kept hkd1 (by simp))
  have hcd := ((Blk.new wc 60 (dC 2 0 0 0 0 0 false)).kept hkd1 (by simp)).cell
  clear hkd1 HKc HBc
  rw [show (strV [65, 66, 82, 77, 76]) = Value.string ⟨#[65, 66, 82, 77, 76]⟩ from rfl]
  have hcr := HBd.out.cell
  have hfr := HBd.out.frozen
  have hlr := HBd.out.lt
  go_wp2_with fail
  refine bodyPost_ret (v := .tuple #[.agg (dC 0 0 0 0 0 0 false), .int .i64 3]) (by simp [results, Tryz.results38, go_sem, hcr]) rfl ⟨rfl, ?_⟩
  have hk2 := HKd.out
  (repeat (first | (with_reducible exact Kept.refl _ _) | (with_reducible assumption) | (with_reducible refine Kept.alloc ?_ _) | (with_reducible refine Kept.drew ?_) | (with_reducible refine Kept.drewN ?_ _) | (with_reducible refine Kept.setCell ?_ ?_ _) | (exact .inr (Nat.le_refl _)) | (exact .inr (by simp only; omega)) | (exact .inr (by omega))))

set_option maxHeartbeats 3200000 in
set_option maxRecDepth 100000 in
theorem refParse_lenN (l w0 : List UInt8) (ws : List (List UInt8)) (op : Int) (hk0 : 1 ≤ op) (h2 : op ≠ 2) (hlen : ws.length ≠ (partsL op).length) (w : World) (hl : l.length ≤ 100000) (hw : words l = w0 :: ws) (hop : opOf w0 = op) :
    Calls Tryz.prog 38 #[strV l] w fun e w' => e = .returned (.tuple #[.agg (dC 0 0 0 0 0 0 false), .int .i64 3]) ∧ Kept [] w w' := by
  have HW := Lib.hid (fun w => refWords l w hl)
  rw [hw] at HW
  have HOP := Lib.hid (fun w => refOp w0 w)
  rw [hop] at HOP
  simp only [List.length_cons] at HW
  have HPA := Lib.hid (fun w => refParts op w)
  have hkb : ((op : Int) == 0) = false := beq_eq_false_iff_ne.2 (by omega)
  obtain ⟨ps, hps⟩ : ∃ ps, partsL op = ps := ⟨_, rfl⟩
  have hpl : ps.length ≤ 5 := by rw [← hps]; exact partsL_len op
  rw [hps] at HPA hlen
  have h2b : (op == 2) = false := beq_eq_false_iff_ne.2 h2
  have hwl : ((ws.length : Int) + 1 != (ps.length : Int) + 1) = true := by rw [bne_iff_ne]; omega
  clear hps
  clear hw hop
  go_enter Tryz.func38, Tryz.ntmps38
  go_wp2_with fail
  refine (HW.out _).mono ?_
  rintro e wa ⟨A, c, rfl, hF⟩
  have hk := hF.2.1
  obtain ⟨bw, ow, rfl, hbl, hcell⟩ := (Reads.of_own hF.1).addr (by omega) (by omega)
  have hc0 := hcell 0 (strV w0) (by simp)
  rw [Nat.add_zero] at hc0
  have HKA := Lib.hid (((Kept.refl [] w).alloc _).trans hk)
  have HBA := Lib.hid ((Blk.new w 60 (dC 0 0 0 0 0 0 false)).kept hk (by simp))
  have hi0 : (0 : Int) < (ws.length : Int) + 1 := by omega
  have hne0 : (((ws.length : Int) + 1) == 0) = false := beq_eq_false_iff_ne.2 (by omega)
  clear hF hk hcell
  go_wp2_with fail
  refine (HOP.out _).mono ?_
  rintro e wb ⟨rfl, hkb1⟩
  have hc0b := hkb1.cell_some hc0 (by simp)
  have HKb := Lib.hid (HKA.out.trans hkb1)
  have HBb := Lib.hid (HBA.out.kept hkb1 (by simp))
  clear hkb1 hc0 HKA HBA
  go_wp2_with fail
  refine (HOP.out _).mono ?_
  rintro e wc ⟨rfl, hkc1⟩
  have HKc := Lib.hid (HKb.out.trans hkc1)
  have HBc := Lib.hid (HBb.out.kept hkc1 (by simp))
  clear hkc1 hc0b HKb HBb
  go_wp2_with fail
  refine (HPA.out _).mono ?_
  rintro e wd ⟨rfl, hkd1⟩
  have HKd := Lib.hid ((HKc.out.alloc _).trans hkd1)
  have HBd := Lib.hid ((HBc.out.alloc _).kept hkd1 (by simp))
  have hcd := ((Blk.new wc 60 (dC op 0 0 0 0 0 false)).kept hkd1 (by simp)).cell
  clear hkd1 HKc HBc
  have hcr := HBd.out.cell
  have hfr := HBd.out.frozen
  have hlr := HBd.out.lt
  go_wp2_with fail
  refine bodyPost_ret (v := .tuple #[.agg (dC 0 0 0 0 0 0 false), .int .i64 3]) (by simp [results, Tryz.results38, go_sem, hcr]) rfl ⟨rfl, ?_⟩
  have hk2 := HKd.out
  (repeat (first | (with_reducible exact Kept.refl _ _) | (with_reducible assumption) | (with_reducible refine Kept.alloc ?_ _) | (with_reducible refine Kept.drew ?_) | (with_reducible refine Kept.drewN ?_ _) | (with_reducible refine Kept.setCell ?_ ?_ _) | (exact .inr (Nat.le_refl _)) | (exact .inr (by simp only; omega)) | (exact .inr (by omega))))

theorem partsR_parse (l w0 : List UInt8) (ws : List (List UInt8)) (op : Int) (ps : List UInt8) (hw : words l = w0 :: ws) (hop : opOf w0 = op) (h0 : op ≠ 0) (hps : ps = if op = 2 ∧ ws.length = 4 then [65, 66, 82, 77] else partsL op) (hlen : ws.length = ps.length) : parseD 64 l = partsR op (ps.zip ws) := by
  rw [parseD, hw]
  simp only [hop, if_neg h0, ← hps, partsR]
  rw [if_neg (by omega)]

theorem parseD_lenbad (l w0 : List UInt8) (ws : List (List UInt8)) (ps : List UInt8) (hw : words l = w0 :: ws) (h0 : opOf w0 ≠ 0) (hps : (if opOf w0 = 2 ∧ ws.length = 4 then [65, 66, 82, 77] else partsL (opOf w0)) = ps) (hlen : ws.length ≠ ps.length) : parseD 64 l = (Dd.zero, 3) := by
  rw [parseD, hw]
  simp only [if_neg h0, hps]
  rw [if_pos hlen]

theorem partsL_mem (op : Int) : ∀ c ∈ partsL op, c = 65 ∨ c = 66 ∨ c = 82 ∨ c = 78 ∨ c = 77 ∨ c = 76 := by
  unfold partsL
  (repeat' split) <;> simp

theorem opOf_nn (w0 : List UInt8) : 0 ≤ opOf w0 := by unfold opOf; (repeat' split) <;> omega

/-- The document's Parse. -/
theorem refParse_any (l : List UInt8) (w : World) (hl : l.length ≤ 100000) :
    Calls Tryz.prog 38 #[strV l] w fun e w' => e = .returned (.tuple #[.agg (dCd (parseD 64 l).1), .int .i64 (parseD 64 l).2]) ∧ Kept [] w w' := by
  have hxl : ∀ x ∈ words l, x.length ≤ 100000 := fun x hx => by have := (words_len0 l []).1 x hx; simp at this; omega
  cases hw : words l with
  | nil => rw [parseD_none 64 l hw]; exact refParse_none l w hl hw
  | cons w0 ws =>
    have hxw : ∀ x ∈ ws, x.length ≤ 100000 := fun x hx => hxl x (by rw [hw]; simp [hx])
    by_cases h0 : opOf w0 = 0
    · rw [parseD_word 64 l w0 ws hw h0]; exact refParse_word l w0 ws w hl hw h0
    · have hp := opOf_nn w0
      by_cases h2 : opOf w0 = 2
      · by_cases h4 : ws.length = 4
        · rw [partsR_parse l w0 ws 2 [65, 66, 82, 77] hw h2 (by omega) (by rw [if_pos ⟨rfl, h4⟩]) (by simpa using h4)]
          exact refParse_runA l w0 ws 2 [65, 66, 82, 77] w hl hw h2 (by omega) ⟨rfl, rfl⟩ (by simpa using h4) hxw (by simp) (by simp)
        · by_cases h5 : ws.length = 5
          · rw [partsR_parse l w0 ws 2 [65, 66, 82, 77, 76] hw h2 (by omega) (by rw [if_neg (fun h => h4 h.2)]; rfl) (by simpa using h5)]
            exact refParse_runC l w0 ws 2 [65, 66, 82, 77, 76] w hl hw h2 (by omega) ⟨rfl, rfl⟩ (by simpa using h5) hxw (by simp) (by simp)
          · rw [parseD_lenbad l w0 ws _ hw h0 (if_neg (fun h => h4 h.2)) (by rw [h2]; exact h5)]
            exact refParse_lenM l w0 ws h4 h5 w hl hw h2
      · by_cases hlen : ws.length = (partsL (opOf w0)).length
        · rw [partsR_parse l w0 ws _ _ hw rfl h0 (by rw [if_neg (fun h => h2 h.1)]) hlen]
          exact refParse_runB l w0 ws _ _ w hl hw rfl (by omega) rfl h2 hlen hxw (partsL_len _) (partsL_mem _)
        · rw [parseD_lenbad l w0 ws _ hw h0 (if_neg (fun h => h2 h.1)) hlen]
          exact refParse_lenN l w0 ws _ (by omega) h2 hlen w hl hw rfl

end Go.Proofs.YtladfdpcdjjifaaGreatDoor

/- Law 07: DeedParses: the walk. -/
namespace Go.Proofs.YtladfdpcdjjifaaGreatDoor
open Go.RowKit

/-- Two deeds that differ in small parts alone that are too great. -/
def Sim (x y : Dd) : Prop := x.op = y.op ∧ (x.a = y.a ∨ 64 ≤ x.a ∧ 64 ≤ y.a) ∧ (x.b = y.b ∨ 64 ≤ x.b ∧ 64 ≤ y.b) ∧ (x.r = y.r ∨ 64 ≤ x.r ∧ 64 ≤ y.r) ∧ x.n = y.n ∧ x.mask = y.mask ∧ x.loose = y.loose
theorem Sim.fill {x y : Dd} (h : Sim x y) (cw : UInt8 × List UInt8) : Sim (fillP 64 x cw) (fillP 1048576 y cw) := by
  obtain ⟨h1, h2, h3, h4, h5, h6, h7⟩ := h
  have hm : ((min (readD cw.2).1 64 : Nat) : Int) = ((min (readD cw.2).1 1048576 : Nat) : Int) ∨ 64 ≤ ((min (readD cw.2).1 64 : Nat) : Int) ∧ 64 ≤ ((min (readD cw.2).1 1048576 : Nat) : Int) := by omega
  unfold fillP
  (repeat' split) <;> exact ⟨by assumption, by assumption, by assumption, by assumption, by first | assumption | rfl, by first | assumption | rfl, by first | assumption | rfl⟩
theorem Sim.foldl (l : List (UInt8 × List UInt8)) : ∀ {x y : Dd}, Sim x y → Sim (l.foldl (fillP 64) x) (l.foldl (fillP 1048576) y) := by
  induction l with
  | nil => exact fun h => h
  | cons a t ih => exact fun h => ih (h.fill a)
theorem Sim.good {x y : Dd} (h : Sim x y) : (if goodD x then (x, (0 : Int)) else (Dd.zero, 5)) = if goodD y then (y, 0) else (Dd.zero, 5) := by
  by_cases he : x = y
  · rw [he]
  · have hx : goodD x = false := by
      rw [← Bool.not_eq_true]; intro hg
      have := goodD_ranges hg
      obtain ⟨h1, h2, h3, h4, h5, h6, h7⟩ := h
      exact he (Dd.ext' h1 (by omega) (by omega) (by omega) h5 h6 h7)
    have hy : goodD y = false := by
      rw [← Bool.not_eq_true]; intro hg
      have := goodD_ranges hg
      obtain ⟨h1, h2, h3, h4, h5, h6, h7⟩ := h
      exact he (Dd.ext' h1 (by omega) (by omega) (by omega) h5 h6 h7)
    rw [hx, hy]; rfl
/-- It is the same from which number on a small part is too great. -/
theorem parse_same (l : List UInt8) : parseD 64 l = parseD 1048576 l := by
  unfold parseD
  cases words l with
  | nil => rfl
  | cons w0 ws =>
    simp only
    generalize (if opOf w0 = 2 ∧ ws.length = 4 then [65, 66, 82, 77] else partsL (opOf w0)) = ps
    split
    · rfl
    · split
      · rfl
      · split
        · rfl
        · exact (Sim.foldl _ ⟨rfl, .inl rfl, .inl rfl, .inl rfl, rfl, rfl, rfl⟩).good

end Go.Proofs.YtladfdpcdjjifaaGreatDoor

/- The moves of a walk through a region that draws its order, by hand: take an operation first; branch over those that may come up (printed by a program: gen/region.py). -/
namespace Go.Proofs.YtladfdpcdjjifaaGreatDoor
open Go

section
variable {P : Program} {md : Region.Mode} {Q : Exit → Act → World → Prop} {S : World → Prop} {fuel : Nat} {listed : Array Bool} {a : Act} {w : World}

theorem rtake_0 {o0 : Oper} {r : List Oper} {v : Value} (hs : Region.noSelect (List.toArray (o0 :: r)) = true) (hf : Region.free md (List.toArray (o0 :: r)) listed 0 = true) (hr : (Region.ready md (List.toArray (o0 :: r)) listed).contains 0 = true)
    (hQ : ∀ c a w, Q (.panic c) (a.put o0.dst v) w → Q (.panic c) a w) (hy : YieldsIf P (List.toArray (o0 :: r)) S o0 v a) (hS : S w) (h : wpAnyH P md (List.toArray (o0 :: r)) Q S fuel (listed.setIfInBounds 0 true) (a.put o0.dst v) w) : wpAnyH P md (List.toArray (o0 :: r)) Q S (fuel + 1) listed a w :=
  wpAnyH_take (i := 0) rfl hs hf hr hQ hy hS h
theorem rcons_0 {o0 : Oper} {r : List Oper} {rs : List Nat}
    (h : ∀ K' : Act → World → Prop, Shut (∀ a w, S w → (S w → wpAnyH P md (List.toArray (o0 :: r)) Q S fuel (listed.setIfInBounds 0 true) a w) → K' a w) → if Region.wanted o0 (yielded (List.toArray (o0 :: r)) a.tmps) = true then Oper.wp P o0 a w K' Q else K' (a.put o0.dst undef) w)
    (hs : AllReadyH P md (List.toArray (o0 :: r)) Q S fuel listed a w rs) : AllReadyH P md (List.toArray (o0 :: r)) Q S fuel listed a w (0 :: rs) :=
  AllReadyH.cons rfl h hs
theorem rtake_1 {o0 o1 : Oper} {r : List Oper} {v : Value} (hs : Region.noSelect (List.toArray (o0 :: o1 :: r)) = true) (hf : Region.free md (List.toArray (o0 :: o1 :: r)) listed 1 = true) (hr : (Region.ready md (List.toArray (o0 :: o1 :: r)) listed).contains 1 = true)
    (hQ : ∀ c a w, Q (.panic c) (a.put o1.dst v) w → Q (.panic c) a w) (hy : YieldsIf P (List.toArray (o0 :: o1 :: r)) S o1 v a) (hS : S w) (h : wpAnyH P md (List.toArray (o0 :: o1 :: r)) Q S fuel (listed.setIfInBounds 1 true) (a.put o1.dst v) w) : wpAnyH P md (List.toArray (o0 :: o1 :: r)) Q S (fuel + 1) listed a w :=
  wpAnyH_take (i := 1) rfl hs hf hr hQ hy hS h
theorem rcons_1 {o0 o1 : Oper} {r : List Oper} {rs : List Nat}
    (h : ∀ K' : Act → World → Prop, Shut (∀ a w, S w → (S w → wpAnyH P md (List.toArray (o0 :: o1 :: r)) Q S fuel (listed.setIfInBounds 1 true) a w) → K' a w) → if Region.wanted o1 (yielded (List.toArray (o0 :: o1 :: r)) a.tmps) = true then Oper.wp P o1 a w K' Q else K' (a.put o1.dst undef) w)
    (hs : AllReadyH P md (List.toArray (o0 :: o1 :: r)) Q S fuel listed a w rs) : AllReadyH P md (List.toArray (o0 :: o1 :: r)) Q S fuel listed a w (1 :: rs) :=
  AllReadyH.cons rfl h hs
theorem rtake_2 {o0 o1 o2 : Oper} {r : List Oper} {v : Value} (hs : Region.noSelect (List.toArray (o0 :: o1 :: o2 :: r)) = true) (hf : Region.free md (List.toArray (o0 :: o1 :: o2 :: r)) listed 2 = true) (hr : (Region.ready md (List.toArray (o0 :: o1 :: o2 :: r)) listed).contains 2 = true)
    (hQ : ∀ c a w, Q (.panic c) (a.put o2.dst v) w → Q (.panic c) a w) (hy : YieldsIf P (List.toArray (o0 :: o1 :: o2 :: r)) S o2 v a) (hS : S w) (h : wpAnyH P md (List.toArray (o0 :: o1 :: o2 :: r)) Q S fuel (listed.setIfInBounds 2 true) (a.put o2.dst v) w) : wpAnyH P md (List.toArray (o0 :: o1 :: o2 :: r)) Q S (fuel + 1) listed a w :=
  wpAnyH_take (i := 2) rfl hs hf hr hQ hy hS h
theorem rcons_2 {o0 o1 o2 : Oper} {r : List Oper} {rs : List Nat}
    (h : ∀ K' : Act → World → Prop, Shut (∀ a w, S w → (S w → wpAnyH P md (List.toArray (o0 :: o1 :: o2 :: r)) Q S fuel (listed.setIfInBounds 2 true) a w) → K' a w) → if Region.wanted o2 (yielded (List.toArray (o0 :: o1 :: o2 :: r)) a.tmps) = true then Oper.wp P o2 a w K' Q else K' (a.put o2.dst undef) w)
    (hs : AllReadyH P md (List.toArray (o0 :: o1 :: o2 :: r)) Q S fuel listed a w rs) : AllReadyH P md (List.toArray (o0 :: o1 :: o2 :: r)) Q S fuel listed a w (2 :: rs) :=
  AllReadyH.cons rfl h hs
theorem rtake_3 {o0 o1 o2 o3 : Oper} {r : List Oper} {v : Value} (hs : Region.noSelect (List.toArray (o0 :: o1 :: o2 :: o3 :: r)) = true) (hf : Region.free md (List.toArray (o0 :: o1 :: o2 :: o3 :: r)) listed 3 = true) (hr : (Region.ready md (List.toArray (o0 :: o1 :: o2 :: o3 :: r)) listed).contains 3 = true)
    (hQ : ∀ c a w, Q (.panic c) (a.put o3.dst v) w → Q (.panic c) a w) (hy : YieldsIf P (List.toArray (o0 :: o1 :: o2 :: o3 :: r)) S o3 v a) (hS : S w) (h : wpAnyH P md (List.toArray (o0 :: o1 :: o2 :: o3 :: r)) Q S fuel (listed.setIfInBounds 3 true) (a.put o3.dst v) w) : wpAnyH P md (List.toArray (o0 :: o1 :: o2 :: o3 :: r)) Q S (fuel + 1) listed a w :=
  wpAnyH_take (i := 3) rfl hs hf hr hQ hy hS h
theorem rcons_3 {o0 o1 o2 o3 : Oper} {r : List Oper} {rs : List Nat}
    (h : ∀ K' : Act → World → Prop, Shut (∀ a w, S w → (S w → wpAnyH P md (List.toArray (o0 :: o1 :: o2 :: o3 :: r)) Q S fuel (listed.setIfInBounds 3 true) a w) → K' a w) → if Region.wanted o3 (yielded (List.toArray (o0 :: o1 :: o2 :: o3 :: r)) a.tmps) = true then Oper.wp P o3 a w K' Q else K' (a.put o3.dst undef) w)
    (hs : AllReadyH P md (List.toArray (o0 :: o1 :: o2 :: o3 :: r)) Q S fuel listed a w rs) : AllReadyH P md (List.toArray (o0 :: o1 :: o2 :: o3 :: r)) Q S fuel listed a w (3 :: rs) :=
  AllReadyH.cons rfl h hs
theorem rtake_4 {o0 o1 o2 o3 o4 : Oper} {r : List Oper} {v : Value} (hs : Region.noSelect (List.toArray (o0 :: o1 :: o2 :: o3 :: o4 :: r)) = true) (hf : Region.free md (List.toArray (o0 :: o1 :: o2 :: o3 :: o4 :: r)) listed 4 = true) (hr : (Region.ready md (List.toArray (o0 :: o1 :: o2 :: o3 :: o4 :: r)) listed).contains 4 = true)
    (hQ : ∀ c a w, Q (.panic c) (a.put o4.dst v) w → Q (.panic c) a w) (hy : YieldsIf P (List.toArray (o0 :: o1 :: o2 :: o3 :: o4 :: r)) S o4 v a) (hS : S w) (h : wpAnyH P md (List.toArray (o0 :: o1 :: o2 :: o3 :: o4 :: r)) Q S fuel (listed.setIfInBounds 4 true) (a.put o4.dst v) w) : wpAnyH P md (List.toArray (o0 :: o1 :: o2 :: o3 :: o4 :: r)) Q S (fuel + 1) listed a w :=
  wpAnyH_take (i := 4) rfl hs hf hr hQ hy hS h
theorem rcons_4 {o0 o1 o2 o3 o4 : Oper} {r : List Oper} {rs : List Nat}
    (h : ∀ K' : Act → World → Prop, Shut (∀ a w, S w → (S w → wpAnyH P md (List.toArray (o0 :: o1 :: o2 :: o3 :: o4 :: r)) Q S fuel (listed.setIfInBounds 4 true) a w) → K' a w) → if Region.wanted o4 (yielded (List.toArray (o0 :: o1 :: o2 :: o3 :: o4 :: r)) a.tmps) = true then Oper.wp P o4 a w K' Q else K' (a.put o4.dst undef) w)
    (hs : AllReadyH P md (List.toArray (o0 :: o1 :: o2 :: o3 :: o4 :: r)) Q S fuel listed a w rs) : AllReadyH P md (List.toArray (o0 :: o1 :: o2 :: o3 :: o4 :: r)) Q S fuel listed a w (4 :: rs) :=
  AllReadyH.cons rfl h hs
theorem rtake_5 {o0 o1 o2 o3 o4 o5 : Oper} {r : List Oper} {v : Value} (hs : Region.noSelect (List.toArray (o0 :: o1 :: o2 :: o3 :: o4 :: o5 :: r)) = true) (hf : Region.free md (List.toArray (o0 :: o1 :: o2 :: o3 :: o4 :: o5 :: r)) listed 5 = true) (hr : (Region.ready md (List.toArray (o0 :: o1 :: o2 :: o3 :: o4 :: o5 :: r)) listed).contains 5 = true)
    (hQ : ∀ c a w, Q (.panic c) (a.put o5.dst v) w → Q (.panic c) a w) (hy : YieldsIf P (List.toArray (o0 :: o1 :: o2 :: o3 :: o4 :: o5 :: r)) S o5 v a) (hS : S w) (h : wpAnyH P md (List.toArray (o0 :: o1 :: o2 :: o3 :: o4 :: o5 :: r)) Q S fuel (listed.setIfInBounds 5 true) (a.put o5.dst v) w) : wpAnyH P md (List.toArray (o0 :: o1 :: o2 :: o3 :: o4 :: o5 :: r)) Q S (fuel + 1) listed a w :=
  wpAnyH_take (i := 5) rfl hs hf hr hQ hy hS h
theorem rcons_5 {o0 o1 o2 o3 o4 o5 : Oper} {r : List Oper} {rs : List Nat}
    (h : ∀ K' : Act → World → Prop, Shut (∀ a w, S w → (S w → wpAnyH P md (List.toArray (o0 :: o1 :: o2 :: o3 :: o4 :: o5 :: r)) Q S fuel (listed.setIfInBounds 5 true) a w) → K' a w) → if Region.wanted o5 (yielded (List.toArray (o0 :: o1 :: o2 :: o3 :: o4 :: o5 :: r)) a.tmps) = true then Oper.wp P o5 a w K' Q else K' (a.put o5.dst undef) w)
    (hs : AllReadyH P md (List.toArray (o0 :: o1 :: o2 :: o3 :: o4 :: o5 :: r)) Q S fuel listed a w rs) : AllReadyH P md (List.toArray (o0 :: o1 :: o2 :: o3 :: o4 :: o5 :: r)) Q S fuel listed a w (5 :: rs) :=
  AllReadyH.cons rfl h hs
theorem rtake_6 {o0 o1 o2 o3 o4 o5 o6 : Oper} {r : List Oper} {v : Value} (hs : Region.noSelect (List.toArray (o0 :: o1 :: o2 :: o3 :: o4 :: o5 :: o6 :: r)) = true) (hf : Region.free md (List.toArray (o0 :: o1 :: o2 :: o3 :: o4 :: o5 :: o6 :: r)) listed 6 = true) (hr : (Region.ready md (List.toArray (o0 :: o1 :: o2 :: o3 :: o4 :: o5 :: o6 :: r)) listed).contains 6 = true)
    (hQ : ∀ c a w, Q (.panic c) (a.put o6.dst v) w → Q (.panic c) a w) (hy : YieldsIf P (List.toArray (o0 :: o1 :: o2 :: o3 :: o4 :: o5 :: o6 :: r)) S o6 v a) (hS : S w) (h : wpAnyH P md (List.toArray (o0 :: o1 :: o2 :: o3 :: o4 :: o5 :: o6 :: r)) Q S fuel (listed.setIfInBounds 6 true) (a.put o6.dst v) w) : wpAnyH P md (List.toArray (o0 :: o1 :: o2 :: o3 :: o4 :: o5 :: o6 :: r)) Q S (fuel + 1) listed a w :=
  wpAnyH_take (i := 6) rfl hs hf hr hQ hy hS h
theorem rcons_6 {o0 o1 o2 o3 o4 o5 o6 : Oper} {r : List Oper} {rs : List Nat}
    (h : ∀ K' : Act → World → Prop, Shut (∀ a w, S w → (S w → wpAnyH P md (List.toArray (o0 :: o1 :: o2 :: o3 :: o4 :: o5 :: o6 :: r)) Q S fuel (listed.setIfInBounds 6 true) a w) → K' a w) → if Region.wanted o6 (yielded (List.toArray (o0 :: o1 :: o2 :: o3 :: o4 :: o5 :: o6 :: r)) a.tmps) = true then Oper.wp P o6 a w K' Q else K' (a.put o6.dst undef) w)
    (hs : AllReadyH P md (List.toArray (o0 :: o1 :: o2 :: o3 :: o4 :: o5 :: o6 :: r)) Q S fuel listed a w rs) : AllReadyH P md (List.toArray (o0 :: o1 :: o2 :: o3 :: o4 :: o5 :: o6 :: r)) Q S fuel listed a w (6 :: rs) :=
  AllReadyH.cons rfl h hs
theorem rtake_7 {o0 o1 o2 o3 o4 o5 o6 o7 : Oper} {r : List Oper} {v : Value} (hs : Region.noSelect (List.toArray (o0 :: o1 :: o2 :: o3 :: o4 :: o5 :: o6 :: o7 :: r)) = true) (hf : Region.free md (List.toArray (o0 :: o1 :: o2 :: o3 :: o4 :: o5 :: o6 :: o7 :: r)) listed 7 = true) (hr : (Region.ready md (List.toArray (o0 :: o1 :: o2 :: o3 :: o4 :: o5 :: o6 :: o7 :: r)) listed).contains 7 = true)
    (hQ : ∀ c a w, Q (.panic c) (a.put o7.dst v) w → Q (.panic c) a w) (hy : YieldsIf P (List.toArray (o0 :: o1 :: o2 :: o3 :: o4 :: o5 :: o6 :: o7 :: r)) S o7 v a) (hS : S w) (h : wpAnyH P md (List.toArray (o0 :: o1 :: o2 :: o3 :: o4 :: o5 :: o6 :: o7 :: r)) Q S fuel (listed.setIfInBounds 7 true) (a.put o7.dst v) w) : wpAnyH P md (List.toArray (o0 :: o1 :: o2 :: o3 :: o4 :: o5 :: o6 :: o7 :: r)) Q S (fuel + 1) listed a w :=
  wpAnyH_take (i := 7) rfl hs hf hr hQ hy hS h
theorem rcons_7 {o0 o1 o2 o3 o4 o5 o6 o7 : Oper} {r : List Oper} {rs : List Nat}
    (h : ∀ K' : Act → World → Prop, Shut (∀ a w, S w → (S w → wpAnyH P md (List.toArray (o0 :: o1 :: o2 :: o3 :: o4 :: o5 :: o6 :: o7 :: r)) Q S fuel (listed.setIfInBounds 7 true) a w) → K' a w) → if Region.wanted o7 (yielded (List.toArray (o0 :: o1 :: o2 :: o3 :: o4 :: o5 :: o6 :: o7 :: r)) a.tmps) = true then Oper.wp P o7 a w K' Q else K' (a.put o7.dst undef) w)
    (hs : AllReadyH P md (List.toArray (o0 :: o1 :: o2 :: o3 :: o4 :: o5 :: o6 :: o7 :: r)) Q S fuel listed a w rs) : AllReadyH P md (List.toArray (o0 :: o1 :: o2 :: o3 :: o4 :: o5 :: o6 :: o7 :: r)) Q S fuel listed a w (7 :: rs) :=
  AllReadyH.cons rfl h hs
theorem rtake_8 {o0 o1 o2 o3 o4 o5 o6 o7 o8 : Oper} {r : List Oper} {v : Value} (hs : Region.noSelect (List.toArray (o0 :: o1 :: o2 :: o3 :: o4 :: o5 :: o6 :: o7 :: o8 :: r)) = true) (hf : Region.free md (List.toArray (o0 :: o1 :: o2 :: o3 :: o4 :: o5 :: o6 :: o7 :: o8 :: r)) listed 8 = true) (hr : (Region.ready md (List.toArray (o0 :: o1 :: o2 :: o3 :: o4 :: o5 :: o6 :: o7 :: o8 :: r)) listed).contains 8 = true)
    (hQ : ∀ c a w, Q (.panic c) (a.put o8.dst v) w → Q (.panic c) a w) (hy : YieldsIf P (List.toArray (o0 :: o1 :: o2 :: o3 :: o4 :: o5 :: o6 :: o7 :: o8 :: r)) S o8 v a) (hS : S w) (h : wpAnyH P md (List.toArray (o0 :: o1 :: o2 :: o3 :: o4 :: o5 :: o6 :: o7 :: o8 :: r)) Q S fuel (listed.setIfInBounds 8 true) (a.put o8.dst v) w) : wpAnyH P md (List.toArray (o0 :: o1 :: o2 :: o3 :: o4 :: o5 :: o6 :: o7 :: o8 :: r)) Q S (fuel + 1) listed a w :=
  wpAnyH_take (i := 8) rfl hs hf hr hQ hy hS h
theorem rcons_8 {o0 o1 o2 o3 o4 o5 o6 o7 o8 : Oper} {r : List Oper} {rs : List Nat}
    (h : ∀ K' : Act → World → Prop, Shut (∀ a w, S w → (S w → wpAnyH P md (List.toArray (o0 :: o1 :: o2 :: o3 :: o4 :: o5 :: o6 :: o7 :: o8 :: r)) Q S fuel (listed.setIfInBounds 8 true) a w) → K' a w) → if Region.wanted o8 (yielded (List.toArray (o0 :: o1 :: o2 :: o3 :: o4 :: o5 :: o6 :: o7 :: o8 :: r)) a.tmps) = true then Oper.wp P o8 a w K' Q else K' (a.put o8.dst undef) w)
    (hs : AllReadyH P md (List.toArray (o0 :: o1 :: o2 :: o3 :: o4 :: o5 :: o6 :: o7 :: o8 :: r)) Q S fuel listed a w rs) : AllReadyH P md (List.toArray (o0 :: o1 :: o2 :: o3 :: o4 :: o5 :: o6 :: o7 :: o8 :: r)) Q S fuel listed a w (8 :: rs) :=
  AllReadyH.cons rfl h hs
theorem rtake_9 {o0 o1 o2 o3 o4 o5 o6 o7 o8 o9 : Oper} {r : List Oper} {v : Value} (hs : Region.noSelect (List.toArray (o0 :: o1 :: o2 :: o3 :: o4 :: o5 :: o6 :: o7 :: o8 :: o9 :: r)) = true) (hf : Region.free md (List.toArray (o0 :: o1 :: o2 :: o3 :: o4 :: o5 :: o6 :: o7 :: o8 :: o9 :: r)) listed 9 = true) (hr : (Region.ready md (List.toArray (o0 :: o1 :: o2 :: o3 :: o4 :: o5 :: o6 :: o7 :: o8 :: o9 :: r)) listed).contains 9 = true)
    (hQ : ∀ c a w, Q (.panic c) (a.put o9.dst v) w → Q (.panic c) a w) (hy : YieldsIf P (List.toArray (o0 :: o1 :: o2 :: o3 :: o4 :: o5 :: o6 :: o7 :: o8 :: o9 :: r)) S o9 v a) (hS : S w) (h : wpAnyH P md (List.toArray (o0 :: o1 :: o2 :: o3 :: o4 :: o5 :: o6 :: o7 :: o8 :: o9 :: r)) Q S fuel (listed.setIfInBounds 9 true) (a.put o9.dst v) w) : wpAnyH P md (List.toArray (o0 :: o1 :: o2 :: o3 :: o4 :: o5 :: o6 :: o7 :: o8 :: o9 :: r)) Q S (fuel + 1) listed a w :=
  wpAnyH_take (i := 9) rfl hs hf hr hQ hy hS h
theorem rcons_9 {o0 o1 o2 o3 o4 o5 o6 o7 o8 o9 : Oper} {r : List Oper} {rs : List Nat}
    (h : ∀ K' : Act → World → Prop, Shut (∀ a w, S w → (S w → wpAnyH P md (List.toArray (o0 :: o1 :: o2 :: o3 :: o4 :: o5 :: o6 :: o7 :: o8 :: o9 :: r)) Q S fuel (listed.setIfInBounds 9 true) a w) → K' a w) → if Region.wanted o9 (yielded (List.toArray (o0 :: o1 :: o2 :: o3 :: o4 :: o5 :: o6 :: o7 :: o8 :: o9 :: r)) a.tmps) = true then Oper.wp P o9 a w K' Q else K' (a.put o9.dst undef) w)
    (hs : AllReadyH P md (List.toArray (o0 :: o1 :: o2 :: o3 :: o4 :: o5 :: o6 :: o7 :: o8 :: o9 :: r)) Q S fuel listed a w rs) : AllReadyH P md (List.toArray (o0 :: o1 :: o2 :: o3 :: o4 :: o5 :: o6 :: o7 :: o8 :: o9 :: r)) Q S fuel listed a w (9 :: rs) :=
  AllReadyH.cons rfl h hs
theorem rtake_10 {o0 o1 o2 o3 o4 o5 o6 o7 o8 o9 o10 : Oper} {r : List Oper} {v : Value} (hs : Region.noSelect (List.toArray (o0 :: o1 :: o2 :: o3 :: o4 :: o5 :: o6 :: o7 :: o8 :: o9 :: o10 :: r)) = true) (hf : Region.free md (List.toArray (o0 :: o1 :: o2 :: o3 :: o4 :: o5 :: o6 :: o7 :: o8 :: o9 :: o10 :: r)) listed 10 = true) (hr : (Region.ready md (List.toArray (o0 :: o1 :: o2 :: o3 :: o4 :: o5 :: o6 :: o7 :: o8 :: o9 :: o10 :: r)) listed).contains 10 = true)
    (hQ : ∀ c a w, Q (.panic c) (a.put o10.dst v) w → Q (.panic c) a w) (hy : YieldsIf P (List.toArray (o0 :: o1 :: o2 :: o3 :: o4 :: o5 :: o6 :: o7 :: o8 :: o9 :: o10 :: r)) S o10 v a) (hS : S w) (h : wpAnyH P md (List.toArray (o0 :: o1 :: o2 :: o3 :: o4 :: o5 :: o6 :: o7 :: o8 :: o9 :: o10 :: r)) Q S fuel (listed.setIfInBounds 10 true) (a.put o10.dst v) w) : wpAnyH P md (List.toArray (o0 :: o1 :: o2 :: o3 :: o4 :: o5 :: o6 :: o7 :: o8 :: o9 :: o10 :: r)) Q S (fuel + 1) listed a w :=
  wpAnyH_take (i := 10) rfl hs hf hr hQ hy hS h
theorem rcons_10 {o0 o1 o2 o3 o4 o5 o6 o7 o8 o9 o10 : Oper} {r : List Oper} {rs : List Nat}
    (h : ∀ K' : Act → World → Prop, Shut (∀ a w, S w → (S w → wpAnyH P md (List.toArray (o0 :: o1 :: o2 :: o3 :: o4 :: o5 :: o6 :: o7 :: o8 :: o9 :: o10 :: r)) Q S fuel (listed.setIfInBounds 10 true) a w) → K' a w) → if Region.wanted o10 (yielded (List.toArray (o0 :: o1 :: o2 :: o3 :: o4 :: o5 :: o6 :: o7 :: o8 :: o9 :: o10 :: r)) a.tmps) = true then Oper.wp P o10 a w K' Q else K' (a.put o10.dst undef) w)
    (hs : AllReadyH P md (List.toArray (o0 :: o1 :: o2 :: o3 :: o4 :: o5 :: o6 :: o7 :: o8 :: o9 :: o10 :: r)) Q S fuel listed a w rs) : AllReadyH P md (List.toArray (o0 :: o1 :: o2 :: o3 :: o4 :: o5 :: o6 :: o7 :: o8 :: o9 :: o10 :: r)) Q S fuel listed a w (10 :: rs) :=
  AllReadyH.cons rfl h hs
theorem rtake_11 {o0 o1 o2 o3 o4 o5 o6 o7 o8 o9 o10 o11 : Oper} {r : List Oper} {v : Value} (hs : Region.noSelect (List.toArray (o0 :: o1 :: o2 :: o3 :: o4 :: o5 :: o6 :: o7 :: o8 :: o9 :: o10 :: o11 :: r)) = true) (hf : Region.free md (List.toArray (o0 :: o1 :: o2 :: o3 :: o4 :: o5 :: o6 :: o7 :: o8 :: o9 :: o10 :: o11 :: r)) listed 11 = true) (hr : (Region.ready md (List.toArray (o0 :: o1 :: o2 :: o3 :: o4 :: o5 :: o6 :: o7 :: o8 :: o9 :: o10 :: o11 :: r)) listed).contains 11 = true)
    (hQ : ∀ c a w, Q (.panic c) (a.put o11.dst v) w → Q (.panic c) a w) (hy : YieldsIf P (List.toArray (o0 :: o1 :: o2 :: o3 :: o4 :: o5 :: o6 :: o7 :: o8 :: o9 :: o10 :: o11 :: r)) S o11 v a) (hS : S w) (h : wpAnyH P md (List.toArray (o0 :: o1 :: o2 :: o3 :: o4 :: o5 :: o6 :: o7 :: o8 :: o9 :: o10 :: o11 :: r)) Q S fuel (listed.setIfInBounds 11 true) (a.put o11.dst v) w) : wpAnyH P md (List.toArray (o0 :: o1 :: o2 :: o3 :: o4 :: o5 :: o6 :: o7 :: o8 :: o9 :: o10 :: o11 :: r)) Q S (fuel + 1) listed a w :=
  wpAnyH_take (i := 11) rfl hs hf hr hQ hy hS h
theorem rcons_11 {o0 o1 o2 o3 o4 o5 o6 o7 o8 o9 o10 o11 : Oper} {r : List Oper} {rs : List Nat}
    (h : ∀ K' : Act → World → Prop, Shut (∀ a w, S w → (S w → wpAnyH P md (List.toArray (o0 :: o1 :: o2 :: o3 :: o4 :: o5 :: o6 :: o7 :: o8 :: o9 :: o10 :: o11 :: r)) Q S fuel (listed.setIfInBounds 11 true) a w) → K' a w) → if Region.wanted o11 (yielded (List.toArray (o0 :: o1 :: o2 :: o3 :: o4 :: o5 :: o6 :: o7 :: o8 :: o9 :: o10 :: o11 :: r)) a.tmps) = true then Oper.wp P o11 a w K' Q else K' (a.put o11.dst undef) w)
    (hs : AllReadyH P md (List.toArray (o0 :: o1 :: o2 :: o3 :: o4 :: o5 :: o6 :: o7 :: o8 :: o9 :: o10 :: o11 :: r)) Q S fuel listed a w rs) : AllReadyH P md (List.toArray (o0 :: o1 :: o2 :: o3 :: o4 :: o5 :: o6 :: o7 :: o8 :: o9 :: o10 :: o11 :: r)) Q S fuel listed a w (11 :: rs) :=
  AllReadyH.cons rfl h hs
theorem rtake_12 {o0 o1 o2 o3 o4 o5 o6 o7 o8 o9 o10 o11 o12 : Oper} {r : List Oper} {v : Value} (hs : Region.noSelect (List.toArray (o0 :: o1 :: o2 :: o3 :: o4 :: o5 :: o6 :: o7 :: o8 :: o9 :: o10 :: o11 :: o12 :: r)) = true) (hf : Region.free md (List.toArray (o0 :: o1 :: o2 :: o3 :: o4 :: o5 :: o6 :: o7 :: o8 :: o9 :: o10 :: o11 :: o12 :: r)) listed 12 = true) (hr : (Region.ready md (List.toArray (o0 :: o1 :: o2 :: o3 :: o4 :: o5 :: o6 :: o7 :: o8 :: o9 :: o10 :: o11 :: o12 :: r)) listed).contains 12 = true)
    (hQ : ∀ c a w, Q (.panic c) (a.put o12.dst v) w → Q (.panic c) a w) (hy : YieldsIf P (List.toArray (o0 :: o1 :: o2 :: o3 :: o4 :: o5 :: o6 :: o7 :: o8 :: o9 :: o10 :: o11 :: o12 :: r)) S o12 v a) (hS : S w) (h : wpAnyH P md (List.toArray (o0 :: o1 :: o2 :: o3 :: o4 :: o5 :: o6 :: o7 :: o8 :: o9 :: o10 :: o11 :: o12 :: r)) Q S fuel (listed.setIfInBounds 12 true) (a.put o12.dst v) w) : wpAnyH P md (List.toArray (o0 :: o1 :: o2 :: o3 :: o4 :: o5 :: o6 :: o7 :: o8 :: o9 :: o10 :: o11 :: o12 :: r)) Q S (fuel + 1) listed a w :=
  wpAnyH_take (i := 12) rfl hs hf hr hQ hy hS h
theorem rcons_12 {o0 o1 o2 o3 o4 o5 o6 o7 o8 o9 o10 o11 o12 : Oper} {r : List Oper} {rs : List Nat}
    (h : ∀ K' : Act → World → Prop, Shut (∀ a w, S w → (S w → wpAnyH P md (List.toArray (o0 :: o1 :: o2 :: o3 :: o4 :: o5 :: o6 :: o7 :: o8 :: o9 :: o10 :: o11 :: o12 :: r)) Q S fuel (listed.setIfInBounds 12 true) a w) → K' a w) → if Region.wanted o12 (yielded (List.toArray (o0 :: o1 :: o2 :: o3 :: o4 :: o5 :: o6 :: o7 :: o8 :: o9 :: o10 :: o11 :: o12 :: r)) a.tmps) = true then Oper.wp P o12 a w K' Q else K' (a.put o12.dst undef) w)
    (hs : AllReadyH P md (List.toArray (o0 :: o1 :: o2 :: o3 :: o4 :: o5 :: o6 :: o7 :: o8 :: o9 :: o10 :: o11 :: o12 :: r)) Q S fuel listed a w rs) : AllReadyH P md (List.toArray (o0 :: o1 :: o2 :: o3 :: o4 :: o5 :: o6 :: o7 :: o8 :: o9 :: o10 :: o11 :: o12 :: r)) Q S fuel listed a w (12 :: rs) :=
  AllReadyH.cons rfl h hs
theorem rtake_13 {o0 o1 o2 o3 o4 o5 o6 o7 o8 o9 o10 o11 o12 o13 : Oper} {r : List Oper} {v : Value} (hs : Region.noSelect (List.toArray (o0 :: o1 :: o2 :: o3 :: o4 :: o5 :: o6 :: o7 :: o8 :: o9 :: o10 :: o11 :: o12 :: o13 :: r)) = true) (hf : Region.free md (List.toArray (o0 :: o1 :: o2 :: o3 :: o4 :: o5 :: o6 :: o7 :: o8 :: o9 :: o10 :: o11 :: o12 :: o13 :: r)) listed 13 = true) (hr : (Region.ready md (List.toArray (o0 :: o1 :: o2 :: o3 :: o4 :: o5 :: o6 :: o7 :: o8 :: o9 :: o10 :: o11 :: o12 :: o13 :: r)) listed).contains 13 = true)
    (hQ : ∀ c a w, Q (.panic c) (a.put o13.dst v) w → Q (.panic c) a w) (hy : YieldsIf P (List.toArray (o0 :: o1 :: o2 :: o3 :: o4 :: o5 :: o6 :: o7 :: o8 :: o9 :: o10 :: o11 :: o12 :: o13 :: r)) S o13 v a) (hS : S w) (h : wpAnyH P md (List.toArray (o0 :: o1 :: o2 :: o3 :: o4 :: o5 :: o6 :: o7 :: o8 :: o9 :: o10 :: o11 :: o12 :: o13 :: r)) Q S fuel (listed.setIfInBounds 13 true) (a.put o13.dst v) w) : wpAnyH P md (List.toArray (o0 :: o1 :: o2 :: o3 :: o4 :: o5 :: o6 :: o7 :: o8 :: o9 :: o10 :: o11 :: o12 :: o13 :: r)) Q S (fuel + 1) listed a w :=
  wpAnyH_take (i := 13) rfl hs hf hr hQ hy hS h
theorem rcons_13 {o0 o1 o2 o3 o4 o5 o6 o7 o8 o9 o10 o11 o12 o13 : Oper} {r : List Oper} {rs : List Nat}
    (h : ∀ K' : Act → World → Prop, Shut (∀ a w, S w → (S w → wpAnyH P md (List.toArray (o0 :: o1 :: o2 :: o3 :: o4 :: o5 :: o6 :: o7 :: o8 :: o9 :: o10 :: o11 :: o12 :: o13 :: r)) Q S fuel (listed.setIfInBounds 13 true) a w) → K' a w) → if Region.wanted o13 (yielded (List.toArray (o0 :: o1 :: o2 :: o3 :: o4 :: o5 :: o6 :: o7 :: o8 :: o9 :: o10 :: o11 :: o12 :: o13 :: r)) a.tmps) = true then Oper.wp P o13 a w K' Q else K' (a.put o13.dst undef) w)
    (hs : AllReadyH P md (List.toArray (o0 :: o1 :: o2 :: o3 :: o4 :: o5 :: o6 :: o7 :: o8 :: o9 :: o10 :: o11 :: o12 :: o13 :: r)) Q S fuel listed a w rs) : AllReadyH P md (List.toArray (o0 :: o1 :: o2 :: o3 :: o4 :: o5 :: o6 :: o7 :: o8 :: o9 :: o10 :: o11 :: o12 :: o13 :: r)) Q S fuel listed a w (13 :: rs) :=
  AllReadyH.cons rfl h hs
theorem rtake_14 {o0 o1 o2 o3 o4 o5 o6 o7 o8 o9 o10 o11 o12 o13 o14 : Oper} {r : List Oper} {v : Value} (hs : Region.noSelect (List.toArray (o0 :: o1 :: o2 :: o3 :: o4 :: o5 :: o6 :: o7 :: o8 :: o9 :: o10 :: o11 :: o12 :: o13 :: o14 :: r)) = true) (hf : Region.free md (List.toArray (o0 :: o1 :: o2 :: o3 :: o4 :: o5 :: o6 :: o7 :: o8 :: o9 :: o10 :: o11 :: o12 :: o13 :: o14 :: r)) listed 14 = true) (hr : (Region.ready md (List.toArray (o0 :: o1 :: o2 :: o3 :: o4 :: o5 :: o6 :: o7 :: o8 :: o9 :: o10 :: o11 :: o12 :: o13 :: o14 :: r)) listed).contains 14 = true)
    (hQ : ∀ c a w, Q (.panic c) (a.put o14.dst v) w → Q (.panic c) a w) (hy : YieldsIf P (List.toArray (o0 :: o1 :: o2 :: o3 :: o4 :: o5 :: o6 :: o7 :: o8 :: o9 :: o10 :: o11 :: o12 :: o13 :: o14 :: r)) S o14 v a) (hS : S w) (h : wpAnyH P md (List.toArray (o0 :: o1 :: o2 :: o3 :: o4 :: o5 :: o6 :: o7 :: o8 :: o9 :: o10 :: o11 :: o12 :: o13 :: o14 :: r)) Q S fuel (listed.setIfInBounds 14 true) (a.put o14.dst v) w) : wpAnyH P md (List.toArray (o0 :: o1 :: o2 :: o3 :: o4 :: o5 :: o6 :: o7 :: o8 :: o9 :: o10 :: o11 :: o12 :: o13 :: o14 :: r)) Q S (fuel + 1) listed a w :=
  wpAnyH_take (i := 14) rfl hs hf hr hQ hy hS h
theorem rcons_14 {o0 o1 o2 o3 o4 o5 o6 o7 o8 o9 o10 o11 o12 o13 o14 : Oper} {r : List Oper} {rs : List Nat}
    (h : ∀ K' : Act → World → Prop, Shut (∀ a w, S w → (S w → wpAnyH P md (List.toArray (o0 :: o1 :: o2 :: o3 :: o4 :: o5 :: o6 :: o7 :: o8 :: o9 :: o10 :: o11 :: o12 :: o13 :: o14 :: r)) Q S fuel (listed.setIfInBounds 14 true) a w) → K' a w) → if Region.wanted o14 (yielded (List.toArray (o0 :: o1 :: o2 :: o3 :: o4 :: o5 :: o6 :: o7 :: o8 :: o9 :: o10 :: o11 :: o12 :: o13 :: o14 :: r)) a.tmps) = true then Oper.wp P o14 a w K' Q else K' (a.put o14.dst undef) w)
    (hs : AllReadyH P md (List.toArray (o0 :: o1 :: o2 :: o3 :: o4 :: o5 :: o6 :: o7 :: o8 :: o9 :: o10 :: o11 :: o12 :: o13 :: o14 :: r)) Q S fuel listed a w rs) : AllReadyH P md (List.toArray (o0 :: o1 :: o2 :: o3 :: o4 :: o5 :: o6 :: o7 :: o8 :: o9 :: o10 :: o11 :: o12 :: o13 :: o14 :: r)) Q S fuel listed a w (14 :: rs) :=
  AllReadyH.cons rfl h hs
theorem rtake_15 {o0 o1 o2 o3 o4 o5 o6 o7 o8 o9 o10 o11 o12 o13 o14 o15 : Oper} {r : List Oper} {v : Value} (hs : Region.noSelect (List.toArray (o0 :: o1 :: o2 :: o3 :: o4 :: o5 :: o6 :: o7 :: o8 :: o9 :: o10 :: o11 :: o12 :: o13 :: o14 :: o15 :: r)) = true) (hf : Region.free md (List.toArray (o0 :: o1 :: o2 :: o3 :: o4 :: o5 :: o6 :: o7 :: o8 :: o9 :: o10 :: o11 :: o12 :: o13 :: o14 :: o15 :: r)) listed 15 = true) (hr : (Region.ready md (List.toArray (o0 :: o1 :: o2 :: o3 :: o4 :: o5 :: o6 :: o7 :: o8 :: o9 :: o10 :: o11 :: o12 :: o13 :: o14 :: o15 :: r)) listed).contains 15 = true)
    (hQ : ∀ c a w, Q (.panic c) (a.put o15.dst v) w → Q (.panic c) a w) (hy : YieldsIf P (List.toArray (o0 :: o1 :: o2 :: o3 :: o4 :: o5 :: o6 :: o7 :: o8 :: o9 :: o10 :: o11 :: o12 :: o13 :: o14 :: o15 :: r)) S o15 v a) (hS : S w) (h : wpAnyH P md (List.toArray (o0 :: o1 :: o2 :: o3 :: o4 :: o5 :: o6 :: o7 :: o8 :: o9 :: o10 :: o11 :: o12 :: o13 :: o14 :: o15 :: r)) Q S fuel (listed.setIfInBounds 15 true) (a.put o15.dst v) w) : wpAnyH P md (List.toArray (o0 :: o1 :: o2 :: o3 :: o4 :: o5 :: o6 :: o7 :: o8 :: o9 :: o10 :: o11 :: o12 :: o13 :: o14 :: o15 :: r)) Q S (fuel + 1) listed a w :=
  wpAnyH_take (i := 15) rfl hs hf hr hQ hy hS h
theorem rcons_15 {o0 o1 o2 o3 o4 o5 o6 o7 o8 o9 o10 o11 o12 o13 o14 o15 : Oper} {r : List Oper} {rs : List Nat}
    (h : ∀ K' : Act → World → Prop, Shut (∀ a w, S w → (S w → wpAnyH P md (List.toArray (o0 :: o1 :: o2 :: o3 :: o4 :: o5 :: o6 :: o7 :: o8 :: o9 :: o10 :: o11 :: o12 :: o13 :: o14 :: o15 :: r)) Q S fuel (listed.setIfInBounds 15 true) a w) → K' a w) → if Region.wanted o15 (yielded (List.toArray (o0 :: o1 :: o2 :: o3 :: o4 :: o5 :: o6 :: o7 :: o8 :: o9 :: o10 :: o11 :: o12 :: o13 :: o14 :: o15 :: r)) a.tmps) = true then Oper.wp P o15 a w K' Q else K' (a.put o15.dst undef) w)
    (hs : AllReadyH P md (List.toArray (o0 :: o1 :: o2 :: o3 :: o4 :: o5 :: o6 :: o7 :: o8 :: o9 :: o10 :: o11 :: o12 :: o13 :: o14 :: o15 :: r)) Q S fuel listed a w rs) : AllReadyH P md (List.toArray (o0 :: o1 :: o2 :: o3 :: o4 :: o5 :: o6 :: o7 :: o8 :: o9 :: o10 :: o11 :: o12 :: o13 :: o14 :: o15 :: r)) Q S fuel listed a w (15 :: rs) :=
  AllReadyH.cons rfl h hs
theorem rtake_16 {o0 o1 o2 o3 o4 o5 o6 o7 o8 o9 o10 o11 o12 o13 o14 o15 o16 : Oper} {r : List Oper} {v : Value} (hs : Region.noSelect (List.toArray (o0 :: o1 :: o2 :: o3 :: o4 :: o5 :: o6 :: o7 :: o8 :: o9 :: o10 :: o11 :: o12 :: o13 :: o14 :: o15 :: o16 :: r)) = true) (hf : Region.free md (List.toArray (o0 :: o1 :: o2 :: o3 :: o4 :: o5 :: o6 :: o7 :: o8 :: o9 :: o10 :: o11 :: o12 :: o13 :: o14 :: o15 :: o16 :: r)) listed 16 = true) (hr : (Region.ready md (List.toArray (o0 :: o1 :: o2 :: o3 :: o4 :: o5 :: o6 :: o7 :: o8 :: o9 :: o10 :: o11 :: o12 :: o13 :: o14 :: o15 :: o16 :: r)) listed).contains 16 = true)
    (hQ : ∀ c a w, Q (.panic c) (a.put o16.dst v) w → Q (.panic c) a w) (hy : YieldsIf P (List.toArray (o0 :: o1 :: o2 :: o3 :: o4 :: o5 :: o6 :: o7 :: o8 :: o9 :: o10 :: o11 :: o12 :: o13 :: o14 :: o15 :: o16 :: r)) S o16 v a) (hS : S w) (h : wpAnyH P md (List.toArray (o0 :: o1 :: o2 :: o3 :: o4 :: o5 :: o6 :: o7 :: o8 :: o9 :: o10 :: o11 :: o12 :: o13 :: o14 :: o15 :: o16 :: r)) Q S fuel (listed.setIfInBounds 16 true) (a.put o16.dst v) w) : wpAnyH P md (List.toArray (o0 :: o1 :: o2 :: o3 :: o4 :: o5 :: o6 :: o7 :: o8 :: o9 :: o10 :: o11 :: o12 :: o13 :: o14 :: o15 :: o16 :: r)) Q S (fuel + 1) listed a w :=
  wpAnyH_take (i := 16) rfl hs hf hr hQ hy hS h
theorem rcons_16 {o0 o1 o2 o3 o4 o5 o6 o7 o8 o9 o10 o11 o12 o13 o14 o15 o16 : Oper} {r : List Oper} {rs : List Nat}
    (h : ∀ K' : Act → World → Prop, Shut (∀ a w, S w → (S w → wpAnyH P md (List.toArray (o0 :: o1 :: o2 :: o3 :: o4 :: o5 :: o6 :: o7 :: o8 :: o9 :: o10 :: o11 :: o12 :: o13 :: o14 :: o15 :: o16 :: r)) Q S fuel (listed.setIfInBounds 16 true) a w) → K' a w) → if Region.wanted o16 (yielded (List.toArray (o0 :: o1 :: o2 :: o3 :: o4 :: o5 :: o6 :: o7 :: o8 :: o9 :: o10 :: o11 :: o12 :: o13 :: o14 :: o15 :: o16 :: r)) a.tmps) = true then Oper.wp P o16 a w K' Q else K' (a.put o16.dst undef) w)
    (hs : AllReadyH P md (List.toArray (o0 :: o1 :: o2 :: o3 :: o4 :: o5 :: o6 :: o7 :: o8 :: o9 :: o10 :: o11 :: o12 :: o13 :: o14 :: o15 :: o16 :: r)) Q S fuel listed a w rs) : AllReadyH P md (List.toArray (o0 :: o1 :: o2 :: o3 :: o4 :: o5 :: o6 :: o7 :: o8 :: o9 :: o10 :: o11 :: o12 :: o13 :: o14 :: o15 :: o16 :: r)) Q S fuel listed a w (16 :: rs) :=
  AllReadyH.cons rfl h hs
theorem rtake_17 {o0 o1 o2 o3 o4 o5 o6 o7 o8 o9 o10 o11 o12 o13 o14 o15 o16 o17 : Oper} {r : List Oper} {v : Value} (hs : Region.noSelect (List.toArray (o0 :: o1 :: o2 :: o3 :: o4 :: o5 :: o6 :: o7 :: o8 :: o9 :: o10 :: o11 :: o12 :: o13 :: o14 :: o15 :: o16 :: o17 :: r)) = true) (hf : Region.free md (List.toArray (o0 :: o1 :: o2 :: o3 :: o4 :: o5 :: o6 :: o7 :: o8 :: o9 :: o10 :: o11 :: o12 :: o13 :: o14 :: o15 :: o16 :: o17 :: r)) listed 17 = true) (hr : (Region.ready md (List.toArray (o0 :: o1 :: o2 :: o3 :: o4 :: o5 :: o6 :: o7 :: o8 :: o9 :: o10 :: o11 :: o12 :: o13 :: o14 :: o15 :: o16 :: o17 :: r)) listed).contains 17 = true)
    (hQ : ∀ c a w, Q (.panic c) (a.put o17.dst v) w → Q (.panic c) a w) (hy : YieldsIf P (List.toArray (o0 :: o1 :: o2 :: o3 :: o4 :: o5 :: o6 :: o7 :: o8 :: o9 :: o10 :: o11 :: o12 :: o13 :: o14 :: o15 :: o16 :: o17 :: r)) S o17 v a) (hS : S w) (h : wpAnyH P md (List.toArray (o0 :: o1 :: o2 :: o3 :: o4 :: o5 :: o6 :: o7 :: o8 :: o9 :: o10 :: o11 :: o12 :: o13 :: o14 :: o15 :: o16 :: o17 :: r)) Q S fuel (listed.setIfInBounds 17 true) (a.put o17.dst v) w) : wpAnyH P md (List.toArray (o0 :: o1 :: o2 :: o3 :: o4 :: o5 :: o6 :: o7 :: o8 :: o9 :: o10 :: o11 :: o12 :: o13 :: o14 :: o15 :: o16 :: o17 :: r)) Q S (fuel + 1) listed a w :=
  wpAnyH_take (i := 17) rfl hs hf hr hQ hy hS h
theorem rcons_17 {o0 o1 o2 o3 o4 o5 o6 o7 o8 o9 o10 o11 o12 o13 o14 o15 o16 o17 : Oper} {r : List Oper} {rs : List Nat}
    (h : ∀ K' : Act → World → Prop, Shut (∀ a w, S w → (S w → wpAnyH P md (List.toArray (o0 :: o1 :: o2 :: o3 :: o4 :: o5 :: o6 :: o7 :: o8 :: o9 :: o10 :: o11 :: o12 :: o13 :: o14 :: o15 :: o16 :: o17 :: r)) Q S fuel (listed.setIfInBounds 17 true) a w) → K' a w) → if Region.wanted o17 (yielded (List.toArray (o0 :: o1 :: o2 :: o3 :: o4 :: o5 :: o6 :: o7 :: o8 :: o9 :: o10 :: o11 :: o12 :: o13 :: o14 :: o15 :: o16 :: o17 :: r)) a.tmps) = true then Oper.wp P o17 a w K' Q else K' (a.put o17.dst undef) w)
    (hs : AllReadyH P md (List.toArray (o0 :: o1 :: o2 :: o3 :: o4 :: o5 :: o6 :: o7 :: o8 :: o9 :: o10 :: o11 :: o12 :: o13 :: o14 :: o15 :: o16 :: o17 :: r)) Q S fuel listed a w rs) : AllReadyH P md (List.toArray (o0 :: o1 :: o2 :: o3 :: o4 :: o5 :: o6 :: o7 :: o8 :: o9 :: o10 :: o11 :: o12 :: o13 :: o14 :: o15 :: o16 :: o17 :: r)) Q S fuel listed a w (17 :: rs) :=
  AllReadyH.cons rfl h hs
theorem rtake_18 {o0 o1 o2 o3 o4 o5 o6 o7 o8 o9 o10 o11 o12 o13 o14 o15 o16 o17 o18 : Oper} {r : List Oper} {v : Value} (hs : Region.noSelect (List.toArray (o0 :: o1 :: o2 :: o3 :: o4 :: o5 :: o6 :: o7 :: o8 :: o9 :: o10 :: o11 :: o12 :: o13 :: o14 :: o15 :: o16 :: o17 :: o18 :: r)) = true) (hf : Region.free md (List.toArray (o0 :: o1 :: o2 :: o3 :: o4 :: o5 :: o6 :: o7 :: o8 :: o9 :: o10 :: o11 :: o12 :: o13 :: o14 :: o15 :: o16 :: o17 :: o18 :: r)) listed 18 = true) (hr : (Region.ready md (List.toArray (o0 :: o1 :: o2 :: o3 :: o4 :: o5 :: o6 :: o7 :: o8 :: o9 :: o10 :: o11 :: o12 :: o13 :: o14 :: o15 :: o16 :: o17 :: o18 :: r)) listed).contains 18 = true)
    (hQ : ∀ c a w, Q (.panic c) (a.put o18.dst v) w → Q (.panic c) a w) (hy : YieldsIf P (List.toArray (o0 :: o1 :: o2 :: o3 :: o4 :: o5 :: o6 :: o7 :: o8 :: o9 :: o10 :: o11 :: o12 :: o13 :: o14 :: o15 :: o16 :: o17 :: o18 :: r)) S o18 v a) (hS : S w) (h : wpAnyH P md (List.toArray (o0 :: o1 :: o2 :: o3 :: o4 :: o5 :: o6 :: o7 :: o8 :: o9 :: o10 :: o11 :: o12 :: o13 :: o14 :: o15 :: o16 :: o17 :: o18 :: r)) Q S fuel (listed.setIfInBounds 18 true) (a.put o18.dst v) w) : wpAnyH P md (List.toArray (o0 :: o1 :: o2 :: o3 :: o4 :: o5 :: o6 :: o7 :: o8 :: o9 :: o10 :: o11 :: o12 :: o13 :: o14 :: o15 :: o16 :: o17 :: o18 :: r)) Q S (fuel + 1) listed a w :=
  wpAnyH_take (i := 18) rfl hs hf hr hQ hy hS h
theorem rcons_18 {o0 o1 o2 o3 o4 o5 o6 o7 o8 o9 o10 o11 o12 o13 o14 o15 o16 o17 o18 : Oper} {r : List Oper} {rs : List Nat}
    (h : ∀ K' : Act → World → Prop, Shut (∀ a w, S w → (S w → wpAnyH P md (List.toArray (o0 :: o1 :: o2 :: o3 :: o4 :: o5 :: o6 :: o7 :: o8 :: o9 :: o10 :: o11 :: o12 :: o13 :: o14 :: o15 :: o16 :: o17 :: o18 :: r)) Q S fuel (listed.setIfInBounds 18 true) a w) → K' a w) → if Region.wanted o18 (yielded (List.toArray (o0 :: o1 :: o2 :: o3 :: o4 :: o5 :: o6 :: o7 :: o8 :: o9 :: o10 :: o11 :: o12 :: o13 :: o14 :: o15 :: o16 :: o17 :: o18 :: r)) a.tmps) = true then Oper.wp P o18 a w K' Q else K' (a.put o18.dst undef) w)
    (hs : AllReadyH P md (List.toArray (o0 :: o1 :: o2 :: o3 :: o4 :: o5 :: o6 :: o7 :: o8 :: o9 :: o10 :: o11 :: o12 :: o13 :: o14 :: o15 :: o16 :: o17 :: o18 :: r)) Q S fuel listed a w rs) : AllReadyH P md (List.toArray (o0 :: o1 :: o2 :: o3 :: o4 :: o5 :: o6 :: o7 :: o8 :: o9 :: o10 :: o11 :: o12 :: o13 :: o14 :: o15 :: o16 :: o17 :: o18 :: r)) Q S fuel listed a w (18 :: rs) :=
  AllReadyH.cons rfl h hs
theorem rtake_19 {o0 o1 o2 o3 o4 o5 o6 o7 o8 o9 o10 o11 o12 o13 o14 o15 o16 o17 o18 o19 : Oper} {r : List Oper} {v : Value} (hs : Region.noSelect (List.toArray (o0 :: o1 :: o2 :: o3 :: o4 :: o5 :: o6 :: o7 :: o8 :: o9 :: o10 :: o11 :: o12 :: o13 :: o14 :: o15 :: o16 :: o17 :: o18 :: o19 :: r)) = true) (hf : Region.free md (List.toArray (o0 :: o1 :: o2 :: o3 :: o4 :: o5 :: o6 :: o7 :: o8 :: o9 :: o10 :: o11 :: o12 :: o13 :: o14 :: o15 :: o16 :: o17 :: o18 :: o19 :: r)) listed 19 = true) (hr : (Region.ready md (List.toArray (o0 :: o1 :: o2 :: o3 :: o4 :: o5 :: o6 :: o7 :: o8 :: o9 :: o10 :: o11 :: o12 :: o13 :: o14 :: o15 :: o16 :: o17 :: o18 :: o19 :: r)) listed).contains 19 = true)
    (hQ : ∀ c a w, Q (.panic c) (a.put o19.dst v) w → Q (.panic c) a w) (hy : YieldsIf P (List.toArray (o0 :: o1 :: o2 :: o3 :: o4 :: o5 :: o6 :: o7 :: o8 :: o9 :: o10 :: o11 :: o12 :: o13 :: o14 :: o15 :: o16 :: o17 :: o18 :: o19 :: r)) S o19 v a) (hS : S w) (h : wpAnyH P md (List.toArray (o0 :: o1 :: o2 :: o3 :: o4 :: o5 :: o6 :: o7 :: o8 :: o9 :: o10 :: o11 :: o12 :: o13 :: o14 :: o15 :: o16 :: o17 :: o18 :: o19 :: r)) Q S fuel (listed.setIfInBounds 19 true) (a.put o19.dst v) w) : wpAnyH P md (List.toArray (o0 :: o1 :: o2 :: o3 :: o4 :: o5 :: o6 :: o7 :: o8 :: o9 :: o10 :: o11 :: o12 :: o13 :: o14 :: o15 :: o16 :: o17 :: o18 :: o19 :: r)) Q S (fuel + 1) listed a w :=
  wpAnyH_take (i := 19) rfl hs hf hr hQ hy hS h
theorem rcons_19 {o0 o1 o2 o3 o4 o5 o6 o7 o8 o9 o10 o11 o12 o13 o14 o15 o16 o17 o18 o19 : Oper} {r : List Oper} {rs : List Nat}
    (h : ∀ K' : Act → World → Prop, Shut (∀ a w, S w → (S w → wpAnyH P md (List.toArray (o0 :: o1 :: o2 :: o3 :: o4 :: o5 :: o6 :: o7 :: o8 :: o9 :: o10 :: o11 :: o12 :: o13 :: o14 :: o15 :: o16 :: o17 :: o18 :: o19 :: r)) Q S fuel (listed.setIfInBounds 19 true) a w) → K' a w) → if Region.wanted o19 (yielded (List.toArray (o0 :: o1 :: o2 :: o3 :: o4 :: o5 :: o6 :: o7 :: o8 :: o9 :: o10 :: o11 :: o12 :: o13 :: o14 :: o15 :: o16 :: o17 :: o18 :: o19 :: r)) a.tmps) = true then Oper.wp P o19 a w K' Q else K' (a.put o19.dst undef) w)
    (hs : AllReadyH P md (List.toArray (o0 :: o1 :: o2 :: o3 :: o4 :: o5 :: o6 :: o7 :: o8 :: o9 :: o10 :: o11 :: o12 :: o13 :: o14 :: o15 :: o16 :: o17 :: o18 :: o19 :: r)) Q S fuel listed a w rs) : AllReadyH P md (List.toArray (o0 :: o1 :: o2 :: o3 :: o4 :: o5 :: o6 :: o7 :: o8 :: o9 :: o10 :: o11 :: o12 :: o13 :: o14 :: o15 :: o16 :: o17 :: o18 :: o19 :: r)) Q S fuel listed a w (19 :: rs) :=
  AllReadyH.cons rfl h hs
theorem rtake_20 {o0 o1 o2 o3 o4 o5 o6 o7 o8 o9 o10 o11 o12 o13 o14 o15 o16 o17 o18 o19 o20 : Oper} {r : List Oper} {v : Value} (hs : Region.noSelect (List.toArray (o0 :: o1 :: o2 :: o3 :: o4 :: o5 :: o6 :: o7 :: o8 :: o9 :: o10 :: o11 :: o12 :: o13 :: o14 :: o15 :: o16 :: o17 :: o18 :: o19 :: o20 :: r)) = true) (hf : Region.free md (List.toArray (o0 :: o1 :: o2 :: o3 :: o4 :: o5 :: o6 :: o7 :: o8 :: o9 :: o10 :: o11 :: o12 :: o13 :: o14 :: o15 :: o16 :: o17 :: o18 :: o19 :: o20 :: r)) listed 20 = true) (hr : (Region.ready md (List.toArray (o0 :: o1 :: o2 :: o3 :: o4 :: o5 :: o6 :: o7 :: o8 :: o9 :: o10 :: o11 :: o12 :: o13 :: o14 :: o15 :: o16 :: o17 :: o18 :: o19 :: o20 :: r)) listed).contains 20 = true)
    (hQ : ∀ c a w, Q (.panic c) (a.put o20.dst v) w → Q (.panic c) a w) (hy : YieldsIf P (List.toArray (o0 :: o1 :: o2 :: o3 :: o4 :: o5 :: o6 :: o7 :: o8 :: o9 :: o10 :: o11 :: o12 :: o13 :: o14 :: o15 :: o16 :: o17 :: o18 :: o19 :: o20 :: r)) S o20 v a) (hS : S w) (h : wpAnyH P md (List.toArray (o0 :: o1 :: o2 :: o3 :: o4 :: o5 :: o6 :: o7 :: o8 :: o9 :: o10 :: o11 :: o12 :: o13 :: o14 :: o15 :: o16 :: o17 :: o18 :: o19 :: o20 :: r)) Q S fuel (listed.setIfInBounds 20 true) (a.put o20.dst v) w) : wpAnyH P md (List.toArray (o0 :: o1 :: o2 :: o3 :: o4 :: o5 :: o6 :: o7 :: o8 :: o9 :: o10 :: o11 :: o12 :: o13 :: o14 :: o15 :: o16 :: o17 :: o18 :: o19 :: o20 :: r)) Q S (fuel + 1) listed a w :=
  wpAnyH_take (i := 20) rfl hs hf hr hQ hy hS h
theorem rcons_20 {o0 o1 o2 o3 o4 o5 o6 o7 o8 o9 o10 o11 o12 o13 o14 o15 o16 o17 o18 o19 o20 : Oper} {r : List Oper} {rs : List Nat}
    (h : ∀ K' : Act → World → Prop, Shut (∀ a w, S w → (S w → wpAnyH P md (List.toArray (o0 :: o1 :: o2 :: o3 :: o4 :: o5 :: o6 :: o7 :: o8 :: o9 :: o10 :: o11 :: o12 :: o13 :: o14 :: o15 :: o16 :: o17 :: o18 :: o19 :: o20 :: r)) Q S fuel (listed.setIfInBounds 20 true) a w) → K' a w) → if Region.wanted o20 (yielded (List.toArray (o0 :: o1 :: o2 :: o3 :: o4 :: o5 :: o6 :: o7 :: o8 :: o9 :: o10 :: o11 :: o12 :: o13 :: o14 :: o15 :: o16 :: o17 :: o18 :: o19 :: o20 :: r)) a.tmps) = true then Oper.wp P o20 a w K' Q else K' (a.put o20.dst undef) w)
    (hs : AllReadyH P md (List.toArray (o0 :: o1 :: o2 :: o3 :: o4 :: o5 :: o6 :: o7 :: o8 :: o9 :: o10 :: o11 :: o12 :: o13 :: o14 :: o15 :: o16 :: o17 :: o18 :: o19 :: o20 :: r)) Q S fuel listed a w rs) : AllReadyH P md (List.toArray (o0 :: o1 :: o2 :: o3 :: o4 :: o5 :: o6 :: o7 :: o8 :: o9 :: o10 :: o11 :: o12 :: o13 :: o14 :: o15 :: o16 :: o17 :: o18 :: o19 :: o20 :: r)) Q S fuel listed a w (20 :: rs) :=
  AllReadyH.cons rfl h hs
theorem rtake_21 {o0 o1 o2 o3 o4 o5 o6 o7 o8 o9 o10 o11 o12 o13 o14 o15 o16 o17 o18 o19 o20 o21 : Oper} {r : List Oper} {v : Value} (hs : Region.noSelect (List.toArray (o0 :: o1 :: o2 :: o3 :: o4 :: o5 :: o6 :: o7 :: o8 :: o9 :: o10 :: o11 :: o12 :: o13 :: o14 :: o15 :: o16 :: o17 :: o18 :: o19 :: o20 :: o21 :: r)) = true) (hf : Region.free md (List.toArray (o0 :: o1 :: o2 :: o3 :: o4 :: o5 :: o6 :: o7 :: o8 :: o9 :: o10 :: o11 :: o12 :: o13 :: o14 :: o15 :: o16 :: o17 :: o18 :: o19 :: o20 :: o21 :: r)) listed 21 = true) (hr : (Region.ready md (List.toArray (o0 :: o1 :: o2 :: o3 :: o4 :: o5 :: o6 :: o7 :: o8 :: o9 :: o10 :: o11 :: o12 :: o13 :: o14 :: o15 :: o16 :: o17 :: o18 :: o19 :: o20 :: o21 :: r)) listed).contains 21 = true)
    (hQ : ∀ c a w, Q (.panic c) (a.put o21.dst v) w → Q (.panic c) a w) (hy : YieldsIf P (List.toArray (o0 :: o1 :: o2 :: o3 :: o4 :: o5 :: o6 :: o7 :: o8 :: o9 :: o10 :: o11 :: o12 :: o13 :: o14 :: o15 :: o16 :: o17 :: o18 :: o19 :: o20 :: o21 :: r)) S o21 v a) (hS : S w) (h : wpAnyH P md (List.toArray (o0 :: o1 :: o2 :: o3 :: o4 :: o5 :: o6 :: o7 :: o8 :: o9 :: o10 :: o11 :: o12 :: o13 :: o14 :: o15 :: o16 :: o17 :: o18 :: o19 :: o20 :: o21 :: r)) Q S fuel (listed.setIfInBounds 21 true) (a.put o21.dst v) w) : wpAnyH P md (List.toArray (o0 :: o1 :: o2 :: o3 :: o4 :: o5 :: o6 :: o7 :: o8 :: o9 :: o10 :: o11 :: o12 :: o13 :: o14 :: o15 :: o16 :: o17 :: o18 :: o19 :: o20 :: o21 :: r)) Q S (fuel + 1) listed a w :=
  wpAnyH_take (i := 21) rfl hs hf hr hQ hy hS h
theorem rcons_21 {o0 o1 o2 o3 o4 o5 o6 o7 o8 o9 o10 o11 o12 o13 o14 o15 o16 o17 o18 o19 o20 o21 : Oper} {r : List Oper} {rs : List Nat}
    (h : ∀ K' : Act → World → Prop, Shut (∀ a w, S w → (S w → wpAnyH P md (List.toArray (o0 :: o1 :: o2 :: o3 :: o4 :: o5 :: o6 :: o7 :: o8 :: o9 :: o10 :: o11 :: o12 :: o13 :: o14 :: o15 :: o16 :: o17 :: o18 :: o19 :: o20 :: o21 :: r)) Q S fuel (listed.setIfInBounds 21 true) a w) → K' a w) → if Region.wanted o21 (yielded (List.toArray (o0 :: o1 :: o2 :: o3 :: o4 :: o5 :: o6 :: o7 :: o8 :: o9 :: o10 :: o11 :: o12 :: o13 :: o14 :: o15 :: o16 :: o17 :: o18 :: o19 :: o20 :: o21 :: r)) a.tmps) = true then Oper.wp P o21 a w K' Q else K' (a.put o21.dst undef) w)
    (hs : AllReadyH P md (List.toArray (o0 :: o1 :: o2 :: o3 :: o4 :: o5 :: o6 :: o7 :: o8 :: o9 :: o10 :: o11 :: o12 :: o13 :: o14 :: o15 :: o16 :: o17 :: o18 :: o19 :: o20 :: o21 :: r)) Q S fuel listed a w rs) : AllReadyH P md (List.toArray (o0 :: o1 :: o2 :: o3 :: o4 :: o5 :: o6 :: o7 :: o8 :: o9 :: o10 :: o11 :: o12 :: o13 :: o14 :: o15 :: o16 :: o17 :: o18 :: o19 :: o20 :: o21 :: r)) Q S fuel listed a w (21 :: rs) :=
  AllReadyH.cons rfl h hs
theorem rtake_22 {o0 o1 o2 o3 o4 o5 o6 o7 o8 o9 o10 o11 o12 o13 o14 o15 o16 o17 o18 o19 o20 o21 o22 : Oper} {r : List Oper} {v : Value} (hs : Region.noSelect (List.toArray (o0 :: o1 :: o2 :: o3 :: o4 :: o5 :: o6 :: o7 :: o8 :: o9 :: o10 :: o11 :: o12 :: o13 :: o14 :: o15 :: o16 :: o17 :: o18 :: o19 :: o20 :: o21 :: o22 :: r)) = true) (hf : Region.free md (List.toArray (o0 :: o1 :: o2 :: o3 :: o4 :: o5 :: o6 :: o7 :: o8 :: o9 :: o10 :: o11 :: o12 :: o13 :: o14 :: o15 :: o16 :: o17 :: o18 :: o19 :: o20 :: o21 :: o22 :: r)) listed 22 = true) (hr : (Region.ready md (List.toArray (o0 :: o1 :: o2 :: o3 :: o4 :: o5 :: o6 :: o7 :: o8 :: o9 :: o10 :: o11 :: o12 :: o13 :: o14 :: o15 :: o16 :: o17 :: o18 :: o19 :: o20 :: o21 :: o22 :: r)) listed).contains 22 = true)
    (hQ : ∀ c a w, Q (.panic c) (a.put o22.dst v) w → Q (.panic c) a w) (hy : YieldsIf P (List.toArray (o0 :: o1 :: o2 :: o3 :: o4 :: o5 :: o6 :: o7 :: o8 :: o9 :: o10 :: o11 :: o12 :: o13 :: o14 :: o15 :: o16 :: o17 :: o18 :: o19 :: o20 :: o21 :: o22 :: r)) S o22 v a) (hS : S w) (h : wpAnyH P md (List.toArray (o0 :: o1 :: o2 :: o3 :: o4 :: o5 :: o6 :: o7 :: o8 :: o9 :: o10 :: o11 :: o12 :: o13 :: o14 :: o15 :: o16 :: o17 :: o18 :: o19 :: o20 :: o21 :: o22 :: r)) Q S fuel (listed.setIfInBounds 22 true) (a.put o22.dst v) w) : wpAnyH P md (List.toArray (o0 :: o1 :: o2 :: o3 :: o4 :: o5 :: o6 :: o7 :: o8 :: o9 :: o10 :: o11 :: o12 :: o13 :: o14 :: o15 :: o16 :: o17 :: o18 :: o19 :: o20 :: o21 :: o22 :: r)) Q S (fuel + 1) listed a w :=
  wpAnyH_take (i := 22) rfl hs hf hr hQ hy hS h
theorem rcons_22 {o0 o1 o2 o3 o4 o5 o6 o7 o8 o9 o10 o11 o12 o13 o14 o15 o16 o17 o18 o19 o20 o21 o22 : Oper} {r : List Oper} {rs : List Nat}
    (h : ∀ K' : Act → World → Prop, Shut (∀ a w, S w → (S w → wpAnyH P md (List.toArray (o0 :: o1 :: o2 :: o3 :: o4 :: o5 :: o6 :: o7 :: o8 :: o9 :: o10 :: o11 :: o12 :: o13 :: o14 :: o15 :: o16 :: o17 :: o18 :: o19 :: o20 :: o21 :: o22 :: r)) Q S fuel (listed.setIfInBounds 22 true) a w) → K' a w) → if Region.wanted o22 (yielded (List.toArray (o0 :: o1 :: o2 :: o3 :: o4 :: o5 :: o6 :: o7 :: o8 :: o9 :: o10 :: o11 :: o12 :: o13 :: o14 :: o15 :: o16 :: o17 :: o18 :: o19 :: o20 :: o21 :: o22 :: r)) a.tmps) = true then Oper.wp P o22 a w K' Q else K' (a.put o22.dst undef) w)
    (hs : AllReadyH P md (List.toArray (o0 :: o1 :: o2 :: o3 :: o4 :: o5 :: o6 :: o7 :: o8 :: o9 :: o10 :: o11 :: o12 :: o13 :: o14 :: o15 :: o16 :: o17 :: o18 :: o19 :: o20 :: o21 :: o22 :: r)) Q S fuel listed a w rs) : AllReadyH P md (List.toArray (o0 :: o1 :: o2 :: o3 :: o4 :: o5 :: o6 :: o7 :: o8 :: o9 :: o10 :: o11 :: o12 :: o13 :: o14 :: o15 :: o16 :: o17 :: o18 :: o19 :: o20 :: o21 :: o22 :: r)) Q S fuel listed a w (22 :: rs) :=
  AllReadyH.cons rfl h hs
theorem rtake_23 {o0 o1 o2 o3 o4 o5 o6 o7 o8 o9 o10 o11 o12 o13 o14 o15 o16 o17 o18 o19 o20 o21 o22 o23 : Oper} {r : List Oper} {v : Value} (hs : Region.noSelect (List.toArray (o0 :: o1 :: o2 :: o3 :: o4 :: o5 :: o6 :: o7 :: o8 :: o9 :: o10 :: o11 :: o12 :: o13 :: o14 :: o15 :: o16 :: o17 :: o18 :: o19 :: o20 :: o21 :: o22 :: o23 :: r)) = true) (hf : Region.free md (List.toArray (o0 :: o1 :: o2 :: o3 :: o4 :: o5 :: o6 :: o7 :: o8 :: o9 :: o10 :: o11 :: o12 :: o13 :: o14 :: o15 :: o16 :: o17 :: o18 :: o19 :: o20 :: o21 :: o22 :: o23 :: r)) listed 23 = true) (hr : (Region.ready md (List.toArray (o0 :: o1 :: o2 :: o3 :: o4 :: o5 :: o6 :: o7 :: o8 :: o9 :: o10 :: o11 :: o12 :: o13 :: o14 :: o15 :: o16 :: o17 :: o18 :: o19 :: o20 :: o21 :: o22 :: o23 :: r)) listed).contains 23 = true)
    (hQ : ∀ c a w, Q (.panic c) (a.put o23.dst v) w → Q (.panic c) a w) (hy : YieldsIf P (List.toArray (o0 :: o1 :: o2 :: o3 :: o4 :: o5 :: o6 :: o7 :: o8 :: o9 :: o10 :: o11 :: o12 :: o13 :: o14 :: o15 :: o16 :: o17 :: o18 :: o19 :: o20 :: o21 :: o22 :: o23 :: r)) S o23 v a) (hS : S w) (h : wpAnyH P md (List.toArray (o0 :: o1 :: o2 :: o3 :: o4 :: o5 :: o6 :: o7 :: o8 :: o9 :: o10 :: o11 :: o12 :: o13 :: o14 :: o15 :: o16 :: o17 :: o18 :: o19 :: o20 :: o21 :: o22 :: o23 :: r)) Q S fuel (listed.setIfInBounds 23 true) (a.put o23.dst v) w) : wpAnyH P md (List.toArray (o0 :: o1 :: o2 :: o3 :: o4 :: o5 :: o6 :: o7 :: o8 :: o9 :: o10 :: o11 :: o12 :: o13 :: o14 :: o15 :: o16 :: o17 :: o18 :: o19 :: o20 :: o21 :: o22 :: o23 :: r)) Q S (fuel + 1) listed a w :=
  wpAnyH_take (i := 23) rfl hs hf hr hQ hy hS h
theorem rcons_23 {o0 o1 o2 o3 o4 o5 o6 o7 o8 o9 o10 o11 o12 o13 o14 o15 o16 o17 o18 o19 o20 o21 o22 o23 : Oper} {r : List Oper} {rs : List Nat}
    (h : ∀ K' : Act → World → Prop, Shut (∀ a w, S w → (S w → wpAnyH P md (List.toArray (o0 :: o1 :: o2 :: o3 :: o4 :: o5 :: o6 :: o7 :: o8 :: o9 :: o10 :: o11 :: o12 :: o13 :: o14 :: o15 :: o16 :: o17 :: o18 :: o19 :: o20 :: o21 :: o22 :: o23 :: r)) Q S fuel (listed.setIfInBounds 23 true) a w) → K' a w) → if Region.wanted o23 (yielded (List.toArray (o0 :: o1 :: o2 :: o3 :: o4 :: o5 :: o6 :: o7 :: o8 :: o9 :: o10 :: o11 :: o12 :: o13 :: o14 :: o15 :: o16 :: o17 :: o18 :: o19 :: o20 :: o21 :: o22 :: o23 :: r)) a.tmps) = true then Oper.wp P o23 a w K' Q else K' (a.put o23.dst undef) w)
    (hs : AllReadyH P md (List.toArray (o0 :: o1 :: o2 :: o3 :: o4 :: o5 :: o6 :: o7 :: o8 :: o9 :: o10 :: o11 :: o12 :: o13 :: o14 :: o15 :: o16 :: o17 :: o18 :: o19 :: o20 :: o21 :: o22 :: o23 :: r)) Q S fuel listed a w rs) : AllReadyH P md (List.toArray (o0 :: o1 :: o2 :: o3 :: o4 :: o5 :: o6 :: o7 :: o8 :: o9 :: o10 :: o11 :: o12 :: o13 :: o14 :: o15 :: o16 :: o17 :: o18 :: o19 :: o20 :: o21 :: o22 :: o23 :: r)) Q S fuel listed a w (23 :: rs) :=
  AllReadyH.cons rfl h hs
end

end Go.Proofs.YtladfdpcdjjifaaGreatDoor

