/- The document's Parse of a deed's line answers as parseD says (printed by a program: gen/refparse.py). -/
import Derived.Test.YtmhlmoojmdfnfaaDoorDeedPR2
namespace Go.Proofs.YtmhlmoojmdfnfaaDoor
open Go.RowKit

set_option maxHeartbeats 3200000 in
set_option maxRecDepth 100000 in
theorem refParse_word (l w0 : List UInt8) (ws : List (List UInt8)) (w : World) (hl : l.length ≤ 100000) (hw : words l = w0 :: ws) (hop : opOf w0 = 0) :
    Calls Tryd.prog 35 #[strV l] w fun e w' => e = .returned (.tuple #[.agg (dC 0 0 0 0 0 0 false), .int .i64 15]) ∧ Kept [] w w' := by
  have HW := Lib.hid (fun w => refWords l w hl)
  rw [hw] at HW
  have HOP := Lib.hid (fun w => refOp w0 w)
  rw [hop] at HOP
  simp only [List.length_cons] at HW
  clear hw hop
  go_enter Tryd.func35, Tryd.ntmps35
  go_wp2_with fail
  refine (HW.out _).mono ?_
  rintro e wa ⟨A, c, rfl, hF⟩
  have hk := hF.2.1
  obtain ⟨bw, ow, rfl, hbl, hcell⟩ := (Reads.of_own hF.1).addr (by omega) (by omega)
  have hc0 := hcell 0 (strV w0) (by simp)
  rw [Nat.add_zero] at hc0
  have HKA := Lib.hid (((Kept.refl [] w).alloc _).trans hk)
  have HBA := Lib.hid ((Blk.new w 41 (dC 0 0 0 0 0 0 false)).kept hk (by simp))
  have hi0 : (0 : Int) < (ws.length : Int) + 1 := by omega
  have hne0 : (((ws.length : Int) + 1) == 0) = false := beq_eq_false_iff_ne.2 (by omega)
  clear hF hk hcell
  go_wp2_with fail
  refine (HOP.out _).mono ?_
  rintro e wb ⟨rfl, hkb1⟩
  have hc0b := hkb1.cell_some hc0 (by simp)
  have HKb := Lib.hid (HKA.out.trans hkb1)
  have HBb := Lib.hid (HBA.out.kept hkb1 (by simp))
  clear hkb1 hc0 HKA HBA
  have hcr := HBb.out.cell
  have hfr := HBb.out.frozen
  have hlr := HBb.out.lt
  go_wp2_with fail
  refine bodyPost_ret (v := .tuple #[.agg (dC 0 0 0 0 0 0 false), .int .i64 15]) (by simp [results, Tryd.results35, go_sem, hcr]) rfl ⟨rfl, ?_⟩
  have hk2 := HKb.out
  (repeat (first | (with_reducible exact Kept.refl _ _) | (with_reducible assumption) | (with_reducible refine Kept.alloc ?_ _) | (with_reducible refine Kept.drew ?_) | (with_reducible refine Kept.drewN ?_ _) | (with_reducible refine Kept.setCell ?_ ?_ _) | (exact .inr (Nat.le_refl _)) | (exact .inr (by simp only; omega)) | (exact .inr (by omega))))

set_option maxHeartbeats 3200000 in
set_option maxRecDepth 100000 in
theorem refParse_lenM (l w0 : List UInt8) (ws : List (List UInt8)) (h4 : ws.length ≠ 4) (h5 : ws.length ≠ 5) (w : World) (hl : l.length ≤ 100000) (hw : words l = w0 :: ws) (hop : opOf w0 = 2) :
    Calls Tryd.prog 35 #[strV l] w fun e w' => e = .returned (.tuple #[.agg (dC 0 0 0 0 0 0 false), .int .i64 3]) ∧ Kept [] w w' := by
  have HW := Lib.hid (fun w => refWords l w hl)
  rw [hw] at HW
  have HOP := Lib.hid (fun w => refOp w0 w)
  rw [hop] at HOP
  simp only [List.length_cons] at HW
  have HPA := Lib.hid (fun w => refParts 2 w)
  have hkb : ((2 : Int) == 0) = false := beq_eq_false_iff_ne.2 (by omega)
  rw [show partsL 2 = [65, 66, 82, 77, 76] from rfl] at HPA
  have h4b : ((ws.length : Int) + 1 == 5) = false := beq_eq_false_iff_ne.2 (by omega)
  have h5b : ((ws.length : Int) + 1 != 6) = true := by rw [bne_iff_ne]; omega
  clear hw hop
  go_enter Tryd.func35, Tryd.ntmps35
  go_wp2_with fail
  refine (HW.out _).mono ?_
  rintro e wa ⟨A, c, rfl, hF⟩
  have hk := hF.2.1
  obtain ⟨bw, ow, rfl, hbl, hcell⟩ := (Reads.of_own hF.1).addr (by omega) (by omega)
  have hc0 := hcell 0 (strV w0) (by simp)
  rw [Nat.add_zero] at hc0
  have HKA := Lib.hid (((Kept.refl [] w).alloc _).trans hk)
  have HBA := Lib.hid ((Blk.new w 41 (dC 0 0 0 0 0 0 false)).kept hk (by simp))
  have hi0 : (0 : Int) < (ws.length : Int) + 1 := by omega
  have hne0 : (((ws.length : Int) + 1) == 0) = false := beq_eq_false_iff_ne.2 (by omega)
  clear hF hk hcell
  go_wp2_with fail
  refine (HOP.out _).mono ?_
  rintro e wb ⟨rfl, hkb1⟩
  have hc0b := hkb1.cell_some hc0 (by simp)
  have HKb := Lib.hid (HKA.out.trans hkb1)
  have HBb := Lib.hid (HBA.out.kept hkb1 (by simp))
  clear hkb1 hc0 HKA HBA
  go_wp2_with fail
  refine (HOP.out _).mono ?_
  rintro e wc ⟨rfl, hkc1⟩
  have HKc := Lib.hid (HKb.out.trans hkc1)
  have HBc := Lib.hid (HBb.out.kept hkc1 (by simp))
  clear hkc1 hc0b HKb HBb
  go_wp2_with fail
  refine (HPA.out _).mono ?_
  rintro e wd ⟨rfl, hkd1⟩
  have HKd := Lib.hid ((HKc.out.alloc _).trans hkd1)
  have HBd := Lib.hid ((HBc.out.alloc _).kept hkd1 (by simp))
  have hcd := ((Blk.new wc 41 (dC 2 0 0 0 0 0 false)).kept hkd1 (by simp)).cell
  clear hkd1 HKc HBc
  rw [show (strV [65, 66, 82, 77, 76]) = Value.string ⟨#[65, 66, 82, 77, 76]⟩ from rfl]
  have hcr := HBd.out.cell
  have hfr := HBd.out.frozen
  have hlr := HBd.out.lt
  go_wp2_with fail
  refine bodyPost_ret (v := .tuple #[.agg (dC 0 0 0 0 0 0 false), .int .i64 3]) (by simp [results, Tryd.results35, go_sem, hcr]) rfl ⟨rfl, ?_⟩
  have hk2 := HKd.out
  (repeat (first | (with_reducible exact Kept.refl _ _) | (with_reducible assumption) | (with_reducible refine Kept.alloc ?_ _) | (with_reducible refine Kept.drew ?_) | (with_reducible refine Kept.drewN ?_ _) | (with_reducible refine Kept.setCell ?_ ?_ _) | (exact .inr (Nat.le_refl _)) | (exact .inr (by simp only; omega)) | (exact .inr (by omega))))

set_option maxHeartbeats 3200000 in
set_option maxRecDepth 100000 in
theorem refParse_lenN (l w0 : List UInt8) (ws : List (List UInt8)) (op : Int) (hk0 : 1 ≤ op) (h2 : op ≠ 2) (hlen : ws.length ≠ (partsL op).length) (w : World) (hl : l.length ≤ 100000) (hw : words l = w0 :: ws) (hop : opOf w0 = op) :
    Calls Tryd.prog 35 #[strV l] w fun e w' => e = .returned (.tuple #[.agg (dC 0 0 0 0 0 0 false), .int .i64 3]) ∧ Kept [] w w' := by
  have HW := Lib.hid (fun w => refWords l w hl)
  rw [hw] at HW
  have HOP := Lib.hid (fun w => refOp w0 w)
  rw [hop] at HOP
  simp only [List.length_cons] at HW
  have HPA := Lib.hid (fun w => refParts op w)
  have hkb : ((op : Int) == 0) = false := beq_eq_false_iff_ne.2 (by omega)
  obtain ⟨ps, hps⟩ : ∃ ps, partsL op = ps := ⟨_, rfl⟩
  have hpl : ps.length ≤ 5 := by rw [← hps]; exact partsL_len op
  rw [hps] at HPA hlen
  have h2b : (op == 2) = false := beq_eq_false_iff_ne.2 h2
  have hwl : ((ws.length : Int) + 1 != (ps.length : Int) + 1) = true := by rw [bne_iff_ne]; omega
  clear hps
  clear hw hop
  go_enter Tryd.func35, Tryd.ntmps35
  go_wp2_with fail
  refine (HW.out _).mono ?_
  rintro e wa ⟨A, c, rfl, hF⟩
  have hk := hF.2.1
  obtain ⟨bw, ow, rfl, hbl, hcell⟩ := (Reads.of_own hF.1).addr (by omega) (by omega)
  have hc0 := hcell 0 (strV w0) (by simp)
  rw [Nat.add_zero] at hc0
  have HKA := Lib.hid (((Kept.refl [] w).alloc _).trans hk)
  have HBA := Lib.hid ((Blk.new w 41 (dC 0 0 0 0 0 0 false)).kept hk (by simp))
  have hi0 : (0 : Int) < (ws.length : Int) + 1 := by omega
  have hne0 : (((ws.length : Int) + 1) == 0) = false := beq_eq_false_iff_ne.2 (by omega)
  clear hF hk hcell
  go_wp2_with fail
  refine (HOP.out _).mono ?_
  rintro e wb ⟨rfl, hkb1⟩
  have hc0b := hkb1.cell_some hc0 (by simp)
  have HKb := Lib.hid (HKA.out.trans hkb1)
  have HBb := Lib.hid (HBA.out.kept hkb1 (by simp))
  clear hkb1 hc0 HKA HBA
  go_wp2_with fail
  refine (HOP.out _).mono ?_
  rintro e wc ⟨rfl, hkc1⟩
  have HKc := Lib.hid (HKb.out.trans hkc1)
  have HBc := Lib.hid (HBb.out.kept hkc1 (by simp))
  clear hkc1 hc0b HKb HBb
  go_wp2_with fail
  refine (HPA.out _).mono ?_
  rintro e wd ⟨rfl, hkd1⟩
  have HKd := Lib.hid ((HKc.out.alloc _).trans hkd1)
  have HBd := Lib.hid ((HBc.out.alloc _).kept hkd1 (by simp))
  have hcd := ((Blk.new wc 41 (dC op 0 0 0 0 0 false)).kept hkd1 (by simp)).cell
  clear hkd1 HKc HBc
  have hcr := HBd.out.cell
  have hfr := HBd.out.frozen
  have hlr := HBd.out.lt
  go_wp2_with fail
  refine bodyPost_ret (v := .tuple #[.agg (dC 0 0 0 0 0 0 false), .int .i64 3]) (by simp [results, Tryd.results35, go_sem, hcr]) rfl ⟨rfl, ?_⟩
  have hk2 := HKd.out
  (repeat (first | (with_reducible exact Kept.refl _ _) | (with_reducible assumption) | (with_reducible refine Kept.alloc ?_ _) | (with_reducible refine Kept.drew ?_) | (with_reducible refine Kept.drewN ?_ _) | (with_reducible refine Kept.setCell ?_ ?_ _) | (exact .inr (Nat.le_refl _)) | (exact .inr (by simp only; omega)) | (exact .inr (by omega))))

theorem partsR_parse (l w0 : List UInt8) (ws : List (List UInt8)) (op : Int) (ps : List UInt8) (hw : words l = w0 :: ws) (hop : opOf w0 = op) (h0 : op ≠ 0) (hps : ps = if op = 2 ∧ ws.length = 4 then [65, 66, 82, 77] else partsL op) (hlen : ws.length = ps.length) : parseD 64 l = partsR op (ps.zip ws) := by
  rw [parseD, hw]
  simp only [hop, if_neg h0, ← hps, partsR]
  rw [if_neg (by omega)]

theorem parseD_lenbad (l w0 : List UInt8) (ws : List (List UInt8)) (ps : List UInt8) (hw : words l = w0 :: ws) (h0 : opOf w0 ≠ 0) (hps : (if opOf w0 = 2 ∧ ws.length = 4 then [65, 66, 82, 77] else partsL (opOf w0)) = ps) (hlen : ws.length ≠ ps.length) : parseD 64 l = (Dd.zero, 3) := by
  rw [parseD, hw]
  simp only [if_neg h0, hps]
  rw [if_pos hlen]

theorem partsL_mem (op : Int) : ∀ c ∈ partsL op, c = 65 ∨ c = 66 ∨ c = 82 ∨ c = 78 ∨ c = 77 ∨ c = 76 := by
  unfold partsL
  (repeat' split) <;> simp

theorem opOf_nn (w0 : List UInt8) : 0 ≤ opOf w0 := by unfold opOf; (repeat' split) <;> omega

/-- The document's Parse. -/
theorem refParse_any (l : List UInt8) (w : World) (hl : l.length ≤ 100000) :
    Calls Tryd.prog 35 #[strV l] w fun e w' => e = .returned (.tuple #[.agg (dCd (parseD 64 l).1), .int .i64 (parseD 64 l).2]) ∧ Kept [] w w' := by
  have hxl : ∀ x ∈ words l, x.length ≤ 100000 := fun x hx => by have := (words_len0 l []).1 x hx; simp at this; omega
  cases hw : words l with
  | nil => rw [parseD_none 64 l hw]; exact refParse_none l w hl hw
  | cons w0 ws =>
    have hxw : ∀ x ∈ ws, x.length ≤ 100000 := fun x hx => hxl x (by rw [hw]; simp [hx])
    by_cases h0 : opOf w0 = 0
    · rw [parseD_word 64 l w0 ws hw h0]; exact refParse_word l w0 ws w hl hw h0
    · have hp := opOf_nn w0
      by_cases h2 : opOf w0 = 2
      · by_cases h4 : ws.length = 4
        · rw [partsR_parse l w0 ws 2 [65, 66, 82, 77] hw h2 (by omega) (by rw [if_pos ⟨rfl, h4⟩]) (by simpa using h4)]
          exact refParse_runA l w0 ws 2 [65, 66, 82, 77] w hl hw h2 (by omega) ⟨rfl, rfl⟩ (by simpa using h4) hxw (by simp) (by simp)
        · by_cases h5 : ws.length = 5
          · rw [partsR_parse l w0 ws 2 [65, 66, 82, 77, 76] hw h2 (by omega) (by rw [if_neg (fun h => h4 h.2)]; rfl) (by simpa using h5)]
            exact refParse_runC l w0 ws 2 [65, 66, 82, 77, 76] w hl hw h2 (by omega) ⟨rfl, rfl⟩ (by simpa using h5) hxw (by simp) (by simp)
          · rw [parseD_lenbad l w0 ws _ hw h0 (if_neg (fun h => h4 h.2)) (by rw [h2]; exact h5)]
            exact refParse_lenM l w0 ws h4 h5 w hl hw h2
      · by_cases hlen : ws.length = (partsL (opOf w0)).length
        · rw [partsR_parse l w0 ws _ _ hw rfl h0 (by rw [if_neg (fun h => h2 h.1)]) hlen]
          exact refParse_runB l w0 ws _ _ w hl hw rfl (by omega) rfl h2 hlen hxw (partsL_len _) (partsL_mem _)
        · rw [parseD_lenbad l w0 ws _ hw h0 (if_neg (fun h => h2 h.1)) hlen]
          exact refParse_lenN l w0 ws _ (by omega) h2 hlen w hl hw rfl

end Go.Proofs.YtmhlmoojmdfnfaaDoor
