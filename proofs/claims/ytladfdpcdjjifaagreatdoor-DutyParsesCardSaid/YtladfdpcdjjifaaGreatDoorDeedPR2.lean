/- The document's Parse of a deed's line, when there are as many words as parts. -/
import Derived.Test.YtladfdpcdjjifaaGreatDoorDutyC
namespace Go.Proofs.YtladfdpcdjjifaaGreatDoor
open Go.RowKit

/-- What Parse works on: its result, a deed, the line's words. -/
structure RD (w wr : World) (g5 bw ow : Nat) (ws : List (List UInt8)) (d : Dd) : Prop where
  res : Blk wr w.heap.size 60 (dC 0 0 0 0 0 0 false)
  ev : Blk wr g5 60 (dCd d)
  reads : Reads wr 1 (some ⟨bw, ow, none⟩) ws.length (ws.map strV)
  far : bw ≠ g5
  kept : Kept [] w wr
  lt : w.heap.size < g5
theorem RD.put {w wr : World} {g5 bw ow : Nat} {ws : List (List UInt8)} {d : Dd} (h : RD w wr g5 bw ow ws d) (i : Nat) (v : Value) (d' : Dd) (he : (dCd d).setIfInBounds i v = dCd d') : RD w (wr.setCell ⟨g5, i, none⟩ v) g5 bw ow ws d' := by
  have hk : Kept [g5] wr (wr.setCell ⟨g5, i, none⟩ v) := (Kept.refl _ _).setCell (.inl (by simp)) _
  refine ⟨h.res.kept hk (by have := h.lt; simp; omega), ?_, h.reads.kept hk (fun ad ea => by injection ea with ea; subst ea; simpa using h.far), h.far, h.kept.setCell (.inr (by have := h.lt; show w.heap.size ≤ g5; omega)) _, h.lt⟩
  rw [← he]
  exact h.ev.set i v

/-- What comes of a deed's parts. -/
def partsR (op : Int) (z : List (UInt8 × List UInt8)) : Dd × Int :=
  if z.all (fun cw => wordOk cw.1 cw.2) = false then (Dd.zero, 3) else if goodD (z.foldl (fillP 64) ⟨op, 0, 0, 0, 0, 0, false⟩) then (z.foldl (fillP 64) ⟨op, 0, 0, 0, 0, 0, false⟩, 0) else (Dd.zero, 5)
theorem take_zip {α β : Type} (a : List α) (b : List β) (k : Nat) (h1 : k < a.length) (h2 : k < b.length) : (a.zip b).take (k + 1) = (a.zip b).take k ++ [(a[k], b[k])] := by
  have hl : k < (a.zip b).length := by simp; omega
  rw [List.take_succ_eq_append_getElem hl]
  simp
theorem not_all_take {α : Type} {p : α → Bool} {l : List α} {k : Nat} {x : α} (h : l.take (k + 1) = l.take k ++ [x]) (hx : p x = false) : l.all p = false := by
  have h1 : x ∈ l := List.mem_of_mem_take (by rw [h]; simp : x ∈ l.take (k + 1))
  rw [← Bool.not_eq_true, List.all_eq_true]
  intro h2
  rw [h2 x h1] at hx
  cases hx

set_option maxHeartbeats 12800000 in
set_option maxRecDepth 100000 in
theorem refParse_runA (l w0 : List UInt8) (ws : List (List UInt8)) (op : Int) (ps : List UInt8) (w : World) (hl : l.length ≤ 100000) (hw : words l = w0 :: ws) (hop : opOf w0 = op) (hk0 : 1 ≤ op) (hps : op = 2 ∧ ps = [65, 66, 82, 77]) (hlen : ws.length = ps.length) (hxl : ∀ x ∈ ws, x.length ≤ 100000) (hpl : ps.length ≤ 5) (hmem : ∀ c ∈ ps, c = 65 ∨ c = 66 ∨ c = 82 ∨ c = 78 ∨ c = 77 ∨ c = 76) :
    Calls Tryz.prog 38 #[strV l] w fun e w' => e = .returned (.tuple #[.agg (dCd (partsR op (ps.zip ws)).1), .int .i64 (partsR op (ps.zip ws)).2]) ∧ Kept [] w w' := by
  have HW := Lib.hid (fun w => refWords l w hl)
  rw [hw] at HW
  have HOP := Lib.hid (fun w => refOp w0 w)
  rw [hop] at HOP
  have HPA := Lib.hid (fun w => refParts op w)
  have hkb : (op == 0) = false := beq_eq_false_iff_ne.2 (by omega)
  obtain ⟨rfl, hps⟩ := hps
  have hpl4 : ps.length = 4 := by rw [hps]; rfl
  have hwl4 : ws.length = 4 := by omega
  rw [show partsL 2 = [65, 66, 82, 77, 76] from rfl] at HPA
  have HPS := Lib.hid hps
  clear hps
  obtain ⟨R, hR⟩ : ∃ R, partsR 2 (ps.zip ws) = R := ⟨_, rfl⟩
  rw [hR]
  have HR := Lib.hid hR
  clear hR
  simp only [List.length_cons] at HW
  have HS := Lib.hid (fun x w h => refSmall x w h)
  have HRD := Lib.hid (fun x (hx : x.length ≤ 100000) w => refRead x w (by omega))
  have HRH := Lib.hid (fun x (hx : x.length ≤ 100000) w => refReadHex x w (by omega))
  have HG := Lib.hid (fun (d : Dd) w => refGood d.op d.a d.b d.r d.n d.mask d.loose w)
  have HXL := Lib.hid hxl
  have HMEM := Lib.hid hmem
  have HLEN := Lib.hid hlen
  clear hw hop hxl hmem
  go_enter Tryz.func38, Tryz.ntmps38
  go_wp2_with fail
  refine (HW.out _).mono ?_
  rintro e wa ⟨A, c, rfl, hF⟩
  have hk := hF.2.1
  obtain ⟨bw, ow, rfl, hbl, hcell⟩ := (Reads.of_own hF.1).addr (by omega) (by omega)
  have hc0 := hcell 0 (strV w0) (by simp)
  rw [Nat.add_zero] at hc0
  have HRE := Lib.hid (Reads.of_own hF.1)
  have HKA := Lib.hid (((Kept.refl [] w).alloc _).trans hk)
  have HBA := Lib.hid ((Blk.new w 60 (dC 0 0 0 0 0 0 false)).kept hk (by simp))
  have hi0 : (0 : Int) < (ws.length : Int) + 1 := by omega
  have hne0 : (((ws.length : Int) + 1) == 0) = false := beq_eq_false_iff_ne.2 (by omega)
  clear hF hk hcell
  go_wp2_with fail
  refine (HOP.out _).mono ?_
  rintro e wb ⟨rfl, hkb1⟩
  have hc0b := hkb1.cell_some hc0 (by simp)
  have HREb := Lib.hid (HRE.out.old hkb1)
  have HKb := Lib.hid (HKA.out.trans hkb1)
  have HBb := Lib.hid (HBA.out.kept hkb1 (by simp))
  have hblb : bw < wb.heap.size := by have := hkb1.size; omega
  clear hkb1 hc0 HRE HKA HBA
  go_wp2_with fail
  refine (HOP.out _).mono ?_
  rintro e wc ⟨rfl, hkc1⟩
  have HREc := Lib.hid (HREb.out.old hkc1)
  have HKc := Lib.hid (HKb.out.trans hkc1)
  have HBc := Lib.hid (HBb.out.kept hkc1 (by simp))
  have hblc : bw < wc.heap.size := by have := hkc1.size; omega
  clear hkc1 hc0b HREb HKb HBb
  go_wp2_with fail
  refine (HPA.out _).mono ?_
  rintro e wd ⟨rfl, hkd1⟩
  have HRD0 : Hid (RD w wd wc.heap.size bw ow (w0 :: ws) ⟨2, 0, 0, 0, 0, 0, false⟩) := ⟨(HBc.out.alloc _).kept hkd1 (by simp), (Blk.new _ _ _).kept hkd1 (by simp), (HREc.out.alloc _).old hkd1, by omega, (HKc.out.alloc _).trans hkd1, HBc.out.lt⟩
  have hcd := HRD0.out.ev.cell
  have hld := HRD0.out.ev.lt
  clear hkd1 HREc HKc HBc
  rw [show (strV [65, 66, 82, 77, 76]) = Value.string ⟨#[65, 66, 82, 77, 76]⟩ from rfl]
  go_wp2_with fail
  go_loopw [8] (fun iv wr => ∃ (k : Nat) (e : Dd), k ≤ ps.length ∧ iv = .int .i64 k ∧ Hid (e = ((ps.zip ws).take k).foldl (fillP 64) ⟨2, 0, 0, 0, 0, 0, false⟩) ∧ Hid (((ps.zip ws).take k).all (fun cw => wordOk cw.1 cw.2) = true) ∧ Hid (RD w wr wc.heap.size bw ow (w0 :: ws) e)) (fun i _ => ps.length - (intOf i).toNat)
  case atStart => exact ⟨0, ⟨2, 0, 0, 0, 0, 0, false⟩, by omega, rfl, rfl, rfl, HRD0⟩
  case round =>
    obtain ⟨k, e, hk, rfl, HE, HOK, HD⟩ := hrel
    have hce := HD.out.ev.cell
    have hfe := HD.out.ev.frozen
    have hle := HD.out.ev.lt
    have hcr := HD.out.res.cell
    have hfr := HD.out.res.frozen
    have hlr := HD.out.res.lt
    have he0 : wr.cell? ⟨wc.heap.size, 0, none⟩ = some (.int .i64 e.op) := by rw [hce]; rfl
    have he1 : wr.cell? ⟨wc.heap.size, 1, none⟩ = some (.int .i64 e.a) := by rw [hce]; rfl
    have he2 : wr.cell? ⟨wc.heap.size, 2, none⟩ = some (.int .i64 e.b) := by rw [hce]; rfl
    have he3 : wr.cell? ⟨wc.heap.size, 3, none⟩ = some (.int .i64 e.r) := by rw [hce]; rfl
    have he4 : wr.cell? ⟨wc.heap.size, 4, none⟩ = some (.int .u64 e.n) := by rw [hce]; rfl
    have he5 : wr.cell? ⟨wc.heap.size, 5, none⟩ = some (.int .u64 e.mask) := by rw [hce]; rfl
    have he6 : wr.cell? ⟨wc.heap.size, 6, none⟩ = some (.bool e.loose) := by rw [hce]; rfl
    have hf1 := hfe 1
    have hf2 := hfe 2
    have hf3 := hfe 3
    have hf4 := hfe 4
    have hf5 := hfe 5
    have hf6 := hfe 6
    clear hce hfe
    by_cases hlt : k < ps.length
    · have hltw : k < ws.length := by have := HLEN.out; omega
      obtain ⟨c, hlk⟩ : ∃ c : UInt8, ps[k] = c := ⟨_, rfl⟩
      obtain ⟨x, hxk⟩ : ∃ x, ws[k] = x := ⟨_, rfl⟩
      have hcm := HMEM.out c (hlk ▸ List.getElem_mem hlt)
      have hidx : (⟨#[65, 66, 82, 77]⟩ : ByteArray)[k]'(show k < 4 by omega) = c := by have h0 := hlk; have h1 := HPS.out; subst h1; exact h0
      have htk : (ps.zip ws).take (k + 1) = (ps.zip ws).take k ++ [(c, x)] := by rw [take_zip _ _ _ hlt hltw, hlk, hxk]
      have hxl : x.length ≤ 100000 := HXL.out x (hxk ▸ List.getElem_mem hltw)
      have hcx : wr.cell? ⟨bw, ow + (k + 1), none⟩ = some (strV x) := by
        obtain ⟨b, o, eb, _, h⟩ := HD.out.reads.addr (by simp) (by omega)
        injection eb with eb
        injection eb with e1 e2
        subst e1 e2
        exact h (k + 1) _ (by rw [List.map_cons, List.getElem?_cons_succ, List.getElem?_map, List.getElem?_eq_getElem hltw, hxk]; rfl)
      have HE2 : Hid (((ps.zip ws).take (k + 1)).foldl (fillP 64) ⟨2, 0, 0, 0, 0, 0, false⟩ = fillP 64 e (c, x)) := by
        rw [Hid, htk, List.foldl_append, ← HE.out]; rfl
      have HA2 : Hid (wordOk c x = true → ((ps.zip ws).take (k + 1)).all (fun cw => wordOk cw.1 cw.2) = true) := by
        intro h; rw [htk, List.all_append, HOK.out]; simp [h]
      have HBAD : Hid (wordOk c x = false → R = (Dd.zero, 3)) := by
        intro h; rw [← HR.out, partsR, if_pos (not_all_take htk h)]
      have HR1 := Lib.hid (HRD.out x hxl)
      have HR2 := Lib.hid (HRH.out x hxl)
      have hi0 : (0 : Int) ≤ (k : Int) + 1 := by omega
      have hi1 : (k : Int) + 1 < (ws.length : Int) + 1 := by omega
      have hbv := readD_lt x
      obtain ⟨rx, hrx⟩ : ∃ rx, readD x = rx := ⟨_, rfl⟩
      obtain ⟨rh, hrh⟩ : ∃ rh, readH x = rh := ⟨_, rfl⟩
      rw [hrx] at HR1 hbv
      rw [hrh] at HR2
      obtain ⟨vx, ex⟩ := rx
      obtain ⟨vh, eh⟩ := rh
      simp only at HR1 HR2 hbv
      have HRX := Lib.hid hrx
      have HRH2 := Lib.hid hrh
      clear hlk hxk hrx hrh htk hltw
      rcases hcm with rfl | rfl | rfl | rfl | rfl | rfl
      · by_cases hec : ex = 0
        · have HA3 := Lib.hid (HA2.out (by simp [wordOk, HRX.out, hec]))
          have HF3 : Hid (fillP 64 e (65, x) = { e with a := ((min vx 64 : Nat) : Int) }) := by simp [Hid, fillP, HRX.out]
          subst hec
          go_wp2_with fail
          refine (HR1.out _).mono ?_
          rintro e1 wn ⟨rfl, rfl⟩
          go_wp2_with fail
          refine (HS.out vx _ hbv).mono ?_
          rintro e2 wn2 ⟨rfl, rfl⟩
          go_wp2_with fail
          go_roundw
          case rel => exact ⟨k + 1, { e with a := ((min vx 64 : Nat) : Int) }, by omega, by go_num, by rw [Hid, HE2.out, HF3.out], HA3, HD.out.put 1 _ _ rfl⟩
          case measure => simp [intOf]; omega
        · have HB3 := Lib.hid (HBAD.out (by simp [wordOk, HRX.out, hec]))
          have hec2 : (ex != 0) = true := by rw [bne_iff_ne]; exact hec
          clear hec
          go_wp2_with fail
          refine (HR1.out _).mono ?_
          rintro e1 wn ⟨rfl, rfl⟩
          go_wp2_with fail
          refine bodyPost_ret (v := .tuple #[.agg (dC 0 0 0 0 0 0 false), .int .i64 3]) (by simp [results, Tryz.results38, go_sem, hcr]) rfl ⟨by rw [HB3.out]; rfl, ?_⟩
          have hk2 := HD.out.kept
          (repeat (first | (with_reducible exact Kept.refl _ _) | (with_reducible assumption) | (with_reducible refine Kept.alloc ?_ _) | (with_reducible refine Kept.drew ?_) | (with_reducible refine Kept.drewN ?_ _) | (with_reducible refine Kept.setCell ?_ ?_ _) | (exact .inr (Nat.le_refl _)) | (exact .inr (by simp only; omega)) | (exact .inr (by omega))))
      · by_cases hec : ex = 0
        · have HA3 := Lib.hid (HA2.out (by simp [wordOk, HRX.out, hec]))
          have HF3 : Hid (fillP 64 e (66, x) = { e with b := ((min vx 64 : Nat) : Int) }) := by simp [Hid, fillP, HRX.out]
          subst hec
          go_wp2_with fail
          refine (HR1.out _).mono ?_
          rintro e1 wn ⟨rfl, rfl⟩
          go_wp2_with fail
          refine (HS.out vx _ hbv).mono ?_
          rintro e2 wn2 ⟨rfl, rfl⟩
          go_wp2_with fail
          go_roundw
          case rel => exact ⟨k + 1, { e with b := ((min vx 64 : Nat) : Int) }, by omega, by go_num, by rw [Hid, HE2.out, HF3.out], HA3, HD.out.put 2 _ _ rfl⟩
          case measure => simp [intOf]; omega
        · have HB3 := Lib.hid (HBAD.out (by simp [wordOk, HRX.out, hec]))
          have hec2 : (ex != 0) = true := by rw [bne_iff_ne]; exact hec
          clear hec
          go_wp2_with fail
          refine (HR1.out _).mono ?_
          rintro e1 wn ⟨rfl, rfl⟩
          go_wp2_with fail
          refine bodyPost_ret (v := .tuple #[.agg (dC 0 0 0 0 0 0 false), .int .i64 3]) (by simp [results, Tryz.results38, go_sem, hcr]) rfl ⟨by rw [HB3.out]; rfl, ?_⟩
          have hk2 := HD.out.kept
          (repeat (first | (with_reducible exact Kept.refl _ _) | (with_reducible assumption) | (with_reducible refine Kept.alloc ?_ _) | (with_reducible refine Kept.drew ?_) | (with_reducible refine Kept.drewN ?_ _) | (with_reducible refine Kept.setCell ?_ ?_ _) | (exact .inr (Nat.le_refl _)) | (exact .inr (by simp only; omega)) | (exact .inr (by omega))))
      · by_cases hec : ex = 0
        · have HA3 := Lib.hid (HA2.out (by simp [wordOk, HRX.out, hec]))
          have HF3 : Hid (fillP 64 e (82, x) = { e with r := ((min vx 64 : Nat) : Int) }) := by simp [Hid, fillP, HRX.out]
          subst hec
          go_wp2_with fail
          refine (HR1.out _).mono ?_
          rintro e1 wn ⟨rfl, rfl⟩
          go_wp2_with fail
          refine (HS.out vx _ hbv).mono ?_
          rintro e2 wn2 ⟨rfl, rfl⟩
          go_wp2_with fail
          go_roundw
          case rel => exact ⟨k + 1, { e with r := ((min vx 64 : Nat) : Int) }, by omega, by go_num, by rw [Hid, HE2.out, HF3.out], HA3, HD.out.put 3 _ _ rfl⟩
          case measure => simp [intOf]; omega
        · have HB3 := Lib.hid (HBAD.out (by simp [wordOk, HRX.out, hec]))
          have hec2 : (ex != 0) = true := by rw [bne_iff_ne]; exact hec
          clear hec
          go_wp2_with fail
          refine (HR1.out _).mono ?_
          rintro e1 wn ⟨rfl, rfl⟩
          go_wp2_with fail
          refine bodyPost_ret (v := .tuple #[.agg (dC 0 0 0 0 0 0 false), .int .i64 3]) (by simp [results, Tryz.results38, go_sem, hcr]) rfl ⟨by rw [HB3.out]; rfl, ?_⟩
          have hk2 := HD.out.kept
          (repeat (first | (with_reducible exact Kept.refl _ _) | (with_reducible assumption) | (with_reducible refine Kept.alloc ?_ _) | (with_reducible refine Kept.drew ?_) | (with_reducible refine Kept.drewN ?_ _) | (with_reducible refine Kept.setCell ?_ ?_ _) | (exact .inr (Nat.le_refl _)) | (exact .inr (by simp only; omega)) | (exact .inr (by omega))))
      · by_cases hec : ex = 0
        · have HA3 := Lib.hid (HA2.out (by simp [wordOk, HRX.out, hec]))
          have HF3 : Hid (fillP 64 e (78, x) = { e with n := vx }) := by simp [Hid, fillP, HRX.out]
          subst hec
          go_wp2_with fail
          refine (HR1.out _).mono ?_
          rintro e1 wn ⟨rfl, rfl⟩
          go_wp2_with fail
          go_roundw
          case rel => exact ⟨k + 1, { e with n := vx }, by omega, by go_num, by rw [Hid, HE2.out, HF3.out], HA3, HD.out.put 4 _ _ rfl⟩
          case measure => simp [intOf]; omega
        · have HB3 := Lib.hid (HBAD.out (by simp [wordOk, HRX.out, hec]))
          have hec2 : (ex != 0) = true := by rw [bne_iff_ne]; exact hec
          clear hec
          go_wp2_with fail
          refine (HR1.out _).mono ?_
          rintro e1 wn ⟨rfl, rfl⟩
          go_wp2_with fail
          refine bodyPost_ret (v := .tuple #[.agg (dC 0 0 0 0 0 0 false), .int .i64 3]) (by simp [results, Tryz.results38, go_sem, hcr]) rfl ⟨by rw [HB3.out]; rfl, ?_⟩
          have hk2 := HD.out.kept
          (repeat (first | (with_reducible exact Kept.refl _ _) | (with_reducible assumption) | (with_reducible refine Kept.alloc ?_ _) | (with_reducible refine Kept.drew ?_) | (with_reducible refine Kept.drewN ?_ _) | (with_reducible refine Kept.setCell ?_ ?_ _) | (exact .inr (Nat.le_refl _)) | (exact .inr (by simp only; omega)) | (exact .inr (by omega))))
      · by_cases hec : eh = 0
        · have HA3 := Lib.hid (HA2.out (by simp [wordOk, HRH2.out, hec]))
          have HF3 : Hid (fillP 64 e (77, x) = { e with mask := vh }) := by simp [Hid, fillP, HRH2.out]
          subst hec
          go_wp2_with fail
          refine (HR1.out _).mono ?_
          rintro e1 wn ⟨rfl, rfl⟩
          go_wp2_with fail
          refine (HR2.out _).mono ?_
          rintro e2 wn2 ⟨rfl, rfl⟩
          go_wp2_with fail
          go_roundw
          case rel => exact ⟨k + 1, { e with mask := vh }, by omega, by go_num, by rw [Hid, HE2.out, HF3.out], HA3, HD.out.put 5 _ _ rfl⟩
          case measure => simp [intOf]; omega
        · have HB3 := Lib.hid (HBAD.out (by simp [wordOk, HRH2.out, hec]))
          have hec2 : (eh != 0) = true := by rw [bne_iff_ne]; exact hec
          clear hec
          go_wp2_with fail
          refine (HR1.out _).mono ?_
          rintro e1 wn ⟨rfl, rfl⟩
          go_wp2_with fail
          refine (HR2.out _).mono ?_
          rintro e2 wn2 ⟨rfl, rfl⟩
          go_wp2_with fail
          refine bodyPost_ret (v := .tuple #[.agg (dC 0 0 0 0 0 0 false), .int .i64 3]) (by simp [results, Tryz.results38, go_sem, hcr]) rfl ⟨by rw [HB3.out]; rfl, ?_⟩
          have hk2 := HD.out.kept
          (repeat (first | (with_reducible exact Kept.refl _ _) | (with_reducible assumption) | (with_reducible refine Kept.alloc ?_ _) | (with_reducible refine Kept.drew ?_) | (with_reducible refine Kept.drewN ?_ _) | (with_reducible refine Kept.setCell ?_ ?_ _) | (exact .inr (Nat.le_refl _)) | (exact .inr (by simp only; omega)) | (exact .inr (by omega))))
      · by_cases hec : x = [108, 111, 111, 115, 101]
        · have HA3 := Lib.hid (HA2.out (by simp [wordOk, hec]))
          have HF3 : Hid (fillP 64 e (76, x) = { e with loose := true }) := by simp [Hid, fillP]
          subst hec
          go_wp2_with fail
          refine (HR1.out _).mono ?_
          rintro e1 wn ⟨rfl, rfl⟩
          go_wp2_with fail
          refine ⟨⟨k + 1, { e with loose := true }, by omega, by go_num, by rw [Hid, HE2.out, HF3.out], HA3, HD.out.put 6 _ _ rfl⟩, ?_⟩
          simp [intOf]; omega
        · have HB3 := Lib.hid (HBAD.out (by simp [wordOk, hec]))
          have hec2 : (x == [108, 111, 111, 115, 101]) = false := by simpa using hec
          clear hec
          go_wp2_with fail
          refine (HR1.out _).mono ?_
          rintro e1 wn ⟨rfl, rfl⟩
          go_wp2_with fail
          refine bodyPost_ret (v := .tuple #[.agg (dC 0 0 0 0 0 0 false), .int .i64 3]) (by simp [results, Tryz.results38, go_sem, hcr]) rfl ⟨by rw [HB3.out]; rfl, ?_⟩
          have hk2 := HD.out.kept
          (repeat (first | (with_reducible exact Kept.refl _ _) | (with_reducible assumption) | (with_reducible refine Kept.alloc ?_ _) | (with_reducible refine Kept.drew ?_) | (with_reducible refine Kept.drewN ?_ _) | (with_reducible refine Kept.setCell ?_ ?_ _) | (exact .inr (Nat.le_refl _)) | (exact .inr (by simp only; omega)) | (exact .inr (by omega))))
    · obtain rfl : k = ps.length := by omega
      have hE := HE.out
      have hO := HOK.out
      rw [List.take_of_length_le (by simp; omega)] at hE hO
      have hRR := HR.out
      rw [partsR, if_neg (by rw [hO]; simp), ← hE] at hRR
      have HG2 := Lib.hid (HG.out e)
      generalize goodD e = gd at *
      have HRR := Lib.hid hRR
      clear hE hO hRR
      go_wp2_with fail
      refine (HG2.out _).mono ?_
      rintro e1 wn ⟨rfl, hkn⟩
      have HDN : Hid (RD w wn wc.heap.size bw ow (w0 :: ws) e) := ⟨HD.out.res.kept hkn (by simp), HD.out.ev.kept hkn (by simp), HD.out.reads.old hkn, HD.out.far, HD.out.kept.trans hkn, HD.out.lt⟩
      have hce := HDN.out.ev.cell
      have hlen2 := HDN.out.ev.lt
      have hcr2 := HDN.out.res.cell
      have hfr2 := HDN.out.res.frozen
      have hlr2 := HDN.out.res.lt
      clear hkn he0 he1 he2 he3 he4 he5 he6 hf1 hf2 hf3 hf4 hf5 hf6 hcr hfr hlr
      cases gd
      · go_wp2_with fail
        refine bodyPost_ret (v := .tuple #[.agg (dC 0 0 0 0 0 0 false), .int .i64 5]) (by simp [results, Tryz.results38, go_sem, hcr2]) rfl ⟨by rw [← HRR.out]; simp [Dd.zero], ?_⟩
        have hk2 := HDN.out.kept
        (repeat (first | (with_reducible exact Kept.refl _ _) | (with_reducible assumption) | (with_reducible refine Kept.alloc ?_ _) | (with_reducible refine Kept.drew ?_) | (with_reducible refine Kept.drewN ?_ _) | (with_reducible refine Kept.setCell ?_ ?_ _) | (exact .inr (Nat.le_refl _)) | (exact .inr (by simp only; omega)) | (exact .inr (by omega))))
      · go_wp2_with fail
        refine bodyPost_ret (v := .tuple #[.agg (dCd e), .int .i64 0]) (by simp [results, Tryz.results38, go_sem, hcr2]) rfl ⟨by rw [← HRR.out]; simp, ?_⟩
        have hk2 := HDN.out.kept
        (repeat (first | (with_reducible exact Kept.refl _ _) | (with_reducible assumption) | (with_reducible refine Kept.alloc ?_ _) | (with_reducible refine Kept.drew ?_) | (with_reducible refine Kept.drewN ?_ _) | (with_reducible refine Kept.setCell ?_ ?_ _) | (exact .inr (Nat.le_refl _)) | (exact .inr (by simp only; omega)) | (exact .inr (by omega))))
set_option maxHeartbeats 12800000 in
set_option maxRecDepth 100000 in
theorem refParse_runC (l w0 : List UInt8) (ws : List (List UInt8)) (op : Int) (ps : List UInt8) (w : World) (hl : l.length ≤ 100000) (hw : words l = w0 :: ws) (hop : opOf w0 = op) (hk0 : 1 ≤ op) (hps : op = 2 ∧ ps = [65, 66, 82, 77, 76]) (hlen : ws.length = ps.length) (hxl : ∀ x ∈ ws, x.length ≤ 100000) (hpl : ps.length ≤ 5) (hmem : ∀ c ∈ ps, c = 65 ∨ c = 66 ∨ c = 82 ∨ c = 78 ∨ c = 77 ∨ c = 76) :
    Calls Tryz.prog 38 #[strV l] w fun e w' => e = .returned (.tuple #[.agg (dCd (partsR op (ps.zip ws)).1), .int .i64 (partsR op (ps.zip ws)).2]) ∧ Kept [] w w' := by
  have HW := Lib.hid (fun w => refWords l w hl)
  rw [hw] at HW
  have HOP := Lib.hid (fun w => refOp w0 w)
  rw [hop] at HOP
  have HPA := Lib.hid (fun w => refParts op w)
  have hkb : (op == 0) = false := beq_eq_false_iff_ne.2 (by omega)
  obtain ⟨rfl, hps⟩ := hps
  have hpl4 : ps.length = 5 := by rw [hps]; rfl
  have hwl4 : ws.length = 5 := by omega
  rw [show partsL 2 = [65, 66, 82, 77, 76] from rfl] at HPA
  have HPS := Lib.hid hps
  clear hps
  obtain ⟨R, hR⟩ : ∃ R, partsR 2 (ps.zip ws) = R := ⟨_, rfl⟩
  rw [hR]
  have HR := Lib.hid hR
  clear hR
  simp only [List.length_cons] at HW
  have HS := Lib.hid (fun x w h => refSmall x w h)
  have HRD := Lib.hid (fun x (hx : x.length ≤ 100000) w => refRead x w (by omega))
  have HRH := Lib.hid (fun x (hx : x.length ≤ 100000) w => refReadHex x w (by omega))
  have HG := Lib.hid (fun (d : Dd) w => refGood d.op d.a d.b d.r d.n d.mask d.loose w)
  have HXL := Lib.hid hxl
  have HMEM := Lib.hid hmem
  have HLEN := Lib.hid hlen
  clear hw hop hxl hmem
  go_enter Tryz.func38, Tryz.ntmps38
  go_wp2_with fail
  refine (HW.out _).mono ?_
  rintro e wa ⟨A, c, rfl, hF⟩
  have hk := hF.2.1
  obtain ⟨bw, ow, rfl, hbl, hcell⟩ := (Reads.of_own hF.1).addr (by omega) (by omega)
  have hc0 := hcell 0 (strV w0) (by simp)
  rw [Nat.add_zero] at hc0
  have HRE := Lib.hid (Reads.of_own hF.1)
  have HKA := Lib.hid (((Kept.refl [] w).alloc _).trans hk)
  have HBA := Lib.hid ((Blk.new w 60 (dC 0 0 0 0 0 0 false)).kept hk (by simp))
  have hi0 : (0 : Int) < (ws.length : Int) + 1 := by omega
  have hne0 : (((ws.length : Int) + 1) == 0) = false := beq_eq_false_iff_ne.2 (by omega)
  clear hF hk hcell
  go_wp2_with fail
  refine (HOP.out _).mono ?_
  rintro e wb ⟨rfl, hkb1⟩
  have hc0b := hkb1.cell_some hc0 (by simp)
  have HREb := Lib.hid (HRE.out.old hkb1)
  have HKb := Lib.hid (HKA.out.trans hkb1)
  have HBb := Lib.hid (HBA.out.kept hkb1 (by simp))
  have hblb : bw < wb.heap.size := by have := hkb1.size; omega
  clear hkb1 hc0 HRE HKA HBA
  go_wp2_with fail
  refine (HOP.out _).mono ?_
  rintro e wc ⟨rfl, hkc1⟩
  have HREc := Lib.hid (HREb.out.old hkc1)
  have HKc := Lib.hid (HKb.out.trans hkc1)
  have HBc := Lib.hid (HBb.out.kept hkc1 (by simp))
  have hblc : bw < wc.heap.size := by have := hkc1.size; omega
  clear hkc1 hc0b HREb HKb HBb
  go_wp2_with fail
  refine (HPA.out _).mono ?_
  rintro e wd ⟨rfl, hkd1⟩
  have HRD0 : Hid (RD w wd wc.heap.size bw ow (w0 :: ws) ⟨2, 0, 0, 0, 0, 0, false⟩) := ⟨(HBc.out.alloc _).kept hkd1 (by simp), (Blk.new _ _ _).kept hkd1 (by simp), (HREc.out.alloc _).old hkd1, by omega, (HKc.out.alloc _).trans hkd1, HBc.out.lt⟩
  have hcd := HRD0.out.ev.cell
  have hld := HRD0.out.ev.lt
  clear hkd1 HREc HKc HBc
  rw [show (strV [65, 66, 82, 77, 76]) = Value.string ⟨#[65, 66, 82, 77, 76]⟩ from rfl]
  go_wp2_with fail
  go_loopw [8] (fun iv wr => ∃ (k : Nat) (e : Dd), k ≤ ps.length ∧ iv = .int .i64 k ∧ Hid (e = ((ps.zip ws).take k).foldl (fillP 64) ⟨2, 0, 0, 0, 0, 0, false⟩) ∧ Hid (((ps.zip ws).take k).all (fun cw => wordOk cw.1 cw.2) = true) ∧ Hid (RD w wr wc.heap.size bw ow (w0 :: ws) e)) (fun i _ => ps.length - (intOf i).toNat)
  case atStart => exact ⟨0, ⟨2, 0, 0, 0, 0, 0, false⟩, by omega, rfl, rfl, rfl, HRD0⟩
  case round =>
    obtain ⟨k, e, hk, rfl, HE, HOK, HD⟩ := hrel
    have hce := HD.out.ev.cell
    have hfe := HD.out.ev.frozen
    have hle := HD.out.ev.lt
    have hcr := HD.out.res.cell
    have hfr := HD.out.res.frozen
    have hlr := HD.out.res.lt
    have he0 : wr.cell? ⟨wc.heap.size, 0, none⟩ = some (.int .i64 e.op) := by rw [hce]; rfl
    have he1 : wr.cell? ⟨wc.heap.size, 1, none⟩ = some (.int .i64 e.a) := by rw [hce]; rfl
    have he2 : wr.cell? ⟨wc.heap.size, 2, none⟩ = some (.int .i64 e.b) := by rw [hce]; rfl
    have he3 : wr.cell? ⟨wc.heap.size, 3, none⟩ = some (.int .i64 e.r) := by rw [hce]; rfl
    have he4 : wr.cell? ⟨wc.heap.size, 4, none⟩ = some (.int .u64 e.n) := by rw [hce]; rfl
    have he5 : wr.cell? ⟨wc.heap.size, 5, none⟩ = some (.int .u64 e.mask) := by rw [hce]; rfl
    have he6 : wr.cell? ⟨wc.heap.size, 6, none⟩ = some (.bool e.loose) := by rw [hce]; rfl
    have hf1 := hfe 1
    have hf2 := hfe 2
    have hf3 := hfe 3
    have hf4 := hfe 4
    have hf5 := hfe 5
    have hf6 := hfe 6
    clear hce hfe
    by_cases hlt : k < ps.length
    · have hltw : k < ws.length := by have := HLEN.out; omega
      obtain ⟨c, hlk⟩ : ∃ c : UInt8, ps[k] = c := ⟨_, rfl⟩
      obtain ⟨x, hxk⟩ : ∃ x, ws[k] = x := ⟨_, rfl⟩
      have hcm := HMEM.out c (hlk ▸ List.getElem_mem hlt)
      have hidx : (⟨#[65, 66, 82, 77, 76]⟩ : ByteArray)[k]'(show k < 5 by omega) = c := by have h0 := hlk; have h1 := HPS.out; subst h1; exact h0
      have htk : (ps.zip ws).take (k + 1) = (ps.zip ws).take k ++ [(c, x)] := by rw [take_zip _ _ _ hlt hltw, hlk, hxk]
      have hxl : x.length ≤ 100000 := HXL.out x (hxk ▸ List.getElem_mem hltw)
      have hcx : wr.cell? ⟨bw, ow + (k + 1), none⟩ = some (strV x) := by
        obtain ⟨b, o, eb, _, h⟩ := HD.out.reads.addr (by simp) (by omega)
        injection eb with eb
        injection eb with e1 e2
        subst e1 e2
        exact h (k + 1) _ (by rw [List.map_cons, List.getElem?_cons_succ, List.getElem?_map, List.getElem?_eq_getElem hltw, hxk]; rfl)
      have HE2 : Hid (((ps.zip ws).take (k + 1)).foldl (fillP 64) ⟨2, 0, 0, 0, 0, 0, false⟩ = fillP 64 e (c, x)) := by
        rw [Hid, htk, List.foldl_append, ← HE.out]; rfl
      have HA2 : Hid (wordOk c x = true → ((ps.zip ws).take (k + 1)).all (fun cw => wordOk cw.1 cw.2) = true) := by
        intro h; rw [htk, List.all_append, HOK.out]; simp [h]
      have HBAD : Hid (wordOk c x = false → R = (Dd.zero, 3)) := by
        intro h; rw [← HR.out, partsR, if_pos (not_all_take htk h)]
      have HR1 := Lib.hid (HRD.out x hxl)
      have HR2 := Lib.hid (HRH.out x hxl)
      have hi0 : (0 : Int) ≤ (k : Int) + 1 := by omega
      have hi1 : (k : Int) + 1 < (ws.length : Int) + 1 := by omega
      have hbv := readD_lt x
      obtain ⟨rx, hrx⟩ : ∃ rx, readD x = rx := ⟨_, rfl⟩
      obtain ⟨rh, hrh⟩ : ∃ rh, readH x = rh := ⟨_, rfl⟩
      rw [hrx] at HR1 hbv
      rw [hrh] at HR2
      obtain ⟨vx, ex⟩ := rx
      obtain ⟨vh, eh⟩ := rh
      simp only at HR1 HR2 hbv
      have HRX := Lib.hid hrx
      have HRH2 := Lib.hid hrh
      clear hlk hxk hrx hrh htk hltw
      rcases hcm with rfl | rfl | rfl | rfl | rfl | rfl
      · by_cases hec : ex = 0
        · have HA3 := Lib.hid (HA2.out (by simp [wordOk, HRX.out, hec]))
          have HF3 : Hid (fillP 64 e (65, x) = { e with a := ((min vx 64 : Nat) : Int) }) := by simp [Hid, fillP, HRX.out]
          subst hec
          go_wp2_with fail
          refine (HR1.out _).mono ?_
          rintro e1 wn ⟨rfl, rfl⟩
          go_wp2_with fail
          refine (HS.out vx _ hbv).mono ?_
          rintro e2 wn2 ⟨rfl, rfl⟩
          go_wp2_with fail
          go_roundw
          case rel => exact ⟨k + 1, { e with a := ((min vx 64 : Nat) : Int) }, by omega, by go_num, by rw [Hid, HE2.out, HF3.out], HA3, HD.out.put 1 _ _ rfl⟩
          case measure => simp [intOf]; omega
        · have HB3 := Lib.hid (HBAD.out (by simp [wordOk, HRX.out, hec]))
          have hec2 : (ex != 0) = true := by rw [bne_iff_ne]; exact hec
          clear hec
          go_wp2_with fail
          refine (HR1.out _).mono ?_
          rintro e1 wn ⟨rfl, rfl⟩
          go_wp2_with fail
          refine bodyPost_ret (v := .tuple #[.agg (dC 0 0 0 0 0 0 false), .int .i64 3]) (by simp [results, Tryz.results38, go_sem, hcr]) rfl ⟨by rw [HB3.out]; rfl, ?_⟩
          have hk2 := HD.out.kept
          (repeat (first | (with_reducible exact Kept.refl _ _) | (with_reducible assumption) | (with_reducible refine Kept.alloc ?_ _) | (with_reducible refine Kept.drew ?_) | (with_reducible refine Kept.drewN ?_ _) | (with_reducible refine Kept.setCell ?_ ?_ _) | (exact .inr (Nat.le_refl _)) | (exact .inr (by simp only; omega)) | (exact .inr (by omega))))
      · by_cases hec : ex = 0
        · have HA3 := Lib.hid (HA2.out (by simp [wordOk, HRX.out, hec]))
          have HF3 : Hid (fillP 64 e (66, x) = { e with b := ((min vx 64 : Nat) : Int) }) := by simp [Hid, fillP, HRX.out]
          subst hec
          go_wp2_with fail
          refine (HR1.out _).mono ?_
          rintro e1 wn ⟨rfl, rfl⟩
          go_wp2_with fail
          refine (HS.out vx _ hbv).mono ?_
          rintro e2 wn2 ⟨rfl, rfl⟩
          go_wp2_with fail
          go_roundw
          case rel => exact ⟨k + 1, { e with b := ((min vx 64 : Nat) : Int) }, by omega, by go_num, by rw [Hid, HE2.out, HF3.out], HA3, HD.out.put 2 _ _ rfl⟩
          case measure => simp [intOf]; omega
        · have HB3 := Lib.hid (HBAD.out (by simp [wordOk, HRX.out, hec]))
          have hec2 : (ex != 0) = true := by rw [bne_iff_ne]; exact hec
          clear hec
          go_wp2_with fail
          refine (HR1.out _).mono ?_
          rintro e1 wn ⟨rfl, rfl⟩
          go_wp2_with fail
          refine bodyPost_ret (v := .tuple #[.agg (dC 0 0 0 0 0 0 false), .int .i64 3]) (by simp [results, Tryz.results38, go_sem, hcr]) rfl ⟨by rw [HB3.out]; rfl, ?_⟩
          have hk2 := HD.out.kept
          (repeat (first | (with_reducible exact Kept.refl _ _) | (with_reducible assumption) | (with_reducible refine Kept.alloc ?_ _) | (with_reducible refine Kept.drew ?_) | (with_reducible refine Kept.drewN ?_ _) | (with_reducible refine Kept.setCell ?_ ?_ _) | (exact .inr (Nat.le_refl _)) | (exact .inr (by simp only; omega)) | (exact .inr (by omega))))
      · by_cases hec : ex = 0
        · have HA3 := Lib.hid (HA2.out (by simp [wordOk, HRX.out, hec]))
          have HF3 : Hid (fillP 64 e (82, x) = { e with r := ((min vx 64 : Nat) : Int) }) := by simp [Hid, fillP, HRX.out]
          subst hec
          go_wp2_with fail
          refine (HR1.out _).mono ?_
          rintro e1 wn ⟨rfl, rfl⟩
          go_wp2_with fail
          refine (HS.out vx _ hbv).mono ?_
          rintro e2 wn2 ⟨rfl, rfl⟩
          go_wp2_with fail
          go_roundw
          case rel => exact ⟨k + 1, { e with r := ((min vx 64 : Nat) : Int) }, by omega, by go_num, by rw [Hid, HE2.out, HF3.out], HA3, HD.out.put 3 _ _ rfl⟩
          case measure => simp [intOf]; omega
        · have HB3 := Lib.hid (HBAD.out (by simp [wordOk, HRX.out, hec]))
          have hec2 : (ex != 0) = true := by rw [bne_iff_ne]; exact hec
          clear hec
          go_wp2_with fail
          refine (HR1.out _).mono ?_
          rintro e1 wn ⟨rfl, rfl⟩
          go_wp2_with fail
          refine bodyPost_ret (v := .tuple #[.agg (dC 0 0 0 0 0 0 false), .int .i64 3]) (by simp [results, Tryz.results38, go_sem, hcr]) rfl ⟨by rw [HB3.out]; rfl, ?_⟩
          have hk2 := HD.out.kept
          (repeat (first | (with_reducible exact Kept.refl _ _) | (with_reducible assumption) | (with_reducible refine Kept.alloc ?_ _) | (with_reducible refine Kept.drew ?_) | (with_reducible refine Kept.drewN ?_ _) | (with_reducible refine Kept.setCell ?_ ?_ _) | (exact .inr (Nat.le_refl _)) | (exact .inr (by simp only; omega)) | (exact .inr (by omega))))
      · by_cases hec : ex = 0
        · have HA3 := Lib.hid (HA2.out (by simp [wordOk, HRX.out, hec]))
          have HF3 : Hid (fillP 64 e (78, x) = { e with n := vx }) := by simp [Hid, fillP, HRX.out]
          subst hec
          go_wp2_with fail
          refine (HR1.out _).mono ?_
          rintro e1 wn ⟨rfl, rfl⟩
          go_wp2_with fail
          go_roundw
          case rel => exact ⟨k + 1, { e with n := vx }, by omega, by go_num, by rw [Hid, HE2.out, HF3.out], HA3, HD.out.put 4 _ _ rfl⟩
          case measure => simp [intOf]; omega
        · have HB3 := Lib.hid (HBAD.out (by simp [wordOk, HRX.out, hec]))
          have hec2 : (ex != 0) = true := by rw [bne_iff_ne]; exact hec
          clear hec
          go_wp2_with fail
          refine (HR1.out _).mono ?_
          rintro e1 wn ⟨rfl, rfl⟩
          go_wp2_with fail
          refine bodyPost_ret (v := .tuple #[.agg (dC 0 0 0 0 0 0 false), .int .i64 3]) (by simp [results, Tryz.results38, go_sem, hcr]) rfl ⟨by rw [HB3.out]; rfl, ?_⟩
          have hk2 := HD.out.kept
          (repeat (first | (with_reducible exact Kept.refl _ _) | (with_reducible assumption) | (with_reducible refine Kept.alloc ?_ _) | (with_reducible refine Kept.drew ?_) | (with_reducible refine Kept.drewN ?_ _) | (with_reducible refine Kept.setCell ?_ ?_ _) | (exact .inr (Nat.le_refl _)) | (exact .inr (by simp only; omega)) | (exact .inr (by omega))))
      · by_cases hec : eh = 0
        · have HA3 := Lib.hid (HA2.out (by simp [wordOk, HRH2.out, hec]))
          have HF3 : Hid (fillP 64 e (77, x) = { e with mask := vh }) := by simp [Hid, fillP, HRH2.out]
          subst hec
          go_wp2_with fail
          refine (HR1.out _).mono ?_
          rintro e1 wn ⟨rfl, rfl⟩
          go_wp2_with fail
          refine (HR2.out _).mono ?_
          rintro e2 wn2 ⟨rfl, rfl⟩
          go_wp2_with fail
          go_roundw
          case rel => exact ⟨k + 1, { e with mask := vh }, by omega, by go_num, by rw [Hid, HE2.out, HF3.out], HA3, HD.out.put 5 _ _ rfl⟩
          case measure => simp [intOf]; omega
        · have HB3 := Lib.hid (HBAD.out (by simp [wordOk, HRH2.out, hec]))
          have hec2 : (eh != 0) = true := by rw [bne_iff_ne]; exact hec
          clear hec
          go_wp2_with fail
          refine (HR1.out _).mono ?_
          rintro e1 wn ⟨rfl, rfl⟩
          go_wp2_with fail
          refine (HR2.out _).mono ?_
          rintro e2 wn2 ⟨rfl, rfl⟩
          go_wp2_with fail
          refine bodyPost_ret (v := .tuple #[.agg (dC 0 0 0 0 0 0 false), .int .i64 3]) (by simp [results, Tryz.results38, go_sem, hcr]) rfl ⟨by rw [HB3.out]; rfl, ?_⟩
          have hk2 := HD.out.kept
          (repeat (first | (with_reducible exact Kept.refl _ _) | (with_reducible assumption) | (with_reducible refine Kept.alloc ?_ _) | (with_reducible refine Kept.drew ?_) | (with_reducible refine Kept.drewN ?_ _) | (with_reducible refine Kept.setCell ?_ ?_ _) | (exact .inr (Nat.le_refl _)) | (exact .inr (by simp only; omega)) | (exact .inr (by omega))))
      · by_cases hec : x = [108, 111, 111, 115, 101]
        · have HA3 := Lib.hid (HA2.out (by simp [wordOk, hec]))
          have HF3 : Hid (fillP 64 e (76, x) = { e with loose := true }) := by simp [Hid, fillP]
          subst hec
          go_wp2_with fail
          refine (HR1.out _).mono ?_
          rintro e1 wn ⟨rfl, rfl⟩
          go_wp2_with fail
          refine ⟨⟨k + 1, { e with loose := true }, by omega, by go_num, by rw [Hid, HE2.out, HF3.out], HA3, HD.out.put 6 _ _ rfl⟩, ?_⟩
          simp [intOf]; omega
        · have HB3 := Lib.hid (HBAD.out (by simp [wordOk, hec]))
          have hec2 : (x == [108, 111, 111, 115, 101]) = false := by simpa using hec
          clear hec
          go_wp2_with fail
          refine (HR1.out _).mono ?_
          rintro e1 wn ⟨rfl, rfl⟩
          go_wp2_with fail
          refine bodyPost_ret (v := .tuple #[.agg (dC 0 0 0 0 0 0 false), .int .i64 3]) (by simp [results, Tryz.results38, go_sem, hcr]) rfl ⟨by rw [HB3.out]; rfl, ?_⟩
          have hk2 := HD.out.kept
          (repeat (first | (with_reducible exact Kept.refl _ _) | (with_reducible assumption) | (with_reducible refine Kept.alloc ?_ _) | (with_reducible refine Kept.drew ?_) | (with_reducible refine Kept.drewN ?_ _) | (with_reducible refine Kept.setCell ?_ ?_ _) | (exact .inr (Nat.le_refl _)) | (exact .inr (by simp only; omega)) | (exact .inr (by omega))))
    · obtain rfl : k = ps.length := by omega
      have hE := HE.out
      have hO := HOK.out
      rw [List.take_of_length_le (by simp; omega)] at hE hO
      have hRR := HR.out
      rw [partsR, if_neg (by rw [hO]; simp), ← hE] at hRR
      have HG2 := Lib.hid (HG.out e)
      generalize goodD e = gd at *
      have HRR := Lib.hid hRR
      clear hE hO hRR
      go_wp2_with fail
      refine (HG2.out _).mono ?_
      rintro e1 wn ⟨rfl, hkn⟩
      have HDN : Hid (RD w wn wc.heap.size bw ow (w0 :: ws) e) := ⟨HD.out.res.kept hkn (by simp), HD.out.ev.kept hkn (by simp), HD.out.reads.old hkn, HD.out.far, HD.out.kept.trans hkn, HD.out.lt⟩
      have hce := HDN.out.ev.cell
      have hlen2 := HDN.out.ev.lt
      have hcr2 := HDN.out.res.cell
      have hfr2 := HDN.out.res.frozen
      have hlr2 := HDN.out.res.lt
      clear hkn he0 he1 he2 he3 he4 he5 he6 hf1 hf2 hf3 hf4 hf5 hf6 hcr hfr hlr
      cases gd
      · go_wp2_with fail
        refine bodyPost_ret (v := .tuple #[.agg (dC 0 0 0 0 0 0 false), .int .i64 5]) (by simp [results, Tryz.results38, go_sem, hcr2]) rfl ⟨by rw [← HRR.out]; simp [Dd.zero], ?_⟩
        have hk2 := HDN.out.kept
        (repeat (first | (with_reducible exact Kept.refl _ _) | (with_reducible assumption) | (with_reducible refine Kept.alloc ?_ _) | (with_reducible refine Kept.drew ?_) | (with_reducible refine Kept.drewN ?_ _) | (with_reducible refine Kept.setCell ?_ ?_ _) | (exact .inr (Nat.le_refl _)) | (exact .inr (by simp only; omega)) | (exact .inr (by omega))))
      · go_wp2_with fail
        refine bodyPost_ret (v := .tuple #[.agg (dCd e), .int .i64 0]) (by simp [results, Tryz.results38, go_sem, hcr2]) rfl ⟨by rw [← HRR.out]; simp, ?_⟩
        have hk2 := HDN.out.kept
        (repeat (first | (with_reducible exact Kept.refl _ _) | (with_reducible assumption) | (with_reducible refine Kept.alloc ?_ _) | (with_reducible refine Kept.drew ?_) | (with_reducible refine Kept.drewN ?_ _) | (with_reducible refine Kept.setCell ?_ ?_ _) | (exact .inr (Nat.le_refl _)) | (exact .inr (by simp only; omega)) | (exact .inr (by omega))))
set_option maxHeartbeats 12800000 in
set_option maxRecDepth 100000 in
theorem refParse_runB (l w0 : List UInt8) (ws : List (List UInt8)) (op : Int) (ps : List UInt8) (w : World) (hl : l.length ≤ 100000) (hw : words l = w0 :: ws) (hop : opOf w0 = op) (hk0 : 1 ≤ op) (hps : ps = partsL op) (h2 : op ≠ 2) (hlen : ws.length = ps.length) (hxl : ∀ x ∈ ws, x.length ≤ 100000) (hpl : ps.length ≤ 5) (hmem : ∀ c ∈ ps, c = 65 ∨ c = 66 ∨ c = 82 ∨ c = 78 ∨ c = 77 ∨ c = 76) :
    Calls Tryz.prog 38 #[strV l] w fun e w' => e = .returned (.tuple #[.agg (dCd (partsR op (ps.zip ws)).1), .int .i64 (partsR op (ps.zip ws)).2]) ∧ Kept [] w w' := by
  have HW := Lib.hid (fun w => refWords l w hl)
  rw [hw] at HW
  have HOP := Lib.hid (fun w => refOp w0 w)
  rw [hop] at HOP
  have HPA := Lib.hid (fun w => refParts op w)
  have hkb : (op == 0) = false := beq_eq_false_iff_ne.2 (by omega)
  rw [← hps] at HPA
  have h2b : (op == 2) = false := beq_eq_false_iff_ne.2 h2
  clear hps
  obtain ⟨R, hR⟩ : ∃ R, partsR op (ps.zip ws) = R := ⟨_, rfl⟩
  rw [hR]
  have HR := Lib.hid hR
  clear hR
  simp only [List.length_cons] at HW
  have HS := Lib.hid (fun x w h => refSmall x w h)
  have HRD := Lib.hid (fun x (hx : x.length ≤ 100000) w => refRead x w (by omega))
  have HRH := Lib.hid (fun x (hx : x.length ≤ 100000) w => refReadHex x w (by omega))
  have HG := Lib.hid (fun (d : Dd) w => refGood d.op d.a d.b d.r d.n d.mask d.loose w)
  have HXL := Lib.hid hxl
  have HMEM := Lib.hid hmem
  have HLEN := Lib.hid hlen
  clear hw hop hxl hmem
  go_enter Tryz.func38, Tryz.ntmps38
  go_wp2_with fail
  refine (HW.out _).mono ?_
  rintro e wa ⟨A, c, rfl, hF⟩
  have hk := hF.2.1
  obtain ⟨bw, ow, rfl, hbl, hcell⟩ := (Reads.of_own hF.1).addr (by omega) (by omega)
  have hc0 := hcell 0 (strV w0) (by simp)
  rw [Nat.add_zero] at hc0
  have HRE := Lib.hid (Reads.of_own hF.1)
  have HKA := Lib.hid (((Kept.refl [] w).alloc _).trans hk)
  have HBA := Lib.hid ((Blk.new w 60 (dC 0 0 0 0 0 0 false)).kept hk (by simp))
  have hi0 : (0 : Int) < (ws.length : Int) + 1 := by omega
  have hne0 : (((ws.length : Int) + 1) == 0) = false := beq_eq_false_iff_ne.2 (by omega)
  clear hF hk hcell
  go_wp2_with fail
  refine (HOP.out _).mono ?_
  rintro e wb ⟨rfl, hkb1⟩
  have hc0b := hkb1.cell_some hc0 (by simp)
  have HREb := Lib.hid (HRE.out.old hkb1)
  have HKb := Lib.hid (HKA.out.trans hkb1)
  have HBb := Lib.hid (HBA.out.kept hkb1 (by simp))
  have hblb : bw < wb.heap.size := by have := hkb1.size; omega
  clear hkb1 hc0 HRE HKA HBA
  go_wp2_with fail
  refine (HOP.out _).mono ?_
  rintro e wc ⟨rfl, hkc1⟩
  have HREc := Lib.hid (HREb.out.old hkc1)
  have HKc := Lib.hid (HKb.out.trans hkc1)
  have HBc := Lib.hid (HBb.out.kept hkc1 (by simp))
  have hblc : bw < wc.heap.size := by have := hkc1.size; omega
  clear hkc1 hc0b HREb HKb HBb
  go_wp2_with fail
  refine (HPA.out _).mono ?_
  rintro e wd ⟨rfl, hkd1⟩
  have HRD0 : Hid (RD w wd wc.heap.size bw ow (w0 :: ws) ⟨op, 0, 0, 0, 0, 0, false⟩) := ⟨(HBc.out.alloc _).kept hkd1 (by simp), (Blk.new _ _ _).kept hkd1 (by simp), (HREc.out.alloc _).old hkd1, by omega, (HKc.out.alloc _).trans hkd1, HBc.out.lt⟩
  have hcd := HRD0.out.ev.cell
  have hld := HRD0.out.ev.lt
  clear hkd1 HREc HKc HBc
  have hwl : ((ws.length : Int) + 1 != (ps.length : Int) + 1) = false := by rw [bne_eq_false_iff_eq]; have := HLEN.out; omega
  clear h2 hlen
  go_wp2_with fail
  go_loopw [8] (fun iv wr => ∃ (k : Nat) (e : Dd), k ≤ ps.length ∧ iv = .int .i64 k ∧ Hid (e = ((ps.zip ws).take k).foldl (fillP 64) ⟨op, 0, 0, 0, 0, 0, false⟩) ∧ Hid (((ps.zip ws).take k).all (fun cw => wordOk cw.1 cw.2) = true) ∧ Hid (RD w wr wc.heap.size bw ow (w0 :: ws) e)) (fun i _ => ps.length - (intOf i).toNat)
  case atStart => exact ⟨0, ⟨op, 0, 0, 0, 0, 0, false⟩, by omega, rfl, rfl, rfl, HRD0⟩
  case round =>
    obtain ⟨k, e, hk, rfl, HE, HOK, HD⟩ := hrel
    have hce := HD.out.ev.cell
    have hfe := HD.out.ev.frozen
    have hle := HD.out.ev.lt
    have hcr := HD.out.res.cell
    have hfr := HD.out.res.frozen
    have hlr := HD.out.res.lt
    have he0 : wr.cell? ⟨wc.heap.size, 0, none⟩ = some (.int .i64 e.op) := by rw [hce]; rfl
    have he1 : wr.cell? ⟨wc.heap.size, 1, none⟩ = some (.int .i64 e.a) := by rw [hce]; rfl
    have he2 : wr.cell? ⟨wc.heap.size, 2, none⟩ = some (.int .i64 e.b) := by rw [hce]; rfl
    have he3 : wr.cell? ⟨wc.heap.size, 3, none⟩ = some (.int .i64 e.r) := by rw [hce]; rfl
    have he4 : wr.cell? ⟨wc.heap.size, 4, none⟩ = some (.int .u64 e.n) := by rw [hce]; rfl
    have he5 : wr.cell? ⟨wc.heap.size, 5, none⟩ = some (.int .u64 e.mask) := by rw [hce]; rfl
    have he6 : wr.cell? ⟨wc.heap.size, 6, none⟩ = some (.bool e.loose) := by rw [hce]; rfl
    have hf1 := hfe 1
    have hf2 := hfe 2
    have hf3 := hfe 3
    have hf4 := hfe 4
    have hf5 := hfe 5
    have hf6 := hfe 6
    clear hce hfe
    by_cases hlt : k < ps.length
    · have hltw : k < ws.length := by have := HLEN.out; omega
      obtain ⟨c, hlk⟩ : ∃ c : UInt8, ps[k] = c := ⟨_, rfl⟩
      obtain ⟨x, hxk⟩ : ∃ x, ws[k] = x := ⟨_, rfl⟩
      have hcm := HMEM.out c (hlk ▸ List.getElem_mem hlt)
      have hidx : (⟨ps.toArray⟩ : ByteArray)[k]'(show k < (⟨ps.toArray⟩ : ByteArray).size from hlt) = c := hlk
      have htk : (ps.zip ws).take (k + 1) = (ps.zip ws).take k ++ [(c, x)] := by rw [take_zip _ _ _ hlt hltw, hlk, hxk]
      have hxl : x.length ≤ 100000 := HXL.out x (hxk ▸ List.getElem_mem hltw)
      have hcx : wr.cell? ⟨bw, ow + (k + 1), none⟩ = some (strV x) := by
        obtain ⟨b, o, eb, _, h⟩ := HD.out.reads.addr (by simp) (by omega)
        injection eb with eb
        injection eb with e1 e2
        subst e1 e2
        exact h (k + 1) _ (by rw [List.map_cons, List.getElem?_cons_succ, List.getElem?_map, List.getElem?_eq_getElem hltw, hxk]; rfl)
      have HE2 : Hid (((ps.zip ws).take (k + 1)).foldl (fillP 64) ⟨op, 0, 0, 0, 0, 0, false⟩ = fillP 64 e (c, x)) := by
        rw [Hid, htk, List.foldl_append, ← HE.out]; rfl
      have HA2 : Hid (wordOk c x = true → ((ps.zip ws).take (k + 1)).all (fun cw => wordOk cw.1 cw.2) = true) := by
        intro h; rw [htk, List.all_append, HOK.out]; simp [h]
      have HBAD : Hid (wordOk c x = false → R = (Dd.zero, 3)) := by
        intro h; rw [← HR.out, partsR, if_pos (not_all_take htk h)]
      have HR1 := Lib.hid (HRD.out x hxl)
      have HR2 := Lib.hid (HRH.out x hxl)
      have hi0 : (0 : Int) ≤ (k : Int) + 1 := by omega
      have hi1 : (k : Int) + 1 < (ws.length : Int) + 1 := by omega
      have hbv := readD_lt x
      obtain ⟨rx, hrx⟩ : ∃ rx, readD x = rx := ⟨_, rfl⟩
      obtain ⟨rh, hrh⟩ : ∃ rh, readH x = rh := ⟨_, rfl⟩
      rw [hrx] at HR1 hbv
      rw [hrh] at HR2
      obtain ⟨vx, ex⟩ := rx
      obtain ⟨vh, eh⟩ := rh
      simp only at HR1 HR2 hbv
      have HRX := Lib.hid hrx
      have HRH2 := Lib.hid hrh
      clear hlk hxk hrx hrh htk hltw
      rcases hcm with rfl | rfl | rfl | rfl | rfl | rfl
      · by_cases hec : ex = 0
        · have HA3 := Lib.hid (HA2.out (by simp [wordOk, HRX.out, hec]))
          have HF3 : Hid (fillP 64 e (65, x) = { e with a := ((min vx 64 : Nat) : Int) }) := by simp [Hid, fillP, HRX.out]
          subst hec
          go_wp2_with fail
          refine (HR1.out _).mono ?_
          rintro e1 wn ⟨rfl, rfl⟩
          go_wp2_with fail
          refine (HS.out vx _ hbv).mono ?_
          rintro e2 wn2 ⟨rfl, rfl⟩
          go_wp2_with fail
          go_roundw
          case rel => exact ⟨k + 1, { e with a := ((min vx 64 : Nat) : Int) }, by omega, by go_num, by rw [Hid, HE2.out, HF3.out], HA3, HD.out.put 1 _ _ rfl⟩
          case measure => simp [intOf]; omega
        · have HB3 := Lib.hid (HBAD.out (by simp [wordOk, HRX.out, hec]))
          have hec2 : (ex != 0) = true := by rw [bne_iff_ne]; exact hec
          clear hec
          go_wp2_with fail
          refine (HR1.out _).mono ?_
          rintro e1 wn ⟨rfl, rfl⟩
          go_wp2_with fail
          refine bodyPost_ret (v := .tuple #[.agg (dC 0 0 0 0 0 0 false), .int .i64 3]) (by simp [results, Tryz.results38, go_sem, hcr]) rfl ⟨by rw [HB3.out]; rfl, ?_⟩
          have hk2 := HD.out.kept
          (repeat (first | (with_reducible exact Kept.refl _ _) | (with_reducible assumption) | (with_reducible refine Kept.alloc ?_ _) | (with_reducible refine Kept.drew ?_) | (with_reducible refine Kept.drewN ?_ _) | (with_reducible refine Kept.setCell ?_ ?_ _) | (exact .inr (Nat.le_refl _)) | (exact .inr (by simp only; omega)) | (exact .inr (by omega))))
      · by_cases hec : ex = 0
        · have HA3 := Lib.hid (HA2.out (by simp [wordOk, HRX.out, hec]))
          have HF3 : Hid (fillP 64 e (66, x) = { e with b := ((min vx 64 : Nat) : Int) }) := by simp [Hid, fillP, HRX.out]
          subst hec
          go_wp2_with fail
          refine (HR1.out _).mono ?_
          rintro e1 wn ⟨rfl, rfl⟩
          go_wp2_with fail
          refine (HS.out vx _ hbv).mono ?_
          rintro e2 wn2 ⟨rfl, rfl⟩
          go_wp2_with fail
          go_roundw
          case rel => exact ⟨k + 1, { e with b := ((min vx 64 : Nat) : Int) }, by omega, by go_num, by rw [Hid, HE2.out, HF3.out], HA3, HD.out.put 2 _ _ rfl⟩
          case measure => simp [intOf]; omega
        · have HB3 := Lib.hid (HBAD.out (by simp [wordOk, HRX.out, hec]))
          have hec2 : (ex != 0) = true := by rw [bne_iff_ne]; exact hec
          clear hec
          go_wp2_with fail
          refine (HR1.out _).mono ?_
          rintro e1 wn ⟨rfl, rfl⟩
          go_wp2_with fail
          refine bodyPost_ret (v := .tuple #[.agg (dC 0 0 0 0 0 0 false), .int .i64 3]) (by simp [results, Tryz.results38, go_sem, hcr]) rfl ⟨by rw [HB3.out]; rfl, ?_⟩
          have hk2 := HD.out.kept
          (repeat (first | (with_reducible exact Kept.refl _ _) | (with_reducible assumption) | (with_reducible refine Kept.alloc ?_ _) | (with_reducible refine Kept.drew ?_) | (with_reducible refine Kept.drewN ?_ _) | (with_reducible refine Kept.setCell ?_ ?_ _) | (exact .inr (Nat.le_refl _)) | (exact .inr (by simp only; omega)) | (exact .inr (by omega))))
      · by_cases hec : ex = 0
        · have HA3 := Lib.hid (HA2.out (by simp [wordOk, HRX.out, hec]))
          have HF3 : Hid (fillP 64 e (82, x) = { e with r := ((min vx 64 : Nat) : Int) }) := by simp [Hid, fillP, HRX.out]
          subst hec
          go_wp2_with fail
          refine (HR1.out _).mono ?_
          rintro e1 wn ⟨rfl, rfl⟩
          go_wp2_with fail
          refine (HS.out vx _ hbv).mono ?_
          rintro e2 wn2 ⟨rfl, rfl⟩
          go_wp2_with fail
          go_roundw
          case rel => exact ⟨k + 1, { e with r := ((min vx 64 : Nat) : Int) }, by omega, by go_num, by rw [Hid, HE2.out, HF3.out], HA3, HD.out.put 3 _ _ rfl⟩
          case measure => simp [intOf]; omega
        · have HB3 := Lib.hid (HBAD.out (by simp [wordOk, HRX.out, hec]))
          have hec2 : (ex != 0) = true := by rw [bne_iff_ne]; exact hec
          clear hec
          go_wp2_with fail
          refine (HR1.out _).mono ?_
          rintro e1 wn ⟨rfl, rfl⟩
          go_wp2_with fail
          refine bodyPost_ret (v := .tuple #[.agg (dC 0 0 0 0 0 0 false), .int .i64 3]) (by simp [results, Tryz.results38, go_sem, hcr]) rfl ⟨by rw [HB3.out]; rfl, ?_⟩
          have hk2 := HD.out.kept
          (repeat (first | (with_reducible exact Kept.refl _ _) | (with_reducible assumption) | (with_reducible refine Kept.alloc ?_ _) | (with_reducible refine Kept.drew ?_) | (with_reducible refine Kept.drewN ?_ _) | (with_reducible refine Kept.setCell ?_ ?_ _) | (exact .inr (Nat.le_refl _)) | (exact .inr (by simp only; omega)) | (exact .inr (by omega))))
      · by_cases hec : ex = 0
        · have HA3 := Lib.hid (HA2.out (by simp [wordOk, HRX.out, hec]))
          have HF3 : Hid (fillP 64 e (78, x) = { e with n := vx }) := by simp [Hid, fillP, HRX.out]
          subst hec
          go_wp2_with fail
          refine (HR1.out _).mono ?_
          rintro e1 wn ⟨rfl, rfl⟩
          go_wp2_with fail
          go_roundw
          case rel => exact ⟨k + 1, { e with n := vx }, by omega, by go_num, by rw [Hid, HE2.out, HF3.out], HA3, HD.out.put 4 _ _ rfl⟩
          case measure => simp [intOf]; omega
        · have HB3 := Lib.hid (HBAD.out (by simp [wordOk, HRX.out, hec]))
          have hec2 : (ex != 0) = true := by rw [bne_iff_ne]; exact hec
          clear hec
          go_wp2_with fail
          refine (HR1.out _).mono ?_
          rintro e1 wn ⟨rfl, rfl⟩
          go_wp2_with fail
          refine bodyPost_ret (v := .tuple #[.agg (dC 0 0 0 0 0 0 false), .int .i64 3]) (by simp [results, Tryz.results38, go_sem, hcr]) rfl ⟨by rw [HB3.out]; rfl, ?_⟩
          have hk2 := HD.out.kept
          (repeat (first | (with_reducible exact Kept.refl _ _) | (with_reducible assumption) | (with_reducible refine Kept.alloc ?_ _) | (with_reducible refine Kept.drew ?_) | (with_reducible refine Kept.drewN ?_ _) | (with_reducible refine Kept.setCell ?_ ?_ _) | (exact .inr (Nat.le_refl _)) | (exact .inr (by simp only; omega)) | (exact .inr (by omega))))
      · by_cases hec : eh = 0
        · have HA3 := Lib.hid (HA2.out (by simp [wordOk, HRH2.out, hec]))
          have HF3 : Hid (fillP 64 e (77, x) = { e with mask := vh }) := by simp [Hid, fillP, HRH2.out]
          subst hec
          go_wp2_with fail
          refine (HR1.out _).mono ?_
          rintro e1 wn ⟨rfl, rfl⟩
          go_wp2_with fail
          refine (HR2.out _).mono ?_
          rintro e2 wn2 ⟨rfl, rfl⟩
          go_wp2_with fail
          go_roundw
          case rel => exact ⟨k + 1, { e with mask := vh }, by omega, by go_num, by rw [Hid, HE2.out, HF3.out], HA3, HD.out.put 5 _ _ rfl⟩
          case measure => simp [intOf]; omega
        · have HB3 := Lib.hid (HBAD.out (by simp [wordOk, HRH2.out, hec]))
          have hec2 : (eh != 0) = true := by rw [bne_iff_ne]; exact hec
          clear hec
          go_wp2_with fail
          refine (HR1.out _).mono ?_
          rintro e1 wn ⟨rfl, rfl⟩
          go_wp2_with fail
          refine (HR2.out _).mono ?_
          rintro e2 wn2 ⟨rfl, rfl⟩
          go_wp2_with fail
          refine bodyPost_ret (v := .tuple #[.agg (dC 0 0 0 0 0 0 false), .int .i64 3]) (by simp [results, Tryz.results38, go_sem, hcr]) rfl ⟨by rw [HB3.out]; rfl, ?_⟩
          have hk2 := HD.out.kept
          (repeat (first | (with_reducible exact Kept.refl _ _) | (with_reducible assumption) | (with_reducible refine Kept.alloc ?_ _) | (with_reducible refine Kept.drew ?_) | (with_reducible refine Kept.drewN ?_ _) | (with_reducible refine Kept.setCell ?_ ?_ _) | (exact .inr (Nat.le_refl _)) | (exact .inr (by simp only; omega)) | (exact .inr (by omega))))
      · by_cases hec : x = [108, 111, 111, 115, 101]
        · have HA3 := Lib.hid (HA2.out (by simp [wordOk, hec]))
          have HF3 : Hid (fillP 64 e (76, x) = { e with loose := true }) := by simp [Hid, fillP]
          subst hec
          go_wp2_with fail
          refine (HR1.out _).mono ?_
          rintro e1 wn ⟨rfl, rfl⟩
          go_wp2_with fail
          refine ⟨⟨k + 1, { e with loose := true }, by omega, by go_num, by rw [Hid, HE2.out, HF3.out], HA3, HD.out.put 6 _ _ rfl⟩, ?_⟩
          simp [intOf]; omega
        · have HB3 := Lib.hid (HBAD.out (by simp [wordOk, hec]))
          have hec2 : (x == [108, 111, 111, 115, 101]) = false := by simpa using hec
          clear hec
          go_wp2_with fail
          refine (HR1.out _).mono ?_
          rintro e1 wn ⟨rfl, rfl⟩
          go_wp2_with fail
          refine bodyPost_ret (v := .tuple #[.agg (dC 0 0 0 0 0 0 false), .int .i64 3]) (by simp [results, Tryz.results38, go_sem, hcr]) rfl ⟨by rw [HB3.out]; rfl, ?_⟩
          have hk2 := HD.out.kept
          (repeat (first | (with_reducible exact Kept.refl _ _) | (with_reducible assumption) | (with_reducible refine Kept.alloc ?_ _) | (with_reducible refine Kept.drew ?_) | (with_reducible refine Kept.drewN ?_ _) | (with_reducible refine Kept.setCell ?_ ?_ _) | (exact .inr (Nat.le_refl _)) | (exact .inr (by simp only; omega)) | (exact .inr (by omega))))
    · obtain rfl : k = ps.length := by omega
      have hE := HE.out
      have hO := HOK.out
      rw [List.take_of_length_le (by simp; omega)] at hE hO
      have hRR := HR.out
      rw [partsR, if_neg (by rw [hO]; simp), ← hE] at hRR
      have HG2 := Lib.hid (HG.out e)
      generalize goodD e = gd at *
      have HRR := Lib.hid hRR
      clear hE hO hRR
      go_wp2_with fail
      refine (HG2.out _).mono ?_
      rintro e1 wn ⟨rfl, hkn⟩
      have HDN : Hid (RD w wn wc.heap.size bw ow (w0 :: ws) e) := ⟨HD.out.res.kept hkn (by simp), HD.out.ev.kept hkn (by simp), HD.out.reads.old hkn, HD.out.far, HD.out.kept.trans hkn, HD.out.lt⟩
      have hce := HDN.out.ev.cell
      have hlen2 := HDN.out.ev.lt
      have hcr2 := HDN.out.res.cell
      have hfr2 := HDN.out.res.frozen
      have hlr2 := HDN.out.res.lt
      clear hkn he0 he1 he2 he3 he4 he5 he6 hf1 hf2 hf3 hf4 hf5 hf6 hcr hfr hlr
      cases gd
      · go_wp2_with fail
        refine bodyPost_ret (v := .tuple #[.agg (dC 0 0 0 0 0 0 false), .int .i64 5]) (by simp [results, Tryz.results38, go_sem, hcr2]) rfl ⟨by rw [← HRR.out]; simp [Dd.zero], ?_⟩
        have hk2 := HDN.out.kept
        (repeat (first | (with_reducible exact Kept.refl _ _) | (with_reducible assumption) | (with_reducible refine Kept.alloc ?_ _) | (with_reducible refine Kept.drew ?_) | (with_reducible refine Kept.drewN ?_ _) | (with_reducible refine Kept.setCell ?_ ?_ _) | (exact .inr (Nat.le_refl _)) | (exact .inr (by simp only; omega)) | (exact .inr (by omega))))
      · go_wp2_with fail
        refine bodyPost_ret (v := .tuple #[.agg (dCd e), .int .i64 0]) (by simp [results, Tryz.results38, go_sem, hcr2]) rfl ⟨by rw [← HRR.out]; simp, ?_⟩
        have hk2 := HDN.out.kept
        (repeat (first | (with_reducible exact Kept.refl _ _) | (with_reducible assumption) | (with_reducible refine Kept.alloc ?_ _) | (with_reducible refine Kept.drew ?_) | (with_reducible refine Kept.drewN ?_ _) | (with_reducible refine Kept.setCell ?_ ?_ _) | (exact .inr (Nat.le_refl _)) | (exact .inr (by simp only; omega)) | (exact .inr (by omega))))
end Go.Proofs.YtladfdpcdjjifaaGreatDoor
