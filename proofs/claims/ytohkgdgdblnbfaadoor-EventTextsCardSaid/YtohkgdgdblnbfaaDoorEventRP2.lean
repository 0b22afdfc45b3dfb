/- The document's Parse of an event's line of eight words. -/
import Derived.Test.YtohkgdgdblnbfaaDoorEventRP
namespace Go.Proofs.YtohkgdgdblnbfaaDoor
open Go.RowKit

/-- Which words are numbers. -/
abbrev atA : Array Value := #[.int .i64 0, .int .i64 1, .int .i64 3, .int .i64 4, .int .i64 6, .int .i64 7]
theorem u32_wrap (x : Nat) : IntKind.u32.wrap (x : Int) = ((x % 4294967296 : Nat) : Int) := by
  simp only [IntKind.wrap, IntKind.bits, IntKind.signed]
  simp; try omega

set_option maxHeartbeats 6400000 in
set_option maxRecDepth 100000 in
theorem refParseE_8 (l w0 w1 w2 w3 w4 w5 w6 w7 : List UInt8) (w : World) (hl : l.length ≤ 100000) (hw : words l = [w0, w1, w2, w3, w4, w5, w6, w7]) (hlen : ∀ x ∈ words l, x.length ≤ 100000) :
    Calls Tryd.prog 25 #[strV l] w fun e w' => e = .returned (.tuple #[.agg (eC (parse8 w0 w1 w2 w3 w4 w5 w6 w7).1.step (parse8 w0 w1 w2 w3 w4 w5 w6 w7).1.cpu (parse8 w0 w1 w2 w3 w4 w5 w6 w7).1.kind (parse8 w0 w1 w2 w3 w4 w5 w6 w7).1.slot (parse8 w0 w1 w2 w3 w4 w5 w6 w7).1.gen (parse8 w0 w1 w2 w3 w4 w5 w6 w7).1.op (parse8 w0 w1 w2 w3 w4 w5 w6 w7).1.code (parse8 w0 w1 w2 w3 w4 w5 w6 w7).1.n), .int .i64 (parse8 w0 w1 w2 w3 w4 w5 w6 w7).2]) ∧ Kept [] w w' := by
  have HW := Lib.hid (fun w => refWords l w hl)
  rw [hw] at HW hlen
  simp only [List.length_cons, List.length_nil, Nat.zero_add, Nat.reduceAdd] at HW
  obtain ⟨ws, hws⟩ : ∃ ws, ws = [w0, w1, w2, w3, w4, w5, w6, w7] := ⟨_, rfl⟩
  rw [← hws] at HW
  have HX2 : Hid (ws[2]? = some w2) := by rw [Hid, hws]; rfl
  have HX5 : Hid (ws[5]? = some w5) := by rw [Hid, hws]; rfl
  obtain ⟨N6, hN6⟩ : ∃ N6, N6 = [w0, w1, w3, w4, w6, w7] := ⟨_, rfl⟩
  have HAT : Hid (∀ k, k < 6 → ∃ (q : Nat) (x : List UInt8), q < 8 ∧ atA[k]? = some (.int .i64 q) ∧ ws[q]? = some x ∧ N6[k]? = some x ∧ x.length ≤ 100000) := by
    intro k hk
    rw [hws, hN6]
    rcases (by omega : k = 0 ∨ k = 1 ∨ k = 2 ∨ k = 3 ∨ k = 4 ∨ k = 5) with rfl | rfl | rfl | rfl | rfl | rfl
    · exact ⟨0, w0, by omega, rfl, rfl, rfl, hlen _ (by simp)⟩
    · exact ⟨1, w1, by omega, rfl, rfl, rfl, hlen _ (by simp)⟩
    · exact ⟨3, w3, by omega, rfl, rfl, rfl, hlen _ (by simp)⟩
    · exact ⟨4, w4, by omega, rfl, rfl, rfl, hlen _ (by simp)⟩
    · exact ⟨6, w6, by omega, rfl, rfl, rfl, hlen _ (by simp)⟩
    · exact ⟨7, w7, by omega, rfl, rfl, rfl, hlen _ (by simp)⟩
  have HNL : Hid (N6.length = 6) := by rw [Hid, hN6]; rfl
  have HFORM := Lib.hid (parse8_form w0 w1 w2 w3 w4 w5 w6 w7)
  rw [← hN6] at HFORM
  have HFAR := Lib.hid (parse8_far w0 w1 w2 w3 w4 w5 w6 w7)
  have HV : Hid (N6.map (fun x => Value.int .u64 (readD x).1) = [.int .u64 (readD w0).1, .int .u64 (readD w1).1, .int .u64 (readD w3).1, .int .u64 (readD w4).1, .int .u64 (readD w6).1, .int .u64 (readD w7).1]) := by rw [Hid, hN6]; rfl
  have HF6 : Hid (N6.any (fun x => (readD x).2 != 0) = (((((((readD w0).2 != 0) || ((readD w1).2 != 0)) || ((readD w3).2 != 0)) || ((readD w4).2 != 0)) || ((readD w6).2 != 0)) || ((readD w7).2 != 0))) := by
    rw [Hid, hN6]; simp [List.any_cons, Bool.or_assoc]
  have H36 : Hid ((∀ x ∈ N6, (readD x).2 ≠ 3) → (readD w0).2 ≠ 3 ∧ (readD w1).2 ≠ 3 ∧ (readD w3).2 ≠ 3 ∧ (readD w4).2 ≠ 3 ∧ (readD w6).2 ≠ 3 ∧ (readD w7).2 ≠ 3) := by
    intro h; rw [hN6] at h; exact ⟨h _ (by simp), h _ (by simp), h _ (by simp), h _ (by simp), h _ (by simp), h _ (by simp)⟩
  obtain ⟨R, hR⟩ : ∃ R, parse8 w0 w1 w2 w3 w4 w5 w6 w7 = R := ⟨_, rfl⟩
  rw [hR] at HFORM HFAR ⊢
  have hkr := kindOf_range w2
  have hor := opOfE_range w5
  have HKI : Hid (∀ k : Nat, 1 ≤ k → k ≤ 10 → (kindD k = w2 ↔ kindOf w2 = k)) := fun k a b => ⟨fun h => kindOf_at a b h, fun h => kindOf_inv h (by omega)⟩
  have HOI : Hid (∀ k : Nat, k ≤ 11 → (opE k = w5 ↔ opOfE w5 = k)) := fun k b => ⟨fun h => opOfE_at b h, fun h => opOfE_inv h (by omega)⟩
  have b0 := readD_lt w0
  have b1 := readD_lt w1
  have b3 := readD_lt w3
  have b4 := readD_lt w4
  have b6 := readD_lt w6
  generalize kindOf w2 = kd at *
  generalize opOfE w5 = od at *
  have HNM := Lib.hid (fun k w => refEname k w)
  have HOM := Lib.hid (fun k w => refEop k w)
  have HRD := Lib.hid (fun x (hx : x.length ≤ 100000) w => refRead x w (by omega))
  clear hR hws hN6 hw hlen
  go_enter Tryd.func25, Tryd.ntmps25
  go_wp2_with fail
  refine (HW.out _).mono ?_
  rintro e wa ⟨A, c, rfl, hF⟩
  obtain ⟨bw, ow, rfl, hbw, hcw⟩ := (Reads.of_own hF.1).addr (by omega) (by omega)
  have HRP : Hid (RP w (wa.alloc (.cells (eC 0 0 0 0 0 (-1) 0 0) 30)) wa.heap.size (some ⟨bw, ow, none⟩) c ws ⟨0, 0, 0, 0, 0, -1, 0, 0⟩) :=
    ⟨((Blk.new w _ _).kept hF.2.1 (by simp)).alloc _, Blk.new _ _ _, (Reads.of_own hF.1).alloc _, (fun ad ea => by injection ea with ea; subst ea; show bw ≠ _; omega), (((Kept.refl [] w).alloc _).trans hF.2.1).alloc _, by have := hF.2.1.size; simp at this; omega⟩
  have HCW : Hid (∀ q x wr, ws[q]? = some x → Reads wr 1 (some ⟨bw, ow, none⟩) 8 (ws.map strV) → wr.cell? ⟨bw, ow + q, none⟩ = some (strV x)) := fun q x wr hq hr => by
    obtain ⟨b, o, e, _, h⟩ := hr.addr (by omega) (by omega)
    injection e with e
    injection e with e1 e2
    subst e1 e2
    exact h q _ (by rw [List.getElem?_map, hq]; rfl)
  have hga : w.heap.size < wa.heap.size := HRP.out.lt
  clear hF hcw
  go_wp2_with fail
  go_loopw [6] (fun kv wr => ∃ (k : Nat) (v : Int), 1 ≤ k ∧ k ≤ 11 ∧ kv = .int .i64 k ∧ Hid (v = if kd < k then kd else 0) ∧ Hid (RP w wr wa.heap.size (some ⟨bw, ow, none⟩) c ws ⟨0, 0, v, 0, 0, -1, 0, 0⟩)) (fun k _ => 11 - (intOf k).toNat)
  case atStart => exact ⟨1, 0, by omega, by omega, rfl, by rw [Hid]; split <;> omega, HRP⟩
  case round =>
    obtain ⟨k, v, hk1, hk2, rfl, HV1, HRP⟩ := hrel
    have hcx : wr.cell? ⟨bw, ow + 2, none⟩ = some (strV w2) := HCW.out 2 w2 wr HX2.out HRP.out.reads
    by_cases hle : k ≤ 10
    · by_cases he : kindD k = w2
      · have hc : ∀ w, Calls Tryd.prog 23 #[.int .i64 k] w fun e w' => e = .returned (strV w2) ∧ Kept [] w w' := fun w => by have := HNM.out k w; rw [he] at this; exact this
        have HC := Lib.hid hc
        have HE := Lib.hid ((HKI.out k hk1 hle).1 he)
        clear hc he
        go_wp2_with fail
        go_region_held3 (fun w' => w'.cell? ⟨bw, ow + 2, none⟩ = some (strV w2)) (go_keep) (first | (go_at_call 23; refine (HC.out _).mono ?_; rintro e wn ⟨rfl, hk3⟩; have HRP := Lib.hid ((show RP _ _ _ _ _ _ _ from by first | exact HRP.out | exact HRP.out.old (Kept.refl _ _).drew).old hk3); have hcx := HCW.out 2 w2 _ HX2.out HRP.out.reads; clear hk3))
        all_goals
          have hc5 := HRP.out.ev.cell
          have hf5 := HRP.out.ev.frozen
          have hl5 := HRP.out.ev.lt
          go_wp2_with fail
          go_roundw
          case rel => exact ⟨k + 1, k, by omega, by omega, by go_num, by rw [Hid, if_pos (by have := HE.out; omega)]; exact HE.out.symm, by first | exact HRP.out.put 2 _ _ rfl | exact (HRP.out.old (Kept.refl _ _).drew).put 2 _ _ rfl⟩
          case measure => simp [intOf]; omega
      · obtain ⟨y, hy⟩ : ∃ y, kindD k = y := ⟨_, rfl⟩
        have hb : (y == w2) = false := beq_eq_false_iff_ne.2 (hy ▸ he)
        have hc : ∀ w, Calls Tryd.prog 23 #[.int .i64 k] w fun e w' => e = .returned (strV y) ∧ Kept [] w w' := fun w => by have := HNM.out k w; rw [hy] at this; exact this
        have HC := Lib.hid hc
        have HE := Lib.hid (mt (HKI.out k hk1 hle).2 he)
        clear hc he hy
        go_wp2_with fail
        go_region_held3 (fun w' => w'.cell? ⟨bw, ow + 2, none⟩ = some (strV w2)) (go_keep) (first | (go_at_call 23; refine (HC.out _).mono ?_; rintro e wn ⟨rfl, hk3⟩; have HRP := Lib.hid ((show RP _ _ _ _ _ _ _ from by first | exact HRP.out | exact HRP.out.old (Kept.refl _ _).drew).old hk3); have hcx := HCW.out 2 w2 _ HX2.out HRP.out.reads; clear hk3))
        all_goals
          go_wp2_with fail
          go_roundw
          case rel => exact ⟨k + 1, v, by omega, by omega, by go_num, by rw [Hid, HV1.out]; have := HE.out; split <;> split <;> omega, by first | exact HRP.out | exact HRP.out.old (Kept.refl _ _).drew⟩
          case measure => simp [intOf]; omega
    · obtain rfl : k = 11 := by omega
      obtain rfl : v = kd := by have := HV1.out; rw [if_pos (by omega)] at this; exact this
      clear hcx HV1 HNM HKI
      rw [show ((11 : Nat) : Int) = 11 from rfl]
      go_wp2_with fail
      go_loopw [7] (fun kv wr => ∃ (k : Nat) (z5 : Int), k ≤ 12 ∧ kv = .int .i64 k ∧ Hid (z5 = if od < k then od else -1) ∧ Hid (RP w wr wa.heap.size (some ⟨bw, ow, none⟩) c ws ⟨0, 0, v, 0, 0, z5, 0, 0⟩)) (fun k _ => 12 - (intOf k).toNat)
      case atStart => exact ⟨0, -1, by omega, rfl, by rw [Hid]; split <;> omega, HRP⟩
      case round =>
        obtain ⟨k, z5, hk2, rfl, HV1, HRP⟩ := hrel
        have hcx : wr.cell? ⟨bw, ow + 5, none⟩ = some (strV w5) := HCW.out 5 w5 wr HX5.out HRP.out.reads
        by_cases hle : k ≤ 11
        · by_cases he : opE k = w5
          · have hc : ∀ w, Calls Tryd.prog 39 #[.int .i64 k] w fun e w' => e = .returned (strV w5) ∧ Kept [] w w' := fun w => by have := HOM.out k w; rw [he] at this; exact this
            have HC := Lib.hid hc
            have HE := Lib.hid ((HOI.out k hle).1 he)
            clear hc he
            go_wp2_with fail
            go_region_held3 (fun w' => w'.cell? ⟨bw, ow + 5, none⟩ = some (strV w5)) (go_keep) (first | (go_at_call 39; refine (HC.out _).mono ?_; rintro e wn ⟨rfl, hk3⟩; have HRP := Lib.hid ((show RP _ _ _ _ _ _ _ from by first | exact HRP.out | exact HRP.out.old (Kept.refl _ _).drew).old hk3); have hcx := HCW.out 5 w5 _ HX5.out HRP.out.reads; clear hk3))
            all_goals
              have hc5 := HRP.out.ev.cell
              have hf5 := HRP.out.ev.frozen
              have hl5 := HRP.out.ev.lt
              go_wp2_with fail
              go_roundw
              case rel => exact ⟨k + 1, k, by omega, by go_num, by rw [Hid, if_pos (by have := HE.out; omega)]; exact HE.out.symm, by first | exact HRP.out.put 5 _ _ rfl | exact (HRP.out.old (Kept.refl _ _).drew).put 5 _ _ rfl⟩
              case measure => simp [intOf]; omega
          · obtain ⟨y, hy⟩ : ∃ y, opE k = y := ⟨_, rfl⟩
            have hb : (y == w5) = false := beq_eq_false_iff_ne.2 (hy ▸ he)
            have hc : ∀ w, Calls Tryd.prog 39 #[.int .i64 k] w fun e w' => e = .returned (strV y) ∧ Kept [] w w' := fun w => by have := HOM.out k w; rw [hy] at this; exact this
            have HC := Lib.hid hc
            have HE := Lib.hid (mt (HOI.out k hle).2 he)
            clear hc he hy
            go_wp2_with fail
            go_region_held3 (fun w' => w'.cell? ⟨bw, ow + 5, none⟩ = some (strV w5)) (go_keep) (first | (go_at_call 39; refine (HC.out _).mono ?_; rintro e wn ⟨rfl, hk3⟩; have HRP := Lib.hid ((show RP _ _ _ _ _ _ _ from by first | exact HRP.out | exact HRP.out.old (Kept.refl _ _).drew).old hk3); have hcx := HCW.out 5 w5 _ HX5.out HRP.out.reads; clear hk3))
            all_goals
              go_wp2_with fail
              go_roundw
              case rel => exact ⟨k + 1, z5, by omega, by go_num, by rw [Hid, HV1.out]; have := HE.out; split <;> split <;> omega, by first | exact HRP.out | exact HRP.out.old (Kept.refl _ _).drew⟩
              case measure => simp [intOf]; omega
        · obtain rfl : k = 12 := by omega
          obtain rfl : z5 = od := by have := HV1.out; rw [if_pos (by omega)] at this; exact this
          clear hcx HV1 HOM HOI
          rw [show ((12 : Nat) : Int) = 12 from rfl]
          go_wp2_with fail
          have HB8 := Lib.hid (Blk.new wr 3 atA)
          have HRP3 := Lib.hid (HRP.out.old ((Kept.refl [] wr).alloc (.cells atA 3)))
          have hg8 : wr.heap.size < (wr.alloc (.cells atA 3)).heap.size := by simp
          have hg5 := HRP.out.ev.lt
          clear HRP
          generalize wr.heap.size = g8 at *
          generalize wr.alloc (.cells atA 3) = w3' at *
          go_loopw [9, 10, 11] (fun nv fv iv wr => ∃ (k : Nat) (A' : Option Addr) (c' : Nat) (far : Bool), k ≤ 6 ∧ nv = .slice A' k c' ∧ fv = .bool far ∧ iv = .int .i64 k ∧ Hid (far = (N6.take k).any (fun x => (readD x).2 != 0)) ∧ Hid (∀ x ∈ N6.take k, (readD x).2 ≠ 3) ∧ Hid (FreshT 28 w3' wr ((N6.take k).map (fun x => Value.int .u64 (readD x).1)) A' k c') ∧ Hid (RP w wr wa.heap.size (some ⟨bw, ow, none⟩) c ws ⟨0, 0, v, 0, 0, z5, 0, 0⟩) ∧ Hid (Blk wr g8 3 atA)) (fun _ _ i _ => 6 - (intOf i).toNat)
          case atStart => exact ⟨0, none, 0, false, by omega, rfl, rfl, rfl, by simp [Hid], by simp [Hid], ⟨by simpa using World.ownsRow_nil _ _ _ _, Kept.refl _ _, by simp [fp, Value.ownBlock]⟩, HRP3, HB8⟩
          case round =>
            obtain ⟨k, A', c', far, hk, rfl, rfl, rfl, HFA, HC3, HFT, HRP, HB8⟩ := hrel
            by_cases hlt : k < 6
            · obtain ⟨q, x, hq8, hat, hwq, hnx, hxl⟩ := HAT.out k hlt
              have hxN : x ∈ N6 := List.mem_of_getElem? hnx
              have hcx : wr.cell? ⟨bw, ow + q, none⟩ = some (strV x) := HCW.out q x wr hwq HRP.out.reads
              have hcat : wr.cell? ⟨g8, k, none⟩ = some (.int .i64 q) := (HB8.out.cell k).trans hat
              have hkl : k < N6.length := by have := HNL.out; omega
              have htk : N6.take (k + 1) = N6.take k ++ [x] := by
                rw [List.take_succ_eq_append_getElem hkl]
                rw [List.getElem?_eq_getElem hkl] at hnx
                injection hnx with hnx
                rw [hnx]
              have HTK := Lib.hid htk
              have HXN := Lib.hid hxN
              have HR1 := Lib.hid (HRD.out x hxl)
              have hi0 : (0 : Int) ≤ (k : Int) := by omega
              have hi1 : (k : Int) < 6 := by omega
              have hi2 : (0 : Int) ≤ (q : Int) := by omega
              have hi3 : (q : Int) < 8 := by omega
              clear hat hwq hnx hxN htk hkl
              have HRX : Hid (readD x = readD x) := rfl
              obtain ⟨rx, hrx⟩ : ∃ rx, readD x = rx := ⟨_, rfl⟩
              rw [hrx] at HR1
              obtain ⟨vx, ex⟩ := rx
              simp only at HR1
              have HRX := Lib.hid hrx
              clear hrx
              by_cases h3 : ex = 3
              · have HEND : Hid (R = (Ev.zero, 3)) := HFORM.out (.inl ⟨x, HXN.out, by rw [HRX.out]; exact h3⟩)
                have hb3 : (ex == 3) = true := beq_iff_eq.2 h3
                clear h3
                go_wp2_with fail
                refine (HR1.out _).mono ?_
                rintro e wn ⟨rfl, rfl⟩
                have hc2 := HRP.out.res.cell
                have hf2 := HRP.out.res.frozen
                have hl2 := HRP.out.res.lt
                go_wp2_with fail
                refine bodyPost_ret (v := .tuple #[.agg (eC 0 0 0 0 0 0 0 0), .int .i64 3]) (by simp [results, Tryd.results25, go_sem, hc2]) rfl ⟨by rw [HEND.out]; rfl, ?_⟩
                have hk2 := HRP.out.kept
                (repeat (first | (with_reducible exact Kept.refl _ _) | (with_reducible assumption) | (with_reducible refine Kept.alloc ?_ _) | (with_reducible refine Kept.drew ?_) | (with_reducible refine Kept.drewN ?_ _) | (with_reducible refine Kept.setCell ?_ ?_ _) | (exact .inr (Nat.le_refl _)) | (exact .inr (by simp only; omega)) | (exact .inr (by omega))))
              · have hb3 : (ex == 3) = false := beq_eq_false_iff_ne.2 h3
                have HC3' : Hid (∀ y ∈ N6.take (k + 1), (readD y).2 ≠ 3) := by
                  intro y hy
                  rw [HTK.out] at hy
                  rcases List.mem_append.1 hy with hy | hy
                  · exact HC3.out y hy
                  · simp at hy; subst hy; rw [HRX.out]; exact h3
                have HFA' : Hid ((far || (ex != 0)) = (N6.take (k + 1)).any (fun x => (readD x).2 != 0)) := by
                  rw [Hid, HTK.out, List.any_append, ← HFA.out]; simp [HRX.out]
                have HMP : Hid ((N6.take (k + 1)).map (fun x => Value.int .u64 (readD x).1) = (N6.take k).map (fun x => Value.int .u64 (readD x).1) ++ [.int .u64 vx]) := by
                  rw [Hid, HTK.out, List.map_append]; simp [HRX.out]
                clear h3
                go_wp2_with fail
                refine (HR1.out _).mono ?_
                rintro e wn ⟨rfl, rfl⟩
                obtain ⟨nz, hnz⟩ : ∃ nz, (ex != 0) = nz := ⟨_, rfl⟩
                rw [hnz] at HFA'
                cases far <;> cases nz
                all_goals
                  go_wp2_with (at_builtin; go_must (refine wpList_append_any _ rfl _ _ _ rfl 28 (.int .u64 0) 1 8 Tryd.underlying69 Tryd.info28 rfl (by omega) (.slice A' k c') k ((N6.take k).map (fun x => Value.int .u64 (readD x).1)) rfl (HFT.out.1.alloc _) (some ⟨wr.heap.size, 0, none⟩) 1 1 [.int .u64 vx] rfl (reads_one _ _ _) (by simp; rfl) (by simp only [maxLen]; omega) (by omega) ?_); intro A2 c2 wb happ; have HA := Lib.hid happ; clear happ)
                  go_roundw
                  case rel =>
                    have happ := HA.out
                    have hkb : Kept (fp (.slice A' k c')) wr wb := ((Kept.refl _ _).alloc _).trans happ.2.1
                    have hfpn : ∀ q ∈ fp (.slice A' k c'), w3'.heap.size ≤ q := HFT.out.2.2
                    refine ⟨k + 1, A2, c2, _, by omega, rfl, rfl, by go_num, HFA'.out, HC3'.out, ⟨by rw [HMP.out]; exact happ.1, HFT.out.2.1.trans' hkb fun q hq => .inr (hfpn q hq), ?_⟩, ?_, ?_⟩
                    · intro q hq
                      rcases happ.2.2 q hq with h | h
                      · exact hfpn q h
                      · have := HFT.out.2.1.size; simp at h; omega
                    · exact HRP.out.keptN hkb hfpn (by omega) (by omega)
                    · exact HB8.out.kept hkb (fun hq => by have := hfpn _ hq; omega)
                  case measure => simp [intOf]; omega
            · obtain rfl : k = 6 := by omega
              have hN6 := HNL.out
              have hF6 := HFA.out
              have h36 := HC3.out
              have hFT := HFT.out
              rw [List.take_of_length_le (by omega)] at hF6 h36 hFT
              rw [HF6.out] at hF6
              rw [HV.out] at hFT
              have h36' := H36.out h36
              obtain ⟨bn, on, rfl, hbn, hcn⟩ := (Reads.of_own hFT.1).addr (by omega) (by omega)
              have hfn : w3'.heap.size ≤ bn := hFT.2.2 bn (by rw [fp_some]; simp)
              have HR := Lib.hid (fun hk ho g hg => HFAR.out hk ho h36' far hF6 g hg)
              have n0 := hcn 0 _ rfl
              have n1 := hcn 1 _ rfl
              have n2 := hcn 2 _ rfl
              have n3 := hcn 3 _ rfl
              have n4 := hcn 4 _ rfl
              have n5 := hcn 5 _ rfl
              rw [Nat.add_zero] at n0
              have HFT2 := Lib.hid hFT
              clear hF6 h36 h36' hFT hcn HFA HC3 HFT HAT HFAR HF6 H36 HV HRD hN6
              rw [show ((6 : Nat) : Int) = 6 from rfl]
              have hc5 := HRP.out.ev.cell
              have hl5 := HRP.out.ev.lt
              have hc2 := HRP.out.res.cell
              have hf2 := HRP.out.res.frozen
              have hl2 := HRP.out.res.lt
              by_cases hkd : v = 0
              · have HEND : Hid (R = (Ev.zero, 3)) := HFORM.out (.inr (.inl hkd))
                have hbk : (v == 0) = true := beq_iff_eq.2 hkd
                clear hkd HFORM HR
                go_wp2_with fail
                refine bodyPost_ret (v := .tuple #[.agg (eC 0 0 0 0 0 0 0 0), .int .i64 3]) (by simp [results, Tryd.results25, go_sem, hc2]) rfl ⟨by rw [HEND.out]; rfl, ?_⟩
                have hk2 := HRP.out.kept
                (repeat (first | (with_reducible exact Kept.refl _ _) | (with_reducible assumption) | (with_reducible refine Kept.alloc ?_ _) | (with_reducible refine Kept.drew ?_) | (with_reducible refine Kept.drewN ?_ _) | (with_reducible refine Kept.setCell ?_ ?_ _) | (exact .inr (Nat.le_refl _)) | (exact .inr (by simp only; omega)) | (exact .inr (by omega))))
              have hbk : (v == 0) = false := beq_eq_false_iff_ne.2 hkd
              by_cases hod : z5 < 0
              · have HEND : Hid (R = (Ev.zero, 3)) := HFORM.out (.inr (.inr hod))
                clear hkd HFORM HR
                go_wp2_with fail
                refine bodyPost_ret (v := .tuple #[.agg (eC 0 0 0 0 0 0 0 0), .int .i64 3]) (by simp [results, Tryd.results25, go_sem, hc2]) rfl ⟨by rw [HEND.out]; rfl, ?_⟩
                have hk2 := HRP.out.kept
                (repeat (first | (with_reducible exact Kept.refl _ _) | (with_reducible assumption) | (with_reducible refine Kept.alloc ?_ _) | (with_reducible refine Kept.drew ?_) | (with_reducible refine Kept.drewN ?_ _) | (with_reducible refine Kept.setCell ?_ ?_ _) | (exact .inr (Nat.le_refl _)) | (exact .inr (by simp only; omega)) | (exact .inr (by omega))))
              have HEND := Lib.hid (HR.out hkd (by omega) _ rfl)
              have HG := Lib.hid (fun s c k t g o d n w => refEgood s c k t g o d n w)
              have HS0 := Lib.hid (fun w => refSmallE (readD w0).1 9223372036854775807 w (by omega) (by omega))
              have HS1 := Lib.hid (fun w => refSmallE (readD w1).1 63 w (by omega) (by omega))
              have HS3 := Lib.hid (fun w => refSmallE (readD w3).1 63 w (by omega) (by omega))
              have HS6 := Lib.hid (fun w => refSmallE (readD w6).1 15 w (by omega) (by omega))
              have hw4 := u32_wrap (readD w4).1
              have hf5 := HRP.out.ev.frozen
              generalize smallE (readD w0).1 9223372036854775807 = s0 at *
              generalize smallE (readD w1).1 63 = s1 at *
              generalize smallE (readD w3).1 63 = s3 at *
              generalize smallE (readD w6).1 15 = s6 at *
              generalize (readD w0).1 = v0 at *
              generalize (readD w1).1 = v1 at *
              generalize (readD w3).1 = v3 at *
              generalize (readD w4).1 = v4 at *
              generalize (readD w6).1 = v6 at *
              generalize (readD w7).1 = v7 at *
              generalize v4 % 4294967296 = v4m at *
              obtain ⟨gd, hgd⟩ : ∃ gd, goodE ⟨s0, s1, v, s3, v4m, z5, s6, v7⟩ = gd := ⟨_, rfl⟩
              have HG2 : Hid (∀ w, Calls Tryd.prog 21 #[.agg (eC s0 s1 v s3 v4m z5 s6 v7)] w fun e w' => e = .returned (.bool gd) ∧ Kept [] w w') := fun w => by have := HG.out s0 s1 v s3 v4m z5 s6 v7 w; rw [hgd] at this; exact this
              rw [hgd] at HEND
              clear hgd HG HFORM HR hkd
              have hbig : ∃ fb : Bool, decide (4294967295 < v4) = fb := ⟨_, rfl⟩
              obtain ⟨fb, hfb⟩ := hbig
              rw [hfb] at HEND
              have hb4 : (4294967295 < v4 ∧ fb = true) ∨ (¬ 4294967295 < v4 ∧ fb = false) := by
                cases fb
                · exact .inr ⟨by simpa using hfb, rfl⟩
                · exact .inl ⟨by simpa using hfb, rfl⟩
              clear hfb
              have hne : bn ≠ wa.heap.size := by omega
              have hbI : decide ((4294967295 : Int) < (v4 : Int)) = fb := by
                rcases hb4 with ⟨h, e⟩ | ⟨h, e⟩
                · rw [e]; exact decide_eq_true (by omega)
                · rw [e]; exact decide_eq_false (by omega)
              clear hb4
              cases far
              · cases fb
                · go_wp2_with fail
                  refine (HS0.out _).mono ?_
                  rintro e wn ⟨rfl, rfl⟩
                  go_wp2_with fail
                  refine (HS1.out _).mono ?_
                  rintro e wn ⟨rfl, rfl⟩
                  go_wp2_with fail
                  have HRP1 := Lib.hid ((HRP.out.put 0 (.int .i64 s0) ⟨s0, 0, v, 0, 0, z5, 0, 0⟩ rfl).put 1 (.int .i64 s1) ⟨s0, s1, v, 0, 0, z5, 0, 0⟩ rfl)
                  have hkp : Kept [wa.heap.size] wr ((wr.setCell ⟨wa.heap.size, 0, none⟩ (.int .i64 s0)).setCell ⟨wa.heap.size, 1, none⟩ (.int .i64 s1)) := ((Kept.refl _ _).setCell (.inl (by simp)) _).setCell (.inl (by simp)) _
                  have n2 := hkp.cell_some n2 (by simpa using hne)
                  have n3 := hkp.cell_some n3 (by simpa using hne)
                  have n4 := hkp.cell_some n4 (by simpa using hne)
                  have n5 := hkp.cell_some n5 (by simpa using hne)
                  clear hkp hc5 hf5 hl5 hc2 hf2 hl2
                  generalize (wr.setCell ⟨wa.heap.size, 0, none⟩ (.int .i64 s0)).setCell ⟨wa.heap.size, 1, none⟩ (.int .i64 s1) = wq at *
                  have hc5 := HRP1.out.ev.cell
                  have hf5 := HRP1.out.ev.frozen
                  have hl5 := HRP1.out.ev.lt
                  go_region_held3 (fun w' => w'.cell? ⟨bn, on + 2, none⟩ = some (.int .u64 v3) ∧ w'.cell? ⟨bn, on + 3, none⟩ = some (.int .u64 v4)) (first | (exact ⟨(((Kept.refl [wa.heap.size] _).setCell (.inl (by simp)) _).setCell (.inl (by simp)) _).drew.cell_some n2 (by simpa using hne), (((Kept.refl [wa.heap.size] _).setCell (.inl (by simp)) _).setCell (.inl (by simp)) _).drew.cell_some n3 (by simpa using hne)⟩) | go_keep) (first | (go_at_call 49; refine (HS3.out _).mono ?_; rintro e wn ⟨rfl, rfl⟩))
                  have HRP2 := Lib.hid (((HRP1.out.put 3 (.int .i64 s3) ⟨s0, s1, v, s3, 0, z5, 0, 0⟩ rfl).put 4 (.int .u32 v4m) ⟨s0, s1, v, s3, v4m, z5, 0, 0⟩ rfl).old (Kept.refl _ _).drew)
                  have hkp : Kept [wa.heap.size] wq ((wq.setCell ⟨wa.heap.size, 3, none⟩ (.int .i64 s3)).setCell ⟨wa.heap.size, 4, none⟩ (.int .u32 v4m)).drew := (((Kept.refl _ _).setCell (.inl (by simp)) _).setCell (.inl (by simp)) _).drew
                  have n4 := hkp.cell_some n4 (by simpa using hne)
                  have n5 := hkp.cell_some n5 (by simpa using hne)
                  clear hkp hc5 hf5 hl5
                  generalize ((wq.setCell ⟨wa.heap.size, 3, none⟩ (.int .i64 s3)).setCell ⟨wa.heap.size, 4, none⟩ (.int .u32 v4m)).drew = wz at *
                  have hc5 := HRP2.out.ev.cell
                  have hf5 := HRP2.out.ev.frozen
                  have hl5 := HRP2.out.ev.lt
                  go_wp2_with fail
                  refine (HS6.out _).mono ?_
                  rintro e wn ⟨rfl, rfl⟩
                  go_wp2_with fail
                  have HRP3 := Lib.hid ((HRP2.out.put 6 (.int .i64 s6) ⟨s0, s1, v, s3, v4m, z5, s6, 0⟩ rfl).put 7 (.int .u64 v7) ⟨s0, s1, v, s3, v4m, z5, s6, v7⟩ rfl)
                  clear hc5 hf5 hl5
                  generalize (wz.setCell ⟨wa.heap.size, 6, none⟩ (.int .i64 s6)).setCell ⟨wa.heap.size, 7, none⟩ (.int .u64 v7) = wy at *
                  refine (HG2.out _).mono ?_
                  rintro e wn ⟨rfl, hkg⟩
                  have HRP4 := Lib.hid (HRP3.out.old hkg)
                  clear hkg
                  have hc5 := HRP4.out.ev.cell
                  have hl5 := HRP4.out.ev.lt
                  have hc2 := HRP4.out.res.cell
                  have hf2 := HRP4.out.res.frozen
                  have hl2 := HRP4.out.res.lt
                  cases gd
                  · go_wp2_with fail
                    refine bodyPost_ret (v := .tuple #[.agg (eC 0 0 0 0 0 0 0 0), .int .i64 5]) (by simp [results, Tryd.results25, go_sem, hc2]) rfl ⟨by rw [HEND.out]; simp [Ev.zero], ?_⟩
                    have hk2 := HRP4.out.kept
                    (repeat (first | (with_reducible exact Kept.refl _ _) | (with_reducible assumption) | (with_reducible refine Kept.alloc ?_ _) | (with_reducible refine Kept.drew ?_) | (with_reducible refine Kept.drewN ?_ _) | (with_reducible refine Kept.setCell ?_ ?_ _) | (exact .inr (Nat.le_refl _)) | (exact .inr (by simp only; omega)) | (exact .inr (by omega))))
                  · go_wp2_with fail
                    refine bodyPost_ret (v := .tuple #[.agg (eC s0 s1 v s3 v4m z5 s6 v7), .int .i64 0]) (by simp [results, Tryd.results25, go_sem, hc2]) rfl ⟨by rw [HEND.out]; simp, ?_⟩
                    have hk2 := HRP4.out.kept
                    (repeat (first | (with_reducible exact Kept.refl _ _) | (with_reducible assumption) | (with_reducible refine Kept.alloc ?_ _) | (with_reducible refine Kept.drew ?_) | (with_reducible refine Kept.drewN ?_ _) | (with_reducible refine Kept.setCell ?_ ?_ _) | (exact .inr (Nat.le_refl _)) | (exact .inr (by simp only; omega)) | (exact .inr (by omega))))
                · go_wp2_with fail
                  refine (HS0.out _).mono ?_
                  rintro e wn ⟨rfl, rfl⟩
                  go_wp2_with fail
                  refine (HS1.out _).mono ?_
                  rintro e wn ⟨rfl, rfl⟩
                  go_wp2_with fail
                  have HRP1 := Lib.hid ((HRP.out.put 0 (.int .i64 s0) ⟨s0, 0, v, 0, 0, z5, 0, 0⟩ rfl).put 1 (.int .i64 s1) ⟨s0, s1, v, 0, 0, z5, 0, 0⟩ rfl)
                  have hkp : Kept [wa.heap.size] wr ((wr.setCell ⟨wa.heap.size, 0, none⟩ (.int .i64 s0)).setCell ⟨wa.heap.size, 1, none⟩ (.int .i64 s1)) := ((Kept.refl _ _).setCell (.inl (by simp)) _).setCell (.inl (by simp)) _
                  have n2 := hkp.cell_some n2 (by simpa using hne)
                  have n3 := hkp.cell_some n3 (by simpa using hne)
                  have n4 := hkp.cell_some n4 (by simpa using hne)
                  have n5 := hkp.cell_some n5 (by simpa using hne)
                  clear hkp hc5 hf5 hl5 hc2 hf2 hl2
                  generalize (wr.setCell ⟨wa.heap.size, 0, none⟩ (.int .i64 s0)).setCell ⟨wa.heap.size, 1, none⟩ (.int .i64 s1) = wq at *
                  have hc5 := HRP1.out.ev.cell
                  have hf5 := HRP1.out.ev.frozen
                  have hl5 := HRP1.out.ev.lt
                  go_region_held3 (fun w' => w'.cell? ⟨bn, on + 2, none⟩ = some (.int .u64 v3) ∧ w'.cell? ⟨bn, on + 3, none⟩ = some (.int .u64 v4)) (first | (exact ⟨(((Kept.refl [wa.heap.size] _).setCell (.inl (by simp)) _).setCell (.inl (by simp)) _).drew.cell_some n2 (by simpa using hne), (((Kept.refl [wa.heap.size] _).setCell (.inl (by simp)) _).setCell (.inl (by simp)) _).drew.cell_some n3 (by simpa using hne)⟩) | go_keep) (first | (go_at_call 49; refine (HS3.out _).mono ?_; rintro e wn ⟨rfl, rfl⟩))
                  have HRP2 := Lib.hid (((HRP1.out.put 3 (.int .i64 s3) ⟨s0, s1, v, s3, 0, z5, 0, 0⟩ rfl).put 4 (.int .u32 v4m) ⟨s0, s1, v, s3, v4m, z5, 0, 0⟩ rfl).old (Kept.refl _ _).drew)
                  have hkp : Kept [wa.heap.size] wq ((wq.setCell ⟨wa.heap.size, 3, none⟩ (.int .i64 s3)).setCell ⟨wa.heap.size, 4, none⟩ (.int .u32 v4m)).drew := (((Kept.refl _ _).setCell (.inl (by simp)) _).setCell (.inl (by simp)) _).drew
                  have n4 := hkp.cell_some n4 (by simpa using hne)
                  have n5 := hkp.cell_some n5 (by simpa using hne)
                  clear hkp hc5 hf5 hl5
                  generalize ((wq.setCell ⟨wa.heap.size, 3, none⟩ (.int .i64 s3)).setCell ⟨wa.heap.size, 4, none⟩ (.int .u32 v4m)).drew = wz at *
                  have hc5 := HRP2.out.ev.cell
                  have hf5 := HRP2.out.ev.frozen
                  have hl5 := HRP2.out.ev.lt
                  go_wp2_with fail
                  refine (HS6.out _).mono ?_
                  rintro e wn ⟨rfl, rfl⟩
                  have hc2 := HRP2.out.res.cell
                  have hf2 := HRP2.out.res.frozen
                  have hl2 := HRP2.out.res.lt
                  have hga2 : w.heap.size ≠ wa.heap.size := by omega
                  go_wp2_with fail
                  refine bodyPost_ret (v := .tuple #[.agg (eC 0 0 0 0 0 0 0 0), .int .i64 5]) (by simp [results, Tryd.results25, go_sem, hc2]) rfl ⟨by rw [HEND.out]; simp [Ev.zero], ?_⟩
                  have hk2 := HRP2.out.kept
                  (repeat (first | (with_reducible exact Kept.refl _ _) | (with_reducible assumption) | (with_reducible refine Kept.alloc ?_ _) | (with_reducible refine Kept.drew ?_) | (with_reducible refine Kept.drewN ?_ _) | (with_reducible refine Kept.setCell ?_ ?_ _) | (exact .inr (Nat.le_refl _)) | (exact .inr (by simp only; omega)) | (exact .inr (by omega))))
              · go_wp2_with fail
                refine (HS0.out _).mono ?_
                rintro e wn ⟨rfl, rfl⟩
                go_wp2_with fail
                refine (HS1.out _).mono ?_
                rintro e wn ⟨rfl, rfl⟩
                go_wp2_with fail
                have HRP1 := Lib.hid ((HRP.out.put 0 (.int .i64 s0) ⟨s0, 0, v, 0, 0, z5, 0, 0⟩ rfl).put 1 (.int .i64 s1) ⟨s0, s1, v, 0, 0, z5, 0, 0⟩ rfl)
                have hkp : Kept [wa.heap.size] wr ((wr.setCell ⟨wa.heap.size, 0, none⟩ (.int .i64 s0)).setCell ⟨wa.heap.size, 1, none⟩ (.int .i64 s1)) := ((Kept.refl _ _).setCell (.inl (by simp)) _).setCell (.inl (by simp)) _
                have n2 := hkp.cell_some n2 (by simpa using hne)
                have n3 := hkp.cell_some n3 (by simpa using hne)
                have n4 := hkp.cell_some n4 (by simpa using hne)
                have n5 := hkp.cell_some n5 (by simpa using hne)
                clear hkp hc5 hf5 hl5 hc2 hf2 hl2
                generalize (wr.setCell ⟨wa.heap.size, 0, none⟩ (.int .i64 s0)).setCell ⟨wa.heap.size, 1, none⟩ (.int .i64 s1) = wq at *
                have hc5 := HRP1.out.ev.cell
                have hf5 := HRP1.out.ev.frozen
                have hl5 := HRP1.out.ev.lt
                go_region_held3 (fun w' => w'.cell? ⟨bn, on + 2, none⟩ = some (.int .u64 v3) ∧ w'.cell? ⟨bn, on + 3, none⟩ = some (.int .u64 v4)) (first | (exact ⟨(((Kept.refl [wa.heap.size] _).setCell (.inl (by simp)) _).setCell (.inl (by simp)) _).drew.cell_some n2 (by simpa using hne), (((Kept.refl [wa.heap.size] _).setCell (.inl (by simp)) _).setCell (.inl (by simp)) _).drew.cell_some n3 (by simpa using hne)⟩) | go_keep) (first | (go_at_call 49; refine (HS3.out _).mono ?_; rintro e wn ⟨rfl, rfl⟩))
                have HRP2 := Lib.hid (((HRP1.out.put 3 (.int .i64 s3) ⟨s0, s1, v, s3, 0, z5, 0, 0⟩ rfl).put 4 (.int .u32 v4m) ⟨s0, s1, v, s3, v4m, z5, 0, 0⟩ rfl).old (Kept.refl _ _).drew)
                have hkp : Kept [wa.heap.size] wq ((wq.setCell ⟨wa.heap.size, 3, none⟩ (.int .i64 s3)).setCell ⟨wa.heap.size, 4, none⟩ (.int .u32 v4m)).drew := (((Kept.refl _ _).setCell (.inl (by simp)) _).setCell (.inl (by simp)) _).drew
                have n4 := hkp.cell_some n4 (by simpa using hne)
                have n5 := hkp.cell_some n5 (by simpa using hne)
                clear hkp hc5 hf5 hl5
                generalize ((wq.setCell ⟨wa.heap.size, 3, none⟩ (.int .i64 s3)).setCell ⟨wa.heap.size, 4, none⟩ (.int .u32 v4m)).drew = wz at *
                have hc5 := HRP2.out.ev.cell
                have hf5 := HRP2.out.ev.frozen
                have hl5 := HRP2.out.ev.lt
                go_wp2_with fail
                refine (HS6.out _).mono ?_
                rintro e wn ⟨rfl, rfl⟩
                have hc2 := HRP2.out.res.cell
                have hf2 := HRP2.out.res.frozen
                have hl2 := HRP2.out.res.lt
                have hga2 : w.heap.size ≠ wa.heap.size := by omega
                go_wp2_with fail
                refine bodyPost_ret (v := .tuple #[.agg (eC 0 0 0 0 0 0 0 0), .int .i64 5]) (by simp [results, Tryd.results25, go_sem, hc2]) rfl ⟨by rw [HEND.out]; simp [Ev.zero], ?_⟩
                have hk2 := HRP2.out.kept
                (repeat (first | (with_reducible exact Kept.refl _ _) | (with_reducible assumption) | (with_reducible refine Kept.alloc ?_ _) | (with_reducible refine Kept.drew ?_) | (with_reducible refine Kept.drewN ?_ _) | (with_reducible refine Kept.setCell ?_ ?_ _) | (exact .inr (Nat.le_refl _)) | (exact .inr (by simp only; omega)) | (exact .inr (by omega))))

theorem refParseE_any (l : List UInt8) (w : World) (hl : l.length ≤ 100000) :
    Calls Tryd.prog 25 #[strV l] w fun e w' => e = .returned (.tuple #[.agg (eC (parseE l).1.step (parseE l).1.cpu (parseE l).1.kind (parseE l).1.slot (parseE l).1.gen (parseE l).1.op (parseE l).1.code (parseE l).1.n), .int .i64 (parseE l).2]) ∧ Kept [] w w' := by
  by_cases h8 : (words l).length = 8
  · obtain ⟨w0, w1, w2, w3, w4, w5, w6, w7, hw⟩ := list8 _ h8
    rw [parseE_8 hw]
    exact refParseE_8 l w0 w1 w2 w3 w4 w5 w6 w7 w hl hw fun x hx => Nat.le_trans (words_len hx) hl
  · rw [parseE_no h8]
    exact refParseE_no l w hl h8

end Go.Proofs.YtohkgdgdblnbfaaDoor
