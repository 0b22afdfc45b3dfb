/- The document's account (layer 35): Step of any event, Check; walked; The document's account (layer 35): States, walked. -/
import Derived.Test.YtccodklfplfleaaRqS
import Derived.Test.YtccodklfplfleaaP33
import Derived.Test.YtccodklfplfleaaP34
import Derived.Test.YtccodklfplfleaaP35
import Derived.Test.YtccodklfplfleaaP36
import Derived.Test.YtccodklfplfleaaRqZ
import Derived.Test.YtccodklfplfleaaRpE
import Derived.Test.YtccodklfplfleaaDuR
import Derived.Test.YtccodklfplfleaaRqV
import Derived.Test.YtccodklfplfleaaP15

/- The document's account (layer 35): Step of any event, Check; walked. -/
namespace Go.Proofs.Ytccodklfplfleaa
open Go.RowKit

theorem R35Step_any {w0 : World} {w : World} {b : RqA} {d : Du} {a : Acc} (h : RqIs w0 w b d a) (hw : AWhole d a) (hd : checkU d = 0) (hu : IsU w0 d b.A b.n b.B b.m) (hf : AFit a) (e : Ev) (hk1 : 1 ≤ e.kind ∧ e.kind ≤ 10) :
    Calls Try.prog 16 #[.pointer (some ⟨b.g, 0, none⟩), .agg (eC e.step e.cpu e.kind e.slot e.gen e.op e.code e.n)] w fun x w' => x = .returned (.bool (stepA d a e).isSome) ∧ RqIs w0 w' b d ((stepA d a e).getD a) := by
  by_cases h4 : e.kind = 4
  · exact R35Step_4 h hw e h4
  · by_cases h8 : e.kind = 8
    · exact R35Step_8 h hw e h8
    · by_cases h7 : e.kind = 7
      · exact R35Step_7 h hw e h7
      · by_cases h6 : e.kind = 6
        · exact R35Step_6 h hw e h6
        · cases hr : runsA a e with
          | false => exact R35Step_no h hw e h4 h8 h7 h6 hr
          | true =>
            have hkd : e.kind = 1 ∨ e.kind = 2 ∨ e.kind = 9 ∨ e.kind = 5 ∨ e.kind = 10 ∨ e.kind = 3 := by omega
            rcases hkd with hk | hk | hk | hk | hk | hk
            · exact R35Step_k1 h hw hd hu hf e hk hr
            · exact R35Step_k2 h hw hd hu hf e hk hr
            · exact R35Step_k9 h hw hd hu hf e hk hr
            · exact R35Step_k5 h hw hd hu hf e hk hr
            · exact R35Step_k10 h hw hd hu hf e hk hr
            · exact R35Step_k3 h hw hd hu hf e hk hr
inductive ThrQ (w : World) (d : Du) (A : Option Addr) (n : Nat) (B : Option Addr) (m : Nat) (l : List Ev) : Ending → World → Prop
  | bad (w' : World) : checkU d ≠ 0 → Kept [] w w' → ThrQ w d A n B m l (.returned (.tuple #[.pointer none, .int .i64 0, .int .i64 (checkU d)])) w'
  | go (w' : World) (b : RqA) (a : Acc) (i : Nat) (c : Int) : checkU d = 0 → goA d (openA d) l 0 = (a, i, c) → RqIs w w' b d a → AWhole d a → ThrQ w d A n B m l (.returned (.tuple #[.pointer (some ⟨b.g, 0, none⟩), .int .i64 i, .int .i64 c])) w'
set_option maxHeartbeats 6400000 in
set_option maxRecDepth 100000 in
theorem R35Check_any {w : World} {d : Du} {A B E : Option Addr} {n c m e ln ce : Nat} {l : List Ev} (hu : IsU w d A n B m) (hb : ∀ p ∈ d.progs, p.length ≤ 9223372036854775807) (hms : ∀ s ∈ d.starts, s.mask < 18446744073709551616) (hmd : MaskD d) (hl : ReadsE w E ln l) (hln : ln ≤ 400) :
    Calls Try.prog 6 #[.agg (uC d A n c B m e), .slice E ln ce] w (ThrQ w d A n B m l) := by
  have hlen := ReadsE.len hl
  obtain ⟨wb, hwb⟩ : ∃ wb, w.alloc (.cells (uC d A n c B m e) 27) = wb := ⟨_, rfl⟩
  have h0 : Kept [] w wb := by rw [← hwb]; exact (Kept.refl _ _).alloc _
  have HK0 := Lib.hid h0
  have hB : Blk wb w.heap.size 27 (uC d A n c B m e) := by rw [← hwb]; exact Blk.new w _ _
  have HF : Hid (∀ W, Kept [] wb W → W.cell? ⟨w.heap.size, 0, none⟩ = some (.int .i64 d.cpus) ∧ W.cell? ⟨w.heap.size, 1, none⟩ = some (.int .i64 d.threads) ∧ W.cell? ⟨w.heap.size, 2, none⟩ = some (.int .i64 d.locks) ∧ W.cell? ⟨w.heap.size, 3, none⟩ = some (.int .i64 d.cap) ∧ W.cell? ⟨w.heap.size, 4, none⟩ = some (.int .u64 d.boost) ∧ W.cell? ⟨w.heap.size, 5, none⟩ = some (.float .f64 d.keep) ∧ W.cell? ⟨w.heap.size, 6, none⟩ = some (.float .f64 d.ratio) ∧ W.cell? ⟨w.heap.size, 7, none⟩ = some (.slice A n c) ∧ W.cell? ⟨w.heap.size, 8, none⟩ = some (.slice B m e) ∧ w.heap.size < W.heap.size) := fun W hk => by
    have h1 := hB.kept hk (by simp)
    exact ⟨h1.cell 0, h1.cell 1, h1.cell 2, h1.cell 3, h1.cell 4, h1.cell 5, h1.cell 6, h1.cell 7, h1.cell 8, h1.lt⟩
  have HCK : Hid (∀ W, Kept [] wb W → Calls Try.prog 13 #[.agg (uC d A n c B m e)] W fun e w' => e = .returned (.int .i64 (checkU d)) ∧ Kept [] W w') := fun W hk => refCheck9_all d A n c B m e W (hu.old (h0.trans hk)) hb hms
  have HOP : Hid (checkU d = 0 → ∀ W, Kept [] wb W → Calls Try.prog 14 #[.agg (uC d A n c B m e)] W fun x w' => ∃ b : RqA, x = .returned (.pointer (some ⟨b.g, 0, none⟩)) ∧ RqIs W w' b d (openA d) ∧ b.A = A ∧ b.n = n ∧ b.B = B ∧ b.m = m) := fun hd W hk => R35New_any (hu.old (h0.trans hk)) hd
  have HUW : Hid (∀ W, Kept [] wb W → IsU W d A n B m) := fun W hk => hu.old (h0.trans hk)
  have hUC : uC d A n c B m e = #[.int .i64 d.cpus, .int .i64 d.threads, .int .i64 d.locks, .int .i64 d.cap, .int .u64 d.boost, .float .f64 d.keep, .float .f64 d.ratio, .slice A n c, .slice B m e] := rfl
  have HL : Hid (∀ W, Kept [] w W → ReadsE W E ln l) := fun W hk => Reads.old hl hk
  have HLN := Lib.hid hlen
  have HMD := Lib.hid hmd
  rw [hUC] at HCK HOP hwb ⊢
  by_cases hd : checkU d = 0
  · have HOP2 := Lib.hid (HOP.out hd)
    have HP : Hid (∀ (W W' : World) (b : RqA) (a : Acc) (i : Nat) (cc : Int), Kept [] wb W → goA d (openA d) l 0 = (a, i, cc) → RqIs W W' b d a → AWhole d a → ThrQ w d A n B m l (.returned (.tuple #[.pointer (some ⟨b.g, 0, none⟩), .int .i64 i, .int .i64 cc])) W') := fun W W' b a i cc hk h1 h2 h3 => .go _ _ _ _ _ hd h1 (IsP.base h2 (h0.trans hk)) h3
    have HW0 := Lib.hid (openA_whole hd)
    have HF0 := Lib.hid (openA_fit d)
    have HSW : Hid (∀ {a a' : Acc} {e : Ev}, AWhole d a → stepA d a e = some a' → AWhole d a') := fun h1 h2 => stepA_whole hd h1 h2
    have HD := Lib.hid hd
    rw [hd] at HCK
    clear hu hb hms hmd hl hB h0 hUC hlen HOP hd
    have hf := HF.out wb (Kept.refl _ _)
    go_enter Try.func6, Try.ntmps6
    go_wp2_with fail
    (try rw [hwb])
    (try (go_wp2_with fail))
    refine (HCK.out _ (Kept.refl _ _)).mono ?_
    rintro x w2 ⟨rfl, hk2⟩
    have HK2 := Lib.hid hk2
    clear hk2 hf
    have hf := HF.out _ HK2.out
    go_wp2_with fail
    refine (HOP2.out _ HK2.out).mono ?_
    rintro x w3 ⟨b, rfl, hA3, hbA, hbn, hbB, hbm⟩
    have HA3 := Lib.hid hA3
    have HU2 : Hid (IsU w2 d b.A b.n b.B b.m) := by have := HUW.out w2 HK2.out; rw [hbA, hbn, hbB, hbm]; exact this
    clear hf hA3 hbA hbn hbB hbm HOP2 HCK HUW
    go_wp2_with fail
    go_loopw [9] (fun iv wr => ∃ (i : Nat) (a : Acc), i ≤ ln ∧ iv = .int .i64 i ∧ Hid (RqIs w2 wr b d a) ∧ Hid (goA d (openA d) l 0 = goA d a (l.drop i) i) ∧ Hid (AWhole d a) ∧ Hid (AFit a)) (fun iv _ => ln - (intOf iv).toNat)
    case atStart => exact ⟨0, openA d, by omega, rfl, HA3, Lib.hid (goA_drop0 _ _ _).symm, HW0, HF0⟩
    case round =>
      obtain ⟨i, a, hi, rfl, HA, HG, HW, HFI⟩ := hrel
      have HKr : Hid (Kept [] wb wr) := HK2.out.trans HA.out.kept
      by_cases hlt : i < ln
      · have hiL : i < l.length := by rw [← HLN.out]; exact hlt
        obtain ⟨ev, hev⟩ : ∃ ev, l[i]? = some ev := ⟨_, List.getElem?_eq_getElem hiL⟩
        obtain ⟨eb, eo, hE, heb, hec⟩ := (HL.out wr (HK0.out.trans HKr.out)).cells (by omega)
        have hgo := goA_at (d := d) (a := a) hev
        rw [← HG.out] at hgo
        have HEC : Hid (∀ W, Kept [] wr W → (W.cell? ⟨eb, eo + i * 8, none⟩ = some (.int .i64 ev.step) ∧ W.cell? ⟨eb, eo + i * 8 + 1, none⟩ = some (.int .i64 ev.cpu) ∧ W.cell? ⟨eb, eo + i * 8 + 2, none⟩ = some (.int .i64 ev.kind) ∧ W.cell? ⟨eb, eo + i * 8 + 3, none⟩ = some (.int .i64 ev.slot) ∧ W.cell? ⟨eb, eo + i * 8 + 4, none⟩ = some (.int .u32 ev.gen) ∧ W.cell? ⟨eb, eo + i * 8 + 5, none⟩ = some (.int .i64 ev.op) ∧ W.cell? ⟨eb, eo + i * 8 + 6, none⟩ = some (.int .i64 ev.code) ∧ W.cell? ⟨eb, eo + i * 8 + 7, none⟩ = some (.int .u64 ev.n) ∧ eb < W.heap.size) ∧ W.cell? ⟨w.heap.size, 0, none⟩ = some (.int .i64 d.cpus) ∧ w.heap.size < W.heap.size) := fun W hk => by
          have d0 := hec i ev hev 0 (by omega)
          have d1 := hec i ev hev 1 (by omega)
          have d2 := hec i ev hev 2 (by omega)
          have d3 := hec i ev hev 3 (by omega)
          have d4 := hec i ev hev 4 (by omega)
          have d5 := hec i ev hev 5 (by omega)
          have d6 := hec i ev hev 6 (by omega)
          have d7 := hec i ev hev 7 (by omega)
          simp only [eL, eC, List.getElem?_cons_succ, List.getElem?_cons_zero] at d0 d1 d2 d3 d4 d5 d6 d7
          rw [Nat.add_zero] at d0
          rw [← Nat.add_assoc] at d1 d2 d3 d4 d5 d6 d7
          have h2 := HF.out W (HKr.out.trans hk)
          exact ⟨⟨hk.cell_some d0 (by simp), hk.cell_some d1 (by simp), hk.cell_some d2 (by simp), hk.cell_some d3 (by simp), hk.cell_some d4 (by simp), hk.cell_some d5 (by simp), hk.cell_some d6 (by simp), hk.cell_some d7 (by simp), Nat.lt_of_lt_of_le heb hk.size⟩, h2.1, h2.2.2.2.2.2.2.2.2.2⟩
        have HGO := Lib.hid hgo
        have hin : (i : Int) < (ln : Int) := by omega
        have hi0 : (0 : Int) ≤ (i : Int) := by omega
        have HGD : Hid (∀ W, Kept [] wr W → Calls Try.prog 15 #[.agg (eC ev.step ev.cpu ev.kind ev.slot ev.gen ev.op ev.code ev.n)] W fun e w' => e = .returned (.bool (goodE ev)) ∧ Kept [] W w') := fun W _ => refEgood ev.step ev.cpu ev.kind ev.slot ev.gen ev.op ev.code ev.n W
        have hE2 := hE
        subst hE2
        have HA5 : Hid (∀ W, Kept [] wr W → RqIs w2 W b d a) := fun W hk => HA.out.old hk
        have HST : Hid (goodE ev = true → ∀ W, Kept [] wr W → Calls Try.prog 16 #[.pointer (some ⟨b.g, 0, none⟩), .agg (eC ev.step ev.cpu ev.kind ev.slot ev.gen ev.op ev.code ev.n)] W fun x w' => x = .returned (.bool (stepA d a ev).isSome) ∧ RqIs w2 w' b d ((stepA d a ev).getD a)) := fun hg W hk => by
          have hkr : 1 ≤ ev.kind ∧ ev.kind ≤ 10 := by unfold goodE at hg; simp at hg; omega
          exact R35Step_any (HA5.out W hk) HW.out HD.out HU2.out HFI.out ev hkr
        clear hec hev hgo hE heb
        cases hg : goodE ev with
        | false =>
          have HGE : Hid (goA d (openA d) l 0 = (a, i, 3)) := by show _ = _; rw [HGO.out, if_pos (.inl hg)]
          rw [hg] at HGD
          clear hg HST
          go_upto_region 8 with fail
          (refine wp_region_phases (n := 16) (listed := #[false, false, false, false, false, false, false, false, false, false, false, false, false, false, false, false]) (by kernel_rfl) (by rfl) (by rfl) ?_)
          (refine wpAny_phase (fun W => Kept [] wr W) [(0, false), (1, false), (2, false), (3, false), (4, false), (5, false), (6, false), (7, false), (8, false), (9, false), (10, false), (11, false), (12, false), (13, false), (14, false), (15, false)] (f := 0) (listed := #[false, false, false, false, false, false, false, false, false, false, false, false, false, false, false, false]) (listed' := #[true, true, true, true, true, true, true, true, true, true, true, true, true, true, true, true]) (by kernel_rfl) (by kernel_rfl) (by rfl) (Kept.refl [] _).drew (fun d _ _ _ _ h => by cases d <;> exact h) ?_)
          iterate 4 (refine wpQL_take (v := ?_) rfl (by rfl) ?_ ?_; rotate_left; (focus ((intro W hC; have hF := HEC.out W hC; go_simp); try (with_reducible rfl))); (try dsimp only [Act.put]); (try simp only [List.setIfInBounds_toArray, List.set_cons_zero, List.set_cons_succ]))
          (refine wpQL_call nth_4 (by rfl) ?_ (fun W hC => quiet_call hC (HGD.out W hC)) ?_; (focus (intro W hC; go_simp; try (with_reducible rfl))); (try dsimp only [Act.put]); (try simp only [List.setIfInBounds_toArray, List.set_cons_zero, List.set_cons_succ]))
          iterate 11 (first | (refine wpQL_take (v := ?_) rfl ?_ ?_ ?_; rotate_left; (focus (first | rfl | (go_simp; done))); (focus ((intro W hC; have hF := HEC.out W hC; go_simp); try (with_reducible rfl))); (try dsimp only [Act.put]); (try simp only [List.setIfInBounds_toArray, List.set_cons_zero, List.set_cons_succ])) | (refine wpQL_not rfl ?_ ?_; (focus (go_simp; done)); (try dsimp only [Act.put]); (try simp only [List.setIfInBounds_toArray, List.set_cons_zero, List.set_cons_succ])))
          (refine wpQL_nil ?_)
          (intro wq hq)
          (refine wpAny_done (by kernel_rfl) ?_ _)
          go_wp2_with fail
          go_ret3
          exact HP.out _ _ _ _ _ _ HK2.out HGE.out (HA5.out _ hq) HW.out
        | true =>
          rw [hg] at HGD
          have HST2 := Lib.hid (HST.out hg)
          by_cases hcp : d.cpus ≤ ev.cpu
          · have b1 : decide (d.cpus ≤ ev.cpu) = true := decide_eq_true hcp
            have HGE : Hid (goA d (openA d) l 0 = (a, i, 3)) := by show _ = _; rw [HGO.out, if_pos (.inr hcp)]
            clear hg hcp HST HST2
            go_upto_region 8 with fail
            (refine wp_region_phases (n := 16) (listed := #[false, false, false, false, false, false, false, false, false, false, false, false, false, false, false, false]) (by kernel_rfl) (by rfl) (by rfl) ?_)
            (refine wpAny_phase (fun W => Kept [] wr W) [(0, false), (1, false), (2, false), (3, false), (4, false), (5, false), (6, false), (7, false), (8, false), (9, false), (10, false), (11, false), (12, false), (13, false), (14, false), (15, false)] (f := 0) (listed := #[false, false, false, false, false, false, false, false, false, false, false, false, false, false, false, false]) (listed' := #[true, true, true, true, true, true, true, true, true, true, true, true, true, true, true, true]) (by kernel_rfl) (by kernel_rfl) (by rfl) (Kept.refl [] _).drew (fun d _ _ _ _ h => by cases d <;> exact h) ?_)
            iterate 4 (refine wpQL_take (v := ?_) rfl (by rfl) ?_ ?_; rotate_left; (focus ((intro W hC; have hF := HEC.out W hC; go_simp); try (with_reducible rfl))); (try dsimp only [Act.put]); (try simp only [List.setIfInBounds_toArray, List.set_cons_zero, List.set_cons_succ]))
            (refine wpQL_call nth_4 (by rfl) ?_ (fun W hC => quiet_call hC (HGD.out W hC)) ?_; (focus (intro W hC; go_simp; try (with_reducible rfl))); (try dsimp only [Act.put]); (try simp only [List.setIfInBounds_toArray, List.set_cons_zero, List.set_cons_succ]))
            iterate 11 (first | (refine wpQL_take (v := ?_) rfl ?_ ?_ ?_; rotate_left; (focus (first | rfl | (go_simp; done))); (focus ((intro W hC; have hF := HEC.out W hC; go_simp); try (with_reducible rfl))); (try dsimp only [Act.put]); (try simp only [List.setIfInBounds_toArray, List.set_cons_zero, List.set_cons_succ])) | (refine wpQL_not rfl ?_ ?_; (focus (go_simp; done)); (try dsimp only [Act.put]); (try simp only [List.setIfInBounds_toArray, List.set_cons_zero, List.set_cons_succ])))
            (refine wpQL_nil ?_)
            (intro wq hq)
            (refine wpAny_done (by kernel_rfl) ?_ _)
            go_wp2_with fail
            go_ret3
            exact HP.out _ _ _ _ _ _ HK2.out HGE.out (HA5.out _ hq) HW.out
          · have b1 : decide (d.cpus ≤ ev.cpu) = false := decide_eq_false hcp
            have HGE : Hid (goA d (openA d) l 0 = match stepA d a ev with
              | none => (a, i, 14)
              | some a' => goA d a' (l.drop (i + 1)) (i + 1)) := by show _ = _; rw [HGO.out, if_neg (by simp [hg]; omega)]; cases stepA d a ev <;> rfl
            have HSW1 := Lib.hid (fun a' => HSW.out (a := a) (a' := a') (e := ev))
            have HSF1 := Lib.hid (fun a' (h : stepA d a ev = some a') => stepA_fit HMD.out HW.out HFI.out h)
            clear hg hcp HST
            generalize stepA d a ev = sa at *
            cases sa with
            | none =>
              go_upto_region 8 with fail
              (refine wp_region_phases (n := 16) (listed := #[false, false, false, false, false, false, false, false, false, false, false, false, false, false, false, false]) (by kernel_rfl) (by rfl) (by rfl) ?_)
              (refine wpAny_phase (fun W => Kept [] wr W) [(0, false), (1, false), (2, false), (3, false), (4, false), (5, false), (6, false), (7, false), (8, false), (9, false), (10, false), (11, false), (12, false), (13, false), (14, false), (15, false)] (f := 0) (listed := #[false, false, false, false, false, false, false, false, false, false, false, false, false, false, false, false]) (listed' := #[true, true, true, true, true, true, true, true, true, true, true, true, true, true, true, true]) (by kernel_rfl) (by kernel_rfl) (by rfl) (Kept.refl [] _).drew (fun d _ _ _ _ h => by cases d <;> exact h) ?_)
              iterate 4 (refine wpQL_take (v := ?_) rfl (by rfl) ?_ ?_; rotate_left; (focus ((intro W hC; have hF := HEC.out W hC; go_simp); try (with_reducible rfl))); (try dsimp only [Act.put]); (try simp only [List.setIfInBounds_toArray, List.set_cons_zero, List.set_cons_succ]))
              (refine wpQL_call nth_4 (by rfl) ?_ (fun W hC => quiet_call hC (HGD.out W hC)) ?_; (focus (intro W hC; go_simp; try (with_reducible rfl))); (try dsimp only [Act.put]); (try simp only [List.setIfInBounds_toArray, List.set_cons_zero, List.set_cons_succ]))
              iterate 11 (first | (refine wpQL_take (v := ?_) rfl ?_ ?_ ?_; rotate_left; (focus (first | rfl | (go_simp; done))); (focus ((intro W hC; have hF := HEC.out W hC; go_simp); try (with_reducible rfl))); (try dsimp only [Act.put]); (try simp only [List.setIfInBounds_toArray, List.set_cons_zero, List.set_cons_succ])) | (refine wpQL_not rfl ?_ ?_; (focus (go_simp; done)); (try dsimp only [Act.put]); (try simp only [List.setIfInBounds_toArray, List.set_cons_zero, List.set_cons_succ])))
              (refine wpQL_nil ?_)
              (intro wq hq)
              (refine wpAny_done (by kernel_rfl) ?_ _)
              have HQ := Lib.hid hq
              clear hq
              have hf := HEC.out _ HQ.out
              go_wp2_with fail
              refine (HST2.out _ HQ.out).mono ?_
              rintro y w8 ⟨rfl, hA8⟩
              have HA8 := Lib.hid hA8
              clear hA8 hf
              go_wp2_with fail
              go_ret3
              exact HP.out _ _ _ _ _ _ HK2.out HGE.out HA8.out HW.out
            | some a' =>
              go_upto_region 8 with fail
              (refine wp_region_phases (n := 16) (listed := #[false, false, false, false, false, false, false, false, false, false, false, false, false, false, false, false]) (by kernel_rfl) (by rfl) (by rfl) ?_)
              (refine wpAny_phase (fun W => Kept [] wr W) [(0, false), (1, false), (2, false), (3, false), (4, false), (5, false), (6, false), (7, false), (8, false), (9, false), (10, false), (11, false), (12, false), (13, false), (14, false), (15, false)] (f := 0) (listed := #[false, false, false, false, false, false, false, false, false, false, false, false, false, false, false, false]) (listed' := #[true, true, true, true, true, true, true, true, true, true, true, true, true, true, true, true]) (by kernel_rfl) (by kernel_rfl) (by rfl) (Kept.refl [] _).drew (fun d _ _ _ _ h => by cases d <;> exact h) ?_)
              iterate 4 (refine wpQL_take (v := ?_) rfl (by rfl) ?_ ?_; rotate_left; (focus ((intro W hC; have hF := HEC.out W hC; go_simp); try (with_reducible rfl))); (try dsimp only [Act.put]); (try simp only [List.setIfInBounds_toArray, List.set_cons_zero, List.set_cons_succ]))
              (refine wpQL_call nth_4 (by rfl) ?_ (fun W hC => quiet_call hC (HGD.out W hC)) ?_; (focus (intro W hC; go_simp; try (with_reducible rfl))); (try dsimp only [Act.put]); (try simp only [List.setIfInBounds_toArray, List.set_cons_zero, List.set_cons_succ]))
              iterate 11 (first | (refine wpQL_take (v := ?_) rfl ?_ ?_ ?_; rotate_left; (focus (first | rfl | (go_simp; done))); (focus ((intro W hC; have hF := HEC.out W hC; go_simp); try (with_reducible rfl))); (try dsimp only [Act.put]); (try simp only [List.setIfInBounds_toArray, List.set_cons_zero, List.set_cons_succ])) | (refine wpQL_not rfl ?_ ?_; (focus (go_simp; done)); (try dsimp only [Act.put]); (try simp only [List.setIfInBounds_toArray, List.set_cons_zero, List.set_cons_succ])))
              (refine wpQL_nil ?_)
              (intro wq hq)
              (refine wpAny_done (by kernel_rfl) ?_ _)
              have HQ := Lib.hid hq
              clear hq
              have hf := HEC.out _ HQ.out
              go_wp2_with fail
              refine (HST2.out _ HQ.out).mono ?_
              rintro y w8 ⟨rfl, hA8⟩
              have HA8 := Lib.hid hA8
              clear hA8 hf
              go_wp2_with fail
              go_roundw
              case rel => exact ⟨i + 1, a', by omega, by go_num, HA8, HGE, Lib.hid (HSW1.out _ HW.out rfl), Lib.hid (HSF1.out _ rfl)⟩
              case measure => simp [intOf]; omega
      · obtain rfl : i = ln := by omega
        have hgo := HG.out
        have e1 := HLN.out
        have HGE : Hid (goA d (openA d) l 0 = (a, i, 0)) := by show _ = _; rw [hgo, e1, goA_end]
        clear hgo e1
        go_wp2_with fail
        go_ret3
        exact HP.out _ _ _ _ _ _ HK2.out HGE.out HA.out HW.out
  · have HP : Hid (∀ W', Kept [] wb W' → ThrQ w d A n B m l (.returned (.tuple #[.pointer none, .int .i64 0, .int .i64 (checkU d)])) W') := fun W' hk => .bad _ hd (h0.trans hk)
    have hne : (checkU d != 0) = true := bne_iff_ne.2 hd
    generalize checkU d = ck at *
    clear hu hb hms hmd hl hB h0 hUC hlen HOP hd
    have hf := HF.out wb (Kept.refl _ _)
    go_enter Try.func6, Try.ntmps6
    go_wp2_with fail
    (try rw [hwb])
    (try (go_wp2_with fail))
    refine (HCK.out _ (Kept.refl _ _)).mono ?_
    rintro x w2 ⟨rfl, hk2⟩
    have HK2 := Lib.hid hk2
    clear hk2 hf
    go_wp2_with fail
    go_ret3
    exact HP.out _ HK2.out

end Go.Proofs.Ytccodklfplfleaa

/- The document's account (layer 35): States, walked. -/
namespace Go.Proofs.Ytccodklfplfleaa
open Go.RowKit

def stK (a : Acc) (k : Nat) : List Value := (List.range k).map fun t => Value.int .i64 (if (a.pl t).taken then (a.th t).state else 0)
theorem stK_succ (a : Acc) (k : Nat) : stK a (k + 1) = stK a k ++ [.int .i64 (if (a.pl k).taken then (a.th k).state else 0)] := by unfold stK; rw [List.range_succ, List.map_append]; rfl
theorem stK_all (a : Acc) : stK a a.P.length = (statesA a).map (Value.int .i64) := by unfold stK statesA; rw [List.map_map]; rfl
set_option maxHeartbeats 6400000 in
set_option maxRecDepth 100000 in
theorem R35States_any {w : World} {b : RqA} {d : Du} {a : Acc} (h : RqAt w b d a) (hw : AWhole d a) : Calls Try.prog 11 #[.pointer (some ⟨b.g, 0, none⟩)] w fun x w' => ∃ (A : Option Addr) (n c : Nat), x = .returned (.slice A n c) ∧ FreshG 3 w w' ((statesA a).map (Value.int .i64)) A n c := by
  have htl := hw.tl
  have hn64 := hw.n64
  have HF : Hid (∀ W, Kept [] w W → W.cell? ⟨b.g, 9, none⟩ = some (.pointer (some ⟨b.gr, 0, none⟩)) ∧ W.cell? ⟨b.g, 10, none⟩ = some (.slice (some ⟨b.gT, 0, none⟩) a.P.length a.P.length) ∧ b.g < W.heap.size ∧ W.cell? ⟨b.gr, 0, none⟩ = some (.slice (some ⟨b.gP, 0, none⟩) a.P.length a.P.length) ∧ b.gr < W.heap.size ∧ b.gP < W.heap.size ∧ b.gT < W.heap.size) := fun W hk => by
    have e := RqAt.old h hk
    have c := RqAt.cells e
    have bl := RqAt.bl e
    rw [htl] at c
    exact ⟨c.2.2.2.1, c.2.2.2.2.1, c.2.2.2.2.2.2, (RqAt.rolc e).1, bl.2.1, bl.2.2.1, bl.2.2.2.2⟩
  have HU : Hid (∀ W, Kept [] w W → ∀ u, u < a.P.length → W.cell? ⟨b.gP, u, none⟩ = some (.bool (a.pl u).taken) ∧ W.cell? ⟨b.gT, u * 31 + 2, none⟩ = some (.int .i64 (a.th u).state)) := fun W hk u hu => by
    have e := RqAt.old h hk
    exact ⟨(RqAt.pl e hu).1, (RqAt.tf e (k := u) (by omega)).1.2.2.1⟩
  have HST := Lib.hid (fun k => stK_succ a k)
  have H0 : Hid (stK a 0 = []) := rfl
  have HALL := Lib.hid (stK_all a)
  generalize statesA a = sa at *
  generalize stK a = f at *
  generalize a.P.length = n at *
  clear h hw htl
  go_enter Try.func11, Try.ntmps11
  go_wp2_with fail
  go_loopw [3, 4] (fun ov kv wr => ∃ (k : Nat) (A : Option Addr) (c : Nat) (L : List Value), k ≤ n ∧ ov = .slice A k c ∧ kv = .int .i64 k ∧ Hid (f k = L) ∧ Hid (FreshG 3 w wr L A k c)) (fun _ k _ => n - (intOf k).toNat)
  case atStart => exact ⟨0, none, 0, [], by omega, rfl, rfl, H0, FreshG.nil _ w⟩
  case round =>
    obtain ⟨k, A, c, L, hk1, rfl, rfl, HL, HFR⟩ := hrel
    have hf := HF.out wr HFR.out.2.1
    by_cases hk : k < n
    · obtain ⟨u1, u2⟩ := HU.out wr HFR.out.2.1 k hk
      have hst := HST.out k
      rw [HL.out] at hst
      have hki : (k : Int) < (n : Int) := by omega
      have hk0 : (0 : Int) ≤ (k : Int) := by omega
      generalize (a.pl k).taken = tk at *
      generalize (a.th k).state = st at *
      cases tk with
      | true =>
        rw [if_pos rfl] at hst
        have HS := Lib.hid hst
        clear hst
        go_wp2_with (at_builtin; refine wpList_append_any _ rfl _ _ 37 rfl 3 (.int .i64 0) 1 8 Try.underlying37 infoQ_I rfl (by decide) (.slice A k c) k L rfl (own_kept HFR.out.1 ((Kept.refl [] _).alloc _) (by simp)) _ 1 1 [.int .i64 st] rfl (reads_one _ _ _) (by simp [Value.oneCell']) (by simp only [maxLen]; omega) (by omega) ?_; rintro A8 c8 w6 happ; have HA := Lib.hid happ; clear happ)
        go_roundw
        case rel => exact ⟨k + 1, A8, c8, L ++ [.int .i64 st], by omega, by simp, by go_num, HS, HFR.out.add ((Kept.refl [] _).alloc _) HA.out⟩
        case measure => simp [intOf]; omega
      | false =>
        rw [if_neg (by simp)] at hst
        have HS := Lib.hid hst
        clear hst
        go_wp2_with (at_builtin; refine wpList_append_any _ rfl _ _ 37 rfl 3 (.int .i64 0) 1 8 Try.underlying37 infoQ_I rfl (by decide) (.slice A k c) k L rfl (own_kept HFR.out.1 ((Kept.refl [] _).alloc _) (by simp)) _ 1 1 [.int .i64 0] rfl (reads_one _ _ _) (by simp [Value.oneCell']) (by simp only [maxLen]; omega) (by omega) ?_; rintro A8 c8 w6 happ; have HA := Lib.hid happ; clear happ)
        go_roundw
        case rel => exact ⟨k + 1, A8, c8, L ++ [.int .i64 0], by omega, by simp, by go_num, HS, HFR.out.add ((Kept.refl [] _).alloc _) HA.out⟩
        case measure => simp [intOf]; omega
    · obtain rfl : k = n := by omega
      have HE := Lib.hid (HALL.out.symm.trans HL.out)
      go_wp2_with fail
      go_ret
      exact ⟨A, k, c, rfl, by rw [HE.out]; exact HFR.out⟩

end Go.Proofs.Ytccodklfplfleaa

