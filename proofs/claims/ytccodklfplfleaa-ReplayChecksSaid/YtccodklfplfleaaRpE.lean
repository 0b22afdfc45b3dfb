/- Package replay: a trace gone through (through), walked. -/
import Derived.Test.YtccodklfplfleaaP43
import Derived.Test.YtccodklfplfleaaDuK
import Derived.Test.YtccodklfplfleaaP04
namespace Go.Proofs.Ytccodklfplfleaa
open Go.RowKit

inductive ThrP (w : World) (d : Du) (A : Option Addr) (n : Nat) (B : Option Addr) (m : Nat) (l : List Ev) : Ending → World → Prop
  | bad (w' : World) : checkU d ≠ 0 → Kept [] w w' → ThrP w d A n B m l (.returned (.tuple #[.pointer none, .int .i64 0, .int .i64 (checkU d)])) w'
  | go (w' : World) (b : AcA) (a : Acc) (i : Nat) (c : Int) : checkU d = 0 → goA d (openA d) l 0 = (a, i, c) → AccIs w w' b d a (kindsA b.g) → AWhole d a → ThrP w d A n B m l (.returned (.tuple #[.pointer (some ⟨b.g, 0, none⟩), .int .i64 i, .int .i64 c])) w'
theorem goA_at {d : Du} {a : Acc} {l : List Ev} {i : Nat} {e : Ev} (h : l[i]? = some e) : goA d a (l.drop i) i = if goodE e = false ∨ d.cpus ≤ e.cpu then (a, i, 3) else match stepA d a e with
    | none => (a, i, 14)
    | some a' => goA d a' (l.drop (i + 1)) (i + 1) := by
  obtain ⟨hi, he⟩ := List.getElem?_eq_some_iff.1 h
  rw [List.drop_eq_getElem_cons hi, he, goA]
  rfl
theorem goA_end (d : Du) (a : Acc) (l : List Ev) : goA d a (l.drop l.length) l.length = (a, l.length, 0) := by rw [List.drop_length]; rfl
theorem goA_drop0 (d : Du) (a : Acc) (l : List Ev) : goA d a (l.drop 0) 0 = goA d a l 0 := by rw [List.drop_zero]
theorem AccAt.knd {w : World} {b : AcA} {d : Du} {a : Acc} {K : Array Value} (h : AccAt w b d a K) (k : Nat) (v : Value) (hv : K[k]? = some v) : w.cell? ⟨b.g, 12 + k, none⟩ = some v := by
  refine (h.blk.cell (12 + k)).trans ?_
  have e : (uC d b.A b.n b.c b.B b.m b.e ++ #[.pointer (some ⟨b.gr, 0, none⟩), .slice b.AT a.T.length b.cT, .slice b.AH a.held.length b.cH] : Array Value).size = 12 := rfl
  show (uC d b.A b.n b.c b.B b.m b.e ++ #[.pointer (some ⟨b.gr, 0, none⟩), .slice b.AT a.T.length b.cT, .slice b.AH a.held.length b.cH] ++ K)[12 + k]? = some v
  rw [Array.getElem?_append_right (by rw [e]; omega), e, show 12 + k - 12 = k by omega]
  exact hv

set_option maxHeartbeats 6400000 in
set_option maxRecDepth 100000 in
theorem rpThrough_any {w : World} {d : Du} {A B E : Option Addr} {n c m e ln ce : Nat} {l : List Ev} (hu : IsU w d A n B m) (hb : ∀ p ∈ d.progs, p.length ≤ 9223372036854775807) (hms : ∀ s ∈ d.starts, s.mask < 18446744073709551616) (hmd : MaskD d) (hl : ReadsE w E ln l) (hln : ln ≤ 400) :
    Calls Try.prog 17 #[.agg (uC d A n c B m e), .slice E ln ce] w (ThrP w d A n B m l) := by
  have hlen := ReadsE.len hl
  obtain ⟨wb, hwb⟩ : ∃ wb, w.alloc (.cells (uC d A n c B m e) 27) = wb := ⟨_, rfl⟩
  have h0 : Kept [] w wb := by rw [← hwb]; exact (Kept.refl _ _).alloc _
  have HK0 := Lib.hid h0
  have hB : Blk wb w.heap.size 27 (uC d A n c B m e) := by rw [← hwb]; exact Blk.new w _ _
  have HF : Hid (∀ W, Kept [] wb W → W.cell? ⟨w.heap.size, 0, none⟩ = some (.int .i64 d.cpus) ∧ W.cell? ⟨w.heap.size, 1, none⟩ = some (.int .i64 d.threads) ∧ W.cell? ⟨w.heap.size, 2, none⟩ = some (.int .i64 d.locks) ∧ W.cell? ⟨w.heap.size, 3, none⟩ = some (.int .i64 d.cap) ∧ W.cell? ⟨w.heap.size, 4, none⟩ = some (.int .u64 d.boost) ∧ W.cell? ⟨w.heap.size, 5, none⟩ = some (.float .f64 d.keep) ∧ W.cell? ⟨w.heap.size, 6, none⟩ = some (.float .f64 d.ratio) ∧ W.cell? ⟨w.heap.size, 7, none⟩ = some (.slice A n c) ∧ W.cell? ⟨w.heap.size, 8, none⟩ = some (.slice B m e) ∧ w.heap.size < W.heap.size) := fun W hk => by
    have h1 := hB.kept hk (by simp)
    exact ⟨h1.cell 0, h1.cell 1, h1.cell 2, h1.cell 3, h1.cell 4, h1.cell 5, h1.cell 6, h1.cell 7, h1.cell 8, h1.lt⟩
  have HCK : Hid (∀ W, Kept [] wb W → Calls Try.prog 36 #[.agg (uC d A n c B m e)] W fun e w' => e = .returned (.int .i64 (checkU d)) ∧ Kept [] W w') := fun W hk => ucheck_all d A n c B m e W (hu.old (h0.trans hk)) hb hms
  have HOP : Hid (checkU d = 0 → ∀ W, Kept [] wb W → Calls Try.prog 37 #[.agg (uC d A n c B m e)] W fun x w' => ∃ b : AcA, x = .returned (.pointer (some ⟨b.g, 0, none⟩)) ∧ AccIs W w' b d (openA d) (kindsA b.g) ∧ b.A = A ∧ b.n = n ∧ b.B = B ∧ b.m = m) := fun hd W hk => rpopen_any (hu.old (h0.trans hk)) hd
  have HUW : Hid (∀ W, Kept [] wb W → IsU W d A n B m) := fun W hk => hu.old (h0.trans hk)
  have hUC : uC d A n c B m e = #[.int .i64 d.cpus, .int .i64 d.threads, .int .i64 d.locks, .int .i64 d.cap, .int .u64 d.boost, .float .f64 d.keep, .float .f64 d.ratio, .slice A n c, .slice B m e] := rfl
  have HL : Hid (∀ W, Kept [] w W → ReadsE W E ln l) := fun W hk => Reads.old hl hk
  have HLN := Lib.hid hlen
  have HMD := Lib.hid hmd
  rw [hUC] at HCK HOP hwb ⊢
  by_cases hd : checkU d = 0
  · have HOP2 := Lib.hid (HOP.out hd)
    have HP : Hid (∀ (W W' : World) (b : AcA) (a : Acc) (i : Nat) (cc : Int), Kept [] wb W → goA d (openA d) l 0 = (a, i, cc) → AccIs W W' b d a (kindsA b.g) → AWhole d a → ThrP w d A n B m l (.returned (.tuple #[.pointer (some ⟨b.g, 0, none⟩), .int .i64 i, .int .i64 cc])) W') := fun W W' b a i cc hk h1 h2 h3 => .go _ _ _ _ _ hd h1 (h2.base (h0.trans hk)) h3
    have HW0 := Lib.hid (openA_whole hd)
    have HF0 := Lib.hid (openA_fit d)
    have HSW : Hid (∀ {a a' : Acc} {e : Ev}, AWhole d a → stepA d a e = some a' → AWhole d a') := fun h1 h2 => stepA_whole hd h1 h2
    have HD := Lib.hid hd
    rw [hd] at HCK
    clear hu hb hms hmd hl hB h0 hUC hlen HOP hd
    have hf := HF.out wb (Kept.refl _ _)
    go_enter Try.func17, Try.ntmps17
    go_wp2_with fail
    (try rw [hwb])
    (try (go_wp2_with fail))
    refine (HCK.out _ (Kept.refl _ _)).mono ?_
    rintro x w2 ⟨rfl, hk2⟩
    have HK2 := Lib.hid hk2
    clear hk2 hf
    have hf := HF.out _ HK2.out
    go_wp2_with fail
    refine (HOP2.out _ HK2.out).mono ?_
    rintro x w3 ⟨b, rfl, hA3, hbA, hbn, hbB, hbm⟩
    have HA3 := Lib.hid hA3
    have HU2 : Hid (IsU w2 d b.A b.n b.B b.m) := by have := HUW.out w2 HK2.out; rw [hbA, hbn, hbB, hbm]; exact this
    clear hf hA3 hbA hbn hbB hbm HOP2 HCK HUW
    go_wp2_with fail
    go_loopw [20] (fun iv wr => ∃ (i : Nat) (a : Acc), i ≤ ln ∧ iv = .int .i64 i ∧ Hid (AccIs w2 wr b d a (kindsA b.g)) ∧ Hid (goA d (openA d) l 0 = goA d a (l.drop i) i) ∧ Hid (AWhole d a) ∧ Hid (AFit a)) (fun iv _ => ln - (intOf iv).toNat)
    case atStart => exact ⟨0, openA d, by omega, rfl, HA3, Lib.hid (goA_drop0 _ _ _).symm, HW0, HF0⟩
    case round =>
      obtain ⟨i, a, hi, rfl, HA, HG, HW, HFI⟩ := hrel
      have HKr : Hid (Kept [] wb wr) := HK2.out.trans HA.out.kept
      by_cases hlt : i < ln
      · have hiL : i < l.length := by rw [← HLN.out]; exact hlt
        obtain ⟨ev, hev⟩ : ∃ ev, l[i]? = some ev := ⟨_, List.getElem?_eq_getElem hiL⟩
        obtain ⟨eb, eo, hE, heb, hec⟩ := (HL.out wr (HK0.out.trans HKr.out)).cells (by omega)
        have hgo := goA_at (d := d) (a := a) hev
        rw [← HG.out] at hgo
        have d0 := hec i ev hev 0 (by omega)
        have d1 := hec i ev hev 1 (by omega)
        have d2 := hec i ev hev 2 (by omega)
        have d3 := hec i ev hev 3 (by omega)
        have d4 := hec i ev hev 4 (by omega)
        have d5 := hec i ev hev 5 (by omega)
        have d6 := hec i ev hev 6 (by omega)
        have d7 := hec i ev hev 7 (by omega)
        simp only [eL, eC, List.getElem?_cons_succ, List.getElem?_cons_zero] at d0 d1 d2 d3 d4 d5 d6 d7
        rw [Nat.add_zero] at d0
        rw [← Nat.add_assoc] at d1 d2 d3 d4 d5 d6 d7
        have HGO := Lib.hid hgo
        have hin : (i : Int) < (ln : Int) := by omega
        have hi0 : (0 : Int) ≤ (i : Int) := by omega
        obtain ⟨wc, hwc⟩ : ∃ wc, wr.alloc (.cells (eC ev.step ev.cpu ev.kind ev.slot ev.gen ev.op ev.code ev.n) 55) = wc := ⟨_, rfl⟩
        have hkc : Kept [] wr wc := by rw [← hwc]; exact (Kept.refl _ _).alloc _
        have hBc : Blk wc wr.heap.size 55 (eC ev.step ev.cpu ev.kind ev.slot ev.gen ev.op ev.code ev.n) := by rw [← hwc]; exact Blk.new _ _ _
        have HWC := Lib.hid hwc
        have HFE : Hid (∀ W, Kept [] wc W → (W.cell? ⟨wr.heap.size, 0, none⟩ = some (.int .i64 ev.step) ∧ W.cell? ⟨wr.heap.size, 1, none⟩ = some (.int .i64 ev.cpu) ∧ W.cell? ⟨wr.heap.size, 2, none⟩ = some (.int .i64 ev.kind) ∧ W.cell? ⟨wr.heap.size, 3, none⟩ = some (.int .i64 ev.slot) ∧ W.cell? ⟨wr.heap.size, 4, none⟩ = some (.int .u32 ev.gen) ∧ W.cell? ⟨wr.heap.size, 5, none⟩ = some (.int .i64 ev.op) ∧ W.cell? ⟨wr.heap.size, 6, none⟩ = some (.int .i64 ev.code) ∧ W.cell? ⟨wr.heap.size, 7, none⟩ = some (.int .u64 ev.n) ∧ wr.heap.size < W.heap.size) ∧ W.cell? ⟨w.heap.size, 0, none⟩ = some (.int .i64 d.cpus) ∧ w.heap.size < W.heap.size) := fun W hk => by
          have h1 := hBc.kept hk (by simp)
          have h2 := HF.out W (HKr.out.trans (hkc.trans hk))
          exact ⟨⟨h1.cell 0, h1.cell 1, h1.cell 2, h1.cell 3, h1.cell 4, h1.cell 5, h1.cell 6, h1.cell 7, h1.lt⟩, h2.1, h2.2.2.2.2.2.2.2.2.2⟩
        have HKC := Lib.hid hkc
        have HGD := Lib.hid (fun W => egood_any ev.step ev.cpu ev.kind ev.slot ev.gen ev.op ev.code ev.n W)
        have hE2 := hE
        subst hE2
        clear hwc hkc hBc hec hev hgo hE
        go_upto_region 8 with fail
        rw [HWC.out]
        have hf := HFE.out wc (Kept.refl _ _)
        clear d0 d1 d2 d3 d4 d5 d6 d7 heb
        go_wp2_with fail
        refine (HGD.out _).mono ?_
        rintro x w5 ⟨rfl, hk5⟩
        have HK5 := Lib.hid hk5
        clear hk5 hf
        have hf := HFE.out w5 HK5.out
        have HA5 : Hid (∀ W, Kept [] wc W → AccIs w2 W b d a (kindsA b.g)) := fun W hk => HA.out.old (HKC.out.trans hk)
        cases hg : goodE ev with
        | false =>
          have hge : goodE ⟨ev.step, ev.cpu, ev.kind, ev.slot, ev.gen, ev.op, ev.code, ev.n⟩ = false := hg
          have HGE : Hid (goA d (openA d) l 0 = (a, i, 3)) := by show _ = _; rw [HGO.out, if_pos (.inl hg)]
          clear hg hge
          go_wp2_with fail
          go_ret3
          exact HP.out _ _ _ _ _ _ HK2.out HGE.out (HA5.out _ HK5.out) HW.out
        | true =>
          have hge : goodE ⟨ev.step, ev.cpu, ev.kind, ev.slot, ev.gen, ev.op, ev.code, ev.n⟩ = true := hg
          by_cases hcp : d.cpus ≤ ev.cpu
          · have b1 : decide (d.cpus ≤ ev.cpu) = true := decide_eq_true hcp
            have HGE : Hid (goA d (openA d) l 0 = (a, i, 3)) := by show _ = _; rw [HGO.out, if_pos (.inr hcp)]
            clear hg hge hcp
            go_wp2_with fail
            go_ret3
            exact HP.out _ _ _ _ _ _ HK2.out HGE.out (HA5.out _ HK5.out) HW.out
          · have b1 : decide (d.cpus ≤ ev.cpu) = false := decide_eq_false hcp
            have HGE : Hid (goA d (openA d) l 0 = match stepA d a ev with
              | none => (a, i, 14)
              | some a' => goA d a' (l.drop (i + 1)) (i + 1)) := by show _ = _; rw [HGO.out, if_neg (by simp [hg]; omega)]
            have hkr : 1 ≤ ev.kind ∧ ev.kind ≤ 10 := by unfold goodE at hg; simp at hg; omega
            obtain ⟨k, hk⟩ : ∃ k : Nat, ev.kind = k := ⟨ev.kind.toNat, by omega⟩
            obtain ⟨f, hkf, hfh, hfe⟩ := kinds_handle b.g k (by omega) (by omega)
            have HH : Hid (∀ W, Kept [] wc W → Calls Try.prog f #[.pointer (some ⟨b.g, 0, none⟩), .agg (eC ev.step ev.cpu ev.kind ev.slot ev.gen ev.op ev.code ev.n)] W fun x w' => x = .returned (.bool (stepA d a ev).isSome) ∧ AccIs w2 w' b d ((stepA d a ev).getD a) (kindsA b.g)) := fun W hk2 => hfh (HA5.out W hk2) HW.out HD.out HU2.out HFI.out ev hk hg
            have HF10 : Hid (∀ W, Kept [] wc W → (W.cell? ⟨wr.heap.size, 0, none⟩ = some (.int .i64 ev.step) ∧ W.cell? ⟨wr.heap.size, 1, none⟩ = some (.int .i64 ev.cpu) ∧ W.cell? ⟨wr.heap.size, 2, none⟩ = some (.int .i64 k) ∧ W.cell? ⟨wr.heap.size, 3, none⟩ = some (.int .i64 ev.slot) ∧ W.cell? ⟨wr.heap.size, 4, none⟩ = some (.int .u32 ev.gen) ∧ W.cell? ⟨wr.heap.size, 5, none⟩ = some (.int .i64 ev.op) ∧ W.cell? ⟨wr.heap.size, 6, none⟩ = some (.int .i64 ev.code) ∧ W.cell? ⟨wr.heap.size, 7, none⟩ = some (.int .u64 ev.n) ∧ wr.heap.size < W.heap.size) ∧ W.cell? ⟨b.g, 12 + k, none⟩ = some (.func (.func f) #[.pointer (some ⟨b.g, 0, none⟩)] #[]) ∧ b.g < W.heap.size) := fun W hk2 => by
              have h1 := (HFE.out W hk2).1
              rw [hk] at h1
              have h2 := (HA5.out W hk2).at'
              exact ⟨h1, AccAt.knd h2 k _ hkf, h2.blk.lt⟩
            have hk0 : (0 : Int) ≤ (k : Int) := by omega
            have hk11 : (k : Int) < 11 := by omega
            rw [hk] at HH
            have HSW1 := Lib.hid (fun a' => HSW.out (a := a) (a' := a') (e := ev))
            have HSF1 := Lib.hid (fun a' (h : stepA d a ev = some a') => stepA_fit HMD.out HW.out HFI.out h)
            clear hg hge hcp hkr hk hkf hfh
            generalize stepA d a ev = sa at *
            cases sa with
            | none =>
              go_upto_region 10 with fail
              (refine wp_region_phases (n := 11) (listed := #[false, false, false, false, false, false, false, false, false, false, false]) (by kernel_rfl) (by rfl) (by rfl) ?_)
              (refine wpAny_phase (fun W => Kept [] wc W) [(0, false), (1, false), (2, false), (3, false), (4, false), (5, false), (6, false), (7, false)] (f := 3) (listed := #[false, false, false, false, false, false, false, false, false, false, false]) (listed' := #[true, true, true, true, true, true, true, true, false, false, false]) (by kernel_rfl) (by kernel_rfl) (by rfl) (HK5.out).drew (fun d _ _ _ _ h => by cases d <;> exact h) ?_)
              iterate 8 (refine wpQL_take (v := ?_) rfl (by rfl) ?_ ?_; rotate_left; (focus ((intro W hC; have hF := HF10.out W hC; go_simp); try (with_reducible rfl))); (try dsimp only [Act.put]); (try simp only [List.setIfInBounds_toArray, List.set_cons_zero, List.set_cons_succ]))
              (refine wpQL_nil ?_)
              (intro wq hq)
              (refine wpAny_loud 8 (fuel := 2) (listed := #[true, true, true, true, true, true, true, true, false, false, false]) (listed' := #[true, true, true, true, true, true, true, true, true, false, false]) (by kernel_rfl) (by rfl) nth_8 (fun K hK => ?_))
              go_simp
              refine (HH.out _ hq).mono ?_
              rintro y w8 ⟨rfl, hA8⟩
              have HA8 := Lib.hid hA8
              clear hA8
              (refine hK.out _ _ ?_; clear hK K)
              (try simp only [Act.put, List.setIfInBounds_toArray, List.set_cons_zero, List.set_cons_succ])
              (refine wpAny_phase (fun W => W = _) [(9, false), (10, false)] (f := 0) (listed := #[true, true, true, true, true, true, true, true, true, false, false]) (listed' := #[true, true, true, true, true, true, true, true, true, true, true]) (by kernel_rfl) (by kernel_rfl) (by rfl) rfl (fun d _ _ _ _ h => by cases d <;> exact h) ?_)
              iterate 2 (refine wpQL_take (v := ?_) rfl (by rfl) ?_ ?_; rotate_left; (focus ((intro W hC; go_simp); try (with_reducible rfl))); (try dsimp only [Act.put]); (try simp only [List.setIfInBounds_toArray, List.set_cons_zero, List.set_cons_succ]))
              (refine wpQL_nil ?_)
              (intro wq hq; subst hq)
              (refine wpAny_done (by kernel_rfl) ?_ _)
              go_wp2_with fail
              go_ret3
              exact HP.out _ _ _ _ _ _ HK2.out HGE.out HA8.out HW.out
            | some a' =>
              go_upto_region 10 with fail
              (refine wp_region_phases (n := 11) (listed := #[false, false, false, false, false, false, false, false, false, false, false]) (by kernel_rfl) (by rfl) (by rfl) ?_)
              (refine wpAny_phase (fun W => Kept [] wc W) [(0, false), (1, false), (2, false), (3, false), (4, false), (5, false), (6, false), (7, false)] (f := 3) (listed := #[false, false, false, false, false, false, false, false, false, false, false]) (listed' := #[true, true, true, true, true, true, true, true, false, false, false]) (by kernel_rfl) (by kernel_rfl) (by rfl) (HK5.out).drew (fun d _ _ _ _ h => by cases d <;> exact h) ?_)
              iterate 8 (refine wpQL_take (v := ?_) rfl (by rfl) ?_ ?_; rotate_left; (focus ((intro W hC; have hF := HF10.out W hC; go_simp); try (with_reducible rfl))); (try dsimp only [Act.put]); (try simp only [List.setIfInBounds_toArray, List.set_cons_zero, List.set_cons_succ]))
              (refine wpQL_nil ?_)
              (intro wq hq)
              (refine wpAny_loud 8 (fuel := 2) (listed := #[true, true, true, true, true, true, true, true, false, false, false]) (listed' := #[true, true, true, true, true, true, true, true, true, false, false]) (by kernel_rfl) (by rfl) nth_8 (fun K hK => ?_))
              go_simp
              refine (HH.out _ hq).mono ?_
              rintro y w8 ⟨rfl, hA8⟩
              have HA8 := Lib.hid hA8
              clear hA8
              (refine hK.out _ _ ?_; clear hK K)
              (try simp only [Act.put, List.setIfInBounds_toArray, List.set_cons_zero, List.set_cons_succ])
              (refine wpAny_phase (fun W => W = _) [(9, false), (10, false)] (f := 0) (listed := #[true, true, true, true, true, true, true, true, true, false, false]) (listed' := #[true, true, true, true, true, true, true, true, true, true, true]) (by kernel_rfl) (by kernel_rfl) (by rfl) rfl (fun d _ _ _ _ h => by cases d <;> exact h) ?_)
              iterate 2 (refine wpQL_take (v := ?_) rfl (by rfl) ?_ ?_; rotate_left; (focus ((intro W hC; go_simp); try (with_reducible rfl))); (try dsimp only [Act.put]); (try simp only [List.setIfInBounds_toArray, List.set_cons_zero, List.set_cons_succ]))
              (refine wpQL_nil ?_)
              (intro wq hq; subst hq)
              (refine wpAny_done (by kernel_rfl) ?_ _)
              go_wp2_with fail
              go_roundw
              case rel => exact ⟨i + 1, a', by omega, by go_num, HA8, HGE, Lib.hid (HSW1.out _ HW.out rfl), Lib.hid (HSF1.out _ rfl)⟩
              case measure => simp [intOf]; omega
      · obtain rfl : i = ln := by omega
        have hgo := HG.out
        have e1 := HLN.out
        have HGE : Hid (goA d (openA d) l 0 = (a, i, 0)) := by show _ = _; rw [hgo, e1, goA_end]
        clear hgo e1
        go_wp2_with fail
        go_ret3
        exact HP.out _ _ _ _ _ _ HK2.out HGE.out HA.out HW.out
  · have HP : Hid (∀ W', Kept [] wb W' → ThrP w d A n B m l (.returned (.tuple #[.pointer none, .int .i64 0, .int .i64 (checkU d)])) W') := fun W' hk => .bad _ hd (h0.trans hk)
    have hne : (checkU d != 0) = true := bne_iff_ne.2 hd
    generalize checkU d = ck at *
    clear hu hb hms hmd hl hB h0 hUC hlen HOP hd
    have hf := HF.out wb (Kept.refl _ _)
    go_enter Try.func17, Try.ntmps17
    go_wp2_with fail
    (try rw [hwb])
    (try (go_wp2_with fail))
    refine (HCK.out _ (Kept.refl _ _)).mono ?_
    rintro x w2 ⟨rfl, hk2⟩
    have HK2 := Lib.hid hk2
    clear hk2 hf
    go_wp2_with fail
    go_ret3
    exact HP.out _ HK2.out

end Go.Proofs.Ytccodklfplfleaa
