/- The document's account (layer 35): who runs, whose next call, whom a register names; walked. -/
import Derived.Test.YtccodklfplfleaaRqR
import Derived.Test.YtccodklfplfleaaDuA
namespace Go.Proofs.Ytccodklfplfleaa
open Go.RowKit

theorem ev_boxR {w wb : World} {e : Ev} (hwb : w.alloc (.cells (eC e.step e.cpu e.kind e.slot e.gen e.op e.code e.n) 55) = wb) : ∀ W, Kept [] wb W → (W.cell? ⟨w.heap.size, 0, none⟩ = some (.int .i64 e.step) ∧ W.cell? ⟨w.heap.size, 1, none⟩ = some (.int .i64 e.cpu) ∧ W.cell? ⟨w.heap.size, 2, none⟩ = some (.int .i64 e.kind) ∧ W.cell? ⟨w.heap.size, 3, none⟩ = some (.int .i64 e.slot) ∧ W.cell? ⟨w.heap.size, 4, none⟩ = some (.int .u32 e.gen) ∧ W.cell? ⟨w.heap.size, 5, none⟩ = some (.int .i64 e.op) ∧ W.cell? ⟨w.heap.size, 6, none⟩ = some (.int .i64 e.code) ∧ W.cell? ⟨w.heap.size, 7, none⟩ = some (.int .u64 e.n) ∧ w.heap.size < W.heap.size) := fun W hk => by
  subst hwb
  have h := (Blk.new w 55 (eC e.step e.cpu e.kind e.slot e.gen e.op e.code e.n)).kept hk (by simp)
  exact ⟨h.cell 0, h.cell 1, h.cell 2, h.cell 3, h.cell 4, h.cell 5, h.cell 6, h.cell 7, h.lt⟩
theorem onK_stay {a : Acc} {cpu : Int} {k : Nat} (h : onK a cpu k ≠ -1) : ∀ m, k ≤ m → onK a cpu m = onK a cpu k
  | 0, hm => by obtain rfl : k = 0 := by omega
                rfl
  | m + 1, hm => by
    by_cases e : k = m + 1
    · subst e; rfl
    · rw [onK, onK_stay h m (by omega), if_pos h]
theorem onK_at {a : Acc} {cpu : Int} {k : Nat} (h : onK a cpu k = -1) (hb : onB a cpu k = true) (hk : k < a.P.length) : onA a cpu = k := by
  have h1 : onK a cpu (k + 1) = k := by rw [onK, h, if_neg (by simp), if_pos hb]
  unfold onA
  rw [onK_stay (k := k + 1) (by rw [h1]; omega) _ (by omega), h1]
theorem onK_no {a : Acc} {cpu : Int} {k : Nat} (h : onK a cpu k = -1) (hb : onB a cpu k = false) : onK a cpu (k + 1) = -1 := by
  rw [onK, h, hb]; rfl
/-- A deed's cells. -/
abbrev ddR (x : Dd) : Array Value := #[.int .i64 x.op, .int .i64 x.a, .int .i64 x.b, .int .i64 x.r, .int .u64 x.n, .int .u64 x.mask, .bool x.loose]
section
variable {w : World} {b : RqA} {d : Du} {a : Acc}
set_option maxHeartbeats 3200000 in
theorem R35on_any (h : RqAt w b d a) (hw : AWhole d a) (cpu : Int) : Calls Try.prog 28 #[.pointer (some ⟨b.g, 0, none⟩), .int .i64 cpu] w fun x w' => x = .returned (.int .i64 (onA a cpu)) ∧ w = w' := by
  obtain ⟨_, _, _, c9, c10, _, hl⟩ := RqAt.cells h
  obtain ⟨r0, _, hlr⟩ := RqAt.rolc h
  have htl := hw.tl
  have hn64 := hw.n64
  have HPL : Hid (∀ k, k < a.P.length → w.cell? ⟨b.gP, k, none⟩ = some (.bool (a.pl k).taken)) := fun k hk => (RqAt.pl h hk).1
  have HTH : Hid (∀ k, k < a.P.length → w.cell? ⟨b.gT, k * 31 + 2, none⟩ = some (.int .i64 (a.th k).state) ∧ w.cell? ⟨b.gT, k * 31 + 3, none⟩ = some (.int .i64 (a.th k).cpu)) := fun k hk => by
    have := RqAt.tf h (k := k) (by omega)
    exact ⟨this.1.2.2.1, this.1.2.2.2.1⟩
  have HAT : Hid (∀ k, onK a cpu k = -1 → onB a cpu k = true → k < a.P.length → onA a cpu = k) := fun k => onK_at
  have HNO : Hid (∀ k, onK a cpu k = -1 → onB a cpu k = false → onK a cpu (k + 1) = -1) := fun k => onK_no
  have HON : Hid (onK a cpu a.P.length = onA a cpu) := rfl
  have HB : Hid (∀ k, onB a cpu k = ((a.pl k).taken && ((a.th k).state == 3 && (a.th k).cpu == cpu))) := fun _ => rfl
  have H0 : Hid (onK a cpu 0 = -1) := rfl
  rw [htl] at c10
  generalize a.P.length = n at *
  generalize onA a cpu = on at *
  generalize onK a cpu = f at *
  clear h hw htl
  go_enter Try.func28, Try.ntmps28
  go_wp2_with fail
  go_loopw [5] (fun iv wr => wr = w ∧ ∃ i : Nat, i ≤ n ∧ iv = .int .i64 i ∧ Hid (f i = -1)) (fun iv _ => n - (intOf iv).toNat)
  case atStart => exact ⟨rfl, 0, by omega, rfl, H0⟩
  case round =>
    obtain ⟨rfl, i, hi, rfl, HN⟩ := hrel
    by_cases hlt : i < n
    · have hin : (i : Int) < (n : Int) := by omega
      have hi0 : (0 : Int) ≤ (i : Int) := by omega
      have p1 := HPL.out i hlt
      obtain ⟨p2, p3⟩ := HTH.out i hlt
      have hb := HB.out i
      have HA := Lib.hid (HAT.out i HN.out)
      have HO := Lib.hid (HNO.out i HN.out)
      generalize onB a cpu i = ob at *
      generalize a.pl i = p at *
      generalize a.th i = x at *
      obtain ⟨t, gn⟩ := p
      obtain ⟨t1, t2, t3, t4, t5, t6, t7, t8, t9, t10⟩ := x
      simp only at p1 p2 p3 hb
      cases t with
      | false =>
        have HR := Lib.hid (HO.out (by rw [hb]; rfl))
        clear hb HA HO
        go_wp2_with fail
        go_roundw
        case rel => exact ⟨trivial, i + 1, by omega, by go_num, HR⟩
        case measure => simp [intOf]; omega
      | true =>
        by_cases g1 : t3 = 3
        · have f1 : (t3 == 3) = true := beq_iff_eq.2 g1
          by_cases g2 : t4 = cpu
          · have f2 : (t4 == cpu) = true := beq_iff_eq.2 g2
            have HR := Lib.hid (HA.out (by rw [hb, f1, f2]; rfl) hlt)
            clear hb HA HO g1 g2
            go_wp2_with fail
            go_ret
            exact ⟨by rw [HR.out]; rfl, rfl⟩
          · have f2 : (t4 == cpu) = false := beq_eq_false_iff_ne.2 g2
            have HR := Lib.hid (HO.out (by rw [hb, f1, f2]; rfl))
            clear hb HA HO g1 g2
            go_wp2_with fail
            go_roundw
            case rel => exact ⟨trivial, i + 1, by omega, by go_num, HR⟩
            case measure => simp [intOf]; omega
        · have f1 : (t3 == 3) = false := beq_eq_false_iff_ne.2 g1
          have HR := Lib.hid (HO.out (by rw [hb, f1]; rfl))
          clear hb HA HO g1
          go_wp2_with fail
          go_roundw
          case rel => exact ⟨trivial, i + 1, by omega, by go_num, HR⟩
          case measure => simp [intOf]; omega
    · obtain rfl : i = n := by omega
      have HR := Lib.hid (HON.out.symm.trans HN.out)
      go_wp2_with fail
      go_ret
      exact ⟨by rw [HR.out]; rfl, rfl⟩
set_option maxHeartbeats 3200000 in
theorem R35runs_any (h : RqAt w b d a) (hw : AWhole d a) (e : Ev) : Calls Try.prog 29 #[.pointer (some ⟨b.g, 0, none⟩), .agg (eC e.step e.cpu e.kind e.slot e.gen e.op e.code e.n)] w fun x w' => x = .returned (.bool (runsA a e)) ∧ Kept [] w w' := by
  obtain ⟨wb, hwb⟩ : ∃ wb, w.alloc (.cells (eC e.step e.cpu e.kind e.slot e.gen e.op e.code e.n) 55) = wb := ⟨_, rfl⟩
  have h0 : Kept [] w wb := by rw [← hwb]; exact (Kept.refl _ _).alloc _
  have HK0 := Lib.hid h0
  have HEV := Lib.hid (ev_boxR hwb)
  have HF : Hid (∀ W, Kept [] wb W → W.cell? ⟨b.g, 9, none⟩ = some (.pointer (some ⟨b.gr, 0, none⟩)) ∧ (W.cell? ⟨w.heap.size, 0, none⟩ = some (.int .i64 e.step) ∧ W.cell? ⟨w.heap.size, 1, none⟩ = some (.int .i64 e.cpu) ∧ W.cell? ⟨w.heap.size, 2, none⟩ = some (.int .i64 e.kind) ∧ W.cell? ⟨w.heap.size, 3, none⟩ = some (.int .i64 e.slot) ∧ W.cell? ⟨w.heap.size, 4, none⟩ = some (.int .u32 e.gen) ∧ W.cell? ⟨w.heap.size, 5, none⟩ = some (.int .i64 e.op) ∧ W.cell? ⟨w.heap.size, 6, none⟩ = some (.int .i64 e.code) ∧ W.cell? ⟨w.heap.size, 7, none⟩ = some (.int .u64 e.n) ∧ w.heap.size < W.heap.size)) := fun W hk => ⟨(RqAt.cells (RqAt.old h (h0.trans hk))).2.2.2.1, HEV.out W hk⟩
  have HHS : Hid (∀ W, Kept [] wb W → Calls Try.prog 27 #[.pointer (some ⟨b.gr, 0, none⟩), .agg #[.int .i64 e.slot, .int .u32 e.gen]] W fun x w' => x = .returned (.bool (hasA a e.slot e.gen)) ∧ Kept [] W w') := fun W hk => R20Has_any (RqAt.old h (h0.trans hk)) e.slot e.gen
  have HON : Hid (∀ W, Kept [] wb W → Calls Try.prog 28 #[.pointer (some ⟨b.g, 0, none⟩), .int .i64 e.cpu] W fun x w' => x = .returned (.int .i64 (onA a e.cpu)) ∧ Kept [] W w') := fun W hk => (R35on_any (RqAt.old h (h0.trans hk)) hw e.cpu).mono fun _ _ h => ⟨h.1, by rw [h.2]; exact Kept.refl _ _⟩
  unfold runsA
  generalize onA a e.cpu = on at *
  clear h hw h0
  cases hh : hasA a e.slot e.gen with
  | false =>
    rw [hh] at HHS
    clear hh
    have HKc := Lib.hid (Kept.refl [] wb)
    have hf := HF.out _ HKc.out
    go_enter Try.func29, Try.ntmps29
    (try (go_wp2_with fail))
    (try rw [hwb])
    clear hf
    (refine wp_region_phases (n := 18) (listed := #[false, false, false, false, false, false, false, false, false, false, false, false, false, false, false, false, false, false]) (by kernel_rfl) (by rfl) (by rfl) ?_)
    (refine wpAny_phase (fun W => Kept [] wb W) [(0, false), (1, false), (2, false), (3, false), (4, false), (5, false), (6, false), (7, false), (8, false), (9, false), (10, false), (11, false), (12, false), (13, false), (14, false), (15, false), (16, false), (17, false)] (f := 0) (listed := #[false, false, false, false, false, false, false, false, false, false, false, false, false, false, false, false, false, false]) (listed' := #[true, true, true, true, true, true, true, true, true, true, true, true, true, true, true, true, true, true]) (by kernel_rfl) (by kernel_rfl) (by rfl) (HKc.out).drew (fun d _ _ _ _ h => by cases d <;> exact h) ?_)
    iterate 6 (refine wpQL_take (v := ?_) rfl (by rfl) ?_ ?_; rotate_left; (focus ((intro W hC; have hF := HF.out W hC; go_simp); try (with_reducible rfl))); (try dsimp only [Act.put]); (try simp only [List.setIfInBounds_toArray, List.set_cons_zero, List.set_cons_succ]))
    (refine wpQL_call nth_6 (by rfl) ?_ (fun W hC => quiet_call hC (HHS.out W hC)) ?_; (focus (intro W hC; go_simp; try (with_reducible rfl))); (try dsimp only [Act.put]); (try simp only [List.setIfInBounds_toArray, List.set_cons_zero, List.set_cons_succ]))
    iterate 4 (first | (refine wpQL_take (v := ?_) rfl ?_ ?_ ?_; rotate_left; (focus (first | rfl | (go_simp; done))); (focus ((intro W hC; have hF := HF.out W hC; go_simp); try (with_reducible rfl))); (try dsimp only [Act.put]); (try simp only [List.setIfInBounds_toArray, List.set_cons_zero, List.set_cons_succ])) | (refine wpQL_not rfl ?_ ?_; (focus (go_simp; done)); (try dsimp only [Act.put]); (try simp only [List.setIfInBounds_toArray, List.set_cons_zero, List.set_cons_succ])))
    (first | (refine wpQL_call nth_11 ?_ ?_ (fun W hC => quiet_call hC (HON.out W hC)) ?_; (focus (go_simp; done)); (focus (intro W hC; go_simp; try (with_reducible rfl))); (try dsimp only [Act.put]); (try simp only [List.setIfInBounds_toArray, List.set_cons_zero, List.set_cons_succ])) | (refine wpQL_not nth_11 ?_ ?_; (focus (go_simp; done)); (try dsimp only [Act.put]); (try simp only [List.setIfInBounds_toArray, List.set_cons_zero, List.set_cons_succ])))
    iterate 6 (first | (refine wpQL_take (v := ?_) rfl ?_ ?_ ?_; rotate_left; (focus (first | rfl | (go_simp; done))); (focus ((intro W hC; have hF := HF.out W hC; go_simp); try (with_reducible rfl))); (try dsimp only [Act.put]); (try simp only [List.setIfInBounds_toArray, List.set_cons_zero, List.set_cons_succ])) | (refine wpQL_not rfl ?_ ?_; (focus (go_simp; done)); (try dsimp only [Act.put]); (try simp only [List.setIfInBounds_toArray, List.set_cons_zero, List.set_cons_succ])))
    (refine wpQL_nil ?_)
    (intro wq hq)
    (refine wpAny_done (by kernel_rfl) ?_ _)
    clear HKc
    have HKc := Lib.hid hq
    clear hq
    have hf := HF.out _ HKc.out
    (try (go_wp2_with fail))
    go_ret
    exact ⟨rfl, HK0.out.trans HKc.out⟩
  | true =>
    rw [hh] at HHS
    clear hh
    have HKc := Lib.hid (Kept.refl [] wb)
    have hf := HF.out _ HKc.out
    go_enter Try.func29, Try.ntmps29
    (try (go_wp2_with fail))
    (try rw [hwb])
    clear hf
    (refine wp_region_phases (n := 18) (listed := #[false, false, false, false, false, false, false, false, false, false, false, false, false, false, false, false, false, false]) (by kernel_rfl) (by rfl) (by rfl) ?_)
    (refine wpAny_phase (fun W => Kept [] wb W) [(0, false), (1, false), (2, false), (3, false), (4, false), (5, false), (6, false), (7, false), (8, false), (9, false), (10, false), (11, false), (12, false), (13, false), (14, false), (15, false), (16, false), (17, false)] (f := 0) (listed := #[false, false, false, false, false, false, false, false, false, false, false, false, false, false, false, false, false, false]) (listed' := #[true, true, true, true, true, true, true, true, true, true, true, true, true, true, true, true, true, true]) (by kernel_rfl) (by kernel_rfl) (by rfl) (HKc.out).drew (fun d _ _ _ _ h => by cases d <;> exact h) ?_)
    iterate 6 (refine wpQL_take (v := ?_) rfl (by rfl) ?_ ?_; rotate_left; (focus ((intro W hC; have hF := HF.out W hC; go_simp); try (with_reducible rfl))); (try dsimp only [Act.put]); (try simp only [List.setIfInBounds_toArray, List.set_cons_zero, List.set_cons_succ]))
    (refine wpQL_call nth_6 (by rfl) ?_ (fun W hC => quiet_call hC (HHS.out W hC)) ?_; (focus (intro W hC; go_simp; try (with_reducible rfl))); (try dsimp only [Act.put]); (try simp only [List.setIfInBounds_toArray, List.set_cons_zero, List.set_cons_succ]))
    iterate 4 (first | (refine wpQL_take (v := ?_) rfl ?_ ?_ ?_; rotate_left; (focus (first | rfl | (go_simp; done))); (focus ((intro W hC; have hF := HF.out W hC; go_simp); try (with_reducible rfl))); (try dsimp only [Act.put]); (try simp only [List.setIfInBounds_toArray, List.set_cons_zero, List.set_cons_succ])) | (refine wpQL_not rfl ?_ ?_; (focus (go_simp; done)); (try dsimp only [Act.put]); (try simp only [List.setIfInBounds_toArray, List.set_cons_zero, List.set_cons_succ])))
    (first | (refine wpQL_call nth_11 ?_ ?_ (fun W hC => quiet_call hC (HON.out W hC)) ?_; (focus (go_simp; done)); (focus (intro W hC; go_simp; try (with_reducible rfl))); (try dsimp only [Act.put]); (try simp only [List.setIfInBounds_toArray, List.set_cons_zero, List.set_cons_succ])) | (refine wpQL_not nth_11 ?_ ?_; (focus (go_simp; done)); (try dsimp only [Act.put]); (try simp only [List.setIfInBounds_toArray, List.set_cons_zero, List.set_cons_succ])))
    iterate 6 (first | (refine wpQL_take (v := ?_) rfl ?_ ?_ ?_; rotate_left; (focus (first | rfl | (go_simp; done))); (focus ((intro W hC; have hF := HF.out W hC; go_simp); try (with_reducible rfl))); (try dsimp only [Act.put]); (try simp only [List.setIfInBounds_toArray, List.set_cons_zero, List.set_cons_succ])) | (refine wpQL_not rfl ?_ ?_; (focus (go_simp; done)); (try dsimp only [Act.put]); (try simp only [List.setIfInBounds_toArray, List.set_cons_zero, List.set_cons_succ])))
    (refine wpQL_nil ?_)
    (intro wq hq)
    (refine wpAny_done (by kernel_rfl) ?_ _)
    clear HKc
    have HKc := Lib.hid hq
    clear hq
    have hf := HF.out _ HKc.out
    (try (go_wp2_with fail))
    go_ret
    exact ⟨rfl, HK0.out.trans HKc.out⟩
/-- What a deed's box holds. -/
theorem dd_boxR {w wb : World} {x : Dd} (hwb : w.alloc (.cells (ddR x) 47) = wb) : ∀ W, Kept [] wb W → (W.cell? ⟨w.heap.size, 0, none⟩ = some (.int .i64 x.op) ∧ W.cell? ⟨w.heap.size, 1, none⟩ = some (.int .i64 x.a) ∧ W.cell? ⟨w.heap.size, 2, none⟩ = some (.int .i64 x.b) ∧ W.cell? ⟨w.heap.size, 3, none⟩ = some (.int .i64 x.r) ∧ W.cell? ⟨w.heap.size, 4, none⟩ = some (.int .u64 x.n) ∧ W.cell? ⟨w.heap.size, 5, none⟩ = some (.int .u64 x.mask) ∧ W.cell? ⟨w.heap.size, 6, none⟩ = some (.bool x.loose) ∧ w.heap.size < W.heap.size) := fun W hk => by
  subst hwb
  have h := (Blk.new w 47 (ddR x)).kept hk (by simp)
  exact ⟨h.cell 0, h.cell 1, h.cell 2, h.cell 3, h.cell 4, h.cell 5, h.cell 6, h.lt⟩
set_option maxHeartbeats 3200000 in
theorem R35there_any (h : RqAt w b d a) (hw : AWhole d a) {t : Nat} (ht : t < a.T.length) (x : Dd) {r : Nat} (hr : x.r = r) (hr8 : r < 8) :
    Calls Try.prog 44 #[.pointer (some ⟨b.g, 0, none⟩), .int .i64 t, .agg (ddR x)] w fun y w' => y = .returned (.tuple #[.bool (hasA a ((a.th t).regs.getD r (0, 0)).1 ((a.th t).regs.getD r (0, 0)).2), .bool (hasA a ((a.th t).regs.getD r (0, 0)).1 ((a.th t).regs.getD r (0, 0)).2 && decide ((a.th ((a.th t).regs.getD r (0, 0)).1.toNat).state = 5))]) ∧ Kept [] w w' := by
  obtain ⟨wb, hwb⟩ : ∃ wb, w.alloc (.cells (ddR x) 47) = wb := ⟨_, rfl⟩
  have h0 : Kept [] w wb := by rw [← hwb]; exact (Kept.refl _ _).alloc _
  have HK0 := Lib.hid h0
  have HF : Hid (∀ W, Kept [] wb W → (W.cell? ⟨b.g, 9, none⟩ = some (.pointer (some ⟨b.gr, 0, none⟩)) ∧ W.cell? ⟨b.g, 10, none⟩ = some (.slice (some ⟨b.gT, 0, none⟩) a.T.length a.T.length)) ∧ W.cell? ⟨w.heap.size, 3, none⟩ = some (.int .i64 r) ∧ W.cell? ⟨b.gT, t * 31 + 7 + r * 2, none⟩ = some (.int .i64 ((a.th t).regs.getD r (0, 0)).1) ∧ W.cell? ⟨b.gT, t * 31 + 7 + r * 2 + 1, none⟩ = some (.int .u32 ((a.th t).regs.getD r (0, 0)).2) ∧ b.gT < W.heap.size ∧ w.heap.size < W.heap.size) := fun W hk => by
    have h1 := RqAt.old h (h0.trans hk)
    have h2 := dd_boxR hwb W hk
    have h3 := RqAt.cells h1
    rw [← hr]
    exact ⟨⟨h3.2.2.2.1, h3.2.2.2.2.1⟩, h2.2.2.2.1, (RqAt.rf h1 ht hr8).1, (RqAt.rf h1 ht hr8).2, (RqAt.tf h1 ht).2.2, h2.2.2.2.2.2.2.2⟩
  generalize (a.th t).regs.getD r (0, 0) = y at *
  obtain ⟨s, gn⟩ := y
  simp only at HF ⊢
  have hr0 : (0 : Int) ≤ (r : Int) := by omega
  have hr1 : (r : Int) < 8 := by omega
  have ht0 : (0 : Int) ≤ (t : Int) := by omega
  have ht1 : (t : Int) < (a.T.length : Int) := by omega
  have hk5 : Kept [] wb (wb.alloc (.cells #[.int .i64 s, .int .u32 gn] 53)).drew := ((Kept.refl _ _).alloc _).drew
  have hb5 : Blk (wb.alloc (.cells #[.int .i64 s, .int .u32 gn] 53)).drew wb.heap.size 53 #[.int .i64 s, .int .u32 gn] := (Blk.new wb 53 _).drew
  obtain ⟨w5, hw5⟩ : ∃ w5, (wb.alloc (.cells #[.int .i64 s, .int .u32 gn] 53)).drew = w5 := ⟨_, rfl⟩
  rw [hw5] at hk5 hb5
  have HK5 := Lib.hid hk5
  have HF5 : Hid (∀ W, Kept [] w5 W → (W.cell? ⟨b.g, 9, none⟩ = some (.pointer (some ⟨b.gr, 0, none⟩)) ∧ W.cell? ⟨b.g, 10, none⟩ = some (.slice (some ⟨b.gT, 0, none⟩) a.T.length a.T.length)) ∧ W.cell? ⟨wb.heap.size, 0, none⟩ = some (.int .i64 s) ∧ W.cell? ⟨wb.heap.size, 1, none⟩ = some (.int .u32 gn) ∧ wb.heap.size < W.heap.size) := fun W hk => by
    have h1 := hb5.kept hk (by simp)
    have h3 := RqAt.cells (RqAt.old h ((h0.trans hk5).trans hk))
    exact ⟨⟨h3.2.2.2.1, h3.2.2.2.2.1⟩, h1.cell 0, h1.cell 1, h1.lt⟩
  have HHS : Hid (∀ W, Kept [] w5 W → Calls Try.prog 27 #[.pointer (some ⟨b.gr, 0, none⟩), .agg #[.int .i64 s, .int .u32 gn]] W fun x w' => x = .returned (.bool (hasA a s gn)) ∧ Kept [] W w') := fun W hk => R20Has_any (RqAt.old h ((h0.trans hk5).trans hk)) s gn
  cases hh : hasA a s gn with
  | false =>
    rw [hh] at HHS
    clear h hw ht hr hr8 h0 hk5 hb5 hh
    go_enter Try.func44, Try.ntmps44
    go_wp2_with fail
    try rw [hwb]
    (refine wp_region_held_drew (S := fun W => Kept [] wb W) (by kernel_rfl) (Kept.refl _ _).drew (fun hHeld => ?_))
    (refine held_take (i := 0) (v := ?_) (listed := #[false, false, false, false, false, false, false, false, false, false, false, false, false]) nth_0 (by kernel_rfl) (by kernel_rfl) (by kernel_rfl) (fun _ _ _ h => h) (Or.inl ⟨by rfl, ?_⟩) (by assumption) ?_; rotate_left; (focus ((intro W hC; go_simp); try (with_reducible rfl))); (try dsimp only [Act.put]); (try simp only [List.setIfInBounds_toArray, List.set_cons_zero, List.set_cons_succ]))
    (refine held_take (i := 1) (v := ?_) (listed := #[true, false, false, false, false, false, false, false, false, false, false, false, false]) nth_1 (by kernel_rfl) (by kernel_rfl) (by kernel_rfl) (fun _ _ _ h => h) (Or.inl ⟨by rfl, ?_⟩) (by assumption) ?_; rotate_left; (focus ((intro W hC; go_simp); try (with_reducible rfl))); (try dsimp only [Act.put]); (try simp only [List.setIfInBounds_toArray, List.set_cons_zero, List.set_cons_succ]))
    (refine held_take (i := 2) (v := ?_) (listed := #[true, true, false, false, false, false, false, false, false, false, false, false, false]) nth_2 (by kernel_rfl) (by kernel_rfl) (by kernel_rfl) (fun _ _ _ h => h) (Or.inl ⟨by rfl, ?_⟩) (by assumption) ?_; rotate_left; (focus ((intro W hC; go_simp); try (with_reducible rfl))); (try dsimp only [Act.put]); (try simp only [List.setIfInBounds_toArray, List.set_cons_zero, List.set_cons_succ]))
    (refine held_take (i := 3) (v := ?_) (listed := #[true, true, true, false, false, false, false, false, false, false, false, false, false]) nth_3 (by kernel_rfl) (by kernel_rfl) (by kernel_rfl) (fun _ _ _ h => h) (Or.inl ⟨by rfl, ?_⟩) (by assumption) ?_; rotate_left; (focus ((intro W hC; have hF := HF.out W hC; go_simp); try (with_reducible rfl))); (try dsimp only [Act.put]); (try simp only [List.setIfInBounds_toArray, List.set_cons_zero, List.set_cons_succ]))
    (refine held_take (i := 4) (v := ?_) (listed := #[true, true, true, true, false, false, false, false, false, false, false, false, false]) nth_4 (by kernel_rfl) (by kernel_rfl) (by kernel_rfl) (fun _ _ _ h => h) (Or.inl ⟨by rfl, ?_⟩) (by assumption) ?_; rotate_left; (focus ((intro W hC; go_simp); try (with_reducible rfl))); (try dsimp only [Act.put]); (try simp only [List.setIfInBounds_toArray, List.set_cons_zero, List.set_cons_succ]))
    (refine held_take (i := 5) (v := ?_) (listed := #[true, true, true, true, true, false, false, false, false, false, false, false, false]) nth_5 (by kernel_rfl) (by kernel_rfl) (by kernel_rfl) (fun _ _ _ h => h) (Or.inl ⟨by rfl, ?_⟩) (by assumption) ?_; rotate_left; (focus ((intro W hC; go_simp); try (with_reducible rfl))); (try dsimp only [Act.put]); (try simp only [List.setIfInBounds_toArray, List.set_cons_zero, List.set_cons_succ]))
    (refine held_take (i := 6) (v := ?_) (listed := #[true, true, true, true, true, true, false, false, false, false, false, false, false]) nth_6 (by kernel_rfl) (by kernel_rfl) (by kernel_rfl) (fun _ _ _ h => h) (Or.inl ⟨by rfl, ?_⟩) (by assumption) ?_; rotate_left; (focus ((intro W hC; have hF := HF.out W hC; go_simp); try (with_reducible rfl))); (try dsimp only [Act.put]); (try simp only [List.setIfInBounds_toArray, List.set_cons_zero, List.set_cons_succ]))
    (refine held_take (i := 7) (v := ?_) (listed := #[true, true, true, true, true, true, true, false, false, false, false, false, false]) nth_7 (by kernel_rfl) (by kernel_rfl) (by kernel_rfl) (fun _ _ _ h => h) (Or.inl ⟨by rfl, ?_⟩) (by assumption) ?_; rotate_left; (focus ((intro W hC; go_simp); try (with_reducible rfl))); (try dsimp only [Act.put]); (try simp only [List.setIfInBounds_toArray, List.set_cons_zero, List.set_cons_succ]))
    (refine held_take (i := 8) (v := ?_) (listed := #[true, true, true, true, true, true, true, true, false, false, false, false, false]) nth_8 (by kernel_rfl) (by kernel_rfl) (by kernel_rfl) (fun _ _ _ h => h) (Or.inl ⟨by rfl, ?_⟩) (by assumption) ?_; rotate_left; (focus ((intro W hC; go_simp); try (with_reducible rfl))); (try dsimp only [Act.put]); (try simp only [List.setIfInBounds_toArray, List.set_cons_zero, List.set_cons_succ]))
    (refine held_take (i := 9) (v := ?_) (listed := #[true, true, true, true, true, true, true, true, true, false, false, false, false]) nth_9 (by kernel_rfl) (by kernel_rfl) (by kernel_rfl) (fun _ _ _ h => h) (Or.inl ⟨by rfl, ?_⟩) (by assumption) ?_; rotate_left; (focus ((intro W hC; go_simp); try (with_reducible rfl))); (try dsimp only [Act.put]); (try simp only [List.setIfInBounds_toArray, List.set_cons_zero, List.set_cons_succ]))
    (refine held_take (i := 10) (v := ?_) (listed := #[true, true, true, true, true, true, true, true, true, true, false, false, false]) nth_10 (by kernel_rfl) (by kernel_rfl) (by kernel_rfl) (fun _ _ _ h => h) (Or.inl ⟨by rfl, ?_⟩) (by assumption) ?_; rotate_left; (focus ((intro W hC; have hF := HF.out W hC; go_simp); try (with_reducible rfl))); (try dsimp only [Act.put]); (try simp only [List.setIfInBounds_toArray, List.set_cons_zero, List.set_cons_succ]))
    (refine wpAnyH_ready (rs := [11]) (by kernel_rfl) (by simp) ?_; refine held_cons nth_11 (fun K hK => ?_) AllReadyH.nil)
    go_simp
    (refine hK.out _ _ ((by exact hHeld.alloc _)) (fun hHeld => ?_); clear hK K)
    (try dsimp only [Act.put]); (try simp only [List.setIfInBounds_toArray, List.set_cons_zero, List.set_cons_succ])
    (refine wpAnyH_ready (rs := [12]) (by kernel_rfl) (by simp) ?_; refine held_cons nth_12 (fun K hK => ?_) AllReadyH.nil)
    go_simp
    (refine hK.out _ _ ((by exact HK5.out)) (fun hHeld => ?_); clear hK K)
    (try dsimp only [Act.put]); (try simp only [List.setIfInBounds_toArray, List.set_cons_zero, List.set_cons_succ])
    (refine wpAnyH_done (by kernel_rfl) ?_ _)
    try rw [hw5]
    go_wp2_with fail
    try rw [hw5]
    (refine wp_region_phases (n := 7) (listed := #[false, false, false, false, false, false, false]) (by kernel_rfl) (by rfl) (by rfl) ?_)
    (refine wpAny_phase (fun W => Kept [] w5 W) [(0, false), (1, false), (2, false), (3, false), (4, false), (5, false), (6, false)] (f := 0) (listed := #[false, false, false, false, false, false, false]) (listed' := #[true, true, true, true, true, true, true]) (by kernel_rfl) (by kernel_rfl) (by rfl) (Kept.refl [] _).drew (fun d _ _ _ _ h => by cases d <;> exact h) ?_)
    iterate 5 (refine wpQL_take (v := ?_) rfl (by rfl) ?_ ?_; rotate_left; (focus ((intro W hC; have hF := HF5.out W hC; go_simp); try (with_reducible rfl))); (try dsimp only [Act.put]); (try simp only [List.setIfInBounds_toArray, List.set_cons_zero, List.set_cons_succ]))
    (refine wpQL_call nth_5 (by rfl) ?_ (fun W hC => quiet_call hC (HHS.out W hC)) ?_; (focus (intro W hC; go_simp; try (with_reducible rfl))); (try dsimp only [Act.put]); (try simp only [List.setIfInBounds_toArray, List.set_cons_zero, List.set_cons_succ]))
    (refine wpQL_take (v := ?_) nth_6 (by rfl) ?_ ?_; rotate_left; (focus ((intro W hC; go_simp); try (with_reducible rfl))); (try dsimp only [Act.put]); (try simp only [List.setIfInBounds_toArray, List.set_cons_zero, List.set_cons_succ]))
    (refine wpQL_nil ?_)
    (intro wq hq)
    (refine wpAny_done (by kernel_rfl) ?_ _)
    go_wp2_with fail
    go_ret2
    exact ⟨rfl, (HK0.out.trans HK5.out).trans hq⟩
  | true =>
    obtain ⟨p0, p1, _⟩ := hasA_lt hh
    have hs : s.toNat < a.T.length := by rw [hw.tl]; exact p1
    obtain ⟨u, rfl⟩ : ∃ u : Nat, s = u := ⟨s.toNat, by omega⟩
    rw [Int.toNat_natCast] at hs ⊢
    have HF6 : Hid (∀ W, Kept [] w5 W → (W.cell? ⟨b.g, 9, none⟩ = some (.pointer (some ⟨b.gr, 0, none⟩)) ∧ W.cell? ⟨b.g, 10, none⟩ = some (.slice (some ⟨b.gT, 0, none⟩) a.T.length a.T.length)) ∧ W.cell? ⟨wb.heap.size, 0, none⟩ = some (.int .i64 u) ∧ W.cell? ⟨wb.heap.size, 1, none⟩ = some (.int .u32 gn) ∧ wb.heap.size < W.heap.size ∧ W.cell? ⟨b.gT, u * 31 + 2, none⟩ = some (.int .i64 (a.th u).state)) := fun W hk => by
      have h1 := HF5.out W hk
      exact ⟨h1.1, h1.2.1, h1.2.2.1, h1.2.2.2, (RqAt.tf (RqAt.old h ((h0.trans hk5).trans hk)) hs).1.2.2.1⟩
    rw [hh] at HHS
    have hu0 : (0 : Int) ≤ (u : Int) := by omega
    have hu1 : (u : Int) < (a.T.length : Int) := by omega
    have hd : (true && decide ((a.th u).state = 5)) = ((a.th u).state == 5) := by rw [Bool.eq_iff_iff]; simp
    rw [hd]
    generalize (a.th u).state = z at *
    clear h hw ht hr hr8 h0 hk5 hb5 hh HF5 p0 p1 hs hd
    go_enter Try.func44, Try.ntmps44
    go_wp2_with fail
    try rw [hwb]
    (refine wp_region_held_drew (S := fun W => Kept [] wb W) (by kernel_rfl) (Kept.refl _ _).drew (fun hHeld => ?_))
    (refine held_take (i := 0) (v := ?_) (listed := #[false, false, false, false, false, false, false, false, false, false, false, false, false]) nth_0 (by kernel_rfl) (by kernel_rfl) (by kernel_rfl) (fun _ _ _ h => h) (Or.inl ⟨by rfl, ?_⟩) (by assumption) ?_; rotate_left; (focus ((intro W hC; go_simp); try (with_reducible rfl))); (try dsimp only [Act.put]); (try simp only [List.setIfInBounds_toArray, List.set_cons_zero, List.set_cons_succ]))
    (refine held_take (i := 1) (v := ?_) (listed := #[true, false, false, false, false, false, false, false, false, false, false, false, false]) nth_1 (by kernel_rfl) (by kernel_rfl) (by kernel_rfl) (fun _ _ _ h => h) (Or.inl ⟨by rfl, ?_⟩) (by assumption) ?_; rotate_left; (focus ((intro W hC; go_simp); try (with_reducible rfl))); (try dsimp only [Act.put]); (try simp only [List.setIfInBounds_toArray, List.set_cons_zero, List.set_cons_succ]))
    (refine held_take (i := 2) (v := ?_) (listed := #[true, true, false, false, false, false, false, false, false, false, false, false, false]) nth_2 (by kernel_rfl) (by kernel_rfl) (by kernel_rfl) (fun _ _ _ h => h) (Or.inl ⟨by rfl, ?_⟩) (by assumption) ?_; rotate_left; (focus ((intro W hC; go_simp); try (with_reducible rfl))); (try dsimp only [Act.put]); (try simp only [List.setIfInBounds_toArray, List.set_cons_zero, List.set_cons_succ]))
    (refine held_take (i := 3) (v := ?_) (listed := #[true, true, true, false, false, false, false, false, false, false, false, false, false]) nth_3 (by kernel_rfl) (by kernel_rfl) (by kernel_rfl) (fun _ _ _ h => h) (Or.inl ⟨by rfl, ?_⟩) (by assumption) ?_; rotate_left; (focus ((intro W hC; have hF := HF.out W hC; go_simp); try (with_reducible rfl))); (try dsimp only [Act.put]); (try simp only [List.setIfInBounds_toArray, List.set_cons_zero, List.set_cons_succ]))
    (refine held_take (i := 4) (v := ?_) (listed := #[true, true, true, true, false, false, false, false, false, false, false, false, false]) nth_4 (by kernel_rfl) (by kernel_rfl) (by kernel_rfl) (fun _ _ _ h => h) (Or.inl ⟨by rfl, ?_⟩) (by assumption) ?_; rotate_left; (focus ((intro W hC; go_simp); try (with_reducible rfl))); (try dsimp only [Act.put]); (try simp only [List.setIfInBounds_toArray, List.set_cons_zero, List.set_cons_succ]))
    (refine held_take (i := 5) (v := ?_) (listed := #[true, true, true, true, true, false, false, false, false, false, false, false, false]) nth_5 (by kernel_rfl) (by kernel_rfl) (by kernel_rfl) (fun _ _ _ h => h) (Or.inl ⟨by rfl, ?_⟩) (by assumption) ?_; rotate_left; (focus ((intro W hC; go_simp); try (with_reducible rfl))); (try dsimp only [Act.put]); (try simp only [List.setIfInBounds_toArray, List.set_cons_zero, List.set_cons_succ]))
    (refine held_take (i := 6) (v := ?_) (listed := #[true, true, true, true, true, true, false, false, false, false, false, false, false]) nth_6 (by kernel_rfl) (by kernel_rfl) (by kernel_rfl) (fun _ _ _ h => h) (Or.inl ⟨by rfl, ?_⟩) (by assumption) ?_; rotate_left; (focus ((intro W hC; have hF := HF.out W hC; go_simp); try (with_reducible rfl))); (try dsimp only [Act.put]); (try simp only [List.setIfInBounds_toArray, List.set_cons_zero, List.set_cons_succ]))
    (refine held_take (i := 7) (v := ?_) (listed := #[true, true, true, true, true, true, true, false, false, false, false, false, false]) nth_7 (by kernel_rfl) (by kernel_rfl) (by kernel_rfl) (fun _ _ _ h => h) (Or.inl ⟨by rfl, ?_⟩) (by assumption) ?_; rotate_left; (focus ((intro W hC; go_simp); try (with_reducible rfl))); (try dsimp only [Act.put]); (try simp only [List.setIfInBounds_toArray, List.set_cons_zero, List.set_cons_succ]))
    (refine held_take (i := 8) (v := ?_) (listed := #[true, true, true, true, true, true, true, true, false, false, false, false, false]) nth_8 (by kernel_rfl) (by kernel_rfl) (by kernel_rfl) (fun _ _ _ h => h) (Or.inl ⟨by rfl, ?_⟩) (by assumption) ?_; rotate_left; (focus ((intro W hC; go_simp); try (with_reducible rfl))); (try dsimp only [Act.put]); (try simp only [List.setIfInBounds_toArray, List.set_cons_zero, List.set_cons_succ]))
    (refine held_take (i := 9) (v := ?_) (listed := #[true, true, true, true, true, true, true, true, true, false, false, false, false]) nth_9 (by kernel_rfl) (by kernel_rfl) (by kernel_rfl) (fun _ _ _ h => h) (Or.inl ⟨by rfl, ?_⟩) (by assumption) ?_; rotate_left; (focus ((intro W hC; go_simp); try (with_reducible rfl))); (try dsimp only [Act.put]); (try simp only [List.setIfInBounds_toArray, List.set_cons_zero, List.set_cons_succ]))
    (refine held_take (i := 10) (v := ?_) (listed := #[true, true, true, true, true, true, true, true, true, true, false, false, false]) nth_10 (by kernel_rfl) (by kernel_rfl) (by kernel_rfl) (fun _ _ _ h => h) (Or.inl ⟨by rfl, ?_⟩) (by assumption) ?_; rotate_left; (focus ((intro W hC; have hF := HF.out W hC; go_simp); try (with_reducible rfl))); (try dsimp only [Act.put]); (try simp only [List.setIfInBounds_toArray, List.set_cons_zero, List.set_cons_succ]))
    (refine wpAnyH_ready (rs := [11]) (by kernel_rfl) (by simp) ?_; refine held_cons nth_11 (fun K hK => ?_) AllReadyH.nil)
    go_simp
    (refine hK.out _ _ ((by exact hHeld.alloc _)) (fun hHeld => ?_); clear hK K)
    (try dsimp only [Act.put]); (try simp only [List.setIfInBounds_toArray, List.set_cons_zero, List.set_cons_succ])
    (refine wpAnyH_ready (rs := [12]) (by kernel_rfl) (by simp) ?_; refine held_cons nth_12 (fun K hK => ?_) AllReadyH.nil)
    go_simp
    (refine hK.out _ _ ((by exact HK5.out)) (fun hHeld => ?_); clear hK K)
    (try dsimp only [Act.put]); (try simp only [List.setIfInBounds_toArray, List.set_cons_zero, List.set_cons_succ])
    (refine wpAnyH_done (by kernel_rfl) ?_ _)
    try rw [hw5]
    go_wp2_with fail
    try rw [hw5]
    (refine wp_region_phases (n := 7) (listed := #[false, false, false, false, false, false, false]) (by kernel_rfl) (by rfl) (by rfl) ?_)
    (refine wpAny_phase (fun W => Kept [] w5 W) [(0, false), (1, false), (2, false), (3, false), (4, false), (5, false), (6, false)] (f := 0) (listed := #[false, false, false, false, false, false, false]) (listed' := #[true, true, true, true, true, true, true]) (by kernel_rfl) (by kernel_rfl) (by rfl) (Kept.refl [] _).drew (fun d _ _ _ _ h => by cases d <;> exact h) ?_)
    iterate 5 (refine wpQL_take (v := ?_) rfl (by rfl) ?_ ?_; rotate_left; (focus ((intro W hC; have hF := HF6.out W hC; go_simp); try (with_reducible rfl))); (try dsimp only [Act.put]); (try simp only [List.setIfInBounds_toArray, List.set_cons_zero, List.set_cons_succ]))
    (refine wpQL_call nth_5 (by rfl) ?_ (fun W hC => quiet_call hC (HHS.out W hC)) ?_; (focus (intro W hC; go_simp; try (with_reducible rfl))); (try dsimp only [Act.put]); (try simp only [List.setIfInBounds_toArray, List.set_cons_zero, List.set_cons_succ]))
    (refine wpQL_take (v := ?_) nth_6 (by rfl) ?_ ?_; rotate_left; (focus ((intro W hC; go_simp); try (with_reducible rfl))); (try dsimp only [Act.put]); (try simp only [List.setIfInBounds_toArray, List.set_cons_zero, List.set_cons_succ]))
    (refine wpQL_nil ?_)
    (intro wq hq)
    (refine wpAny_done (by kernel_rfl) ?_ _)
    go_wp2_with fail
    (refine wp_region_phases (n := 12) (listed := #[false, false, false, false, false, false, false, false, false, false, false, false]) (by kernel_rfl) (by rfl) (by rfl) ?_)
    (refine wpAny_phase (fun W => Kept [] w5 W) [(0, false), (1, false), (2, false), (3, false), (4, false), (5, false), (6, false), (7, false), (8, false), (9, false), (10, false), (11, false)] (f := 0) (listed := #[false, false, false, false, false, false, false, false, false, false, false, false]) (listed' := #[true, true, true, true, true, true, true, true, true, true, true, true]) (by kernel_rfl) (by kernel_rfl) (by rfl) (hq).drew (fun d _ _ _ _ h => by cases d <;> exact h) ?_)
    iterate 12 (refine wpQL_take (v := ?_) rfl (by rfl) ?_ ?_; rotate_left; (focus ((intro W hC; have hF := HF6.out W hC; go_simp); try (with_reducible rfl))); (try dsimp only [Act.put]); (try simp only [List.setIfInBounds_toArray, List.set_cons_zero, List.set_cons_succ]))
    (refine wpQL_nil ?_)
    (intro wq hq)
    (refine wpAny_done (by kernel_rfl) ?_ _)
    go_wp2_with fail
    go_ret2
    exact ⟨rfl, (HK0.out.trans HK5.out).trans hq⟩
end

end Go.Proofs.Ytccodklfplfleaa
