/- Package replay: idle, tick, readies, preempt, dispatch, walked. -/
import Derived.Test.YtccodklfplfleaaRpF
namespace Go.Proofs.Ytccodklfplfleaa
open Go.RowKit

theorem onK_ge (a : Acc) (cpu : Int) : ∀ k, onK a cpu k = -1 ∨ 0 ≤ onK a cpu k
  | 0 => .inl rfl
  | k + 1 => by
    rw [onK]
    rcases onK_ge a cpu k with h | h
    · rw [h]
      split
      · exact .inl rfl
      · split
        · exact .inr (by omega)
        · exact .inl rfl
    · rw [if_pos (by omega)]; exact .inr h
theorem onA_ge (a : Acc) (cpu : Int) : onA a cpu = -1 ∨ 0 ≤ onA a cpu := onK_ge a cpu _
theorem onA_eq (a : Acc) (cpu : Int) : (onA a cpu == -1) = decide (onA a cpu < 0) := by
  rcases onA_ge a cpu with h | h
  · rw [h]; rfl
  · rw [decide_eq_false (by omega), beq_eq_false_iff_ne]; omega
/-- What an event's box holds, in whatever world behind. -/
theorem ev_box {w wb : World} {e : Ev} (hwb : w.alloc (.cells (eC e.step e.cpu e.kind e.slot e.gen e.op e.code e.n) 55) = wb) : ∀ W, Kept [] wb W → (W.cell? ⟨w.heap.size, 0, none⟩ = some (.int .i64 e.step) ∧ W.cell? ⟨w.heap.size, 1, none⟩ = some (.int .i64 e.cpu) ∧ W.cell? ⟨w.heap.size, 2, none⟩ = some (.int .i64 e.kind) ∧ W.cell? ⟨w.heap.size, 3, none⟩ = some (.int .i64 e.slot) ∧ W.cell? ⟨w.heap.size, 4, none⟩ = some (.int .u32 e.gen) ∧ W.cell? ⟨w.heap.size, 5, none⟩ = some (.int .i64 e.op) ∧ W.cell? ⟨w.heap.size, 6, none⟩ = some (.int .i64 e.code) ∧ W.cell? ⟨w.heap.size, 7, none⟩ = some (.int .u64 e.n) ∧ w.heap.size < W.heap.size) := fun W hk => by
  subst hwb
  have h := (Blk.new w 55 (eC e.step e.cpu e.kind e.slot e.gen e.op e.code e.n)).kept hk (by simp)
  exact ⟨h.cell 0, h.cell 1, h.cell 2, h.cell 3, h.cell 4, h.cell 5, h.cell 6, h.cell 7, h.lt⟩
theorem ev_boxG {w wb : World} {e : Ev} {G : List Nat} (hwb : w.alloc (.cells (eC e.step e.cpu e.kind e.slot e.gen e.op e.code e.n) 55) = wb) (hG : ∀ k, k ∈ G → k < w.heap.size) : ∀ W, Kept G wb W → (W.cell? ⟨w.heap.size, 0, none⟩ = some (.int .i64 e.step) ∧ W.cell? ⟨w.heap.size, 1, none⟩ = some (.int .i64 e.cpu) ∧ W.cell? ⟨w.heap.size, 2, none⟩ = some (.int .i64 e.kind) ∧ W.cell? ⟨w.heap.size, 3, none⟩ = some (.int .i64 e.slot) ∧ W.cell? ⟨w.heap.size, 4, none⟩ = some (.int .u32 e.gen) ∧ W.cell? ⟨w.heap.size, 5, none⟩ = some (.int .i64 e.op) ∧ W.cell? ⟨w.heap.size, 6, none⟩ = some (.int .i64 e.code) ∧ W.cell? ⟨w.heap.size, 7, none⟩ = some (.int .u64 e.n) ∧ w.heap.size < W.heap.size) := fun W hk => by
  subst hwb
  have h := (Blk.new w 55 (eC e.step e.cpu e.kind e.slot e.gen e.op e.code e.n)).kept hk (fun hm => by have := hG _ hm; omega)
  exact ⟨h.cell 0, h.cell 1, h.cell 2, h.cell 3, h.cell 4, h.cell 5, h.cell 6, h.cell 7, h.lt⟩
section
variable {w : World} {b : AcA} {d : Du} {a : Acc} {K : Array Value}
theorem AccAt.fact (h : AccAt w b d a K) : ∀ W, Kept [] w W → (W.cell? ⟨b.g, 9, none⟩ = some (.pointer (some ⟨b.gr, 0, none⟩)) ∧ W.cell? ⟨b.g, 10, none⟩ = some (.slice b.AT a.T.length b.cT) ∧ W.cell? ⟨b.g, 11, none⟩ = some (.slice b.AH a.held.length b.cH) ∧ b.g < W.heap.size) := fun W hk => by
  obtain ⟨_, _, _, c9, c10, c11, hl⟩ := AccAt.cells (AccAt.old h hk)
  exact ⟨c9, c10, c11, hl⟩
/-- The threads' block is another one than the account's. -/
theorem AccAt.gT_ne (h : AccAt w b d a K) {k : Nat} (hk : k < a.T.length) : gT b ≠ b.g ∧ gT b < w.heap.size := by
  have e := AccAt.gt h hk
  refine ⟨fun e1 => Holds.apart h (i := 3) (j := 0) (by decide) rfl rfl (gT b) (by rw [e]; simp [Piece.fp, fp_some]) (by simp [Piece.fp, e1]), (AccAt.tf h hk).2.2.2⟩
theorem AccAt.factG (h : AccAt w b d a K) {k : Nat} (hk : k < a.T.length) : ∀ W, Kept [gT b] w W → (W.cell? ⟨b.g, 9, none⟩ = some (.pointer (some ⟨b.gr, 0, none⟩)) ∧ W.cell? ⟨b.g, 10, none⟩ = some (.slice b.AT a.T.length b.cT) ∧ W.cell? ⟨b.g, 11, none⟩ = some (.slice b.AH a.held.length b.cH) ∧ b.g < W.heap.size) := fun W hkk => by
  have h1 := (AccAt.blk h).kept hkk (by have := (AccAt.gT_ne h hk).1; simp; exact fun e => this e.symm)
  exact ⟨(h1.cell 9).trans (by simp [accC, uC, Array.getElem?_append]), (h1.cell 10).trans (by simp [accC, uC, Array.getElem?_append]), (h1.cell 11).trans (by simp [accC, uC, Array.getElem?_append]), h1.lt⟩
theorem AccIs.at' {w0 : Base} (h : AccIs w0 w b d a K) : AccAt w b d a K := h.at_
end
/-- What a function does with an event. -/
def Handles (f : FuncId) (k : Int) : Prop := ∀ {w0 : Base} {w : World} {b : AcA} {d : Du} {a : Acc} {K : Array Value}, AccIs w0 w b d a K → AWhole d a → checkU d = 0 → ∀ e : Ev, e.kind = k → goodE e = true →
  Calls Try.prog f #[.pointer (some ⟨b.g, 0, none⟩), .agg (eC e.step e.cpu e.kind e.slot e.gen e.op e.code e.n)] w fun x w' => x = .returned (.bool (stepA d a e).isSome) ∧ AccIs w0 w' b d ((stepA d a e).getD a) K
theorem stepA_idle {d : Du} {a : Acc} {e : Ev} (hk : e.kind = 8) : stepA d a e = if onA a e.cpu < 0 then some a else none := by unfold stepA stepB; rw [if_neg (by omega), if_pos hk]
theorem stepA_tick {d : Du} {a : Acc} {e : Ev} (hk : e.kind = 7) : stepA d a e = if runsA a e || (decide (onA a e.cpu < 0) && decide (e.slot = 0 ∧ e.gen = 0)) then some a else none := by unfold stepA stepB; rw [if_neg (by omega), if_neg (by omega), if_pos hk]
theorem stepA_ready {d : Du} {a : Acc} {e : Ev} (hk : e.kind = 6) : stepA d a e = if hasA a e.slot e.gen && decide ((a.th e.slot.toNat).state = 1 ∨ (a.th e.slot.toNat).state = 4) then some (a.setT e.slot.toNat { a.th e.slot.toNat with state := 2 }) else none := by unfold stepA stepB; rw [if_neg (by omega), if_neg (by omega), if_neg (by omega), if_pos hk]
theorem stepA_disp {d : Du} {a : Acc} {e : Ev} (hk : e.kind = 4) : stepA d a e = if hasA a e.slot e.gen && (decide ((a.th e.slot.toNat).state = 2) && decide (onA a e.cpu < 0)) then some (a.setT e.slot.toNat { a.th e.slot.toNat with state := 3, cpu := e.cpu }) else none := by unfold stepA stepB; rw [if_pos hk]
theorem stepA_pre {d : Du} {a : Acc} {e : Ev} (hk : e.kind = 5) : stepA d a e = if runsA a e then some (a.setT e.slot.toNat { a.th e.slot.toNat with state := 2 }) else none := by
  unfold stepA stepB
  rw [if_neg (by omega), if_neg (by omega), if_neg (by omega), if_neg (by omega)]
  cases h : runsA a e with
  | false => rw [if_pos rfl, if_neg (by simp)]
  | true => rw [if_neg (by simp), if_neg (by omega), if_neg (by omega), if_neg (by omega), if_pos hk, if_pos rfl]
theorem step_no {d : Du} {a : Acc} {e : Ev} (h : stepA d a e = none) : (stepA d a e).isSome = false ∧ (stepA d a e).getD a = a := by rw [h]; exact ⟨rfl, rfl⟩
theorem step_yes {d : Du} {a a' : Acc} {e : Ev} (h : stepA d a e = some a') : (stepA d a e).isSome = true ∧ (stepA d a e).getD a = a' := by rw [h]; exact ⟨rfl, rfl⟩

set_option maxHeartbeats 3200000 in
set_option maxRecDepth 100000 in
theorem rpidle_h : Handles 63 8 := by
  intro w0 w b d a K h hw hd e hk hg
  have hs := stepA_idle (d := d) (a := a) hk
  obtain ⟨wb, hwb⟩ : ∃ wb, w.alloc (.cells (eC e.step e.cpu e.kind e.slot e.gen e.op e.code e.n) 55) = wb := ⟨_, rfl⟩
  have h0 : Kept [] w wb := by rw [← hwb]; exact (Kept.refl _ _).alloc _
  have HON := Lib.hid (rpon_any (AccAt.old h.at' h0) hw e.cpu)
  have HEV := ev_box hwb wb (Kept.refl _ _)
  have heq := onA_eq a e.cpu
  have HFIN : Hid (∀ W, Kept [] wb W → AccIs w0 W b d a K) := fun W hk => h.old (h0.trans hk)
  have HV : Hid ((stepA d a e).isSome = decide (onA a e.cpu < 0) ∧ (stepA d a e).getD a = a) := by
    rw [hs]
    by_cases hn : onA a e.cpu < 0
    · rw [if_pos hn, decide_eq_true hn]; exact ⟨rfl, rfl⟩
    · rw [if_neg hn, decide_eq_false hn]; exact ⟨rfl, rfl⟩
  rw [HV.out.1, HV.out.2]
  generalize onA a e.cpu = o at *
  clear h hw hd hs h0 hk hg HV
  go_enter Try.func63, Try.ntmps63
  go_wp2_with fail
  try rw [hwb]
  go_wp2_with fail
  refine (HON.out).mono ?_
  rintro x w1 ⟨rfl, hk1⟩
  have HK1 := Lib.hid hk1
  clear hk1
  go_wp2_with fail
  go_ret
  exact ⟨by rw [← heq]; rfl, HFIN.out _ HK1.out⟩

set_option maxHeartbeats 3200000 in
set_option maxRecDepth 100000 in
theorem rptick_h : Handles 62 7 := by
  intro w0 w b d a K h hw hd e hk hg
  have hs := stepA_tick (d := d) (a := a) hk
  obtain ⟨wb, hwb⟩ : ∃ wb, w.alloc (.cells (eC e.step e.cpu e.kind e.slot e.gen e.op e.code e.n) 55) = wb := ⟨_, rfl⟩
  have h0 : Kept [] w wb := by rw [← hwb]; exact (Kept.refl _ _).alloc _
  have HON := Lib.hid (fun W (hk : Kept [] wb W) => rpon_any (AccAt.old h.at' (h0.trans hk)) hw e.cpu)
  have HRU := Lib.hid (rpruns_any (AccAt.old h.at' h0) hw e)
  have HEV := Lib.hid (ev_box hwb)
  have hev := HEV.out wb (Kept.refl _ _)
  have heq := onA_eq a e.cpu
  have HFIN : Hid (∀ W, Kept [] wb W → AccIs w0 W b d a K) := fun W hk => h.old (h0.trans hk)
  have HV : Hid ((stepA d a e).isSome = (runsA a e || (decide (onA a e.cpu < 0) && decide (e.slot = 0 ∧ e.gen = 0))) ∧ (stepA d a e).getD a = a) := by
    rw [hs]
    cases hn : (runsA a e || (decide (onA a e.cpu < 0) && decide (e.slot = 0 ∧ e.gen = 0)))
    · rw [if_neg (by simp)]; exact ⟨rfl, rfl⟩
    · rw [if_pos rfl]; exact ⟨rfl, rfl⟩
  rw [HV.out.1, HV.out.2, ← heq]
  cases hr : runsA a e with
  | true =>
    rw [hr, if_pos rfl] at HRU
    generalize onA a e.cpu = o at *
    clear h hw hd hs h0 hk hg HV hr
    go_enter Try.func62, Try.ntmps62
    go_wp2_with fail
    try rw [hwb]
    go_wp2_with fail
    refine (HRU.out).mono ?_
    rintro x w1 ⟨rfl, hk1⟩
    have HK1 := Lib.hid hk1
    clear hk1
    go_wp2_with fail
    go_ret
    exact ⟨rfl, HFIN.out _ HK1.out⟩
  | false =>
    rw [hr, if_neg (by simp)] at HRU
    generalize onA a e.cpu = o at *
    clear h hw hd hs h0 hk hg HV hr
    go_enter Try.func62, Try.ntmps62
    go_wp2_with fail
    try rw [hwb]
    go_wp2_with fail
    refine (HRU.out).mono ?_
    rintro x w1 ⟨rfl, hk1⟩
    have HK1 := Lib.hid hk1
    have hev1 := HEV.out _ hk1
    have HON1 := Lib.hid (HON.out _ hk1)
    clear hk1 HON hev
    go_wp2_with fail
    refine (HON1.out).mono ?_
    rintro x w2 ⟨rfl, hk2⟩
    have HK2 := Lib.hid (HK1.out.trans hk2)
    have hev2 := HEV.out _ HK2.out
    clear hk2 hev1
    have HX := Lib.hid heq
    clear heq
    by_cases ho : o = -1
    · have ho1 : (o == -1) = true := beq_iff_eq.2 ho
      rw [ho] at ho1 ⊢
      by_cases hz : e.slot = 0
      · by_cases hy : e.gen = 0
        · have HZ := Lib.hid (And.intro hz hy)
          have HO := Lib.hid ho
          rw [hz, hy] at hev2 ⊢
          clear hz hy
          go_wp2_with fail
          go_ret
          exact ⟨by simp [HZ.out, HO.out], HFIN.out _ HK2.out⟩
        · have hy1 : ((e.gen : Int) == 0) = false := beq_eq_false_iff_ne.2 (by omega)
          have hy2 : ¬ (e.gen : Int) = 0 := by omega
          have HY := Lib.hid hy
          rw [hz] at hev2 ⊢
          clear hz
          go_wp2_with fail
          go_ret
          exact ⟨by simp [HY.out], HFIN.out _ HK2.out⟩
      · have hz1 : (e.slot == 0) = false := beq_eq_false_iff_ne.2 hz
        go_wp2_with fail
        go_ret
        exact ⟨by simp [hz], HFIN.out _ HK2.out⟩
    · have ho1 : (o == -1) = false := beq_eq_false_iff_ne.2 ho
      go_wp2_with fail
      go_ret
      refine ⟨?_, HFIN.out _ HK2.out⟩
      simp [ho1]

set_option maxHeartbeats 3200000 in
set_option maxRecDepth 100000 in
theorem rppreempt_h : Handles 60 5 := by
  intro w0 w b d a K h hw hd e hk hg
  have hs := stepA_pre (d := d) (a := a) hk
  obtain ⟨wb, hwb⟩ : ∃ wb, w.alloc (.cells (eC e.step e.cpu e.kind e.slot e.gen e.op e.code e.n) 55) = wb := ⟨_, rfl⟩
  have h0 : Kept [] w wb := by rw [← hwb]; exact (Kept.refl _ _).alloc _
  have HRU := Lib.hid (rpruns_any (AccAt.old h.at' h0) hw e)
  have hev := ev_box hwb wb (Kept.refl _ _)
  have HFIN : Hid (∀ W, Kept [] wb W → AccIs w0 W b d a K) := fun W hk => h.old (h0.trans hk)
  cases hr : runsA a e with
  | true =>
    rw [hr, if_pos rfl] at HRU
    rw [hr, if_pos rfl] at hs
    obtain ⟨v1, v2⟩ := step_yes hs
    rw [v1, v2]
    obtain ⟨p0, p1, p2, p3⟩ := hasA_lt (runsA_has hr)
    have ht : e.slot.toNat < a.T.length := by rw [hw.tl]; exact p1
    have HST : Hid (∀ W, Kept [] wb W → (W.cell? ⟨gT b, e.slot.toNat * 31 + 2, none⟩ = some (.int .i64 (a.th e.slot.toNat).state) ∧ W.frozen? ⟨gT b, e.slot.toNat * 31 + 2, none⟩ = false ∧ gT b < W.heap.size) ∧ AccIs w0 (W.setCell ⟨gT b, e.slot.toNat * 31 + 2, none⟩ (.int .i64 2)) b d (a.setT e.slot.toNat { a.th e.slot.toNat with state := 2 }) K) := fun W hk => by
      have h1 := HFIN.out W hk
      obtain ⟨g, e1, _, _, hf⟩ := AccAt.thr h1.at' _ ht
      have e2 : gT b = g := by unfold gT; rw [e1]
      have c := AccAt.tf h1.at' ht
      exact ⟨⟨c.1.2.2.1, by rw [e2]; exact hf _, c.2.2.2⟩, h1.setTh (AccAt.gt h1.at' ht) _ ht 2 _ _ (by omega) rfl⟩
    unfold tA at HRU
    generalize e.slot.toNat = t at *
    generalize a.setT t { a.th t with state := 2 } = a' at *
    generalize (a.th t).state = z at *
    clear h hw hd hs h0 hk hg hr v1 v2 p0 p1 p2 p3 ht
    go_enter Try.func60, Try.ntmps60
    go_wp2_with fail
    try rw [hwb]
    go_wp2_with fail
    refine (HRU.out).mono ?_
    rintro x w1 ⟨rfl, hk1⟩
    obtain ⟨⟨c1, c2, c3⟩, hA⟩ := HST.out _ hk1
    have HA := Lib.hid hA
    clear hk1 hA
    go_wp2_with fail
    go_ret
    exact ⟨rfl, HA.out⟩
  | false =>
    rw [hr, if_neg (by simp)] at HRU hs
    obtain ⟨v1, v2⟩ := step_no hs
    rw [v1, v2]
    clear h hw hd hs h0 hk hg hr v1 v2
    go_enter Try.func60, Try.ntmps60
    go_wp2_with fail
    try rw [hwb]
    go_wp2_with fail
    refine (HRU.out).mono ?_
    rintro x w1 ⟨rfl, hk1⟩
    have HK1 := Lib.hid hk1
    clear hk1
    go_wp2_with fail
    go_ret
    exact ⟨rfl, HFIN.out _ HK1.out⟩

/-- A thread's cell is stored, in whatever world behind. -/
theorem AccIs.st {w0 : Base} {w wb : World} {b : AcA} {d : Du} {a : Acc} {K : Array Value} (h : AccIs w0 w b d a K) (h0 : Kept [] w wb) {t : Nat} (ht : t < a.T.length) (j : Nat) (hj : j < 31) (u : Value) (x' : Th) (hx : thL x' = (thL (a.th t)).set j u) :
    ∀ W, Kept [] wb W → (∃ v, W.cell? ⟨gT b, t * 31 + j, none⟩ = some v) ∧ W.frozen? ⟨gT b, t * 31 + j, none⟩ = false ∧ AccIs w0 (W.setCell ⟨gT b, t * 31 + j, none⟩ u) b d (a.setT t x') K := fun W hk => by
  have h1 := h.old (h0.trans hk)
  obtain ⟨g, e1, hc, _, hf⟩ := AccAt.thr h1.at' _ ht
  have e2 : gT b = g := by unfold gT; rw [e1]
  refine ⟨?_, by rw [e2]; exact hf _, h1.setTh (AccAt.gt h1.at' ht) _ ht j _ _ hj hx⟩
  have hl : j < (thL (a.th t)).length := by rw [thL_len]; exact hj
  exact ⟨_, by rw [e2]; exact hc j _ (List.getElem?_eq_getElem hl)⟩

set_option maxHeartbeats 3200000 in
set_option maxRecDepth 100000 in
theorem rpreadies_h : Handles 61 6 := by
  intro w0 w b d a K h hw hd e hk hg
  have hs := stepA_ready (d := d) (a := a) hk
  obtain ⟨wb, hwb⟩ : ∃ wb, w.alloc (.cells (eC e.step e.cpu e.kind e.slot e.gen e.op e.code e.n) 55) = wb := ⟨_, rfl⟩
  have h0 : Kept [] w wb := by rw [← hwb]; exact (Kept.refl _ _).alloc _
  have HHS : Hid (∀ W, Kept [] wb W → Calls Try.prog 82 #[.pointer (some ⟨b.gr, 0, none⟩), .agg #[.int .i64 e.slot, .int .u32 e.gen]] W fun x w' => x = .returned (.bool (hasA a e.slot e.gen)) ∧ Kept [] W w') := fun W hk => rlHas_any (AccAt.roll (AccAt.old h.at' (h0.trans hk))) e.slot e.gen
  have HF : Hid (∀ W, Kept [] wb W → (W.cell? ⟨b.g, 9, none⟩ = some (.pointer (some ⟨b.gr, 0, none⟩)) ∧ W.cell? ⟨b.g, 10, none⟩ = some (.slice b.AT a.T.length b.cT) ∧ W.cell? ⟨b.g, 11, none⟩ = some (.slice b.AH a.held.length b.cH) ∧ b.g < W.heap.size) ∧ (W.cell? ⟨w.heap.size, 0, none⟩ = some (.int .i64 e.step) ∧ W.cell? ⟨w.heap.size, 1, none⟩ = some (.int .i64 e.cpu) ∧ W.cell? ⟨w.heap.size, 2, none⟩ = some (.int .i64 e.kind) ∧ W.cell? ⟨w.heap.size, 3, none⟩ = some (.int .i64 e.slot) ∧ W.cell? ⟨w.heap.size, 4, none⟩ = some (.int .u32 e.gen) ∧ W.cell? ⟨w.heap.size, 5, none⟩ = some (.int .i64 e.op) ∧ W.cell? ⟨w.heap.size, 6, none⟩ = some (.int .i64 e.code) ∧ W.cell? ⟨w.heap.size, 7, none⟩ = some (.int .u64 e.n) ∧ w.heap.size < W.heap.size)) := fun W hk => ⟨AccAt.fact h.at' W (h0.trans hk), ev_box hwb W hk⟩
  have HFIN : Hid (∀ W, Kept [] wb W → AccIs w0 W b d a K) := fun W hk => h.old (h0.trans hk)
  cases hh : hasA a e.slot e.gen with
  | false =>
    rw [hh] at HHS hs
    obtain ⟨v1, v2⟩ := step_no hs
    rw [v1, v2]
    clear h hw hd hs h0 hk hg hh v1 v2
    go_enter Try.func61, Try.ntmps61
    go_wp2_with fail
    try rw [hwb]
    (refine wp_region_phases (n := 8) (listed := #[false, false, false, false, false, false, false, false]) (by kernel_rfl) (by rfl) (by rfl) ?_)
    (refine wpAny_phase (fun W => Kept [] wb W) [(0, false), (1, false), (2, false), (3, false), (4, false), (5, false), (6, false), (7, false)] (f := 0) (listed := #[false, false, false, false, false, false, false, false]) (listed' := #[true, true, true, true, true, true, true, true]) (by kernel_rfl) (by kernel_rfl) (by rfl) (Kept.refl [] _).drew (fun d _ _ _ _ h => by cases d <;> exact h) ?_)
    iterate 6 (refine wpQL_take (v := ?_) rfl (by rfl) ?_ ?_; rotate_left; (focus ((intro W hC; have hF := HF.out W hC; go_simp); try (with_reducible rfl))); (try dsimp only [Act.put]); (try simp only [List.setIfInBounds_toArray, List.set_cons_zero, List.set_cons_succ]))
    (refine wpQL_call nth_6 (by rfl) ?_ (fun W hC => quiet_call hC (HHS.out W hC)) ?_; (focus (intro W hC; go_simp; try (with_reducible rfl))); (try dsimp only [Act.put]); (try simp only [List.setIfInBounds_toArray, List.set_cons_zero, List.set_cons_succ]))
    (refine wpQL_take (v := ?_) nth_7 (by rfl) ?_ ?_; rotate_left; (focus ((intro W hC; go_simp); try (with_reducible rfl))); (try dsimp only [Act.put]); (try simp only [List.setIfInBounds_toArray, List.set_cons_zero, List.set_cons_succ]))
    (refine wpQL_nil ?_)
    (intro wq hq)
    (refine wpAny_done (by kernel_rfl) ?_ _)
    go_wp2_with fail
    go_ret
    exact ⟨rfl, HFIN.out _ hq⟩
  | true =>
    rw [hh] at HHS hs
    obtain ⟨p0, p1, p2, p3⟩ := hasA_lt hh
    have ht : e.slot.toNat < a.T.length := by rw [hw.tl]; exact p1
    have hgt := AccAt.gt h.at' ht
    have HTF : Hid (∀ W, Kept [] wb W → W.cell? ⟨gT b, e.slot.toNat * 31 + 2, none⟩ = some (.int .i64 (a.th e.slot.toNat).state) ∧ gT b < W.heap.size) := fun W hk => ⟨(AccAt.tf (AccAt.old h.at' (h0.trans hk)) ht).1.2.2.1, (AccAt.tf (AccAt.old h.at' (h0.trans hk)) ht).2.2.2⟩
    have HST := Lib.hid (h.st h0 ht 2 (by omega) (.int .i64 2) { a.th e.slot.toNat with state := 2 } rfl)
    have hin : e.slot < (a.T.length : Int) := by omega
    by_cases hz : (a.th e.slot.toNat).state = 1 ∨ (a.th e.slot.toNat).state = 4
    · rw [decide_eq_true hz, Bool.and_true, if_pos rfl] at hs
      obtain ⟨v1, v2⟩ := step_yes hs
      rw [v1, v2]
      rw [hgt] at HF
      generalize a.setT e.slot.toNat { a.th e.slot.toNat with state := 2 } = a' at *
      generalize (a.th e.slot.toNat).state = z at *
      clear h hw hd hs h0 hk hg hh v1 v2 p1 p2 p3 ht hgt
      have HZ := Lib.hid hz
      clear hz
      rcases HZ.out with rfl | rfl
      all_goals
        clear HZ
        go_enter Try.func61, Try.ntmps61
        go_wp2_with fail
        try rw [hwb]
        (refine wp_region_phases (n := 8) (listed := #[false, false, false, false, false, false, false, false]) (by kernel_rfl) (by rfl) (by rfl) ?_)
        (refine wpAny_phase (fun W => Kept [] wb W) [(0, false), (1, false), (2, false), (3, false), (4, false), (5, false), (6, false), (7, false)] (f := 0) (listed := #[false, false, false, false, false, false, false, false]) (listed' := #[true, true, true, true, true, true, true, true]) (by kernel_rfl) (by kernel_rfl) (by rfl) (Kept.refl [] _).drew (fun d _ _ _ _ h => by cases d <;> exact h) ?_)
        iterate 6 (refine wpQL_take (v := ?_) rfl (by rfl) ?_ ?_; rotate_left; (focus ((intro W hC; have hF := HF.out W hC; go_simp); try (with_reducible rfl))); (try dsimp only [Act.put]); (try simp only [List.setIfInBounds_toArray, List.set_cons_zero, List.set_cons_succ]))
        (refine wpQL_call nth_6 (by rfl) ?_ (fun W hC => quiet_call hC (HHS.out W hC)) ?_; (focus (intro W hC; go_simp; try (with_reducible rfl))); (try dsimp only [Act.put]); (try simp only [List.setIfInBounds_toArray, List.set_cons_zero, List.set_cons_succ]))
        (refine wpQL_take (v := ?_) nth_7 (by rfl) ?_ ?_; rotate_left; (focus ((intro W hC; go_simp); try (with_reducible rfl))); (try dsimp only [Act.put]); (try simp only [List.setIfInBounds_toArray, List.set_cons_zero, List.set_cons_succ]))
        (refine wpQL_nil ?_)
        (intro wq hq)
        (refine wpAny_done (by kernel_rfl) ?_ _)
        go_wp2_with fail
        (refine wp_region_phases (n := 9) (listed := #[false, false, false, false, false, false, false, false, false]) (by kernel_rfl) (by rfl) (by rfl) ?_)
        (refine wpAny_phase (fun W => Kept [] wb W) [(0, false), (1, false), (2, false), (3, false), (4, false), (5, false), (6, false), (7, false), (8, false)] (f := 0) (listed := #[false, false, false, false, false, false, false, false, false]) (listed' := #[true, true, true, true, true, true, true, true, true]) (by kernel_rfl) (by kernel_rfl) (by rfl) (hq).drew (fun d _ _ _ _ h => by cases d <;> exact h) ?_)
        iterate 9 (refine wpQL_take (v := ?_) rfl (by rfl) ?_ ?_; rotate_left; (focus ((intro W hC; have hF := HF.out W hC; go_simp); try (with_reducible rfl))); (try dsimp only [Act.put]); (try simp only [List.setIfInBounds_toArray, List.set_cons_zero, List.set_cons_succ]))
        (refine wpQL_nil ?_)
        (intro wq hq)
        (refine wpAny_done (by kernel_rfl) ?_ _)
        have hf := HF.out _ hq
        have ht1 := HTF.out _ hq
        obtain ⟨⟨v, c1⟩, c2, hA⟩ := HST.out _ hq
        clear c1
        have HA := Lib.hid hA
        clear hA
        go_wp2_with fail
        go_ret
        exact ⟨rfl, HA.out⟩
    · rw [decide_eq_false hz, if_neg (by simp)] at hs
      obtain ⟨v1, v2⟩ := step_no hs
      rw [v1, v2]
      rw [hgt] at HF
      generalize (a.th e.slot.toNat).state = z at *
      clear h hw hd hs h0 hk hg hh v1 v2 p1 p2 p3 ht hgt HST
      have hz1 : (z != 1) = true := bne_iff_ne.2 (by omega)
      have hz4 : (z != 4) = true := bne_iff_ne.2 (by omega)
      clear hz
      go_enter Try.func61, Try.ntmps61
      go_wp2_with fail
      try rw [hwb]
      (refine wp_region_phases (n := 8) (listed := #[false, false, false, false, false, false, false, false]) (by kernel_rfl) (by rfl) (by rfl) ?_)
      (refine wpAny_phase (fun W => Kept [] wb W) [(0, false), (1, false), (2, false), (3, false), (4, false), (5, false), (6, false), (7, false)] (f := 0) (listed := #[false, false, false, false, false, false, false, false]) (listed' := #[true, true, true, true, true, true, true, true]) (by kernel_rfl) (by kernel_rfl) (by rfl) (Kept.refl [] _).drew (fun d _ _ _ _ h => by cases d <;> exact h) ?_)
      iterate 6 (refine wpQL_take (v := ?_) rfl (by rfl) ?_ ?_; rotate_left; (focus ((intro W hC; have hF := HF.out W hC; go_simp); try (with_reducible rfl))); (try dsimp only [Act.put]); (try simp only [List.setIfInBounds_toArray, List.set_cons_zero, List.set_cons_succ]))
      (refine wpQL_call nth_6 (by rfl) ?_ (fun W hC => quiet_call hC (HHS.out W hC)) ?_; (focus (intro W hC; go_simp; try (with_reducible rfl))); (try dsimp only [Act.put]); (try simp only [List.setIfInBounds_toArray, List.set_cons_zero, List.set_cons_succ]))
      (refine wpQL_take (v := ?_) nth_7 (by rfl) ?_ ?_; rotate_left; (focus ((intro W hC; go_simp); try (with_reducible rfl))); (try dsimp only [Act.put]); (try simp only [List.setIfInBounds_toArray, List.set_cons_zero, List.set_cons_succ]))
      (refine wpQL_nil ?_)
      (intro wq hq)
      (refine wpAny_done (by kernel_rfl) ?_ _)
      go_wp2_with fail
      (refine wp_region_phases (n := 9) (listed := #[false, false, false, false, false, false, false, false, false]) (by kernel_rfl) (by rfl) (by rfl) ?_)
      (refine wpAny_phase (fun W => Kept [] wb W) [(0, false), (1, false), (2, false), (3, false), (4, false), (5, false), (6, false), (7, false), (8, false)] (f := 0) (listed := #[false, false, false, false, false, false, false, false, false]) (listed' := #[true, true, true, true, true, true, true, true, true]) (by kernel_rfl) (by kernel_rfl) (by rfl) (hq).drew (fun d _ _ _ _ h => by cases d <;> exact h) ?_)
      iterate 9 (refine wpQL_take (v := ?_) rfl (by rfl) ?_ ?_; rotate_left; (focus ((intro W hC; have hF := HF.out W hC; go_simp); try (with_reducible rfl))); (try dsimp only [Act.put]); (try simp only [List.setIfInBounds_toArray, List.set_cons_zero, List.set_cons_succ]))
      (refine wpQL_nil ?_)
      (intro wq hq)
      (refine wpAny_done (by kernel_rfl) ?_ _)
      have hf := HF.out _ hq
      have ht1 := HTF.out _ hq
      go_wp2_with fail
      go_ret
      exact ⟨rfl, HFIN.out _ hq⟩

end Go.Proofs.Ytccodklfplfleaa
