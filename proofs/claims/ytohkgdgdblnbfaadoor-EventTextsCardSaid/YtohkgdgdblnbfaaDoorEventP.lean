/- Package event: pick, Of, Count, Answers. -/
import Derived.Test.YtohkgdgdblnbfaaDoorEventL
namespace Go.Proofs.YtohkgdgdblnbfaaDoor
open Go.RowKit

theorem Tryd.info30 : (Tryd.prog.info? 30).map (fun i => (i.zero, i.size, i.bytes)) = some (some (.agg (eC 0 0 0 0 0 0 0 0)), 8, 64) := by kernel_rfl

/-- An event's cells, as a list. -/
def eL (e : Ev) : List Value := (eC e.step e.cpu e.kind e.slot e.gen e.op e.code e.n).toList
theorem eL_len (e : Ev) : (eL e).length = 8 := rfl
theorem flat_len (l : List Ev) : (l.flatMap eL).length = l.length * 8 := by
  induction l with
  | nil => rfl
  | cons a t ih => simp only [List.flatMap_cons, List.length_append, List.length_cons, ih, eL_len]; omega
theorem flat_get (l : List Ev) (i j : Nat) (h : i < l.length) (hj : j < 8) : (l.flatMap eL)[i * 8 + j]? = (eL l[i])[j]? := by
  induction l generalizing i with
  | nil => simp at h
  | cons a t ih =>
    simp only [List.flatMap_cons]
    cases i with
    | zero => rw [List.getElem?_append_left (by rw [eL_len]; omega)]; simp
    | succ i =>
      rw [List.getElem?_append_right (by rw [eL_len]; omega), eL_len, show (i + 1) * 8 + j - 8 = i * 8 + j by omega, ih i (by simpa using h)]
      simp
/-- A slice of events. -/
def ReadsE (w : World) (A : Option Addr) (n : Nat) (l : List Ev) : Prop := Reads w 8 A n (l.flatMap eL)
theorem ReadsE.len {w : World} {A : Option Addr} {n : Nat} {l : List Ev} (h : ReadsE w A n l) : n = l.length := by
  have := h.1; rw [flat_len] at this; omega
theorem ReadsE.cells {w : World} {A : Option Addr} {n : Nat} {l : List Ev} (h : ReadsE w A n l) (h0 : 0 < n) : ∃ b o, A = some ⟨b, o, none⟩ ∧ b < w.heap.size ∧ ∀ i e, l[i]? = some e → ∀ j, j < 8 → w.cell? ⟨b, o + (i * 8 + j), none⟩ = (eL e)[j]? := by
  obtain ⟨b, o, rfl, hb, hc⟩ := Reads.addr h h0 (by omega)
  refine ⟨b, o, rfl, hb, fun i e he j hj => ?_⟩
  obtain ⟨hi, rfl⟩ := List.getElem?_eq_some_iff.1 he
  have h1 := flat_get l i j hi hj
  have h2 : (eL l[i])[j]? = some ((eL l[i])[j]'(by rw [eL_len]; exact hj)) := List.getElem?_eq_getElem _
  rw [h2]
  exact hc _ _ (h1.trans h2)

/-- A slice of events that was made after w. -/
def FreshE (w w' : World) (l : List Ev) (A : Option Addr) (n c : Nat) : Prop :=
  w'.ownsRow 0 30 8 (.slice A n c) n (l.flatMap eL) ∧ Kept [] w w' ∧ ∀ k, k ∈ fp (.slice A n c) → w.heap.size ≤ k

theorem reads_ev (w : World) (t : TypeId) (e : Ev) : Reads (w.alloc (.cells (eC e.step e.cpu e.kind e.slot e.gen e.op e.code e.n) t)) 8 (some ⟨w.heap.size, 0, none⟩) 1 (eL e) := by
  refine ⟨by simp [eL_len], fun _ => ⟨_, rfl, fun j u hu => ?_⟩⟩
  rw [add_mk, Nat.zero_add, (Blk.new w t _).cell]
  rw [eL, Array.getElem?_toList] at hu
  exact hu
theorem eL_one (e : Ev) : ∀ u ∈ eL e, u.oneCell' = true := by
  intro u hu
  simp [eL] at hu
  rcases hu with rfl | rfl | rfl | rfl | rfl | rfl | rfl | rfl <;> rfl

set_option maxHeartbeats 3200000 in
set_option maxRecDepth 100000 in
theorem pick_eOf1 (cp : Value) (p : Ev → Bool) (A : Option Addr) (n c : Nat) (l : List Ev) (w : World) (hr : ReadsE w A n l) (hl : l.length ≤ 1000)
    (hp : ∀ e w', Kept [] w w' → Calls Tryd.prog 32 #[.agg (eC e.step e.cpu e.kind e.slot e.gen e.op e.code e.n), cp] w' fun r w'' => r = .returned (.bool (p e)) ∧ Kept [] w' w'') :
    Calls Tryd.prog 31 #[.slice A n c, .func (.func 32) #[] #[cp]] w fun e w' => ∃ A' n' c', e = .returned (.slice A' n' c') ∧ n' = (l.filter p).length ∧ FreshE w w' (l.filter p) A' n' c' := by
  have hn := hr.len
  subst hn
  have HR := Lib.hid hr
  have HP := Lib.hid hp
  clear hr hp
  go_enter Tryd.func31, Tryd.ntmps31
  go_wp2_with fail
  go_loopw [5, 10] (fun ov iv wr => ∃ (k : Nat) (A' : Option Addr) (n' c' : Nat), k ≤ l.length ∧ iv = .int .i64 k ∧ ov = .slice A' n' c' ∧ n' ≤ k ∧ Hid (n' = ((l.take k).filter p).length) ∧ Hid (FreshE w wr ((l.take k).filter p) A' n' c')) (fun _ i _ => l.length - (intOf i).toNat)
  case atStart => exact ⟨0, none, 0, 0, by omega, rfl, rfl, by omega, rfl, World.ownsRow_nil _ _ _ _, Kept.refl _ _, by simp [fp, Value.ownBlock]⟩
  case round =>
    obtain ⟨k, A', n', c', hk, rfl, rfl, hnk, HN, HF⟩ := hrel
    by_cases hlt : k < l.length
    · obtain ⟨e, he⟩ : ∃ e, l[k] = e := ⟨_, rfl⟩
      obtain ⟨b, o, rfl, hb, hcell⟩ := ReadsE.cells (HR.out.old HF.out.2.1) (by omega)
      have hcs := hcell k e (by rw [List.getElem?_eq_getElem hlt, he])
      have c0 : wr.cell? ⟨b, o + k * 8, none⟩ = some (.int .i64 e.step) := hcs 0 (by omega)
      have c1 : wr.cell? ⟨b, o + k * 8 + 1, none⟩ = some (.int .i64 e.cpu) := hcs 1 (by omega)
      have c2 : wr.cell? ⟨b, o + k * 8 + 2, none⟩ = some (.int .i64 e.kind) := hcs 2 (by omega)
      have c3 : wr.cell? ⟨b, o + k * 8 + 3, none⟩ = some (.int .i64 e.slot) := hcs 3 (by omega)
      have c4 : wr.cell? ⟨b, o + k * 8 + 4, none⟩ = some (.int .u32 e.gen) := hcs 4 (by omega)
      have c5 : wr.cell? ⟨b, o + k * 8 + 5, none⟩ = some (.int .i64 e.op) := hcs 5 (by omega)
      have c6 : wr.cell? ⟨b, o + k * 8 + 6, none⟩ = some (.int .i64 e.code) := hcs 6 (by omega)
      have c7 : wr.cell? ⟨b, o + k * 8 + 7, none⟩ = some (.int .u64 e.n) := hcs 7 (by omega)
      have HE := Lib.hid he
      clear hcell hcs he
      go_wp2_with fail
      refine (HP.out e _ (HF.out.2.1.alloc _)).mono ?_
      rintro r w2 ⟨rfl, hk2⟩
      have HX := Lib.hid ((Blk.new wr 30 (eC e.step e.cpu e.kind e.slot e.gen e.op e.code e.n)).kept hk2 (by simp))
      have hx := HX.out.cell
      have HK2 := Lib.hid (((Kept.refl [] wr).alloc _).trans hk2)
      have HTK : Hid ((l.take (k + 1)).filter p = (l.take k).filter p ++ if p e then [e] else []) := by
        rw [Hid, List.take_succ_eq_append_getElem hlt, HE.out, List.filter_append]; simp [List.filter_cons]
      have HF2 : Hid (FreshE w w2 ((l.take k).filter p) A' n' c') := ⟨own_kept HF.out.1 HK2.out (by simp), HF.out.2.1.trans HK2.out, HF.out.2.2⟩
      clear hk2 c0 c1 c2 c3 c4 c5 c6 c7
      cases hpe : p e
      · rw [hpe] at HTK
        clear hpe
        simp only [Bool.false_eq_true, if_false, List.append_nil] at HTK
        go_wp2_with fail
        go_roundw
        case rel => exact ⟨k + 1, A', n', c', by omega, by go_num, rfl, by omega, by rw [Hid, HTK.out]; exact HN.out, by rw [HTK.out]; exact HF2.out⟩
        case measure => simp [intOf]; omega
      · rw [hpe] at HTK
        clear hpe
        simp only [if_true] at HTK
        go_wp2_with (at_builtin; go_must (refine wpList_append_any _ rfl _ _ _ rfl 30 (.agg (eC 0 0 0 0 0 0 0 0)) 8 64 Tryd.underlying22 Tryd.info30 rfl (by omega) (.slice A' n' c') n' (((l.take k).filter p).flatMap eL) rfl (HF2.out.1.alloc _) (some ⟨w2.heap.size, 0, none⟩) 1 1 (eL e) rfl (reads_ev _ _ _) (eL_one e) (by simp only [maxLen]; omega) (by omega) ?_); intro A2 c2 w3 happ; have HA := Lib.hid happ; clear happ)
        go_roundw
        case rel =>
          have happ := HA.out
          have hkb : Kept (fp (.slice A' n' c')) w2 w3 := (((Kept.refl _ _).alloc _).trans happ.2.1)
          refine ⟨k + 1, A2, n' + 1, c2, by omega, by go_num, rfl, by omega, by rw [Hid, HTK.out, List.length_append, ← HN.out]; rfl, ?_, ?_, ?_⟩
          · rw [HTK.out, List.flatMap_append]; simpa using happ.1
          · exact HF2.out.2.1.trans' hkb fun q hq => .inr (HF2.out.2.2 q hq)
          · intro q hq
            have := HF2.out.2.1.size
            rcases happ.2.2 q hq with h | h
            · exact HF2.out.2.2 q h
            · simp at h; omega
        case measure => simp [intOf]; omega
    · obtain rfl : k = l.length := by omega
      have hN := HN.out
      have hF := HF.out
      rw [List.take_of_length_le (Nat.le_refl _)] at hN hF
      have HN2 := Lib.hid hN
      have HF2 := Lib.hid hF
      clear hN hF
      go_wp2_with fail
      go_ret
      exact ⟨A', n', c', rfl, HN2.out, HF2.out⟩

set_option maxHeartbeats 3200000 in
set_option maxRecDepth 100000 in
theorem pick_eCount1 (cp : Value) (p : Ev → Bool) (A : Option Addr) (n c : Nat) (l : List Ev) (w : World) (hr : ReadsE w A n l) (hl : l.length ≤ 1000)
    (hp : ∀ e w', Kept [] w w' → Calls Tryd.prog 33 #[.agg (eC e.step e.cpu e.kind e.slot e.gen e.op e.code e.n), cp] w' fun r w'' => r = .returned (.bool (p e)) ∧ Kept [] w' w'') :
    Calls Tryd.prog 31 #[.slice A n c, .func (.func 33) #[] #[cp]] w fun e w' => ∃ A' n' c', e = .returned (.slice A' n' c') ∧ n' = (l.filter p).length ∧ FreshE w w' (l.filter p) A' n' c' := by
  have hn := hr.len
  subst hn
  have HR := Lib.hid hr
  have HP := Lib.hid hp
  clear hr hp
  go_enter Tryd.func31, Tryd.ntmps31
  go_wp2_with fail
  go_loopw [5, 10] (fun ov iv wr => ∃ (k : Nat) (A' : Option Addr) (n' c' : Nat), k ≤ l.length ∧ iv = .int .i64 k ∧ ov = .slice A' n' c' ∧ n' ≤ k ∧ Hid (n' = ((l.take k).filter p).length) ∧ Hid (FreshE w wr ((l.take k).filter p) A' n' c')) (fun _ i _ => l.length - (intOf i).toNat)
  case atStart => exact ⟨0, none, 0, 0, by omega, rfl, rfl, by omega, rfl, World.ownsRow_nil _ _ _ _, Kept.refl _ _, by simp [fp, Value.ownBlock]⟩
  case round =>
    obtain ⟨k, A', n', c', hk, rfl, rfl, hnk, HN, HF⟩ := hrel
    by_cases hlt : k < l.length
    · obtain ⟨e, he⟩ : ∃ e, l[k] = e := ⟨_, rfl⟩
      obtain ⟨b, o, rfl, hb, hcell⟩ := ReadsE.cells (HR.out.old HF.out.2.1) (by omega)
      have hcs := hcell k e (by rw [List.getElem?_eq_getElem hlt, he])
      have c0 : wr.cell? ⟨b, o + k * 8, none⟩ = some (.int .i64 e.step) := hcs 0 (by omega)
      have c1 : wr.cell? ⟨b, o + k * 8 + 1, none⟩ = some (.int .i64 e.cpu) := hcs 1 (by omega)
      have c2 : wr.cell? ⟨b, o + k * 8 + 2, none⟩ = some (.int .i64 e.kind) := hcs 2 (by omega)
      have c3 : wr.cell? ⟨b, o + k * 8 + 3, none⟩ = some (.int .i64 e.slot) := hcs 3 (by omega)
      have c4 : wr.cell? ⟨b, o + k * 8 + 4, none⟩ = some (.int .u32 e.gen) := hcs 4 (by omega)
      have c5 : wr.cell? ⟨b, o + k * 8 + 5, none⟩ = some (.int .i64 e.op) := hcs 5 (by omega)
      have c6 : wr.cell? ⟨b, o + k * 8 + 6, none⟩ = some (.int .i64 e.code) := hcs 6 (by omega)
      have c7 : wr.cell? ⟨b, o + k * 8 + 7, none⟩ = some (.int .u64 e.n) := hcs 7 (by omega)
      have HE := Lib.hid he
      clear hcell hcs he
      go_wp2_with fail
      refine (HP.out e _ (HF.out.2.1.alloc _)).mono ?_
      rintro r w2 ⟨rfl, hk2⟩
      have HX := Lib.hid ((Blk.new wr 30 (eC e.step e.cpu e.kind e.slot e.gen e.op e.code e.n)).kept hk2 (by simp))
      have hx := HX.out.cell
      have HK2 := Lib.hid (((Kept.refl [] wr).alloc _).trans hk2)
      have HTK : Hid ((l.take (k + 1)).filter p = (l.take k).filter p ++ if p e then [e] else []) := by
        rw [Hid, List.take_succ_eq_append_getElem hlt, HE.out, List.filter_append]; simp [List.filter_cons]
      have HF2 : Hid (FreshE w w2 ((l.take k).filter p) A' n' c') := ⟨own_kept HF.out.1 HK2.out (by simp), HF.out.2.1.trans HK2.out, HF.out.2.2⟩
      clear hk2 c0 c1 c2 c3 c4 c5 c6 c7
      cases hpe : p e
      · rw [hpe] at HTK
        clear hpe
        simp only [Bool.false_eq_true, if_false, List.append_nil] at HTK
        go_wp2_with fail
        go_roundw
        case rel => exact ⟨k + 1, A', n', c', by omega, by go_num, rfl, by omega, by rw [Hid, HTK.out]; exact HN.out, by rw [HTK.out]; exact HF2.out⟩
        case measure => simp [intOf]; omega
      · rw [hpe] at HTK
        clear hpe
        simp only [if_true] at HTK
        go_wp2_with (at_builtin; go_must (refine wpList_append_any _ rfl _ _ _ rfl 30 (.agg (eC 0 0 0 0 0 0 0 0)) 8 64 Tryd.underlying22 Tryd.info30 rfl (by omega) (.slice A' n' c') n' (((l.take k).filter p).flatMap eL) rfl (HF2.out.1.alloc _) (some ⟨w2.heap.size, 0, none⟩) 1 1 (eL e) rfl (reads_ev _ _ _) (eL_one e) (by simp only [maxLen]; omega) (by omega) ?_); intro A2 c2 w3 happ; have HA := Lib.hid happ; clear happ)
        go_roundw
        case rel =>
          have happ := HA.out
          have hkb : Kept (fp (.slice A' n' c')) w2 w3 := (((Kept.refl _ _).alloc _).trans happ.2.1)
          refine ⟨k + 1, A2, n' + 1, c2, by omega, by go_num, rfl, by omega, by rw [Hid, HTK.out, List.length_append, ← HN.out]; rfl, ?_, ?_, ?_⟩
          · rw [HTK.out, List.flatMap_append]; simpa using happ.1
          · exact HF2.out.2.1.trans' hkb fun q hq => .inr (HF2.out.2.2 q hq)
          · intro q hq
            have := HF2.out.2.1.size
            rcases happ.2.2 q hq with h | h
            · exact HF2.out.2.2 q h
            · simp at h; omega
        case measure => simp [intOf]; omega
    · obtain rfl : k = l.length := by omega
      have hN := HN.out
      have hF := HF.out
      rw [List.take_of_length_le (Nat.le_refl _)] at hN hF
      have HN2 := Lib.hid hN
      have HF2 := Lib.hid hF
      clear hN hF
      go_wp2_with fail
      go_ret
      exact ⟨A', n', c', rfl, HN2.out, HF2.out⟩


set_option maxHeartbeats 1600000 in
theorem of1_any (t : Int) (g : Nat) (gi : Nat) (e : Ev) (w : World) (hB : Blk w gi 25 #[.int .i64 t, .int .u32 g]) :
    Calls Tryd.prog 32 #[.agg (eC e.step e.cpu e.kind e.slot e.gen e.op e.code e.n), .pointer (some ⟨gi, 0, none⟩)] w fun r w' => r = .returned (.bool (e.slot == t && e.gen == g)) ∧ Kept [] w w' := by
  have hc := hB.cell
  have hl := hB.lt
  have HB := Lib.hid hB
  clear hB
  obtain ⟨s1, c1, k1, t1, g1, o1, d1, n1⟩ := e
  simp only
  go_enter Tryd.func32, Tryd.ntmps32
  go_wp2
  all_goals
    go_ret
    refine ⟨ret_bool ?_, (Kept.refl _ _).alloc _⟩
    rw [Bool.eq_iff_iff]
    simp_all
  all_goals omega

set_option maxHeartbeats 1600000 in
theorem count1_any (k : Int) (gi : Nat) (e : Ev) (w : World) (hB : Blk w gi 3 #[.int .i64 k]) :
    Calls Tryd.prog 33 #[.agg (eC e.step e.cpu e.kind e.slot e.gen e.op e.code e.n), .pointer (some ⟨gi, 0, none⟩)] w fun r w' => r = .returned (.bool (e.kind == k)) ∧ Kept [] w w' := by
  have hc := hB.cell
  have hl := hB.lt
  have HB := Lib.hid hB
  clear hB
  obtain ⟨s1, c1, k1, t1, g1, o1, d1, n1⟩ := e
  simp only
  go_enter Tryd.func33, Tryd.ntmps33
  go_wp2
  go_ret
  exact ⟨rfl, (Kept.refl _ _).alloc _⟩

set_option maxHeartbeats 1600000 in
theorem of_any (t : Int) (g : Nat) (A : Option Addr) (n c : Nat) (l : List Ev) (w : World) (hr : ReadsE w A n l) (hl : l.length ≤ 1000) :
    Calls Tryd.prog 14 #[.slice A n c, .agg #[.int .i64 t, .int .u32 g]] w fun e w' => ∃ A' n' c', e = .returned (.slice A' n' c') ∧ n' = (l.filter fun e => e.slot == t && e.gen == g).length ∧ FreshE w w' (l.filter fun e => e.slot == t && e.gen == g) A' n' c' := by
  have HR := Lib.hid hr
  clear hr
  go_enter Tryd.func14, Tryd.ntmps14
  go_wp2_with fail
  refine (pick_eOf1 _ (fun e => e.slot == t && e.gen == g) A n c l _ (HR.out.old ((Kept.refl _ _).alloc _)) hl (fun e w' hk => of1_any t g _ e w' ((Blk.new _ _ _).kept hk (by simp)))).mono ?_
  rintro e w1 ⟨A', n', c', rfl, h1, h2⟩
  have H1 := Lib.hid h1
  have H2 := Lib.hid h2
  clear h1 h2
  go_wp2_with fail
  go_ret
  refine ⟨A', n', c', rfl, H1.out, H2.out.1, ((Kept.refl _ _).alloc _).trans H2.out.2.1, fun q hq => ?_⟩
  have := H2.out.2.2 q hq
  simp at this; omega

set_option maxHeartbeats 1600000 in
theorem count_any (k : Int) (A : Option Addr) (n c : Nat) (l : List Ev) (w : World) (hr : ReadsE w A n l) (hl : l.length ≤ 1000) :
    Calls Tryd.prog 16 #[.slice A n c, .int .i64 k] w fun e w' => e = .returned (.int .i64 (l.filter fun e => e.kind == k).length) ∧ Kept [] w w' := by
  have HR := Lib.hid hr
  clear hr
  go_enter Tryd.func16, Tryd.ntmps16
  go_wp2_with fail
  refine (pick_eCount1 _ (fun e => e.kind == k) A n c l _ (HR.out.old ((Kept.refl _ _).alloc _)) hl (fun e w' hk => count1_any k _ e w' ((Blk.new _ _ _).kept hk (by simp)))).mono ?_
  rintro e w1 ⟨A', n', c', rfl, h1, h2⟩
  have H1 := Lib.hid h1
  have H2 := Lib.hid h2
  clear h1 h2
  go_wp2_with fail
  go_ret
  exact ⟨by rw [← H1.out]; rfl, ((Kept.refl _ _).alloc _).trans H2.out.2.1⟩

end Go.Proofs.YtohkgdgdblnbfaaDoor
