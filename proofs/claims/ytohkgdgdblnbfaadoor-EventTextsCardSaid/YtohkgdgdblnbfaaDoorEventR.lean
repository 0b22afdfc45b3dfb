/- The document's Of, Count, Answers, Same of events. -/
import Derived.Test.YtohkgdgdblnbfaaDoorEventP
import Derived.Deep.QuietTactic
import Derived.BigQuiet
namespace Go.Proofs.YtohkgdgdblnbfaaDoor
open Go.RowKit

theorem eqId (t t' g g' : Int) (w : World) : (Op.equalIn 10000 25 (.agg #[.int .i64 t, .int .u32 g]) (.agg #[.int .i64 t', .int .u32 g'])).run Tryd.prog w = .ok (t == t' && g == g') w := by
  have hS : Tryd.prog.underlying 25 = some (.struct (Tryd.prog.fieldsOf 25)) := by kernel_rfl
  have hp : Tryd.prog.stoodInHeld 25 = false := by kernel_rfl
  have u3 := Tryd.underlying3
  have u24 := Tryd.underlying23
  rw [show (10000 : Nat) = 9999 + 1 from rfl, run_equalIn_agg w 9999 25 _ _ hS hp]
  simp only [Program.fieldsOf, Tryd.underlying25]
  go_simp
  by_cases h1 : t = t' <;> by_cases h2 : g = g' <;> simp [h1, h2]

set_option maxHeartbeats 1600000 in
theorem refCount (k0 : Int) (A : Option Addr) (n c : Nat) (l : List Ev) (w : World) (hr : ReadsE w A n l) (hl : l.length ≤ 1000) :
    Calls Tryd.prog 17 #[.slice A n c, .int .i64 k0] w fun e w' => e = .returned (.int .i64 (l.filter fun e => e.kind == k0).length) ∧ w = w' := by
  have hn := hr.len
  subst hn
  have HR := Lib.hid hr
  clear hr
  go_enter Tryd.func17, Tryd.ntmps17
  go_wp2_with fail
  go_loop [5, 6] (fun nv iv => ∃ (k m : Nat), k ≤ l.length ∧ iv = .int .i64 k ∧ nv = .int .i64 m ∧ m ≤ k ∧ Hid (m = ((l.take k).filter fun e => e.kind == k0).length)) (fun _ i => l.length - (intOf i).toNat)
  case atStart => exact ⟨0, 0, by omega, rfl, rfl, by omega, rfl⟩
  case round =>
    obtain ⟨k, m, hk, rfl, rfl, hmk, HN⟩ := hrel
    by_cases hlt : k < l.length
    · obtain ⟨e, he⟩ : ∃ e, l[k] = e := ⟨_, rfl⟩
      obtain ⟨b, o, rfl, hb, hcell⟩ := ReadsE.cells HR.out (by omega)
      have hcs := hcell k e (by rw [List.getElem?_eq_getElem hlt, he])
      have c2 : w.cell? ⟨b, o + k * 8 + 2, none⟩ = some (.int .i64 e.kind) := hcs 2 (by omega)
      have HTK : Hid (((l.take (k + 1)).filter fun e => e.kind == k0).length = ((l.take k).filter fun e => e.kind == k0).length + if e.kind == k0 then 1 else 0) := by
        rw [Hid, List.take_succ_eq_append_getElem hlt, he, List.filter_append]; cases h : (e.kind == k0) <;> simp [h]
      clear hcell hcs he
      cases hpe : (e.kind == k0)
      · rw [hpe] at HTK
        go_wp2_with fail
        go_round
        case rel => exact ⟨k + 1, m, by omega, by go_num, rfl, by omega, by rw [Hid, HTK.out]; exact HN.out⟩
        case measure => simp [intOf]; omega
      · rw [hpe] at HTK
        go_wp2_with fail
        go_round
        case rel => exact ⟨k + 1, m + 1, by omega, by go_num, by go_num, by omega, by rw [Hid, HTK.out, ← HN.out]; rfl⟩
        case measure => simp [intOf]; omega
    · obtain rfl : k = l.length := by omega
      have hN := HN.out
      rw [List.take_of_length_le (Nat.le_refl _)] at hN
      have HN2 := Lib.hid hN
      clear hN
      go_wp2_with fail
      go_ret
      exact ⟨by rw [← HN2.out]; rfl, rfl⟩

set_option maxHeartbeats 3200000 in
set_option maxRecDepth 100000 in
theorem refOf (t : Int) (g : Nat) (A : Option Addr) (n c : Nat) (l : List Ev) (w : World) (hr : ReadsE w A n l) (hl : l.length ≤ 1000) :
    Calls Tryd.prog 15 #[.slice A n c, .agg #[.int .i64 t, .int .u32 g]] w fun e w' => ∃ A' n' c', e = .returned (.slice A' n' c') ∧ n' = (l.filter fun e => e.slot == t && e.gen == g).length ∧ FreshE w w' (l.filter fun e => e.slot == t && e.gen == g) A' n' c' := by
  have hn := hr.len
  subst hn
  have HR := Lib.hid hr
  clear hr
  obtain ⟨p, hpd⟩ : ∃ p : Ev → Bool, p = fun e => e.slot == t && e.gen == g := ⟨_, rfl⟩
  rw [← hpd]
  have HPD : Hid (∀ e, p e = (e.slot == t && (e.gen : Int) == (g : Int))) := fun e => by
    rw [hpd]
    have : ((e.gen : Int) == (g : Int)) = (e.gen == g) := by rw [Bool.eq_iff_iff]; simp; omega
    rw [this]
  clear hpd
  go_enter Tryd.func15, Tryd.ntmps15
  go_wp2_with fail
  have HI0 := Lib.hid (Blk.new w 25 #[.int .i64 t, .int .u32 g])
  go_loopw [5, 6] (fun ov iv wr => ∃ (k : Nat) (A' : Option Addr) (n' c' : Nat), k ≤ l.length ∧ iv = .int .i64 k ∧ ov = .slice A' n' c' ∧ n' ≤ k ∧ Hid (n' = ((l.take k).filter p).length) ∧ Hid (FreshE w wr ((l.take k).filter p) A' n' c') ∧ Hid (Blk wr w.heap.size 25 #[.int .i64 t, .int .u32 g]) ∧ Hid (w.heap.size ∉ fp (.slice A' n' c'))) (fun _ i _ => l.length - (intOf i).toNat)
  case atStart => exact ⟨0, none, 0, 0, by omega, rfl, rfl, by omega, rfl, ⟨World.ownsRow_nil _ _ _ _, (Kept.refl _ _).alloc _, by simp [fp, Value.ownBlock]⟩, HI0, by simp [Hid, fp, Value.ownBlock]⟩
  case round =>
    obtain ⟨k, A', n', c', hk, rfl, rfl, hnk, HN, HF, HI, HX⟩ := hrel
    by_cases hlt : k < l.length
    · obtain ⟨e, he⟩ : ∃ e, l[k] = e := ⟨_, rfl⟩
      obtain ⟨b, o, rfl, hb, hcell⟩ := ReadsE.cells (HR.out.old HF.out.2.1) (by omega)
      have hcs := hcell k e (by rw [List.getElem?_eq_getElem hlt, he])
      have c0 : wr.cell? ⟨b, o + k * 8, none⟩ = some (.int .i64 e.step) := hcs 0 (by omega)
      have c1 : wr.cell? ⟨b, o + k * 8 + 1, none⟩ = some (.int .i64 e.cpu) := hcs 1 (by omega)
      have c2 : wr.cell? ⟨b, o + k * 8 + 2, none⟩ = some (.int .i64 e.kind) := hcs 2 (by omega)
      have c3 : wr.cell? ⟨b, o + k * 8 + 3, none⟩ = some (.int .i64 e.slot) := hcs 3 (by omega)
      have c4 : wr.cell? ⟨b, o + k * 8 + 4, none⟩ = some (.int .u32 e.gen) := hcs 4 (by omega)
      have c4' : wr.cell? ⟨b, o + k * 8 + 3 + 1, none⟩ = some (.int .u32 e.gen) := hcs 4 (by omega)
      have c5 : wr.cell? ⟨b, o + k * 8 + 5, none⟩ = some (.int .i64 e.op) := hcs 5 (by omega)
      have c6 : wr.cell? ⟨b, o + k * 8 + 6, none⟩ = some (.int .i64 e.code) := hcs 6 (by omega)
      have c7 : wr.cell? ⟨b, o + k * 8 + 7, none⟩ = some (.int .u64 e.n) := hcs 7 (by omega)
      have hci := HI.out.cell
      have HTK : Hid ((l.take (k + 1)).filter p = (l.take k).filter p ++ if p e then [e] else []) := by
        rw [Hid, List.take_succ_eq_append_getElem hlt, he, List.filter_append]; simp [List.filter_cons]
      have hi0 : (0 : Int) ≤ (k : Int) := by omega
      have hi1 : (k : Int) < (l.length : Int) := by omega
      have HPE := Lib.hid (HPD.out e)
      clear hcell hcs he
      cases hpe : p e
      · rw [hpe] at HTK HPE
        have hq : ∀ W, (Op.equalIn 10000 25 (.agg #[.int .i64 e.slot, .int .u32 e.gen]) (.agg #[.int .i64 t, .int .u32 g])).run Tryd.prog W = .ok false W := fun W => by rw [eqId, ← HPE.out]
        clear hpe
        simp only [Bool.false_eq_true, if_false, List.append_nil] at HTK
        go_wp2_with fail
        go_quiet (fail)
        go_wp2_with fail
        go_roundw
        case rel => exact ⟨k + 1, A', n', c', by omega, by go_num, rfl, by omega, by rw [Hid, HTK.out]; exact HN.out, by rw [HTK.out]; exact ⟨own_kept HF.out.1 ((Kept.refl [] wr).drewN _) (by simp), HF.out.2.1.drewN _, HF.out.2.2⟩, HI.out.drewN _, HX⟩
        case measure => simp [intOf]; omega
      · rw [hpe] at HTK HPE
        have hq : ∀ W, (Op.equalIn 10000 25 (.agg #[.int .i64 e.slot, .int .u32 e.gen]) (.agg #[.int .i64 t, .int .u32 g])).run Tryd.prog W = .ok true W := fun W => by rw [eqId, ← HPE.out]
        clear hpe
        simp only [if_true] at HTK
        have HF2 := Lib.hid (fun q => (⟨own_kept HF.out.1 ((Kept.refl [] wr).drewN q) (by simp), HF.out.2.1.drewN q, HF.out.2.2⟩ : FreshE w (wr.drewN q) ((l.take k).filter p) A' n' c'))
        go_wp2_with fail
        go_quiet (fail)
        go_wp2_with (at_builtin; go_must (refine wpList_append_any _ rfl _ _ _ rfl 30 (.agg (eC 0 0 0 0 0 0 0 0)) 8 64 Tryd.underlying22 Tryd.info30 rfl (by omega) (.slice A' n' c') n' (((l.take k).filter p).flatMap eL) rfl ((HF2.out _).1.alloc _) (some ⟨wr.heap.size, 0, none⟩) 1 1 (eL e) rfl (reads_ev _ _ _) (eL_one e) (by simp only [maxLen]; omega) (by omega) ?_); intro A2 c2 w3 happ; have HA := Lib.hid happ; clear happ)
        go_roundw
        case rel =>
          have happ := HA.out
          have hkb : Kept (fp (.slice A' n' c')) wr w3 := by first | exact (((Kept.refl _ wr).drewN _).alloc _).trans happ.2.1 | exact (((Kept.refl _ wr).alloc _).drewN _).trans happ.2.1
          have hsz := hkb.size
          have hsz2 : ∀ q, q ∈ fp (.slice A2 (n' + 1) c2) → q ∈ fp (.slice A' n' c') ∨ wr.heap.size ≤ q := fun q hq => by
            rcases happ.2.2 q hq with h | h
            · exact .inl h
            · exact .inr (by simp at h; omega)
          refine ⟨k + 1, A2, n' + 1, c2, by omega, by go_num, rfl, by omega, by rw [Hid, HTK.out, List.length_append, ← HN.out]; rfl, ⟨?_, ?_, ?_⟩, HI.out.kept hkb HX.out, ?_⟩
          · rw [HTK.out, List.flatMap_append]; simpa using happ.1
          · exact HF.out.2.1.trans' hkb fun q hq => .inr (HF.out.2.2 q hq)
          · intro q hq
            have := HF.out.2.1.size
            rcases hsz2 q hq with h | h
            · exact HF.out.2.2 q h
            · omega
          · intro hq
            rcases hsz2 _ hq with h | h
            · exact HX.out h
            · have := HI.out.lt; omega
        case measure => simp [intOf]; omega
    · obtain rfl : k = l.length := by omega
      have hN := HN.out
      have hF := HF.out
      rw [List.take_of_length_le (Nat.le_refl _)] at hN hF
      have HN2 := Lib.hid hN
      have HF2 := Lib.hid hF
      clear hN hF
      go_wp2_with fail
      go_ret
      exact ⟨A', n', c', rfl, HN2.out, HF2.out⟩

set_option maxRecDepth 100000 in
theorem eqEv (s c k t o d s' c' k' t' o' d' : Int) (g n g' n' : Int) (w : World) :
    (Op.equalIn 10000 30 (.agg #[.int .i64 s, .int .i64 c, .int .i64 k, .int .i64 t, .int .u32 g, .int .i64 o, .int .i64 d, .int .u64 n]) (.agg #[.int .i64 s', .int .i64 c', .int .i64 k', .int .i64 t', .int .u32 g', .int .i64 o', .int .i64 d', .int .u64 n'])).run Tryd.prog w
      = .ok (s == s' && (c == c' && (k == k' && ((t == t' && g == g') && (o == o' && (d == d' && n == n')))))) w := by
  have hS : Tryd.prog.underlying 30 = some (.struct (Tryd.prog.fieldsOf 30)) := by kernel_rfl
  have hp : Tryd.prog.stoodInHeld 30 = false := by kernel_rfl
  have hS2 : Tryd.prog.underlying 25 = some (.struct (Tryd.prog.fieldsOf 25)) := by kernel_rfl
  have hp2 : Tryd.prog.stoodInHeld 25 = false := by kernel_rfl
  have u3 := Tryd.underlying3
  have u24 := Tryd.underlying23
  have u25 := Tryd.underlying28
  rw [show (10000 : Nat) = 9999 + 1 from rfl, run_equalIn_agg w 9999 30 _ _ hS hp]
  simp only [Program.fieldsOf, Tryd.underlying30]
  have hI : ∀ (t g t' g' : Int) (W : World), (Op.equalIn 9999 25 (.agg #[.int .i64 t, .int .u32 g]) (.agg #[.int .i64 t', .int .u32 g'])).run Tryd.prog W = .ok (t == t' && g == g') W := fun t g t' g' W => by
    rw [show (9999 : Nat) = 9998 + 1 from rfl, run_equalIn_agg W 9998 25 _ _ hS2 hp2]
    simp only [Program.fieldsOf, Tryd.underlying25]
    go_simp
    by_cases h1 : t = t' <;> by_cases h2 : g = g' <;> simp [h1, h2]
  clear hS hp hS2 hp2
  go_simp
  by_cases h1 : s = s' <;> by_cases h2 : c = c' <;> by_cases h3 : k = k' <;> by_cases h4 : t = t' <;> by_cases h5 : g = g' <;> by_cases h6 : o = o' <;> by_cases h7 : d = d' <;> by_cases h8 : n = n' <;> simp [h1, h2, h3, h4, h5, h6, h7, h8]

/-- Are two events the same? -/
def Ev.same (x y : Ev) : Bool := x.step == y.step && (x.cpu == y.cpu && (x.kind == y.kind && ((x.slot == y.slot && (x.gen : Int) == (y.gen : Int)) && (x.op == y.op && (x.code == y.code && (x.n : Int) == (y.n : Int))))))
theorem Ev.same_iff (x y : Ev) : x.same y = true ↔ x = y := by
  constructor
  · intro h
    simp only [Ev.same, Bool.and_eq_true, beq_iff_eq] at h
    obtain ⟨h1, h2, h3, ⟨h4, h5⟩, h6, h7, h8⟩ := h
    cases x; cases y; simp at *; omega
  · rintro rfl; simp [Ev.same]

end Go.Proofs.YtohkgdgdblnbfaaDoor
