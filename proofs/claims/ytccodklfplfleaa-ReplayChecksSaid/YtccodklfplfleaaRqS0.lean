/- The document's account (layer 35): what Step's walks share. -/
import Derived.Test.YtccodklfplfleaaP10
import Derived.Test.YtccodklfplfleaaRqO
namespace Go.Proofs.Ytccodklfplfleaa
open Go.RowKit

theorem stepR_no {d : Du} {a : Acc} {e : Ev} (h : stepA d a e = none) : (stepA d a e).isSome = false ∧ (stepA d a e).getD a = a := by rw [h]; exact ⟨rfl, rfl⟩
theorem stepR_yes {d : Du} {a a' : Acc} {e : Ev} (h : stepA d a e = some a') : (stepA d a e).isSome = true ∧ (stepA d a e).getD a = a' := by rw [h]; exact ⟨rfl, rfl⟩
theorem stepR_4 {d : Du} {a : Acc} {e : Ev} (hk : e.kind = 4) : stepA d a e = if hasA a e.slot e.gen && (decide ((a.th e.slot.toNat).state = 2) && decide (onA a e.cpu < 0)) then some (a.setT e.slot.toNat { a.th e.slot.toNat with state := 3, cpu := e.cpu }) else none := by unfold stepA stepB; rw [if_pos hk]
theorem stepR_8 {d : Du} {a : Acc} {e : Ev} (hk : e.kind = 8) : stepA d a e = if onA a e.cpu < 0 then some a else none := by unfold stepA stepB; rw [if_neg (by omega), if_pos hk]
theorem stepR_7 {d : Du} {a : Acc} {e : Ev} (hk : e.kind = 7) : stepA d a e = if runsA a e || (decide (onA a e.cpu < 0) && decide (e.slot = 0 ∧ e.gen = 0)) then some a else none := by unfold stepA stepB; rw [if_neg (by omega), if_neg (by omega), if_pos hk]
theorem stepR_6 {d : Du} {a : Acc} {e : Ev} (hk : e.kind = 6) : stepA d a e = if hasA a e.slot e.gen && decide ((a.th e.slot.toNat).state = 1 ∨ (a.th e.slot.toNat).state = 4) then some (a.setT e.slot.toNat { a.th e.slot.toNat with state := 2 }) else none := by unfold stepA stepB; rw [if_neg (by omega), if_neg (by omega), if_neg (by omega), if_pos hk]
section
variable {w0 : Base} {w : World} {b : RqA} {d : Du} {a : Acc}
/-- A cell of a thread is stored. -/
theorem RqIs.st1 (h : RqIs w0 w b d a) {t : Nat} (ht : t < a.T.length) (j : Nat) (hj : j < 31) (u : Value) (x' : Th) (hx : (oneL (a.th t)).set j u = oneL x') :
    (∃ v, w.cell? ⟨b.gT, t * 31 + j, none⟩ = some v) ∧ (∀ j, w.frozen? ⟨b.gT, j, none⟩ = false) ∧ (w.cell? ⟨b.g, 10, none⟩ = some (.slice (some ⟨b.gT, 0, none⟩) a.T.length a.T.length) ∧ b.g < w.heap.size ∧ b.gT < w.heap.size) ∧ RqIs w0 (w.setCell ⟨b.gT, t * 31 + j, none⟩ u) b d (a.setT t x') := by
  obtain ⟨hc, hl, hf⟩ := RqAt.th h.at_ ht
  have c := RqAt.cells h.at_
  exact ⟨⟨_, hc j _ (List.getElem?_eq_getElem (by rw [oneL_len]; exact hj))⟩, hf, ⟨c.2.2.2.2.1, c.2.2.2.2.2.2, hl⟩, RqIs.sts h ht [(j, u)] (by simpa using hj) _ hx⟩
/-- The facts of an event's walk. -/
theorem RqIs.evs (h : RqIs w0 w b d a) (hw : AWhole d a) {wb : World} {e : Ev} (hwb : w.alloc (.cells (eC e.step e.cpu e.kind e.slot e.gen e.op e.code e.n) 55) = wb) : Kept [] w wb ∧
    (∀ W, Kept [] wb W → (W.cell? ⟨b.g, 9, none⟩ = some (.pointer (some ⟨b.gr, 0, none⟩)) ∧ W.cell? ⟨b.g, 10, none⟩ = some (.slice (some ⟨b.gT, 0, none⟩) a.T.length a.T.length) ∧ b.g < W.heap.size ∧ b.gT < W.heap.size) ∧ (W.cell? ⟨w.heap.size, 0, none⟩ = some (.int .i64 e.step) ∧ W.cell? ⟨w.heap.size, 1, none⟩ = some (.int .i64 e.cpu) ∧ W.cell? ⟨w.heap.size, 2, none⟩ = some (.int .i64 e.kind) ∧ W.cell? ⟨w.heap.size, 3, none⟩ = some (.int .i64 e.slot) ∧ W.cell? ⟨w.heap.size, 4, none⟩ = some (.int .u32 e.gen) ∧ W.cell? ⟨w.heap.size, 5, none⟩ = some (.int .i64 e.op) ∧ W.cell? ⟨w.heap.size, 6, none⟩ = some (.int .i64 e.code) ∧ W.cell? ⟨w.heap.size, 7, none⟩ = some (.int .u64 e.n) ∧ w.heap.size < W.heap.size)) ∧
    (∀ W, Kept [] wb W → Calls Try.prog 27 #[.pointer (some ⟨b.gr, 0, none⟩), .agg #[.int .i64 e.slot, .int .u32 e.gen]] W fun x w' => x = .returned (.bool (hasA a e.slot e.gen)) ∧ Kept [] W w') ∧
    (∀ W, Kept [] wb W → Calls Try.prog 28 #[.pointer (some ⟨b.g, 0, none⟩), .int .i64 e.cpu] W fun x w' => x = .returned (.int .i64 (onA a e.cpu)) ∧ Kept [] W w') ∧
    (∀ W, Kept [] wb W → Calls Try.prog 29 #[.pointer (some ⟨b.g, 0, none⟩), .agg (eC e.step e.cpu e.kind e.slot e.gen e.op e.code e.n)] W fun x w' => x = .returned (.bool (runsA a e)) ∧ Kept [] W w') ∧
    ∀ W, Kept [] wb W → RqIs w0 W b d a := by
  have h0 : Kept [] w wb := by rw [← hwb]; exact (Kept.refl _ _).alloc _
  refine ⟨h0, fun W hk => ?_, fun W hk => ?_, fun W hk => ?_, fun W hk => ?_, fun W hk => h.old (h0.trans hk)⟩
  · have e0 := RqAt.old h.at_ (h0.trans hk)
    have c := RqAt.cells e0
    exact ⟨⟨c.2.2.2.1, c.2.2.2.2.1, c.2.2.2.2.2.2, (RqAt.bl e0).2.2.2.2⟩, ev_boxR hwb W hk⟩
  · exact R20Has_any (RqAt.old h.at_ (h0.trans hk)) _ _
  · exact (R35on_any (RqAt.old h.at_ (h0.trans hk)) hw _).mono fun _ _ h => ⟨h.1, by rw [h.2]; exact Kept.refl _ _⟩
  · exact R35runs_any (RqAt.old h.at_ (h0.trans hk)) hw e
end

end Go.Proofs.Ytccodklfplfleaa
