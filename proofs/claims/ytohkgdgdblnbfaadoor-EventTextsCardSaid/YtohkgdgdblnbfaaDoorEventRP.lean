/- The document's Parse of an event's line. -/
import Derived.Test.YtohkgdgdblnbfaaDoorEventPa
namespace Go.Proofs.YtohkgdgdblnbfaaDoor
open Go.RowKit

theorem ret_intE {k : IntKind} {a b : Int} (h : a = b) : Ending.returned (.int k a) = .returned (.int k b) := by rw [h]
set_option maxHeartbeats 800000 in
theorem refSmallE (x most : Nat) (w : World) (hx : x < 18446744073709551616) (hm : most ≤ 9223372036854775807) : Calls Tryd.prog 49 #[.int .u64 x, .int .u64 most] w fun e w' => e = .returned (.int .i64 (smallE x most)) ∧ w = w' := by
  by_cases h : most < x
  · go_enter Tryd.func49, Tryd.ntmps49
    go_wp2_with fail
    go_ret
    exact ⟨ret_intE (by rw [smallE, if_pos h]), rfl⟩
  · go_enter Tryd.func49, Tryd.ntmps49
    go_wp2_with fail
    go_ret
    exact ⟨ret_intE (by rw [smallE, if_neg h]), rfl⟩

theorem kindOf_inv {w : List UInt8} {k : Int} (h : kindOf w = k) (h1 : 1 ≤ k) : kindD k = w := by
  by_cases hex : ∃ j : Nat, 1 ≤ j ∧ j < 11 ∧ kindD j = w
  · obtain ⟨j, a, b, hj⟩ := hex
    have h2 := kindOf_at a (by omega) hj
    have h3 : k = (j : Int) := by omega
    rw [h3]; exact hj
  · have := kindOf_none (w := w) fun j a b e => hex ⟨j, a, b, e⟩
    omega
theorem opOfE_inv {w : List UInt8} {k : Int} (h : opOfE w = k) (h1 : 0 ≤ k) : opE k = w := by
  by_cases hex : ∃ j : Nat, j < 12 ∧ opE j = w
  · obtain ⟨j, b, hj⟩ := hex
    have h2 := opOfE_at (by omega) hj
    have h3 : k = (j : Int) := by omega
    rw [h3]; exact hj
  · have := opOfE_none (w := w) fun j b e => hex ⟨j, b, e⟩
    omega

/-- What the document's Parse works on: its result, an event, the line's words. -/
structure RP (w wr : World) (g5 : Nat) (A : Option Addr) (c : Nat) (ws : List (List UInt8)) (e : Ev) : Prop where
  res : Blk wr w.heap.size 30 (eC 0 0 0 0 0 0 0 0)
  ev : Blk wr g5 30 (eC e.step e.cpu e.kind e.slot e.gen e.op e.code e.n)
  reads : Reads wr 1 A 8 (ws.map strV)
  far : ∀ ad, A = some ad → ad.block ≠ g5
  kept : Kept [] w wr
  lt : w.heap.size < g5
section
variable {w wr wr' : World} {g5 : Nat} {A : Option Addr} {c : Nat} {ws : List (List UInt8)} {e : Ev}
theorem RP.old (h : RP w wr g5 A c ws e) (hk : Kept [] wr wr') : RP w wr' g5 A c ws e :=
  ⟨h.res.kept hk (by simp), h.ev.kept hk (by simp), h.reads.old hk, h.far, h.kept.trans hk, h.lt⟩
theorem RP.put (h : RP w wr g5 A c ws e) (i : Nat) (v : Value) (e' : Ev) (he : (eC e.step e.cpu e.kind e.slot e.gen e.op e.code e.n).setIfInBounds i v = eC e'.step e'.cpu e'.kind e'.slot e'.gen e'.op e'.code e'.n) : RP w (wr.setCell ⟨g5, i, none⟩ v) g5 A c ws e' := by
  have hk : Kept [g5] wr (wr.setCell ⟨g5, i, none⟩ v) := (Kept.refl _ _).setCell (.inl (by simp)) _
  refine ⟨h.res.kept hk (by have := h.lt; simp; omega), ?_, h.reads.kept hk (fun ad ea => by simpa using h.far ad ea), h.far, h.kept.setCell (.inr (by have := h.lt; show w.heap.size ≤ g5; omega)) _, h.lt⟩
  rw [← he]
  exact h.ev.set i v
theorem RP.keptN {G : List Nat} {M bw ow : Nat} (h : RP w wr g5 (some ⟨bw, ow, none⟩) c ws e) (hk : Kept G wr wr') (hG : ∀ q ∈ G, M ≤ q) (h1 : g5 < M) (h2 : bw < M) : RP w wr' g5 (some ⟨bw, ow, none⟩) c ws e :=
  ⟨h.res.kept hk (fun hq => by have := hG _ hq; have := h.lt; omega), h.ev.kept hk (fun hq => by have := hG _ hq; omega), h.reads.kept hk (fun ad ea hq => by injection ea with ea; subst ea; have := hG _ hq; simp only at this; omega), h.far,
    h.kept.trans' hk (fun q hq => .inr (by have := hG _ hq; have := h.lt; omega)), h.lt⟩
end
/-- A slice of one-cell elements that was made after w. -/
def FreshT (t : TypeId) (w w' : World) (xs : List Value) (A : Option Addr) (n c : Nat) : Prop :=
  w'.ownsRow 0 t 1 (.slice A n c) n xs ∧ Kept [] w w' ∧ ∀ k, k ∈ fp (.slice A n c) → w.heap.size ≤ k
theorem FreshT.old {t : TypeId} {w w' w'' : World} {xs : List Value} {A : Option Addr} {n c : Nat} (h : FreshT t w w' xs A n c) (hk : Kept [] w' w'') : FreshT t w w'' xs A n c :=
  ⟨own_kept h.1 hk (by simp), h.2.1.trans hk, h.2.2⟩
theorem Tryd.info28 : (Tryd.prog.info? 28).map (fun i => (i.zero, i.size, i.bytes)) = some (some (.int .u64 0), 1, 8) := by kernel_rfl

theorem numE_3 (x : List UInt8) (m : Nat) (h : (readD x).2 = 3) : (numE x m).2 = 3 := by rw [numE, if_pos (by omega)]; exact h
/-- Words that are of no event's form. -/
theorem parse8_form (w0 w1 w2 w3 w4 w5 w6 w7 : List UInt8) (h : (∃ x ∈ [w0, w1, w3, w4, w6, w7], (readD x).2 = 3) ∨ kindOf w2 = 0 ∨ opOfE w5 < 0) : parse8 w0 w1 w2 w3 w4 w5 w6 w7 = (Ev.zero, 3) := by
  have hw : wrongE w0 w1 w2 w3 w4 w5 w6 w7 = 3 := by
    rw [(wrongE_all _ _ _ _ _ _ _ _).2.1]
    rcases h with ⟨x, hx, h3⟩ | h | h
    · simp only [List.mem_cons, List.not_mem_nil, or_false] at hx
      rcases hx with rfl | rfl | rfl | rfl | rfl | rfl
      · exact .inl (.inl (.inl (.inl (.inl (.inl (.inl (numE_3 _ _ h3)))))))
      · exact .inl (.inl (.inl (.inl (.inl (.inl (.inr (numE_3 _ _ h3)))))))
      · exact .inl (.inl (.inl (.inl (.inr (numE_3 _ _ h3)))))
      · exact .inl (.inl (.inl (.inr (numE_3 _ _ h3))))
      · exact .inl (.inr (numE_3 _ _ h3))
      · exact .inr (numE_3 _ _ h3)
    · exact .inl (.inl (.inl (.inl (.inl (.inr (by rw [kindC, if_pos h]))))))
    · exact .inl (.inl (.inr (by rw [opC, if_pos h])))
  rw [parse8, if_neg (by omega), hw]

set_option maxHeartbeats 1600000 in
theorem refParseE_no (l : List UInt8) (w : World) (hl : l.length ≤ 100000) (hw : (words l).length ≠ 8) :
    Calls Tryd.prog 25 #[strV l] w fun e w' => e = .returned (.tuple #[.agg (eC 0 0 0 0 0 0 0 0), .int .i64 3]) ∧ Kept [] w w' := by
  have HW := Lib.hid (fun w => refWords l w hl)
  generalize words l = ws at *
  have hb : ((ws.length : Int) != 8) = true := by rw [bne_iff_ne]; omega
  clear hw
  go_enter Tryd.func25, Tryd.ntmps25
  go_wp2_with fail
  refine (HW.out _).mono ?_
  rintro e w1 ⟨A, c, rfl, hF⟩
  have hk := hF.2.1
  have hB := (Blk.new w 30 (eC 0 0 0 0 0 0 0 0)).kept hk (by simp)
  have hc := hB.cell
  have hf := hB.frozen
  have hlt := hB.lt
  have HK := Lib.hid (((Kept.refl [] w).alloc _).trans hk)
  clear hF hk hB
  go_wp2_with fail
  refine bodyPost_ret (v := .tuple #[.agg (eC 0 0 0 0 0 0 0 0), .int .i64 3]) (by simp [results, Tryd.results25, go_sem, hc]) rfl ⟨rfl, ?_⟩
  have hk2 := HK.out
  (repeat (first | (with_reducible exact Kept.refl _ _) | (with_reducible assumption) | (with_reducible refine Kept.alloc ?_ _) | (with_reducible refine Kept.drew ?_) | (with_reducible refine Kept.drewN ?_ _) | (with_reducible refine Kept.setCell ?_ ?_ _) | (exact .inr (Nat.le_refl _)) | (exact .inr (by simp only; omega)) | (exact .inr (by omega))))

end Go.Proofs.YtohkgdgdblnbfaaDoor
