/- The document's Answers of events. -/
import Derived.Test.YtohkgdgdblnbfaaDoorEventA
namespace Go.Proofs.YtohkgdgdblnbfaaDoor
open Go.RowKit

set_option maxHeartbeats 3200000 in
set_option maxRecDepth 100000 in
theorem refAnswers (t : Int) (g : Nat) (A : Option Addr) (n c : Nat) (l : List Ev) (w : World) (hr : ReadsE w A n l) (hl : l.length ≤ 1000) :
    Calls Tryd.prog 11 #[.slice A n c, .agg #[.int .i64 t, .int .u32 g]] w fun e w' => ∃ A' n' c', e = .returned (.slice A' n' c') ∧ n' = (ansE t g l).length ∧ FreshC w w' (ansE t g l) A' n' c' := by
  have hn := hr.len
  subst hn
  have HR := Lib.hid hr
  clear hr
  have HST : Hid (∀ k (h : k < l.length), ansE t g (l.take (k + 1)) = ansE t g (l.take k) ++ if (l[k].slot == t && (l[k].gen : Int) == (g : Int)) && l[k].kind == 3 then [l[k].code] else []) := fun k h => by
    have e1 : ((l[k].gen : Int) == (g : Int)) = (l[k].gen == g) := by rw [Bool.eq_iff_iff]; simp; omega
    rw [e1, List.take_succ_eq_append_getElem h]
    unfold ansE
    rw [List.filter_append, List.filter_append, List.map_append]
    cases h1 : (l[k].slot == t && l[k].gen == g) <;> cases h2 : (l[k].kind == 3) <;> simp [h1, h2]
  have HEND : Hid (ansE t g (l.take l.length) = ansE t g l) := by rw [Hid, List.take_of_length_le (Nat.le_refl _)]
  have HBEG : Hid (ansE t g (l.take 0) = []) := by simp [Hid, ansE]
  obtain ⟨F, hF⟩ : ∃ F : List Ev → List Int, F = ansE t g := ⟨_, rfl⟩
  rw [← hF] at HST HEND HBEG ⊢
  clear hF
  go_enter Tryd.func11, Tryd.ntmps11
  go_wp2_with fail
  have HI0 := Lib.hid (Blk.new w 25 #[.int .i64 t, .int .u32 g])
  go_loopw [5, 6] (fun ov iv wr => ∃ (k : Nat) (A' : Option Addr) (n' c' : Nat), k ≤ l.length ∧ iv = .int .i64 k ∧ ov = .slice A' n' c' ∧ n' ≤ k ∧ Hid (n' = (F (l.take k)).length) ∧ Hid (FreshC w wr (F (l.take k)) A' n' c') ∧ Hid (Blk wr w.heap.size 25 #[.int .i64 t, .int .u32 g]) ∧ Hid (w.heap.size ∉ fp (.slice A' n' c'))) (fun _ i _ => l.length - (intOf i).toNat)
  case atStart => exact ⟨0, none, 0, 0, by omega, rfl, rfl, by omega, by rw [Hid, HBEG.out]; rfl, by rw [HBEG.out]; exact ⟨World.ownsRow_nil _ _ _ _, (Kept.refl _ _).alloc _, by simp [fp, Value.ownBlock]⟩, HI0, by simp [Hid, fp, Value.ownBlock]⟩
  case round =>
    obtain ⟨k, A', n', c', hk, rfl, rfl, hnk, HN, HF, HI, HX⟩ := hrel
    by_cases hlt : k < l.length
    · have hst := HST.out k hlt
      obtain ⟨e, he⟩ : ∃ e, l[k] = e := ⟨_, rfl⟩
      rw [he] at hst
      obtain ⟨b, o, rfl, hb, hcell⟩ := ReadsE.cells (HR.out.old HF.out.2.1) (by omega)
      have hcs := hcell k e (by rw [List.getElem?_eq_getElem hlt, he])
      have c2 : wr.cell? ⟨b, o + k * 8 + 2, none⟩ = some (.int .i64 e.kind) := hcs 2 (by omega)
      have c3 : wr.cell? ⟨b, o + k * 8 + 3, none⟩ = some (.int .i64 e.slot) := hcs 3 (by omega)
      have c4 : wr.cell? ⟨b, o + k * 8 + 3 + 1, none⟩ = some (.int .u32 e.gen) := hcs 4 (by omega)
      have c4' : wr.cell? ⟨b, o + k * 8 + 4, none⟩ = some (.int .u32 e.gen) := hcs 4 (by omega)
      have c6 : wr.cell? ⟨b, o + k * 8 + 6, none⟩ = some (.int .i64 e.code) := hcs 6 (by omega)
      have hci := HI.out.cell
      have hi0 : (0 : Int) ≤ (k : Int) := by omega
      have hi1 : (k : Int) < (l.length : Int) := by omega
      have HEQ := Lib.hid (fun W => eqId e.slot t e.gen g W)
      generalize (e.slot == t && (e.gen : Int) == (g : Int)) = pe at *
      have HTK := Lib.hid hst
      have hq := HEQ.out
      clear hcell hcs he hst
      cases pe
      · simp only [Bool.false_and, Bool.false_eq_true, if_false, List.append_nil] at HTK
        go_wp2_with fail
        go_quiet (fail)
        go_wp2_with fail
        go_roundw
        case rel => exact ⟨k + 1, A', n', c', by omega, by go_num, rfl, by omega, by rw [Hid, HTK.out]; exact HN.out, by rw [HTK.out]; exact ⟨own_kept HF.out.1 ((Kept.refl [] wr).drewN _) (by simp), HF.out.2.1.drewN _, HF.out.2.2⟩, HI.out.drewN _, HX⟩
        case measure => simp [intOf]; omega
      · simp only [Bool.true_and] at HTK
        cases hk3 : (e.kind == 3)
        · rw [hk3] at HTK
          simp only [Bool.false_eq_true, if_false, List.append_nil] at HTK
          go_wp2_with fail
          go_quiet (fail)
          go_wp2_with fail
          go_roundw
          case rel => exact ⟨k + 1, A', n', c', by omega, by go_num, rfl, by omega, by rw [Hid, HTK.out]; exact HN.out, by rw [HTK.out]; exact ⟨own_kept HF.out.1 ((Kept.refl [] wr).drewN _) (by simp), HF.out.2.1.drewN _, HF.out.2.2⟩, HI.out.drewN _, HX⟩
          case measure => simp [intOf]; omega
        · rw [hk3] at HTK
          simp only [if_true] at HTK
          have HF2 := Lib.hid (fun q => (⟨own_kept HF.out.1 ((Kept.refl [] wr).drewN q) (by simp), HF.out.2.1.drewN q, HF.out.2.2⟩ : FreshC w (wr.drewN q) (F (l.take k)) A' n' c'))
          go_wp2_with fail
          go_quiet (fail)
          go_wp2_with (at_builtin; go_must (refine wpList_append_any _ rfl _ _ _ rfl 27 (.int .i64 0) 1 8 Tryd.underlying33 Tryd.info27 rfl (by omega) (.slice A' n' c') n' (cL (F (l.take k))) rfl ((HF2.out _).1.alloc _) (some ⟨wr.heap.size, 0, none⟩) 1 1 [.int .i64 e.code] rfl (reads_one _ _ _) (by simp; rfl) (by simp only [maxLen]; omega) (by omega) ?_); intro A2 c2 w3 happ; have HA := Lib.hid happ; clear happ)
          go_roundw
          case rel =>
            have happ := HA.out
            have hkb : Kept (fp (.slice A' n' c')) wr w3 := by first | exact (((Kept.refl _ wr).drewN _).alloc _).trans happ.2.1 | exact (((Kept.refl _ wr).alloc _).drewN _).trans happ.2.1
            have hsz2 : ∀ q, q ∈ fp (.slice A2 (n' + 1) c2) → q ∈ fp (.slice A' n' c') ∨ wr.heap.size ≤ q := fun q hq => by
              rcases happ.2.2 q hq with h | h
              · exact .inl h
              · exact .inr (by simp at h; omega)
            refine ⟨k + 1, A2, n' + 1, c2, by omega, by go_num, rfl, by omega, by rw [Hid, HTK.out, List.length_append, ← HN.out]; rfl, ⟨?_, ?_, ?_⟩, HI.out.kept hkb HX.out, ?_⟩
            · rw [HTK.out]; simpa [cL] using happ.1
            · exact HF.out.2.1.trans' hkb fun q hq => .inr (HF.out.2.2 q hq)
            · intro q hq
              have := HF.out.2.1.size
              rcases hsz2 q hq with h | h
              · exact HF.out.2.2 q h
              · omega
            · intro hq
              rcases hsz2 _ hq with h | h
              · exact HX.out h
              · have := HI.out.lt; omega
          case measure => simp [intOf]; omega
    · obtain rfl : k = l.length := by omega
      have hN := HN.out
      have hF := HF.out
      rw [HEND.out] at hN hF
      have HN2 := Lib.hid hN
      have HF2 := Lib.hid hF
      clear hN hF
      go_wp2_with fail
      go_ret
      exact ⟨A', n', c', rfl, HN2.out, HF2.out⟩

end Go.Proofs.YtohkgdgdblnbfaaDoor
