/- The document's Same of events. -/
import Derived.Test.YtohkgdgdblnbfaaDoorEventR
namespace Go.Proofs.YtohkgdgdblnbfaaDoor
open Go.RowKit

set_option maxHeartbeats 3200000 in
set_option maxRecDepth 100000 in
theorem refSameE (A : Option Addr) (n c : Nat) (A2 : Option Addr) (m d : Nat) (la : List Ev) (w : World) (ha : ReadsE w A n la) (hb : ReadsE w A2 m la) (hl : la.length ≤ 100000) :
    Calls Tryd.prog 13 #[.slice A n c, .slice A2 m d] w fun e w' => e = .returned (.bool true) ∧ Kept [] w w' := by
  have hn := ha.len
  have hm := hb.len
  subst hn hm
  have HA := Lib.hid ha
  have HB := Lib.hid hb
  clear ha hb
  go_enter Tryd.func13, Tryd.ntmps13
  go_wp2_with fail
  go_loopw [5] (fun iv wr => ∃ k : Nat, k ≤ la.length ∧ iv = .int .i64 k ∧ Kept [] w wr) (fun i _ => la.length - (intOf i).toNat)
  case atStart => exact ⟨0, by omega, rfl, Kept.refl _ _⟩
  case round =>
    obtain ⟨k, hk, rfl, hkw⟩ := hrel
    by_cases hlt : k < la.length
    · obtain ⟨e, he⟩ : ∃ e, la[k] = e := ⟨_, rfl⟩
      obtain ⟨b, o, rfl, hb, hcell⟩ := ReadsE.cells (HA.out.old hkw) (by omega)
      obtain ⟨b2, o2, rfl, hb2, hcell2⟩ := ReadsE.cells (HB.out.old hkw) (by omega)
      have hcs := hcell k e (by rw [List.getElem?_eq_getElem hlt, he])
      have hcs2 := hcell2 k e (by rw [List.getElem?_eq_getElem hlt, he])
      have c0 : wr.cell? ⟨b, o + k * 8, none⟩ = some (.int .i64 e.step) := hcs 0 (by omega)
      have c1 : wr.cell? ⟨b, o + k * 8 + 1, none⟩ = some (.int .i64 e.cpu) := hcs 1 (by omega)
      have c2 : wr.cell? ⟨b, o + k * 8 + 2, none⟩ = some (.int .i64 e.kind) := hcs 2 (by omega)
      have c3 : wr.cell? ⟨b, o + k * 8 + 3, none⟩ = some (.int .i64 e.slot) := hcs 3 (by omega)
      have c4 : wr.cell? ⟨b, o + k * 8 + 4, none⟩ = some (.int .u32 e.gen) := hcs 4 (by omega)
      have c5 : wr.cell? ⟨b, o + k * 8 + 5, none⟩ = some (.int .i64 e.op) := hcs 5 (by omega)
      have c6 : wr.cell? ⟨b, o + k * 8 + 6, none⟩ = some (.int .i64 e.code) := hcs 6 (by omega)
      have c7 : wr.cell? ⟨b, o + k * 8 + 7, none⟩ = some (.int .u64 e.n) := hcs 7 (by omega)
      have d0 : wr.cell? ⟨b2, o2 + k * 8, none⟩ = some (.int .i64 e.step) := hcs2 0 (by omega)
      have d1 : wr.cell? ⟨b2, o2 + k * 8 + 1, none⟩ = some (.int .i64 e.cpu) := hcs2 1 (by omega)
      have d2 : wr.cell? ⟨b2, o2 + k * 8 + 2, none⟩ = some (.int .i64 e.kind) := hcs2 2 (by omega)
      have d3 : wr.cell? ⟨b2, o2 + k * 8 + 3, none⟩ = some (.int .i64 e.slot) := hcs2 3 (by omega)
      have d4 : wr.cell? ⟨b2, o2 + k * 8 + 4, none⟩ = some (.int .u32 e.gen) := hcs2 4 (by omega)
      have d5 : wr.cell? ⟨b2, o2 + k * 8 + 5, none⟩ = some (.int .i64 e.op) := hcs2 5 (by omega)
      have d6 : wr.cell? ⟨b2, o2 + k * 8 + 6, none⟩ = some (.int .i64 e.code) := hcs2 6 (by omega)
      have d7 : wr.cell? ⟨b2, o2 + k * 8 + 7, none⟩ = some (.int .u64 e.n) := hcs2 7 (by omega)
      have hq : ∀ W, (Op.equalIn 10000 30 (.agg (eC e.step e.cpu e.kind e.slot e.gen e.op e.code e.n)) (.agg (eC e.step e.cpu e.kind e.slot e.gen e.op e.code e.n))).run Tryd.prog W = .ok true W := fun W => by rw [eqEv]; simp
      have hi0 : (0 : Int) ≤ (k : Int) := by omega
      have hi1 : (k : Int) < (la.length : Int) := by omega
      clear hcell hcs hcell2 hcs2 he
      go_wp2_with fail
      go_quiet (fail)
      go_wp2_with fail
      go_roundw
      case rel => exact ⟨k + 1, by omega, by go_num, hkw.drewN _⟩
      case measure => simp [intOf]; omega
    · obtain rfl : k = la.length := by omega
      go_wp2_with fail
      go_ret
      exact ⟨rfl, hkw⟩

end Go.Proofs.YtohkgdgdblnbfaaDoor
