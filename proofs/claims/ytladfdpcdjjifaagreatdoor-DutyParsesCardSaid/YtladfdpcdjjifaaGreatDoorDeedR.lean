/- The document's Name, Parts, only, Good of a deed. -/
import Derived.Test.YtladfdpcdjjifaaGreatDoorDeedN
namespace Go.Proofs.YtladfdpcdjjifaaGreatDoor
open Go.RowKit

/-- A deed's cells. -/
abbrev dCd (d : Dd) : Array Value := dC d.op d.a d.b d.r d.n d.mask d.loose

set_option maxHeartbeats 1600000 in
theorem refOnly (o a b r : Int) (n m : Nat) (l : Bool) (w : World) : Calls Tryz.prog 92 #[.agg (dC o a b r n m l)] w fun e w' => e = .returned (.agg (dCd (onlyD ⟨o, a, b, r, n, m, l⟩))) ∧ Kept [] w w' := by
  have HP := Lib.hid (fun w => refParts o w)
  have hlen := partsL_len o
  have HO : Hid (onlyD ⟨o, a, b, r, n, m, l⟩ = (partsL o).foldl (takeP ⟨o, a, b, r, n, m, l⟩) ⟨o, 0, 0, 0, 0, 0, false⟩) := rfl
  generalize partsL o = ps at *
  go_enter Tryz.func92, Tryz.ntmps92
  go_wp2_with fail
  refine (HP.out _).mono ?_
  rintro e w1 ⟨rfl, hk1⟩
  have hB0 : Blk w1 w.heap.size 60 (dC o a b r n m l) := (((Blk.new w 60 (dC o a b r n m l)).alloc _).alloc _).kept hk1 (by simp)
  have hB1 : Blk w1 (w.heap.size + 1) 60 (dC 0 0 0 0 0 0 false) := ((Blk.newAt (w := w.alloc _) (by simp) 60 _).alloc _).kept hk1 (by simp)
  have hB2 : Blk w1 (w.heap.size + 1 + 1) 60 (dC o 0 0 0 0 0 false) := (Blk.newAt (w := (w.alloc _).alloc _) (by simp) 60 _).kept hk1 (by simp)
  have hk0 : Kept [] w w1 := ((((Kept.refl _ _).alloc _).alloc _).alloc _).trans hk1
  clear hk1
  have HB0 := Lib.hid hB0
  have HB1 := Lib.hid hB1
  have HB2 := Lib.hid hB2
  clear hB0 hB1 hB2
  go_wp2_with fail
  go_loopw [5] (fun iv wr => ∃ (k : Nat) (e : Dd), k ≤ ps.length ∧ iv = .int .i64 k ∧ Hid (e = (ps.take k).foldl (takeP ⟨o, a, b, r, n, m, l⟩) ⟨o, 0, 0, 0, 0, 0, false⟩) ∧ Hid (Blk wr w.heap.size 60 (dC o a b r n m l)) ∧ Hid (Blk wr (w.heap.size + 1) 60 (dC 0 0 0 0 0 0 false)) ∧ Hid (Blk wr (w.heap.size + 1 + 1) 60 (dCd e)) ∧ Kept [] w wr) (fun i _ => ps.length - (intOf i).toNat)
  case atStart => exact ⟨0, ⟨o, 0, 0, 0, 0, 0, false⟩, by omega, rfl, rfl, HB0, HB1, HB2, hk0⟩
  case round =>
    obtain ⟨k, e, hk, rfl, HE, HB0, HB1, HB2, hkw⟩ := hrel
    have hcd := HB0.out.cell
    have hce := HB2.out.cell
    have hfe := HB2.out.frozen
    have hlte := HB2.out.lt
    have hc0 : wr.cell? ⟨w.heap.size, 1, none⟩ = some (.int .i64 a) := by rw [hcd]; rfl
    have hc1 : wr.cell? ⟨w.heap.size, 2, none⟩ = some (.int .i64 b) := by rw [hcd]; rfl
    have hc2 : wr.cell? ⟨w.heap.size, 3, none⟩ = some (.int .i64 r) := by rw [hcd]; rfl
    have hc3 : wr.cell? ⟨w.heap.size, 4, none⟩ = some (.int .u64 n) := by rw [hcd]; rfl
    have hc4 : wr.cell? ⟨w.heap.size, 5, none⟩ = some (.int .u64 m) := by rw [hcd]; rfl
    have hc5 : wr.cell? ⟨w.heap.size, 6, none⟩ = some (.bool l) := by rw [hcd]; rfl
    have he1 : wr.cell? ⟨w.heap.size + 1 + 1, 1, none⟩ = some (.int .i64 e.a) := by rw [hce]; rfl
    have he2 : wr.cell? ⟨w.heap.size + 1 + 1, 2, none⟩ = some (.int .i64 e.b) := by rw [hce]; rfl
    have he3 : wr.cell? ⟨w.heap.size + 1 + 1, 3, none⟩ = some (.int .i64 e.r) := by rw [hce]; rfl
    have he4 : wr.cell? ⟨w.heap.size + 1 + 1, 4, none⟩ = some (.int .u64 e.n) := by rw [hce]; rfl
    have he5 : wr.cell? ⟨w.heap.size + 1 + 1, 5, none⟩ = some (.int .u64 e.mask) := by rw [hce]; rfl
    have he6 : wr.cell? ⟨w.heap.size + 1 + 1, 6, none⟩ = some (.bool e.loose) := by rw [hce]; rfl
    have he0 : wr.cell? ⟨w.heap.size + 1 + 1, 0, none⟩ = some (.int .i64 e.op) := by rw [hce]; rfl
    have hf1 := hfe 1
    have hf2 := hfe 2
    have hf3 := hfe 3
    have hf4 := hfe 4
    have hf5 := hfe 5
    have hf6 := hfe 6
    clear hcd hce hfe
    by_cases hlt : k < ps.length
    · obtain ⟨c, hlk⟩ : ∃ c : UInt8, ps[k] = c := ⟨_, rfl⟩
      have hidx : (⟨ps.toArray⟩ : ByteArray)[k]'(show k < (⟨ps.toArray⟩ : ByteArray).size from hlt) = c := hlk
      have HE2 : Hid ((ps.take (k + 1)).foldl (takeP ⟨o, a, b, r, n, m, l⟩) ⟨o, 0, 0, 0, 0, 0, false⟩ = takeP ⟨o, a, b, r, n, m, l⟩ e c) := by
        rw [Hid, List.take_succ_eq_append_getElem hlt, hlk, List.foldl_append, ← HE.out]; rfl
      clear hlk
      rcases (by by_cases h1 : c = 65 <;> by_cases h2 : c = 66 <;> by_cases h3 : c = 82 <;> by_cases h4 : c = 78 <;> by_cases h5 : c = 77 <;> simp_all : c = 65 ∨ c = 66 ∨ c = 82 ∨ c = 78 ∨ c = 77 ∨ (c ≠ 65 ∧ c ≠ 66 ∧ c ≠ 82 ∧ c ≠ 78 ∧ c ≠ 77)) with rfl | rfl | rfl | rfl | rfl | hne
      case' inr.inr.inr.inr.inr =>
        obtain ⟨n1, n2, n3, n4, n5⟩ := hne
        have HTP : Hid (takeP ⟨o, a, b, r, n, m, l⟩ e c = { e with loose := l }) := by simp [Hid, takeP, n1, n2, n3, n4, n5]
        have b1 := byte_ne n1 (rfl : _ = (65 : Int))
        have b2 := byte_ne n2 (rfl : _ = (66 : Int))
        have b3 := byte_ne n3 (rfl : _ = (82 : Int))
        have b4 := byte_ne n4 (rfl : _ = (78 : Int))
        have b5 := byte_ne n5 (rfl : _ = (77 : Int))
        clear n1 n2 n3 n4 n5
      all_goals
        go_wp2_with fail
        go_roundw
        case rel =>
          refine ⟨k + 1, takeP ⟨o, a, b, r, n, m, l⟩ e _, by omega, by go_num, HE2.out.symm, HB0.out.far (by simp only; omega) _, HB1.out.far (by simp only; omega) _, ?_, hkw.setCell (.inr (by simp only; omega)) _⟩
          first | exact HB2.out.set _ _ | (rw [HTP.out]; exact HB2.out.set _ _)
        case measure => simp [intOf]; omega
    · obtain rfl : k = ps.length := by omega
      have HE3 : Hid (onlyD ⟨o, a, b, r, n, m, l⟩ = e) := by
        have := HE.out
        rw [List.take_of_length_le (Nat.le_refl _)] at this
        rw [Hid, HO.out, this]
      have hrc := HB1.out.cell
      have hrf := HB1.out.frozen
      have hrl := HB1.out.lt
      clear hc0 hc1 hc2 hc3 hc4 hc5 hf1 hf2 hf3 hf4 hf5 hf6
      go_wp2_with fail
      rw [HE3.out]
      exact bodyPost_ret (v := .agg (dCd e)) (by simp [results, Tryz.results92, go_sem, hrc]) rfl ⟨rfl, by (repeat (first | (with_reducible exact Kept.refl _ _) | (with_reducible assumption) | (with_reducible refine Kept.alloc ?_ _) | (with_reducible refine Kept.drew ?_) | (with_reducible refine Kept.drewN ?_ _) | (with_reducible refine Kept.setCell ?_ ?_ _) | (exact .inr (Nat.le_refl _)) | (exact .inr (by simp only; omega)) | (exact .inr (by omega))))⟩

end Go.Proofs.YtladfdpcdjjifaaGreatDoor
