/- Locks: a lock's call whole; sizes stay behind each call. -/
import Derived.Test.YtfoeijiejpenpaaGreatDoorLkDr
namespace Go.Proofs.YtfoeijiejpenpaaGreatDoor
open Go.RowKit

theorem HasDb.lt {w : World} (h : HasDb w) : 0 < w.heap.size := by
  have h0 := h 0 (by decide)
  unfold World.cell? at h0
  simp only at h0
  cases hb : w.heap[0]? with
  | none => rw [hb] at h0; simp at h0
  | some o => exact lt_of_block hb

/-- Lock, whatever it does. -/
theorem lkLock_any {w0 : Base} {w : World} {a : LkA} {s : Lk} {K : Nat} (h : LkIs w0 w a s) (hI : LkAll s K) (hK : K ≤ 1000000) (t l : Int) :
    Calls Tryz.prog 28 #[.pointer (some ⟨a.g, 0, none⟩), .int .i64 t, .int .i64 l] w fun e w' => e = .returned (.tuple #[.bool (lockB s t l), .int .i64 (mayM s t l)]) ∧ ∃ a', a'.key = a.key ∧ LkIs w0 w' a' (lockS s t l) := by
  unfold lockB lockS
  by_cases hm : mayM s t l ≠ 0
  · rw [if_pos hm]
    refine (lock_bad h hI.whole t l hm).mono ?_
    rintro e w' ⟨rfl, hl⟩
    exact ⟨by simp [hm], a, rfl, hl⟩
  · have hm0 : mayM s t l = 0 := by omega
    rw [if_neg hm, hm0]
    have hz := mayM_zero hm0
    obtain ⟨k, rfl⟩ : ∃ k : Nat, t = k := ⟨t.toNat, by omega⟩
    obtain ⟨q, rfl⟩ : ∃ q : Nat, l = q := ⟨l.toNat, by omega⟩
    simp only [Int.toNat_natCast]
    by_cases ho : getO s.owner q = -1
    · rw [if_pos ho, ho]
      refine (lock_got h hI.whole k q (by omega) (by omega) hm0 ho).mono ?_
      rintro e w' ⟨rfl, hl⟩
      exact ⟨rfl, a, rfl, hl⟩
    · rw [if_neg ho]
      have ho2 := hI.orng q
      have hw := wait_inv hI k q (by omega) (by omega) (waitsB_no hz.2.2.1) ho (closesM_no hI hz.1 (by omega) hz.2.2.2)
      refine (lock_wait h hI.whole hK k q (by omega) (by omega) hm0 ho hw.1 hw.2.1 hw.2.2.1).mono ?_
      rintro e w' ⟨rfl, hl⟩
      exact ⟨by simp [ho], hl⟩
theorem lock_same {s : Lk} {K : Nat} (h : LkAll s K) (t l : Int) : Same s (lockS s t l) := by
  refine Same.of h.whole (lock_inv h t l).whole ?_ ?_
  · unfold lockS; split
    · rfl
    · split
      · rfl
      · simp [betterS, putS]
  · unfold lockS; split
    · rfl
    · split
      · simp
      · simp [betterS, putS]
theorem unl_same {s : Lk} {K : Nat} (h : LkAll s K) (t l : Int) : Same s (unlS s t l) := by
  unfold unlS
  split
  · rename_i he
    unfold unlE at he
    split at he
    · omega
    · split at he
      · omega
      · exact pass_same h _ (by omega)
  · exact Same.refl s
theorem setLevel_same {s : Lk} {K : Nat} (h : LkAll s K) (t l : Int) : Same s (setLevelS s t l) := by
  refine Same.of h.whole (setLevel_inv h t l).whole ?_ ?_
  · unfold setLevelS; split
    · simp [worseS]
    · rfl
  · unfold setLevelS; split
    · simp [worseS]
    · rfl
theorem drop_ok {s : Lk} {js : List (List Int)} {K : Nat} (h : LkAll s K) (hj : JInv s js) (hl : js.length = s.eff.length) (t : Int) : LkAll (dropS s t) K ∧ JInv (dropS s t) (dropJ s js t) ∧ Same s (dropS s t) := by
  unfold dropS dropJ
  split
  · rename_i ht
    have h1 := cancel_inv h t
    have hs := cancel_same h t
    have h2 := leave_all h1 t (by rw [hs.n]; exact ht) (cancel_no h t)
    have h3 := leave_j h1 (cancel_j h hj t) (by rw [hs.n]; exact hl) t (by rw [hs.n]; exact ht)
    have h4 := passAll_ok h2 h3 (ownedL (leaveS (cancelS s t) t) t) (fun q hq => List.mem_range.1 (List.mem_filter.1 hq).1)
    exact ⟨h4.1, h4.2.1, (hs.trans (leave_same _ t)).trans h4.2.2⟩
  · exact ⟨h, hj, Same.refl s⟩

end Go.Proofs.YtfoeijiejpenpaaGreatDoor
