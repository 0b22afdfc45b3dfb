/- Law 08's few. -/
import Derived.Test.YtmhlmoojmdfnfaaDoorPgC
namespace Go.Proofs.YtmhlmoojmdfnfaaDoor
open Go.RowKit

/-- x[:k], elements of any size. -/
theorem run_cutK_hi {P : Program} (t e : TypeId) (size : Nat) (ht : P.underlying t = some (.slice e)) (hs : (P.info? e).map (·.size) = some size) (A : Option Addr) (len cap : Nat) (k : IntKind) (x : Int) (n : Nat) (hx : x = n) (h1 : n ≤ cap) (w : World) :
    (Instr.slice t (.slice A len cap) none (some (.int k x)) none).run P w = .ok (.slice A n cap) w := by
  subst hx
  have h2 : (fun x : Addr => x.add 0) = id := by funext x; simp [Addr.add]
  cases hq : P.info? e with
  | none => simp [hq] at hs
  | some i => simp [Instr.slice, Instr.sliceBounds, Instr.sliceBound, run_underlying ht, sizeOf, typeInfo, hq, asIntOf, h1, h2]
theorem ReadsD.upto {w : World} {A : Option Addr} {n : Nat} {l : List Dd} (h : ReadsD w A n l) {k : Nat} (hk : k ≤ n) : ReadsD w A k (l.take k) := by
  have := Reads.upto h hk
  rw [flatK_take dL 7 dL_len] at this
  exact this

set_option maxHeartbeats 800000 in
theorem few8_any (A : Option Addr) (n c : Nat) (l : List Dd) (w : World) (hr : ReadsD w A n l) (hc : n ≤ c) (hc2 : c ≤ 9223372036854775807) :
    Calls Tryd.prog 14 #[.slice A n c] w fun e w' => e = .returned (.slice A (l.take 300).length c) ∧ w = w' := by
  have hn := hr.len
  by_cases h : 300 < n
  · have hl : (l.take 300).length = 300 := by rw [List.length_take]; omega
    rw [hl]
    have hsl := run_cutK_hi (P := Tryd.prog) 22 41 7 Tryd.underlying22 Tryd.size41 A n c .i64 300 300 rfl (by omega)
    clear hr hn hl
    go_enter Tryd.func14, Tryd.ntmps14
    go_wp2_with fail
    go_ret
    exact ⟨rfl, rfl⟩
  · have hl : (l.take 300).length = n := by rw [List.length_take]; omega
    rw [hl]
    clear hr hn hl
    go_enter Tryd.func14, Tryd.ntmps14
    go_wp2_with fail
    go_ret
    exact ⟨rfl, rfl⟩
theorem ReadsD.few {w : World} {A : Option Addr} {n : Nat} {l : List Dd} (h : ReadsD w A n l) : ReadsD w A (l.take 300).length (l.take 300) := by
  have hn := h.len
  have := h.upto (k := (l.take 300).length) (by rw [List.length_take]; omega)
  rw [show l.take (l.take 300).length = l.take 300 by rw [List.length_take, List.take_eq_take_iff]; omega] at this
  exact this

end Go.Proofs.YtmhlmoojmdfnfaaDoor
