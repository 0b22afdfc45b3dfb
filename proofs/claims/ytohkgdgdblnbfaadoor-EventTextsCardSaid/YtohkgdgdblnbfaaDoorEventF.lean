/- Law 31: few. -/
import Derived.Test.YtohkgdgdblnbfaaDoorEventA2
namespace Go.Proofs.YtohkgdgdblnbfaaDoor
open Go.RowKit

theorem ReadsE.take {w : World} {A : Option Addr} {n : Nat} {l : List Ev} (h : ReadsE w A n l) (k : Nat) (hk : k ≤ n) : ReadsE w A k (l.take k) := by
  have h1 := Reads.upto h hk
  have e : (l.flatMap eL).take (k * 8) = (l.take k).flatMap eL := by
    have hl := h.len
    have h2 : l = l.take k ++ l.drop k := (List.take_append_drop k l).symm
    have h3 : ((l.take k).flatMap eL).length = k * 8 := by rw [flat_len, List.length_take]; congr 1; omega
    conv => lhs; rw [h2, List.flatMap_append]
    rw [List.take_append_of_le_length (by omega), List.take_of_length_le (by omega)]
  unfold ReadsE
  rw [← e]
  exact h1

theorem run_cut_h8 {P : Program} (t e : TypeId) (z : Value) (bytes size : Nat) (ht : P.underlying t = some (.slice e)) (hi : (P.info? e).map (fun i => (i.zero, i.size, i.bytes)) = some (some z, size, bytes)) (A : Option Addr) (len cap : Nat) (k : IntKind) (x : Int) (n : Nat) (hx : x = n) (h1 : n ≤ cap) (w : World) :
    (Instr.slice t (.slice A len cap) none (some (.int k x)) none).run P w = .ok (.slice A n cap) w := by
  subst hx
  obtain ⟨i, hi0, hz, hsize, hby⟩ := info_parts hi
  have h2 : (fun x : Addr => x.add 0) = id := by funext x; simp [Addr.add]
  simp [Instr.slice, Instr.sliceBounds, Instr.sliceBound, run_underlying ht, sizeOf, typeInfo, hi0, asIntOf, h1, h2]

set_option maxHeartbeats 800000 in
theorem few_any (A : Option Addr) (n c : Nat) (l : List Ev) (w : World) (hr : ReadsE w A n l) (hc : n ≤ c) (hc2 : c ≤ 9223372036854775807) :
    Calls Tryd.prog 8 #[.slice A n c] w fun e w' => e = .returned (.slice A (l.take 60).length c) ∧ w = w' := by
  have hn := hr.len
  by_cases h : 60 < n
  · have hl : (l.take 60).length = 60 := by rw [List.length_take]; omega
    rw [hl]
    have hsl := run_cut_h8 (P := Tryd.prog) 22 30 (.agg (eC 0 0 0 0 0 0 0 0)) 64 8 Tryd.underlying22 Tryd.info30 A n c .i64 60 60 rfl (by omega)
    clear hr hn hl
    go_enter Tryd.func8, Tryd.ntmps8
    go_wp2_with fail
    go_ret
    exact ⟨rfl, rfl⟩
  · have hl : (l.take 60).length = n := by rw [List.length_take]; omega
    rw [hl]
    clear hr hn hl
    go_enter Tryd.func8, Tryd.ntmps8
    go_wp2_with fail
    go_ret
    exact ⟨rfl, rfl⟩

end Go.Proofs.YtohkgdgdblnbfaaDoor
