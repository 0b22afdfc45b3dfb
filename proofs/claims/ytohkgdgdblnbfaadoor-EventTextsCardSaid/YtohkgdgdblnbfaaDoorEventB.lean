/- Package event: Last (a range over slices.Backward). -/
import Derived.Test.YtohkgdgdblnbfaaDoorEventF
import Derived.RangeFuncNested
import Derived.RangeFuncLeaves
import Derived.Shelf.Abstract
import Derived.OwnWalkIn
import Derived.TacticsInMore
import Derived.LoopNIn
import Derived.LoopIn
namespace Go.Proofs.YtohkgdgdblnbfaaDoor
open Go.RowKit Go.Shelf

attribute [local go_sem] Oper.semAt_some

theorem zip_back (es : List Ev) (r : Nat) (h : r < es.length) : (es.zipIdx.drop r).reverse = (es.zipIdx.drop (r + 1)).reverse ++ [(es[r], r)] := by
  have hz : r < es.zipIdx.length := by simpa using h
  rw [List.drop_eq_getElem_cons hz, List.reverse_cons]
  simp

set_option maxRecDepth 100000 in
set_option maxHeartbeats 2000000 in
theorem back1_in (n : Nat) (hn : 1 ≤ n) (l Bs n₀ len cap : Nat) (A : Option Addr) (es : List Ev) (hel : es.length = len) (hle : len ≤ 1000) (hBl : Bs < n₀) (J Jx : List (Ev × Nat) → World → Prop)
    (hY : ∀ pre x W, J pre W → pre.length < len → YieldAt Fence.wide (n - 1) Tryd.prog l #[.int .i64 ((x.2 : Nat) : Int), .agg (eC x.1.step x.1.cpu x.1.kind x.1.slot x.1.gen x.1.op x.1.code x.1.n)] W fun e W' =>
      (e = .returned (.bool true) ∧ J (pre ++ [x]) W' ∧ Below n₀ W W') ∨ (e = .returned (.bool false) ∧ Jx (pre ++ [x]) W'))
    (W : World) (hBs : W.cell? ⟨Bs, 0, none⟩ = some (.slice A len cap))
    (hA : 0 < len → ∃ b off, A = some ⟨b, off, none⟩ ∧ b < n₀ ∧ ∀ i e, es[i]? = some e → ∀ j, j < 8 → W.cell? ⟨b, off + (i * 8 + j), none⟩ = (eL e)[j]?) (h0 : J [] W) :
    CallsIn Fence.wide n Tryd.prog 55 #[.func (.yield l) #[] #[], .pointer (some ⟨Bs, 0, none⟩)] W fun e W' => (∃ v, e = .returned v) ∧
      ((∃ ys, ys = es.zipIdx.reverse ∧ J ys W') ∨ (∃ pre, (∃ r, r ≤ len ∧ pre = (es.zipIdx.drop r).reverse) ∧ Jx pre W')) := by
  have HY := Lib.hid hY
  have HA := Lib.hid hA
  have HEL := Lib.hid hel
  clear hY hA hel
  refine callsIn_of_wp Tryd.func55 rfl trivial ?_ rfl
  simp only [Tryd.ntmps55, List.size_toArray, List.length_cons, List.length_nil, Nat.reduceAdd, Nat.reduceSub, Array.replicate_succ, Array.replicate_zero, List.push_toArray, List.append_toArray, List.nil_append, List.cons_append]
  gi_wp2
  gi_loopw [3] (fun i wr => ∃ r : Nat, r ≤ len ∧ i = .int .i64 ((r : Int) - 1) ∧ Hid (J (es.zipIdx.drop r).reverse wr) ∧ Hid (Below n₀ W wr))
    (fun i _ => (intOf i + 1).toNat)
  case atStart => exact ⟨len, Nat.le_refl _, rfl, by rw [Hid, List.drop_of_length_le (by simp [HEL.out])]; exact h0, Below.refl _ _⟩
  case round =>
    obtain ⟨r, hr, rfl, HJ, HB⟩ := hrel
    have hBs2 : wr.cell? ⟨Bs, 0, none⟩ = some (.slice A len cap) := (HB.out.cell (p := ⟨Bs, 0, none⟩) hBl).trans hBs
    by_cases h0r : r = 0
    · subst h0r
      gi_wp2
      go_end0
      exact ⟨⟨_, rfl⟩, .inl ⟨_, by simp, HJ.out⟩⟩
    · obtain ⟨k, rfl⟩ : ∃ k, r = k + 1 := ⟨r - 1, by omega⟩
      have hkl : k < es.length := by have := HEL.out; omega
      obtain ⟨b, off, rfl, hb, hcell⟩ := HA.out (by omega)
      obtain ⟨e, he⟩ : ∃ e, es[k] = e := ⟨_, rfl⟩
      have hcs : ∀ j, j < 8 → wr.cell? ⟨b, off + (k * 8 + j), none⟩ = (eL e)[j]? := fun j hj => (HB.out.cell (p := ⟨b, off + (k * 8 + j), none⟩) hb).trans (hcell k e (by rw [List.getElem?_eq_getElem hkl, he]) j hj)
      have c0 : wr.cell? ⟨b, off + k * 8, none⟩ = some (.int .i64 e.step) := hcs 0 (by omega)
      have c1 : wr.cell? ⟨b, off + k * 8 + 1, none⟩ = some (.int .i64 e.cpu) := hcs 1 (by omega)
      have c2 : wr.cell? ⟨b, off + k * 8 + 2, none⟩ = some (.int .i64 e.kind) := hcs 2 (by omega)
      have c3 : wr.cell? ⟨b, off + k * 8 + 3, none⟩ = some (.int .i64 e.slot) := hcs 3 (by omega)
      have c4 : wr.cell? ⟨b, off + k * 8 + 4, none⟩ = some (.int .u32 e.gen) := hcs 4 (by omega)
      have c5 : wr.cell? ⟨b, off + k * 8 + 5, none⟩ = some (.int .i64 e.op) := hcs 5 (by omega)
      have c6 : wr.cell? ⟨b, off + k * 8 + 6, none⟩ = some (.int .i64 e.code) := hcs 6 (by omega)
      have c7 : wr.cell? ⟨b, off + k * 8 + 7, none⟩ = some (.int .u64 e.n) := hcs 7 (by omega)
      have HZ := Lib.hid (zip_back es k hkl)
      rw [he] at HZ
      obtain ⟨fn, tmps, assign, body, hy, hR⟩ := HY.out _ (e, k) wr HJ.out (by simp [HEL.out]; omega)
      dsimp only at hy
      have hkk : (((k + 1 : Nat) : Int) - 1) = (k : Int) := by omega
      rw [hkk]
      have hi1 : (k : Int) < (len : Int) := by omega
      clear hcell hcs he
      gi_wp2
      refine hR.mono ?_
      rintro e W3 (⟨rfl, hJ3, hk3⟩ | ⟨rfl, hJx3⟩)
      · gi_wp2
        go_roundw
        case rel => exact ⟨k, by omega, rfl, by rw [Hid, HZ.out]; exact hJ3, HB.out.trans hk3⟩
        case measure => simp [intOf]
      · gi_wp2
        refine bodyPost_ret (results_none rfl _ _ _) rfl ?_
        exact ⟨⟨_, rfl⟩, .inr ⟨_, ⟨k, by omega, HZ.out.symm⟩, hJx3⟩⟩

set_option maxHeartbeats 1000000 in
theorem back_in (n : Nat) (A : Option Addr) (len cap : Nat) (w : World) :
    CallsIn Fence.wide n Tryd.prog 30 #[.slice A len cap] w fun e w' => e = .returned (.func (.func 55) #[] #[.pointer (some ⟨w.heap.size, 0, none⟩)]) ∧ w' = w.alloc (.cells #[.slice A len cap] 22) := by
  refine callsIn_of_wp Tryd.func30 rfl trivial ?_ rfl
  simp only [Tryd.ntmps30, List.size_toArray, List.length_cons, List.length_nil, Nat.reduceAdd, Nat.reduceSub, Array.replicate_succ, Array.replicate_zero, List.push_toArray, List.append_toArray, List.nil_append, List.cons_append]
  gi_wp2
  go_ret
  exact ⟨rfl, rfl⟩

theorem back_stops (n : Nat) (hn : 1 ≤ n) (Bs n₀ len cap : Nat) (A : Option Addr) (es : List Ev) (hle : es.length ≤ 1000) (w0 w : World) (hBs : Bs < n₀) (hn₀ : n₀ ≤ w.heap.size)
    (hc : w.cell? ⟨Bs, 0, none⟩ = some (.slice A len cap)) (hr : ReadsE w0 A len es) (hk : Kept [] w0 w) (h0n : w0.heap.size ≤ n₀) :
    SeqStopsK Fence.wide n Tryd.prog 55 #[.pointer (some ⟨Bs, 0, none⟩)] (fun x : Ev × Nat => #[Value.int .i64 ((x.2 : Nat) : Int), .agg (eC x.1.step x.1.cpu x.1.kind x.1.slot x.1.gen x.1.op x.1.code x.1.n)]) (Below n₀) (fun ys => ys = es.zipIdx.reverse)
      (fun pre => ∃ r, r ≤ len ∧ pre = (es.zipIdx.drop r).reverse) len w := fun l J Jx W hW _ _ hY h0 => by
  have hc' := (hW.cell (p := ⟨Bs, 0, none⟩) (by simp only; omega)).trans hc
  have hel := hr.len
  refine back1_in n hn l Bs n₀ len cap A es hel.symm (by omega) hBs J Jx hY W hc' (fun hp => ?_) h0
  obtain ⟨b, o, rfl, hb, hcell⟩ := hr.cells hp
  exact ⟨b, o, rfl, by omega, fun i e he j hj => (hW.cell (p := ⟨b, o + (i * 8 + j), none⟩) (by simp only; omega)).trans ((hk.cell (p := ⟨b, o + (i * 8 + j), none⟩) hb (by simp)).trans (hcell i e he j hj))⟩

end Go.Proofs.YtohkgdgdblnbfaaDoor
