/- Law 26: small, next, the document's Has; new locks; walked. -/
import Derived.Test.YtfoeijiejpenpaaDoorLkY
import Derived.Test.YtfoeijiejpenpaaDoorLkR
namespace Go.Proofs.YtfoeijiejpenpaaDoor
open Go.RowKit

set_option maxHeartbeats 3200000 in
set_option maxRecDepth 100000 in
theorem small_any (kd : Nat) (hk : kd < 256) (A B : Int) (w : World) :
    Calls Tryd.prog 8 #[.agg #[.int .u8 kd, .int .i64 A, .int .i64 B]] w fun e w' => (∃ A' B', e = .returned (.agg #[.int .u8 kd, .int .i64 A', .int .i64 B'])) ∧ Kept [] w w' := by
  have h0 : (0 : Int) ≤ (kd : Int) := by omega
  have h1 : (kd : Int) < 256 := by omega
  obtain ⟨r, hr, hlt⟩ : ∃ r : Nat, (kd : Int) % 11 = r ∧ r < 11 := ⟨kd % 11, by omega, by omega⟩
  by_cases h10 : r = 10
  · subst h10
    clear hlt
    go_enter Tryd.func8, Tryd.ntmps8
    go_wp2_with fail
    refine bodyPost_ret (v := .agg #[.int .u8 kd, .int .i64 _, .int .i64 _]) (by simp [results, Tryd.results8, go_sem]; exact ⟨rfl, rfl⟩) rfl ⟨⟨_, _, rfl⟩, ((Kept.refl _ _).alloc _).alloc _⟩
  · have hb : ((r : Int) == 10) = false := beq_eq_false_iff_ne.2 (by omega)
    go_enter Tryd.func8, Tryd.ntmps8
    go_wp2_with fail
    refine bodyPost_ret (v := .agg #[.int .u8 kd, .int .i64 _, .int .i64 _]) (by simp [results, Tryd.results8, go_sem]; exact ⟨rfl, rfl⟩) rfl ⟨⟨_, _, rfl⟩, ((Kept.refl _ _).alloc _).alloc _⟩

set_option maxHeartbeats 1600000 in
theorem next_any {w : World} {a : LkA} {s : Lk} {K : Nat} {B : Nat → Prop} (h : LkAt w a s) (hI : LkInv s K B) (t : Int) :
    Calls Tryd.prog 17 #[.pointer (some ⟨a.g, 0, none⟩), .int .i64 t] w fun e w' => e = .returned (.int .i64 (nextW s.owner s.waits t)) ∧ Kept [] w w' := by
  have HW := Lib.hid (lkWaits_any h hI.whole t)
  have HO := Lib.hid (fun W (hk : Kept [] w W) => lkOwner_any (h.old hk) hI.whole (getW s.waits t).1)
  have hr := (hI.wrng t).1.1
  unfold nextW
  generalize getW s.waits t = x at *
  obtain ⟨x1, x2⟩ := x
  simp only at HW HO hr ⊢
  clear h hI
  by_cases hx : x1 = -1
  · subst hx
    rw [if_pos rfl]
    clear HO
    go_enter Tryd.func17, Tryd.ntmps17
    go_wp2_with fail
    refine (HW.out).mono ?_
    rintro e w1 ⟨rfl, hk⟩
    have HK := Lib.hid hk
    clear hk
    go_wp2_with fail
    go_ret
    exact ⟨rfl, HK.out⟩
  · rw [if_neg hx]
    have h0 : 0 ≤ x1 := by omega
    generalize getO s.owner x1 = o at *
    clear hx hr
    go_enter Tryd.func17, Tryd.ntmps17
    go_wp2_with fail
    refine (HW.out).mono ?_
    rintro e w1 ⟨rfl, hk⟩
    have HK := Lib.hid hk
    clear hk
    go_wp2_with fail
    refine (HO.out _ HK.out).mono ?_
    rintro e w2 ⟨rfl, rfl⟩
    go_wp2_with fail
    go_ret
    exact ⟨rfl, HK.out⟩

set_option maxHeartbeats 3200000 in
set_option maxRecDepth 100000 in
theorem refHas (s i : Nat) (w : World) (hs : s < 18446744073709551616) (hi : i < 64) : Calls Tryd.prog 18 #[.int .u64 s, .int .i64 i] w fun e w' => e = .returned (.bool (s.testBit i)) ∧ Kept [] w w' := by
  have HR := Lib.hid (refRow s w hs)
  have HG : Hid ((rowB s).getD i false = s.testBit i) := by show (rowB s).getD i false = _; simp [List.getD, rowB, hi]
  have HRL := Lib.hid (rowB_len s)
  generalize s.testBit i = b at *
  generalize rowB s = row at *
  have hi0 : (0 : Int) ≤ (i : Int) := by omega
  have hi1 : (i : Int) < 64 := by omega
  go_enter Tryd.func18, Tryd.ntmps18
  go_wp2_with fail
  refine (HR.out).mono ?_
  rintro e w1 ⟨rfl, hk⟩
  have HK := Lib.hid hk
  clear hk
  go_wp2_with (refine wpList_store_blk rfl 65 _ _ rfl w1.heap.size (bC row) rfl rfl 65 (bC (List.replicate 64 false)) (Blk.new w1 65 (bC (List.replicate 64 false))) (row_size _ HRL.out) (by rw [bC_size, bC_size, HRL.out]; rfl) (bC_one _) ?_; intro W2 hB2 hK2; have HB2 := Lib.hid hB2; have HK2 := Lib.hid ((HK.out.alloc _).trans' hK2 (fun k hk => .inr (by have := HK.out.size; simp at hk; omega))); have hc2 : W2.cell? ⟨w1.heap.size, i, none⟩ = some (.bool b) := (by rw [hB2.cell, bC_get _ _ (by rw [HRL.out]; exact hi), HG.out]); have hf2 := hB2.frozen; have hl2 := hB2.lt; clear hB2 hK2)
  go_ret
  exact ⟨rfl, HK2.out⟩

end Go.Proofs.YtfoeijiejpenpaaDoor
