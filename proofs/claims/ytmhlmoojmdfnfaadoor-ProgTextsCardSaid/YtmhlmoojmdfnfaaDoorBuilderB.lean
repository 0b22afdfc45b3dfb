/- strings.Builder: WriteByte at a builder of the call's own. -/
import Derived.Test.YtmhlmoojmdfnfaaDoorBuilder
import Derived.Test.YtmhlmoojmdfnfaaDoorMem
namespace Go.Proofs.YtmhlmoojmdfnfaaDoor
open Go.RowKit

theorem own_to {w : World} {B : Nat} {e : TypeId} {size n : Nat} {v : Value} {xs : List Value} (h : w.ownsRow 0 e size v n xs) (hb : ∀ k, k ∈ fp v → B ≤ k) : w.ownsRow B e size v n xs := by
  refine ⟨h.1, ?_⟩
  rcases h.2 with hn | ⟨g, cap, cur, rfl, _, r⟩
  · exact .inl hn
  · exact .inr ⟨g, cap, cur, rfl, hb g (by simp [fp, Value.ownBlock]), r⟩

set_option maxHeartbeats 2000000 in
set_option maxRecDepth 100000 in
theorem writeByte_any (B b : Nat) (bs : List Value) (c : Int) (w : World) (h : Lib.IsBuilder 133 5 B b bs w) (hlen : bs.length + 1 ≤ 140737488355328) (hBw : B ≤ w.heap.size) :
    Calls Tryd.prog 109 #[.pointer (some ⟨b, 0, none⟩), .int .u8 c] w fun e w' => e = .returned .nilIface ∧ (Lib.IsBuilder 133 5 B b (bs ++ [.int .u8 c]) w' ∧ Below B w w') := by
  have HC := Lib.hid (copyCheck_any B b bs w h)
  clear h
  go_enter Tryd.func109, Tryd.ntmps109
  go_wp2_with fail
  refine (HC.out).mono ?_
  rintro e w1 ⟨rfl, h1, hb1⟩
  obtain ⟨hB, v, hbk, hown, hne⟩ := h1
  have c0 : w1.cell? ⟨b, 0, none⟩ = some (.pointer (some ⟨b, 0, none⟩)) := by rw [Lib.cell_of_heap hbk]; rfl
  have c1 : w1.cell? ⟨b, 1, none⟩ = some v := by rw [Lib.cell_of_heap hbk]; rfl
  have hlt : b < w1.heap.size := lt_of_block hbk
  have HB1 : Hid (Blk w1 b 133 #[.pointer (some ⟨b, 0, none⟩), v]) := hbk
  have HBW := Lib.hid hb1
  have hsz : B ≤ w1.heap.size := by have := hb1.size; omega
  have HO : Hid ((w1.alloc (.cells #[.int .u8 c] 5)).ownsRow 0 5 1 v bs.length bs) := own_kept (own_base hown) ((Kept.refl [] _).alloc _) (by simp)
  have HFV : Hid (∀ k, k ∈ fp v → B ≤ k) := fun k hk => (hown.lt k (mem_fp.1 hk)).1
  have HR : Hid (Reads (w1.alloc (.cells #[.int .u8 c] 5)) 1 (some ⟨w1.heap.size, 0, none⟩) 1 [.int .u8 c]) := reads_one w1 5 (.int .u8 c)
  have HNE : Hid (b ∉ fp v) := fun hm => hne (mem_fp.1 hm)
  clear hbk hown hne hb1
  go_wp2_with (at_builtin; refine wpList_append_any _ rfl _ _ 32 rfl 5 (.int .u8 0) 1 1 Tryd.underlying32 Tryd.infoB rfl (by decide) v bs.length bs rfl HO.out _ 1 1 [.int .u8 c] rfl HR.out (by simp [Value.oneCell']) (by simp only [maxLen]; omega) (by omega) ?_; rintro A2 c2 w2 happ; have HA := Lib.hid happ; have hB2 := (HB1.out.alloc (.cells #[.int .u8 c] 5)).kept happ.2.1 HNE.out; have d0 := hB2.cell; have f1 := hB2.frozen; have l1 := hB2.lt; have HB2 := Lib.hid hB2; clear happ hB2)
  go_ret
  have hbl : Below B w w2 := (HBW.out.alloc hsz _).trans (HA.out.2.1.below (by simp; omega) HFV.out)
  refine ⟨rfl, .inr ?_, hbl.setCell (p := ⟨b, 1, none⟩) hB _⟩
  exact Lib.BuilderAt.put (T := 133) (e := 5) hB HB2.out (bs' := bs ++ [.int .u8 c]) (by
    have := own_to HA.out.1 (B := B) (fun k hk => by
      rcases HA.out.2.2 k hk with h1 | h1
      · exact HFV.out k h1
      · simp at h1; omega)
    simpa using this) (by decide)

end Go.Proofs.YtmhlmoojmdfnfaaDoor
