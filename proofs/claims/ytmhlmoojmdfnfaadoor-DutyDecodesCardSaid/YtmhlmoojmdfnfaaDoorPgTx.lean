/- strings.Builder: copyCheck, WriteString, WriteByte at a builder of the call's own; strings.Builder: WriteByte at a builder of the call's own; Packages prog and bosunref08: Steps; Packages prog and bosunref08: Simple; Packages prog and bosunref08: Text; the law's example and awake. -/
import Derived.Test.YtmhlmoojmdfnfaaDoorProg
import Derived.Test.YtmhlmoojmdfnfaaDoorWirePlain
import Derived.Lib.Builder
import Derived.Lib.AppendStr
import Derived.Laws.Externs
import Derived.Test.YtmhlmoojmdfnfaaDoorMem
import Derived.Test.YtmhlmoojmdfnfaaDoorPgC
import Derived.Deep.RegionHeld3
import Derived.Test.YtmhlmoojmdfnfaaDoorShelf
import Derived.Test.YtmhlmoojmdfnfaaDoorDeedL2
import Derived.Test.YtmhlmoojmdfnfaaDoorDeedRL

/- strings.Builder: copyCheck, WriteString, WriteByte at a builder of the call's own. -/
namespace Go.Proofs.YtmhlmoojmdfnfaaDoor
open Go.RowKit

theorem Tryd.infoB : (Tryd.prog.info? 5).map (fun i => (i.zero, i.size, i.bytes)) = some (some (.int .u8 0), 1, 1) := by kernel_rfl

set_option maxHeartbeats 1000000 in
set_option maxRecDepth 100000 in
theorem copyCheck_used (b : Nat) (w : World) (h0 : w.cell? ⟨b, 0, none⟩ = some (.pointer (some ⟨b, 0, none⟩))) :
    Calls Tryd.prog 145 #[.pointer (some ⟨b, 0, none⟩)] w fun e w' => e = .returned (.tuple #[]) ∧ w = w' := by
  obtain ⟨j, hj, _⟩ := Option.map_eq_some_iff.1 (show (Tryd.prog.info? 133).map (·.size) = some 2 by kernel_rfl)
  go_enter Tryd.func145, Tryd.ntmps145
  go_wp2
  rw [Lib.run_neq_ptr_same w _ Tryd.underlying131 hj]
  go_wp2
  go_end0
  exact ⟨rfl, rfl⟩

set_option maxHeartbeats 1000000 in
set_option maxRecDepth 100000 in
theorem copyCheck_fresh (b : Nat) (w : World) (h0 : w.cell? ⟨b, 0, none⟩ = some (.pointer none)) (hsh : w.shape? b = some (133, 2)) (hfz : w.frozen? ⟨b, 0, none⟩ = false) :
    Calls Tryd.prog 145 #[.pointer (some ⟨b, 0, none⟩)] w fun e w' => e = .returned (.tuple #[]) ∧ w' = w.setCell ⟨b, 0, none⟩ (.pointer (some ⟨b, 0, none⟩)) := by
  obtain ⟨j, hj, hjs⟩ := Option.map_eq_some_iff.1 (show (Tryd.prog.info? 133).map (·.size) = some 2 by kernel_rfl)
  go_enter Tryd.func145, Tryd.ntmps145
  go_wp2
  rw [Lib.run_to_unsafe w ⟨b, 0, none⟩ Tryd.underlying131 Tryd.underlying173 hj (by rw [hjs]; decide) hsh (Nat.zero_lt_succ 1)]
  simp only [Result.andThen]
  rw [Oper.upon_value]
  go_wp2
  rw [run_callFunc_extern Tryd.func155 (by kernel_rfl) (by kernel_rfl) (by kernel_rfl) (e := Extern.AbiNoEscape.same) (by kernel_rfl)]
  rw [Lib.run_noEscape]
  simp only [Result.andThen]
  rw [Oper.upon_value]
  go_wp2
  rw [Lib.run_from_unsafe w ⟨b, 0, none⟩ Tryd.underlying173 Tryd.underlying131 hj hsh (by kernel_rfl)]
  simp only [Result.andThen]
  rw [Oper.upon_value]
  go_wp2
  go_end0
  exact ⟨rfl, rfl⟩

theorem copyCheck_any (B b : Nat) (bs : List Value) (w : World) (h : Lib.IsBuilder 133 5 B b bs w) :
    Calls Tryd.prog 145 #[.pointer (some ⟨b, 0, none⟩)] w fun e w' => e = .returned (.tuple #[]) ∧ (Lib.BuilderAt 133 5 B b (.pointer (some ⟨b, 0, none⟩)) bs w' ∧ Below B w w') := by
  rcases h with h | h
  · refine (copyCheck_fresh b w h.cell0 h.shape h.frozen0).mono ?_
    rintro e w' ⟨rfl, rfl⟩
    exact ⟨rfl, h.used _, (Below.refl B w).setCell (p := ⟨b, 0, none⟩) h.1 _⟩
  · refine (copyCheck_used b w h.cell0).mono ?_
    rintro e w' ⟨rfl, rfl⟩
    exact ⟨rfl, h, Below.refl B _⟩

set_option maxHeartbeats 2000000 in
set_option maxRecDepth 100000 in
theorem writeString_any (B b : Nat) (bs : List Value) (s : ByteArray) (w : World) (h : Lib.IsBuilder 133 5 B b bs w) (hlen : bs.length + s.size ≤ 140737488355328) (hBw : B ≤ w.heap.size) :
    Calls Tryd.prog 108 #[.pointer (some ⟨b, 0, none⟩), .string s] w fun e w' => e = .returned (.tuple #[.int .i64 s.size, .nilIface]) ∧ (Lib.IsBuilder 133 5 B b (bs ++ Lib.strCells s) w' ∧ Below B w w') := by
  obtain ⟨i0, hi, hz0, hz1, hz2⟩ := info_parts Tryd.infoB
  have HC := Lib.hid (copyCheck_any B b bs w h)
  clear h
  go_enter Tryd.func108, Tryd.ntmps108
  go_wp2_with fail
  refine (HC.out).mono ?_
  rintro e w1 ⟨rfl, h1, hb1⟩
  obtain ⟨hB, v, hbk, hown, hne⟩ := h1
  have c0 : w1.cell? ⟨b, 0, none⟩ = some (.pointer (some ⟨b, 0, none⟩)) := by rw [Lib.cell_of_heap hbk]; rfl
  have c1 : w1.cell? ⟨b, 1, none⟩ = some v := by rw [Lib.cell_of_heap hbk]; rfl
  go_wp2_with (at_builtin; refine Lib.wpList_append_own_string _ rfl _ _ 32 9 rfl B 5 i0 Tryd.underlying32 Tryd.underlying9 hi hz0 hz1 hz2 _ _ _ rfl hown s rfl ?c3 ?c4 ?c5 ?_)
  case c3 => unfold maxLen; omega
  case c4 => omega
  case c5 => have := hb1.size; omega
  intro v' w2 hown' hgrow _
  have hlt : b < w1.heap.size := lt_of_block hbk
  have hb2 : w2.heap[b]? = some (.cells #[.pointer (some ⟨b, 0, none⟩), v] 133 (0, 0)) := by
    rw [hgrow.block b hlt (fun e => hne e.symm)]
    exact hbk
  have d0 : w2.cell? ⟨b, 0, none⟩ = some (.pointer (some ⟨b, 0, none⟩)) := by rw [Lib.cell_of_heap hb2]; rfl
  have d1 : w2.cell? ⟨b, 1, none⟩ = some v := by rw [Lib.cell_of_heap hb2]; rfl
  have f1 : w2.frozen? ⟨b, 1, none⟩ = false := Lib.frozen_of_heap hb2 1
  obtain ⟨ao, n', cap, rfl⟩ : ∃ ao n' cap, v' = .slice ao n' cap := by
    rcases hown'.2 with ⟨hv, _⟩ | ⟨g, cap, cur, hv, _⟩
    · exact ⟨_, _, _, hv⟩
    · exact ⟨_, _, _, hv⟩
  go_wp2
  go_ret2
  refine ⟨rfl, .inr ?_, ?_⟩
  · exact Lib.BuilderAt.put (T := 133) (e := 5) hB hb2 (bs' := bs ++ Lib.strCells s) (by simpa [Lib.strCells_length] using hown') (by decide)
  · exact (hb1.grown hgrow (by have := hb1.size; omega) (fun k hk => (hown.lt k hk).1)).setCell (p := ⟨b, 1, none⟩) hB _

theorem builder_new (w : World) : Lib.IsBuilder 133 5 w.heap.size w.heap.size [] (w.alloc (.cells #[.pointer none, .slice none 0 0] 133)) :=
  .inl ⟨Nat.le_refl _, .slice none 0 0, Blk.new _ _ _, World.ownsRow_nil _ _ _ _, by simp [Value.ownBlock]⟩
/-- A builder of a call's own abides what leaves its blocks alone. -/
theorem builder_kept {B b : Nat} {bs : List Value} {w w' : World} (h : Lib.IsBuilder 133 5 B b bs w) (hk : Kept [] w w') : Lib.IsBuilder 133 5 B b bs w' := by
  have hA : ∀ p, Lib.BuilderAt 133 5 B b p bs w → Lib.BuilderAt 133 5 B b p bs w' := fun p ⟨h1, v, h2, h3, h4⟩ => ⟨h1, v, Blk.kept h2 hk (by simp), own_kept h3 hk (by simp), h4⟩
  rcases h with h | h
  · exact .inl (hA _ h)
  · exact .inr (hA _ h)

end Go.Proofs.YtmhlmoojmdfnfaaDoor

/- strings.Builder: WriteByte at a builder of the call's own. -/
namespace Go.Proofs.YtmhlmoojmdfnfaaDoor
open Go.RowKit

theorem own_to {w : World} {B : Nat} {e : TypeId} {size n : Nat} {v : Value} {xs : List Value} (h : w.ownsRow 0 e size v n xs) (hb : ∀ k, k ∈ fp v → B ≤ k) : w.ownsRow B e size v n xs := by
  refine ⟨h.1, ?_⟩
  rcases h.2 with hn | ⟨g, cap, cur, rfl, _, r⟩
  · exact .inl hn
  · exact .inr ⟨g, cap, cur, rfl, hb g (by simp [fp, Value.ownBlock]), r⟩

set_option maxHeartbeats 2000000 in
set_option maxRecDepth 100000 in
theorem writeByte_any (B b : Nat) (bs : List Value) (c : Int) (w : World) (h : Lib.IsBuilder 133 5 B b bs w) (hlen : bs.length + 1 ≤ 140737488355328) (hBw : B ≤ w.heap.size) :
    Calls Tryd.prog 109 #[.pointer (some ⟨b, 0, none⟩), .int .u8 c] w fun e w' => e = .returned .nilIface ∧ (Lib.IsBuilder 133 5 B b (bs ++ [.int .u8 c]) w' ∧ Below B w w') := by
  have HC := Lib.hid (copyCheck_any B b bs w h)
  clear h
  go_enter Tryd.func109, Tryd.ntmps109
  go_wp2_with fail
  refine (HC.out).mono ?_
  rintro e w1 ⟨rfl, h1, hb1⟩
  obtain ⟨hB, v, hbk, hown, hne⟩ := h1
  have c0 : w1.cell? ⟨b, 0, none⟩ = some (.pointer (some ⟨b, 0, none⟩)) := by rw [Lib.cell_of_heap hbk]; rfl
  have c1 : w1.cell? ⟨b, 1, none⟩ = some v := by rw [Lib.cell_of_heap hbk]; rfl
  have hlt : b < w1.heap.size := lt_of_block hbk
  have HB1 : Hid (Blk w1 b 133 #[.pointer (some ⟨b, 0, none⟩), v]) := hbk
  have HBW := Lib.hid hb1
  have hsz : B ≤ w1.heap.size := by have := hb1.size; omega
  have HO : Hid ((w1.alloc (.cells #[.int .u8 c] 5)).ownsRow 0 5 1 v bs.length bs) := own_kept (own_base hown) ((Kept.refl [] _).alloc _) (by simp)
  have HFV : Hid (∀ k, k ∈ fp v → B ≤ k) := fun k hk => (hown.lt k (mem_fp.1 hk)).1
  have HR : Hid (Reads (w1.alloc (.cells #[.int .u8 c] 5)) 1 (some ⟨w1.heap.size, 0, none⟩) 1 [.int .u8 c]) := reads_one w1 5 (.int .u8 c)
  have HNE : Hid (b ∉ fp v) := fun hm => hne (mem_fp.1 hm)
  clear hbk hown hne hb1
  go_wp2_with (at_builtin; refine wpList_append_any _ rfl _ _ 32 rfl 5 (.int .u8 0) 1 1 Tryd.underlying32 Tryd.infoB rfl (by decide) v bs.length bs rfl HO.out _ 1 1 [.int .u8 c] rfl HR.out (by simp [Value.oneCell']) (by simp only [maxLen]; omega) (by omega) ?_; rintro A2 c2 w2 happ; have HA := Lib.hid happ; have hB2 := (HB1.out.alloc (.cells #[.int .u8 c] 5)).kept happ.2.1 HNE.out; have d0 := hB2.cell; have f1 := hB2.frozen; have l1 := hB2.lt; have HB2 := Lib.hid hB2; clear happ hB2)
  go_ret
  have hbl : Below B w w2 := (HBW.out.alloc hsz _).trans (HA.out.2.1.below (by simp; omega) HFV.out)
  refine ⟨rfl, .inr ?_, hbl.setCell (p := ⟨b, 1, none⟩) hB _⟩
  exact Lib.BuilderAt.put (T := 133) (e := 5) hB HB2.out (bs' := bs ++ [.int .u8 c]) (by
    have := own_to HA.out.1 (B := B) (fun k hk => by
      rcases HA.out.2.2 k hk with h1 | h1
      · exact HFV.out k h1
      · simp at h1; omega)
    simpa using this) (by decide)

end Go.Proofs.YtmhlmoojmdfnfaaDoor

/- Packages prog and bosunref08: Steps. -/
namespace Go.Proofs.YtmhlmoojmdfnfaaDoor
open Go.RowKit

/-- The last deed; without any: the zero deed. -/
def lastD (p : List Dd) : Dd := p.getLast?.getD Dd.zero
theorem lastD_snoc (p : List Dd) (d : Dd) : lastD (p ++ [d]) = d := by simp [lastD]
theorem endsExit_last (p : List Dd) : endsExit p = ((lastD p).op == 3) := by
  unfold endsExit lastD
  cases p.getLast? with
  | none => rfl
  | some d => rfl
theorem stepsP_ok {p : List Dd} (h : checkP p = 0) : stepsP p = if endsExit p then costs p else addS (costs p) 1 := by rw [stepsP, if_pos h]
theorem stepsP_no {p : List Dd} (h : checkP p ≠ 0) : stepsP p = 0 := by rw [stepsP, if_neg h]

set_option maxHeartbeats 3200000 in
set_option maxRecDepth 100000 in
theorem psteps_any (A : Option Addr) (n c : Nat) (l : List Dd) (w : World) (hr : ReadsD w A n l) (hn : n ≤ 9223372036854775807) (hnb : ∀ d ∈ l, d.n < 18446744073709551616) : Calls Tryd.prog 22 #[.slice A n c] w fun e w' => e = .returned (.int .u64 (stepsP l : Nat)) ∧ Kept [] w w' := by
  obtain rfl := hr.len
  have HCK := Lib.hid (pcheck_any A l.length c l w hr hn)
  have HR := Lib.hid hr
  have HNB := Lib.hid hnb
  clear hr hnb
  obtain ⟨ck, hck⟩ : ∃ ck, checkP l = ck := ⟨_, rfl⟩
  rw [hck] at HCK
  by_cases h0 : ck = 0
  · subst h0
    obtain ⟨hl2, hgood⟩ := checkP_zero hck
    have HG := Lib.hid hgood
    have HV := Lib.hid (stepsP_ok hck)
    clear hck hgood
    go_enter Tryd.func22, Tryd.ntmps22
    go_wp2_with fail
    refine (HCK.out).mono ?_
    rintro e w1 ⟨rfl, hk1⟩
    have HK1 := Lib.hid hk1
    have hsz := hk1.size
    clear hk1
    go_wp2_with fail
    go_loopw [3, 13] (fun nv kv wr => ∃ k : Nat, k ≤ l.length ∧ kv = .int .i64 k ∧ nv = .int .u64 (costs (l.take k) : Nat) ∧ Hid (Kept [] w wr) ∧ Hid (Blk wr w1.heap.size 41 (dCd (lastD (l.take k))))) (fun _ k _ => l.length - (intOf k).toNat)
    case atStart => exact ⟨0, by omega, rfl, rfl, HK1.out.alloc _, Blk.new _ _ _⟩
    case round =>
      obtain ⟨k, hk1, rfl, rfl, HK, HB⟩ := hrel
      by_cases hlt : k < l.length
      · obtain ⟨d, b, o, rfl, hx, hb, hc0, hc1, hc2, hc3, hc4, hc5, hc6⟩ := (HR.out.old HK.out).at_ hlt
        have hi0 : (0 : Int) ≤ (k : Int) := by omega
        have hi1 : (k : Int) < (l.length : Int) := by omega
        have hcl := costs_lt (l.take k)
        have hcd : costD d < 18446744073709551616 := by
          have := HNB.out d (List.mem_of_getElem? hx)
          unfold costD; split <;> omega
        have HT := Lib.hid (take_snoc hx)
        have HSN : Hid (costs (l.take (k + 1)) = addS (costs (l.take k)) (costD d)) := by rw [HT.out]; exact costs_snoc _ _
        have HLD : Hid (lastD (l.take (k + 1)) = d) := by rw [HT.out]; exact lastD_snoc _ _
        have hgd := HG.out d (List.mem_of_getElem? hx)
        obtain ⟨o1, a1, b1, r1, n1, m1, l1⟩ := d
        simp only at hc0 hc1 hc2 hc3 hc4 hc5 hc6
        have HC := Lib.hid (fun w => pcost_any o1 a1 b1 r1 n1 m1 l1 w hgd)
        generalize costD ⟨o1, a1, b1, r1, n1, m1, l1⟩ = cd at *
        generalize costs (l.take k) = cs at *
        have HA := Lib.hid (fun w => sadd_any cs cd w hcl hcd)
        have hf := HB.out.frozen
        have hbl := HB.out.lt
        have hbw : w.heap.size ≤ w1.heap.size := hsz
        have hne1 : ¬ (w1.heap.size = wr.heap.size) := by omega
        have hne2 : ¬ (wr.heap.size = w1.heap.size) := by omega
        have hcB := HB.out.cell
        clear hx hgd
        go_wp2_with fail
        go_region_held3 (fun w' => w'.cell? ⟨wr.heap.size, 0, none⟩ = some (.int .i64 o1) ∧ w'.cell? ⟨wr.heap.size, 1, none⟩ = some (.int .i64 a1) ∧ w'.cell? ⟨wr.heap.size, 2, none⟩ = some (.int .i64 b1) ∧ w'.cell? ⟨wr.heap.size, 3, none⟩ = some (.int .i64 r1) ∧ w'.cell? ⟨wr.heap.size, 4, none⟩ = some (.int .u64 n1) ∧ w'.cell? ⟨wr.heap.size, 5, none⟩ = some (.int .u64 m1) ∧ w'.cell? ⟨wr.heap.size, 6, none⟩ = some (.bool l1)) (go_keep) (first | (go_at_call 62; refine (HC.out _).mono ?_; rintro e w2 ⟨rfl, hk2⟩; have hB9 := (Blk.new wr 41 (dC o1 a1 b1 r1 n1 m1 l1)).drew.kept hk2 (by simp); have hc9 := hB9.cell; have HK2 := Lib.hid (((Kept.refl [] wr).alloc _).drew.trans hk2); have HB2 := Lib.hid (HB.out.kept HK2.out (by simp)); have hcB2 := HB2.out.cell; have hf2 := HB2.out.frozen; have hbl2 := HB2.out.lt; clear hB9 hk2) | (go_at_call 58; refine (HA.out _).mono ?_; rintro e w3 ⟨rfl, rfl⟩))
        go_wp2_with fail
        go_roundw
        case rel => exact ⟨k + 1, by omega, by go_num, by rw [HSN.out], (((((((HK.out.trans HK2.out).setCell (.inr hbw) _).setCell (.inr hbw) _).setCell (.inr hbw) _).setCell (.inr hbw) _).setCell (.inr hbw) _).setCell (.inr hbw) _).setCell (.inr hbw) _, by rw [HLD.out]; exact ((((((HB2.out.set 0 _).set 1 _).set 2 _).set 3 _).set 4 _).set 5 _).set 6 _⟩
        case measure => simp [intOf]; omega
      · obtain rfl : k = l.length := by omega
        have hfin : l.take l.length = l := List.take_of_length_le (Nat.le_refl _)
        rw [hfin] at HB ⊢
        have hcl := costs_lt l
        have hc0 : wr.cell? ⟨w1.heap.size, 0, none⟩ = some (.int .i64 (lastD l).op) := by rw [HB.out.cell]; rfl
        have HE := Lib.hid (endsExit_last l)
        have HA := Lib.hid (fun w => sadd_any (costs l) 1 w hcl (by omega))
        generalize (lastD l).op = lo at *
        generalize costs l = cs at *
        clear hfin
        by_cases h3 : lo = 3
        · have hb3 : (lo != 3) = false := by simp [h3]
          have HV2 : Hid (stepsP l = cs) := by
            show _ = _
            rw [HV.out, HE.out, if_pos (by simp [h3])]
          clear h3
          go_wp2_with fail
          go_ret
          exact ⟨ret_int (by rw [HV2.out]), HK.out⟩
        · have hb3 : (lo != 3) = true := by simp [h3]
          have HV2 : Hid (stepsP l = addS cs 1) := by
            show _ = _
            rw [HV.out, HE.out, if_neg (by simp [h3])]
          clear h3
          go_wp2_with fail
          refine (HA.out _).mono ?_
          rintro e w3 ⟨rfl, rfl⟩
          go_wp2_with fail
          go_ret
          exact ⟨ret_int (by rw [HV2.out]), HK.out⟩
  · have hb : (ck != 0) = true := by simp [h0]
    have HV : Hid (stepsP l = 0) := stepsP_no (by rw [hck]; exact h0)
    clear h0 hck
    go_enter Tryd.func22, Tryd.ntmps22
    go_wp2_with fail
    refine (HCK.out).mono ?_
    rintro e w1 ⟨rfl, hk1⟩
    have HK1 := Lib.hid hk1
    clear hk1
    go_wp2_with fail
    go_ret
    exact ⟨ret_int (by rw [HV.out]; rfl), HK1.out⟩

set_option maxHeartbeats 3200000 in
set_option maxRecDepth 100000 in
theorem refSteps (A : Option Addr) (n c : Nat) (l : List Dd) (w : World) (hr : ReadsD w A n l) (hn : n ≤ 9223372036854775807) (hnb : ∀ d ∈ l, d.n < 18446744073709551616) : Calls Tryd.prog 23 #[.slice A n c] w fun e w' => e = .returned (.int .u64 (stepsP l : Nat)) ∧ Kept [] w w' := by
  obtain rfl := hr.len
  have HCK := Lib.hid (refCheckP A l.length c l w hr hn)
  have HR := Lib.hid hr
  have HNB := Lib.hid hnb
  clear hr hnb
  obtain ⟨ck, hck⟩ : ∃ ck, checkP l = ck := ⟨_, rfl⟩
  rw [hck] at HCK
  by_cases h0 : ck = 0
  · subst h0
    obtain ⟨hl2, hgood⟩ := checkP_zero hck
    have HV := Lib.hid (stepsP_ok hck)
    clear hck hgood
    go_enter Tryd.func23, Tryd.ntmps23
    go_wp2_with fail
    refine (HCK.out).mono ?_
    rintro e w1 ⟨rfl, hk1⟩
    have HK1 := Lib.hid hk1
    clear hk1
    go_wp2_with fail
    go_loopw [3, 4] (fun nv kv wr => ∃ k : Nat, k ≤ l.length ∧ kv = .int .i64 k ∧ nv = .int .u64 (costs (l.take k) : Nat) ∧ Hid (Kept [] w wr)) (fun _ k _ => l.length - (intOf k).toNat)
    case atStart => exact ⟨0, by omega, rfl, rfl, HK1⟩
    case round =>
      obtain ⟨k, hk1, rfl, rfl, HK⟩ := hrel
      by_cases hlt : k < l.length
      · obtain ⟨d, b, o, rfl, hx, hb, hc0, hc1, hc2, hc3, hc4, hc5, hc6⟩ := (HR.out.old HK.out).at_ hlt
        have hi0 : (0 : Int) ≤ (k : Int) := by omega
        have hi1 : (k : Int) < (l.length : Int) := by omega
        have hcl := costs_lt (l.take k)
        have hcd : costD d < 18446744073709551616 := by
          have := HNB.out d (List.mem_of_getElem? hx)
          unfold costD; split <;> omega
        have HSN : Hid (costs (l.take (k + 1)) = addS (costs (l.take k)) (costD d)) := by rw [take_snoc hx]; exact costs_snoc _ _
        obtain ⟨o1, a1, b1, r1, n1, m1, l1⟩ := d
        simp only at hc0 hc1 hc2 hc3 hc4 hc5 hc6
        have HC := Lib.hid (fun w => refCost o1 a1 b1 r1 n1 m1 l1 w)
        generalize costD ⟨o1, a1, b1, r1, n1, m1, l1⟩ = cd at *
        generalize costs (l.take k) = cs at *
        have HA := Lib.hid (fun w => refAdd cs cd w hcl hcd)
        clear hx
        go_wp2_with fail
        refine (HC.out _).mono ?_
        rintro e w2 ⟨rfl, hk2⟩
        have HK2 := Lib.hid (HK.out.trans hk2)
        clear hk2
        go_wp2_with fail
        refine (HA.out _).mono ?_
        rintro e w3 ⟨rfl, rfl⟩
        go_wp2_with fail
        go_roundw
        case rel => exact ⟨k + 1, by omega, by go_num, by rw [HSN.out], HK2⟩
        case measure => simp [intOf]; omega
      · obtain rfl : k = l.length := by omega
        have hfin : l.take l.length = l := List.take_of_length_le (Nat.le_refl _)
        rw [hfin] at ⊢
        have hcl := costs_lt l
        have HE := Lib.hid (endsExit_last l)
        have HA := Lib.hid (fun w => refAdd (costs l) 1 w hcl (by omega))
        generalize costs l = cs at *
        clear hfin
        rcases List.eq_nil_or_concat l with rfl | ⟨q, d, hq⟩
        · have HV2 : Hid (stepsP [] = addS cs 1) := by
            show _ = _
            rw [HV.out, if_neg (by simp [endsExit])]
          go_wp2_with fail
          refine (HA.out _).mono ?_
          rintro e w3 ⟨rfl, rfl⟩
          go_wp2_with fail
          go_ret
          exact ⟨ret_int (by rw [HV2.out]), HK.out⟩
        · rw [List.concat_eq_append] at hq
          have hlq : l.length = q.length + 1 := by rw [hq]; simp
          have hld : lastD l = d := by rw [hq]; exact lastD_snoc _ _
          obtain ⟨d', b, o, rfl, hx, hb, hc0, hc1, hc2, hc3, hc4, hc5, hc6⟩ := (HR.out.old HK.out).at_ (k := l.length - 1) (by omega)
          have hdd : d' = d := by
            have h5 : l[l.length - 1]? = some d := by rw [hlq, Nat.add_sub_cancel, hq]; simp
            rw [h5] at hx; injection hx with hx; exact hx.symm
          subst hdd
          rw [hld] at HE
          have hn0 : ((l.length : Int) == 0) = false := beq_eq_false_iff_ne.2 (by omega)
          have hn1 : (1 : Int) ≤ (l.length : Int) := by omega
          have hn2 : (l.length : Int) - 1 < (l.length : Int) := by omega
          have hn3 : ((l.length : Int) - 1).toNat = l.length - 1 := by omega
          have hn4 : (0 : Int) ≤ (l.length : Int) - 1 := by omega
          have hn5 : ¬ (l.length = 0) := by omega
          obtain ⟨o1, a1, b1, r1, n1, m1, l1⟩ := d'
          simp only at hc0 HE
          clear hx hld hq hlq hc1 hc2 hc3 hc4 hc5 hc6
          by_cases h3 : o1 = 3
          · have hb3 : (o1 != 3) = false := by simp [h3]
            have HV2 : Hid (stepsP l = cs) := by
              show _ = _
              rw [HV.out, HE.out, if_pos (by simp [h3])]
            clear h3
            go_wp2_with fail
            go_ret
            exact ⟨ret_int (by rw [HV2.out]), HK.out⟩
          · have hb3 : (o1 != 3) = true := by simp [h3]
            have HV2 : Hid (stepsP l = addS cs 1) := by
              show _ = _
              rw [HV.out, HE.out, if_neg (by simp [h3])]
            clear h3
            go_wp2_with fail
            refine (HA.out _).mono ?_
            rintro e w3 ⟨rfl, rfl⟩
            go_wp2_with fail
            go_ret
            exact ⟨ret_int (by rw [HV2.out]), HK.out⟩
  · have hb : (ck != 0) = true := by simp [h0]
    have HV : Hid (stepsP l = 0) := stepsP_no (by rw [hck]; exact h0)
    clear h0 hck
    go_enter Tryd.func23, Tryd.ntmps23
    go_wp2_with fail
    refine (HCK.out).mono ?_
    rintro e w1 ⟨rfl, hk1⟩
    have HK1 := Lib.hid hk1
    clear hk1
    go_wp2_with fail
    go_ret
    exact ⟨ret_int (by rw [HV.out]; rfl), HK1.out⟩

end Go.Proofs.YtmhlmoojmdfnfaaDoor

/- Packages prog and bosunref08: Simple. -/
namespace Go.Proofs.YtmhlmoojmdfnfaaDoor
open Go.RowKit

theorem ret_nb {a b : Int} {p q : Bool} (h : a = b) (h' : p = q) : Ending.returned (.tuple #[.int .u64 a, .bool p]) = .returned (.tuple #[.int .u64 b, .bool q]) := by rw [h, h']
theorem simpleP_no {p : List Dd} (h : checkP p ≠ 0) : simpleP p = (0, false) := by rw [simpleP, if_neg h]
theorem simpleP_none {p : List Dd} (h : simL p = none) : simpleP p = (0, false) := by unfold simpleP; rw [h]; split <;> rfl
theorem simpleP_some {p : List Dd} (h0 : checkP p = 0) {lk : Int} {n m : Nat} (h : simL p = some (lk, n, m)) : simpleP p = if lk = -1 then (m, true) else (0, false) := by unfold simpleP; rw [if_pos h0, h]

set_option maxHeartbeats 3200000 in
set_option maxRecDepth 100000 in
theorem psimple_any (A : Option Addr) (n c : Nat) (l : List Dd) (w : World) (hr : ReadsD w A n l) (hn : n ≤ 9223372036854775807) (hnb : ∀ d ∈ l, d.n < 18446744073709551616) : Calls Tryd.prog 15 #[.slice A n c] w fun e w' => e = .returned (.tuple #[.int .u64 ((simpleP l).1 : Nat), .bool (simpleP l).2]) ∧ Kept [] w w' := by
  obtain rfl := hr.len
  have HCK := Lib.hid (pcheck_any A l.length c l w hr hn)
  have HR := Lib.hid hr
  have HNB := Lib.hid hnb
  clear hr hnb
  obtain ⟨ck, hck⟩ : ∃ ck, checkP l = ck := ⟨_, rfl⟩
  rw [hck] at HCK
  by_cases h0 : ck = 0
  · subst h0
    have HC0 := Lib.hid hck
    clear hck
    go_enter Tryd.func15, Tryd.ntmps15
    go_wp2_with fail
    refine (HCK.out).mono ?_
    rintro e w1 ⟨rfl, hk1⟩
    have HK1 := Lib.hid hk1
    clear hk1
    go_wp2_with fail
    go_loopw [4, 5, 6, 15] (fun lv nv mv kv wr => ∃ (k : Nat) (lk : Int) (nn mm : Nat), k ≤ l.length ∧ kv = .int .i64 k ∧ lv = .int .i64 lk ∧ nv = .int .u64 (nn : Nat) ∧ mv = .int .u64 (mm : Nat) ∧ Hid (simL (l.take k) = some (lk, nn, mm)) ∧ Hid (Kept [] w wr)) (fun _ _ _ k _ => l.length - (intOf k).toNat)
    case atStart => exact ⟨0, -1, 0, 0, by omega, rfl, rfl, rfl, rfl, rfl, HK1⟩
    case round =>
      obtain ⟨k, lk, nn, mm, hk1, rfl, rfl, rfl, rfl, HS, HK⟩ := hrel
      have hsm := sim_small l HC0.out k hk1 HS.out
      simp only at hsm
      obtain ⟨hs1, hs2, hs3⟩ := hsm
      by_cases hlt : k < l.length
      · obtain ⟨d, b, o, rfl, hx, hb, hc0, hc1, hc2, hc3, hc4, hc5, hc6⟩ := (HR.out.old HK.out).at_ hlt
        have hi0 : (0 : Int) ≤ (k : Int) := by omega
        have hi1 : (k : Int) < (l.length : Int) := by omega
        have HSN : Hid (simL (l.take (k + 1)) = simS (lk, nn, mm) d) := by
          show _ = _
          rw [take_snoc hx, simL_snoc, HS.out]; rfl
        have hnd := HNB.out d (List.mem_of_getElem? hx)
        obtain ⟨o1, a1, b1, r1, n1, m1, l1⟩ := d
        simp only at hc0 hc1 hc2 hc3 hc4 hc5 hc6 hnd
        clear hx HS
        by_cases e1 : o1 = 1
        · subst e1
          have HA := Lib.hid (fun w => sadd_any nn n1 w (by omega) hnd)
          have HV : Hid (simL (l.take (k + 1)) = some (lk, addS nn n1, mm)) := by show _ = _; rw [HSN.out, simS, if_pos rfl]
          clear HSN
          generalize addS nn n1 = nx at *
          go_wp2_with fail
          refine (HA.out _).mono ?_
          rintro e w2 ⟨rfl, rfl⟩
          go_wp2_with fail
          go_roundw
          case rel => exact ⟨k + 1, lk, nx, mm, by omega, by go_num, rfl, rfl, rfl, HV, HK.out.alloc _⟩
          case measure => simp [intOf]; omega
        · have f1 : (o1 == 1) = false := beq_eq_false_iff_ne.2 e1
          by_cases e2 : o1 = 11
          · subst e2
            by_cases e3 : a1 = lk
            · subst e3
              have HA := Lib.hid (fun w => sadd_any nn 1 w (by omega) (by omega))
              have HV : Hid (simL (l.take (k + 1)) = some (-1, nn, max mm (addS nn 1))) := by show _ = _; rw [HSN.out, simS, if_neg (by simp), if_pos ⟨rfl, rfl⟩]
              clear HSN e1
              have hab : (a1 == a1) = true := by simp
              have hlt2 := addS_lt nn 1
              generalize addS nn 1 = nx at *
              go_wp2_with fail
              refine (HA.out _).mono ?_
              rintro e w2 ⟨rfl, rfl⟩
              go_wp2_with fail
              go_roundw
              case rel => exact ⟨k + 1, -1, nn, max mm nx, by omega, by go_num, rfl, rfl, by go_num, HV, HK.out.alloc _⟩
              case measure => simp [intOf]; omega
            · have HV : Hid (simpleP l = (0, false)) := by
                refine simpleP_none (simL_take l (k + 1) ?_)
                rw [HSN.out, simS, if_neg (by simp), if_neg (fun h => e3 h.2), if_pos (.inr rfl)]
              have f3 : (a1 == lk) = false := beq_eq_false_iff_ne.2 e3
              clear HSN e1 e3
              by_cases e4 : lk = -1
              · subst e4
                go_wp2_with fail
                go_ret2
                exact ⟨ret_nb (by rw [HV.out]; rfl) (by rw [HV.out]), HK.out.alloc _⟩
              · have f4 : (lk == -1) = false := beq_eq_false_iff_ne.2 e4
                clear e4
                go_wp2_with fail
                go_ret2
                exact ⟨ret_nb (by rw [HV.out]; rfl) (by rw [HV.out]), HK.out.alloc _⟩
          · have f2 : (o1 == 11) = false := beq_eq_false_iff_ne.2 e2
            by_cases e4 : lk = -1
            · subst e4
              by_cases e5 : o1 = 9 ∨ o1 = 10
              · have HV : Hid (simL (l.take (k + 1)) = some (a1, 0, mm)) := by show _ = _; rw [HSN.out, simS, if_neg e1, if_neg (fun h => e2 h.1), if_neg (by simp [e2]), if_pos e5]
                clear HSN e1 e2 f1 f2
                rcases e5 with rfl | rfl
                all_goals
                  go_wp2_with fail
                  go_roundw
                  case rel => exact ⟨k + 1, a1, 0, mm, by omega, by go_num, rfl, rfl, rfl, HV, HK.out.alloc _⟩
                  case measure => simp [intOf]; omega
              · have HV : Hid (simL (l.take (k + 1)) = some (-1, nn, mm)) := by show _ = _; rw [HSN.out, simS, if_neg e1, if_neg (fun h => e2 h.1), if_neg (by simp [e2]), if_neg e5]
                have f5 : (o1 == 9) = false := beq_eq_false_iff_ne.2 (fun h => e5 (.inl h))
                have f6 : (o1 == 10) = false := beq_eq_false_iff_ne.2 (fun h => e5 (.inr h))
                clear HSN e1 e2 e5
                go_wp2_with fail
                go_roundw
                case rel => exact ⟨k + 1, -1, nn, mm, by omega, by go_num, rfl, rfl, rfl, HV, HK.out.alloc _⟩
                case measure => simp [intOf]; omega
            · have HV : Hid (simpleP l = (0, false)) := by
                refine simpleP_none (simL_take l (k + 1) ?_)
                rw [HSN.out, simS, if_neg e1, if_neg (fun h => e2 h.1), if_pos (.inl e4)]
              have f4 : (lk == -1) = false := beq_eq_false_iff_ne.2 e4
              clear HSN e1 e2 e4
              go_wp2_with fail
              go_ret2
              exact ⟨ret_nb (by rw [HV.out]; rfl) (by rw [HV.out]), HK.out.alloc _⟩
      · obtain rfl : k = l.length := by omega
        rw [List.take_of_length_le (Nat.le_refl _)] at HS
        have HV := Lib.hid (simpleP_some HC0.out HS.out)
        by_cases e4 : lk = -1
        · subst e4
          rw [if_pos rfl] at HV
          go_wp2_with fail
          go_ret2
          exact ⟨ret_nb (by rw [HV.out]) (by rw [HV.out]), HK.out⟩
        · rw [if_neg e4] at HV
          have f4 : (lk != -1) = true := by simp [e4]
          clear e4
          go_wp2_with fail
          go_ret2
          exact ⟨ret_nb (by rw [HV.out]; rfl) (by rw [HV.out]), HK.out⟩
  · have hb : (ck != 0) = true := by simp [h0]
    have HV : Hid (simpleP l = (0, false)) := simpleP_no (by rw [hck]; exact h0)
    clear h0 hck
    go_enter Tryd.func15, Tryd.ntmps15
    go_wp2_with fail
    refine (HCK.out).mono ?_
    rintro e w1 ⟨rfl, hk1⟩
    have HK1 := Lib.hid hk1
    clear hk1
    go_wp2_with fail
    go_ret2
    exact ⟨ret_nb (by rw [HV.out]; rfl) (by rw [HV.out]), HK1.out⟩

end Go.Proofs.YtmhlmoojmdfnfaaDoor

/- Packages prog and bosunref08: Text; the law's example and awake. -/
namespace Go.Proofs.YtmhlmoojmdfnfaaDoor
open Go.RowKit

/-- A program's text. -/
def textP (p : List Dd) : List UInt8 := p.flatMap fun d => lineD d ++ [10]
theorem textP_snoc (p : List Dd) (d : Dd) : textP (p ++ [d]) = textP p ++ (lineD d ++ [10]) := by simp [textP]
theorem lineD_le (d : Dd) (hn : d.n < 18446744073709551616) : (lineD d).length ≤ 200 := by
  obtain ⟨o, a, b, r, n, m, l⟩ := d
  by_cases hg : goodD ⟨o, a, b, r, n, m, l⟩ = true
  · have hr := goodD_ranges hg
    simp only at hr hn
    rw [lineD, if_pos hg]
    have h1 := nameD_len o
    have h2 : ∀ c, (pieceL ⟨o, a, b, r, n, m, l⟩ c).length ≤ 21 := by
      intro c
      have hx : (hex m).length ≤ 16 := by rw [hex, hexN_len]; omega
      have d1 := dec_len a.toNat (by omega)
      have d2 := dec_len b.toNat (by omega)
      have d3 := dec_len r.toNat (by omega)
      have d4 := dec_len n (by omega)
      unfold pieceL
      (repeat' split) <;> simp <;> omega
    have h3 : ∀ ps : List UInt8, (ps.flatMap (pieceL ⟨o, a, b, r, n, m, l⟩)).length ≤ 21 * ps.length := by
      intro ps
      induction ps with
      | nil => simp
      | cons c t ih => have := h2 c; simp only [List.flatMap_cons, List.length_append, List.length_cons]; omega
    have h4 := h3 (partsL o)
    have h5 := partsL_len o
    simp only [List.length_append]
    omega
  · rw [lineD, if_neg hg]; simp
theorem textP_len : ∀ (p : List Dd), (∀ d ∈ p, d.n < 18446744073709551616) → (textP p).length ≤ p.length * 201
  | [], _ => by simp [textP]
  | d :: t, h => by
    have h1 := textP_len t fun x hx => h x (by simp [hx])
    have h2 := lineD_le d (h d (by simp))
    simp only [textP, List.flatMap_cons, List.length_append, List.length_cons, List.length_nil] at *
    omega
theorem ln_size (ln : List UInt8) : (⟨ln.toArray⟩ : ByteArray).size = ln.length := by simp [ByteArray.size]
theorem ln_cells (tk ln : List UInt8) : Lib.byteCells tk ++ Lib.strCells (⟨ln.toArray⟩ : ByteArray) = Lib.byteCells (tk ++ ln) := by
  simp [Lib.byteCells, Lib.strCells]
theorem nl_cells2 (tk ln : List UInt8) : Lib.byteCells (tk ++ ln) ++ [.int .u8 10] = Lib.byteCells (tk ++ (ln ++ [10])) := by
  simp [Lib.byteCells]

set_option maxHeartbeats 3200000 in
set_option maxRecDepth 100000 in
theorem ptext_any (A : Option Addr) (n c : Nat) (l : List Dd) (w : World) (hr : ReadsD w A n l) (hl : l.length ≤ 1000) (hok : ∀ d ∈ l, d.n < 18446744073709551616 ∧ d.mask < 18446744073709551616) (hP : HasPow w) :
    Calls Tryd.prog 49 #[.slice A n c] w fun e w' => e = .returned (strV (textP l)) ∧ Kept [] w w' := by
  have hn := hr.len
  subst hn
  have HR := Lib.hid hr
  have HP := Lib.hid hP
  have HOK := Lib.hid hok
  clear hr hP hok
  go_enter Tryd.func49, Tryd.ntmps49
  go_wp2_with fail
  go_loopw [8] (fun kv wr => ∃ k : Nat, k ≤ l.length ∧ kv = .int .i64 k ∧ Hid (Lib.IsBuilder 133 5 w.heap.size w.heap.size (Lib.byteCells (textP (l.take k))) wr) ∧ Hid (Below w.heap.size w wr)) (fun k _ => l.length - (intOf k).toNat)
  case atStart => exact ⟨0, by omega, rfl, builder_new w, (Below.refl _ _).alloc (Nat.le_refl _) _⟩
  case round =>
    obtain ⟨k, hk1, rfl, HB, HW⟩ := hrel
    have hsz := HW.out.size
    by_cases hlt : k < l.length
    · obtain ⟨d, b, o, rfl, hx, hb, hc0, hc1, hc2, hc3, hc4, hc5, hc6⟩ := (HR.out.old (Kept.ofBelow HW.out _)).at_ hlt
      have hi0 : (0 : Int) ≤ (k : Int) := by omega
      have hi1 : (k : Int) < (l.length : Int) := by omega
      have hxm : d ∈ l := List.mem_of_getElem? hx
      have hsn : textP (l.take (k + 1)) = textP (l.take k) ++ (lineD d ++ [10]) := by rw [take_snoc hx]; exact textP_snoc _ _
      have hxo := HOK.out d hxm
      have hll := lineD_le d hxo.1
      have htl := textP_len (l.take k) (fun e he => (HOK.out e (List.mem_of_mem_take he)).1)
      have hlk : (l.take k).length ≤ 1000 := Nat.le_trans (List.length_take_le _ _) (by omega)
      have HL := Lib.hid (fun w h => line_any d.op d.a d.b d.r d.n d.mask d.loose w hxo.1 hxo.2 h)
      obtain ⟨o1, a1, b1, r1, n1, m1, l1⟩ := d
      simp only at HL
      simp only at hc0 hc1 hc2 hc3 hc4 hc5 hc6
      generalize lineD ⟨o1, a1, b1, r1, n1, m1, l1⟩ = ln at *
      have HSN := Lib.hid hsn
      generalize textP (l.take k) = tk at *
      have HWS := Lib.hid (fun w1 h hB => writeString_any w.heap.size w.heap.size (Lib.byteCells tk) (⟨ln.toArray⟩ : ByteArray) w1 h (by rw [Lib.byteCells_length, ln_size]; omega) hB)
      rw [ln_cells] at HWS
      have HWB := Lib.hid (fun w1 h hB => writeByte_any w.heap.size w.heap.size (Lib.byteCells (tk ++ ln)) 10 w1 h (by rw [Lib.byteCells_length, List.length_append]; omega) hB)
      rw [nl_cells2] at HWB
      clear hx hsn hxm hxo
      go_wp2_with fail
      refine (HL.out _ (by exact HP.out.old ((Kept.ofBelow HW.out _).alloc _))).mono ?_
      rintro e w1 ⟨rfl, hk2⟩
      have HK2 := Lib.hid hk2
      have HB2 := Lib.hid (builder_kept HB.out (((Kept.refl _ _).alloc _).trans hk2))
      have HW2 := Lib.hid ((HW.out.alloc (by omega) _).trans ((hk2.toBelow).mono (by simp; omega)))
      clear hk2
      go_wp2_with fail
      refine (HWS.out _ HB2.out (by have := HW2.out.size; omega)).mono ?_
      rintro e w2 ⟨rfl, hb3, hw3⟩
      have HB3 := Lib.hid hb3
      have HW3 := Lib.hid (HW2.out.trans hw3)
      clear hb3 hw3
      go_wp2_with fail
      refine (HWB.out _ HB3.out (by have := HW3.out.size; omega)).mono ?_
      rintro e w3 ⟨rfl, hb4, hw4⟩
      have HB4 := Lib.hid hb4
      have HW4 := Lib.hid (HW3.out.trans hw4)
      clear hb4 hw4
      go_wp2_with fail
      go_roundw
      case rel => exact ⟨k + 1, by omega, by go_num, by rw [HSN.out]; exact HB4, HW4⟩
      case measure => simp [intOf]; omega
    · obtain rfl : k = l.length := by omega
      have hfin : l.take l.length = l := List.take_of_length_le (Nat.le_refl _)
      rw [hfin] at HB
      clear hfin
      have HS := Lib.hid (Tryd.Builder_String_any w.heap.size w.heap.size (textP l) wr HB.out (by omega))
      generalize htl : textP l = tl at *
      have HTL := Lib.hid htl
      clear htl
      go_wp2_with fail
      refine (HS.out).mono ?_
      rintro e w2 ⟨rfl, hb⟩
      have HBB := Lib.hid (HW.out.trans hb)
      clear hb
      go_wp2_with fail
      go_ret
      exact ⟨by rw [HTL.out]; rfl, Kept.ofBelow HBB.out _⟩

set_option maxHeartbeats 3200000 in
set_option maxRecDepth 100000 in
theorem refTextP (A : Option Addr) (n c : Nat) (l : List Dd) (w : World) (hr : ReadsD w A n l) (hl : l.length ≤ 1000) (hok : ∀ d ∈ l, d.n < 18446744073709551616 ∧ d.mask < 18446744073709551616) :
    Calls Tryd.prog 50 #[.slice A n c] w fun e w' => e = .returned (strV (textP l)) ∧ Kept [] w w' := by
  have hn := hr.len
  subst hn
  have HR := Lib.hid hr
  have HOK := Lib.hid hok
  clear hr hok
  go_enter Tryd.func50, Tryd.ntmps50
  go_wp2_with fail
  go_loopw [3, 4] (fun sv kv wr => ∃ (k : Nat) (tk : List UInt8), k ≤ l.length ∧ kv = .int .i64 k ∧ sv = strV tk ∧ Hid (textP (l.take k) = tk) ∧ Hid (Kept [] w wr)) (fun _ k _ => l.length - (intOf k).toNat)
  case atStart => exact ⟨0, [], by omega, rfl, rfl, rfl, Kept.refl _ _⟩
  case round =>
    obtain ⟨k, tk, hk1, rfl, rfl, HT, HK⟩ := hrel
    by_cases hlt : k < l.length
    · obtain ⟨d, b, o, rfl, hx, hb, hc0, hc1, hc2, hc3, hc4, hc5, hc6⟩ := (HR.out.old HK.out).at_ hlt
      have hi0 : (0 : Int) ≤ (k : Int) := by omega
      have hi1 : (k : Int) < (l.length : Int) := by omega
      have hxm : d ∈ l := List.mem_of_getElem? hx
      have hsn : textP (l.take (k + 1)) = tk ++ (lineD d ++ [10]) := by rw [← HT.out, take_snoc hx]; exact textP_snoc _ _
      have hxo := HOK.out d hxm
      have hll := lineD_le d hxo.1
      have htl := textP_len (l.take k) (fun e he => (HOK.out e (List.mem_of_mem_take he)).1)
      rw [HT.out] at htl
      have hlk : (l.take k).length ≤ 1000 := Nat.le_trans (List.length_take_le _ _) (by omega)
      have HL := Lib.hid (fun w => refLine d.op d.a d.b d.r d.n d.mask d.loose w hxo.1 hxo.2)
      obtain ⟨o1, a1, b1, r1, n1, m1, l1⟩ := d
      simp only at HL
      simp only at hc0 hc1 hc2 hc3 hc4 hc5 hc6
      generalize lineD ⟨o1, a1, b1, r1, n1, m1, l1⟩ = ln at *
      have HSN := Lib.hid hsn
      clear hx hsn hxm hxo HT
      go_wp2_with fail
      refine (HL.out _).mono ?_
      rintro e w1 ⟨rfl, hk2⟩
      have HK2 := Lib.hid (HK.out.trans hk2)
      clear hk2
      go_wp2_with fail
      go_roundw
      case rel => exact ⟨k + 1, tk ++ (ln ++ [10]), by omega, by go_num, congrArg Value.string (by apply ByteArray.ext; simp [ByteArray.data_append]), HSN, HK2⟩
      case measure => simp [intOf]; omega
    · obtain rfl : k = l.length := by omega
      have hfin : textP l = tk := by rw [← HT.out, List.take_of_length_le (Nat.le_refl _)]
      have HF := Lib.hid hfin
      clear hfin HT
      go_wp2_with fail
      go_ret
      exact ⟨by rw [HF.out]; rfl, HK.out⟩

/-- The page's example. -/
def exP : List Dd := [⟨9, 0, 0, 0, 0, 0, false⟩, ⟨1, 0, 0, 0, 3, 0, false⟩, ⟨11, 0, 0, 0, 0, 0, false⟩]
set_option maxHeartbeats 1600000 in
set_option maxRecDepth 100000 in
theorem example_any (w : World) : Calls Tryd.prog 61 #[] w fun e w' => e = .returned (.slice (some ⟨w.heap.size, 0, none⟩) 3 3) ∧ ReadsD w' (some ⟨w.heap.size, 0, none⟩) 3 exP ∧ Kept [] w w' := by
  go_enter Tryd.func61, Tryd.ntmps61
  go_wp2_with fail
  go_ret
  refine ⟨rfl, ⟨rfl, fun _ => ⟨_, rfl, fun j u hu => ?_⟩⟩, (Kept.refl _ _).alloc _⟩
  rw [add_mk, Nat.zero_add]
  exact Eq.trans ((Blk.new w 41 (exP.flatMap dL).toArray).cell j) (by simpa using hu)

set_option maxHeartbeats 3200000 in
set_option maxRecDepth 100000 in
theorem awake8 (w : World) (hP : HasPow w) : Calls Tryd.prog 21 #[] w fun e w' => e = .returned (.bool true) ∧ Kept [] w w' := by
  have hnb : ∀ d ∈ exP, d.n < 18446744073709551616 ∧ d.mask < 18446744073709551616 := by
    intro d hd
    simp [exP] at hd
    rcases hd with rfl | rfl | rfl <;> simp
  have H1 : Hid (∀ w A, ReadsD w A 3 exP → Calls Tryd.prog 15 #[.slice A 3 3] w fun e w' => e = .returned (.tuple #[.int .u64 4, .bool true]) ∧ Kept [] w w') := fun w A h => psimple_any A 3 3 exP w h (by omega) (fun d hd => (hnb d hd).1)
  have H2 : Hid (∀ w A, ReadsD w A 3 exP → Calls Tryd.prog 22 #[.slice A 3 3] w fun e w' => e = .returned (.int .u64 6) ∧ Kept [] w w') := fun w A h => psteps_any A 3 3 exP w h (by omega) (fun d hd => (hnb d hd).1)
  have H3 : Hid (∀ w A, ReadsD w A 3 exP → Calls Tryd.prog 17 #[.slice A 3 3] w fun e w' => e = .returned (.int .i64 0) ∧ Kept [] w w') := fun w A h => pcheck_any A 3 3 exP w h (by omega)
  have H4 : Hid (∀ w A, ReadsD w A 3 exP → HasPow w → Calls Tryd.prog 49 #[.slice A 3 3] w fun e w' => e = .returned (strV [108, 111, 99, 107, 32, 48, 10, 119, 111, 114, 107, 32, 51, 10, 117, 110, 108, 111, 99, 107, 32, 48, 10]) ∧ Kept [] w w') := fun w A h hp => ptext_any A 3 3 exP w h (by simp [exP]) hnb hp
  have HP := Lib.hid hP
  clear hnb hP
  go_enter Tryd.func21, Tryd.ntmps21
  go_wp2_with fail
  refine (example_any _).mono ?_
  rintro e w1 ⟨rfl, hr1, hk1⟩
  have HR1 := Lib.hid hr1
  have HK1 := Lib.hid hk1
  clear hr1 hk1
  go_wp2_with fail
  refine (H1.out _ _ HR1.out).mono ?_
  rintro e w2 ⟨rfl, hk2⟩
  have HK2 := Lib.hid (HK1.out.trans hk2)
  clear hk2
  go_wp2_with fail
  refine (example_any _).mono ?_
  rintro e w3 ⟨rfl, hr3, hk3⟩
  have HR3 := Lib.hid hr3
  have HK3 := Lib.hid (HK2.out.trans hk3)
  clear hr3 hk3
  go_wp2_with fail
  refine (H2.out _ _ HR3.out).mono ?_
  rintro e w4 ⟨rfl, hk4⟩
  have HK4 := Lib.hid (HK3.out.trans hk4)
  clear hk4
  go_wp2_with fail
  refine (example_any _).mono ?_
  rintro e w5 ⟨rfl, hr5, hk5⟩
  have HR5 := Lib.hid hr5
  have HK5 := Lib.hid (HK4.out.trans hk5)
  clear hr5 hk5
  go_wp2_with fail
  refine (H3.out _ _ HR5.out).mono ?_
  rintro e w6 ⟨rfl, hk6⟩
  have HK6 := Lib.hid (HK5.out.trans hk6)
  clear hk6
  go_wp2_with fail
  refine (example_any _).mono ?_
  rintro e w7 ⟨rfl, hr7, hk7⟩
  have HR7 := Lib.hid hr7
  have HK7 := Lib.hid (HK6.out.trans hk7)
  clear hr7 hk7
  go_wp2_with fail
  refine (H4.out _ _ HR7.out (HP.out.old HK7.out)).mono ?_
  rintro e w8 ⟨rfl, hk8⟩
  have HK8 := Lib.hid (HK7.out.trans hk8)
  clear hk8
  go_wp2_with fail
  go_ret
  exact ⟨rfl, HK8.out⟩

end Go.Proofs.YtmhlmoojmdfnfaaDoor

