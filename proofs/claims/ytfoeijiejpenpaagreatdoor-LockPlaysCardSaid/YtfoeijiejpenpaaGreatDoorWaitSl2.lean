/- slices.Delete and slices.IndexFunc at the rows of waiters. -/
import Derived.Test.YtfoeijiejpenpaaGreatDoorWaitSl
namespace Go.Proofs.YtfoeijiejpenpaaGreatDoor
open Go.RowKit

theorem run_clearK {P : Program} (w : World) (t ty e : TypeId) (k g o c n : Nat) (cur : Array Value) (z : Value) (hu : P.underlying t = some (.slice e)) (hz : (zeroValue e).run P w = .ok z w) (hs : z.cells.size = k) (hn : 0 < n)
    (hg : Blk w g e cur) (hfit : o + n * k ≤ cur.size) (h1 : ∀ v ∈ (Builtin.zeroCells z.cells n).toList, v.oneCell' = true) :
    (Builtin.clear_ #[t] ty #[.slice (some ⟨g, o, none⟩) n c]).run P w = .ok (.tuple #[]) (w.setRow g (cur.toList.take o ++ (Builtin.zeroCells z.cells n).toList ++ cur.toList.drop (o + n * k)).toArray) := by
  have hl : (Builtin.zeroCells z.cells n).toList.length = n * k := by simp [Builtin.zeroCells, hs]
  have hst := run_storeCells_at P g o e (Builtin.zeroCells z.cells n).toList 0 cur w hg (by rw [hl]; simpa using hfit) h1
  rw [hl] at hst
  obtain ⟨m, rfl⟩ : ∃ m, n = m + 1 := ⟨n - 1, by omega⟩
  simp only [Nat.add_zero] at hst
  simp [Builtin.clear_, run_underlying hu, hz, hst]

/-- The cells behind a deletion. -/
theorem del_cells (cur : List Value) (l : List WO) (i : Nat) (hi : i < l.length) (_ : l.length * 3 ≤ cur.length) (h4 : cur.take (l.length * 3) = l.flatMap oL) (z : List Value) (_ : z.length = 3) :
    ((cur.take (i * 3) ++ (l.drop (i + 1)).flatMap oL ++ cur.drop (i * 3 + ((l.drop (i + 1)).flatMap oL).length)).take ((l.length - 1) * 3) ++ z ++ (cur.take (i * 3) ++ (l.drop (i + 1)).flatMap oL ++ cur.drop (i * 3 + ((l.drop (i + 1)).flatMap oL).length)).drop ((l.length - 1) * 3 + 3))
      = (l.take i ++ l.drop (i + 1)).flatMap oL ++ (z ++ cur.drop (l.length * 3)) := by
  have hd : ((l.drop (i + 1)).flatMap oL).length = (l.length - 1 - i) * 3 := by rw [flatK_len oL 3 oL_len, List.length_drop]; omega
  have h5 : cur.take (i * 3) = (l.take i).flatMap oL := by
    have h := congrArg (List.take (i * 3)) h4
    rw [flatK_take oL 3 oL_len, List.take_take, Nat.min_eq_left (by omega)] at h
    exact h
  have h6 : ((l.take i).flatMap oL ++ (l.drop (i + 1)).flatMap oL).length = (l.length - 1) * 3 := by rw [List.length_append, hd, flatK_len oL 3 oL_len, List.length_take]; omega
  have e1 : ((l.take i).flatMap oL ++ (l.drop (i + 1)).flatMap oL ++ cur.drop (i * 3 + (l.length - 1 - i) * 3)).drop ((l.length - 1) * 3 + 3) = cur.drop (i * 3 + (l.length - 1 - i) * 3 + 3) := by
    have := congrArg (List.drop 3) (drop_pre (b := cur.drop (i * 3 + (l.length - 1 - i) * 3)) h6)
    rw [List.drop_drop, List.drop_drop] at this
    exact this
  rw [hd, h5, take_pre h6, e1, List.flatMap_append]
  simp only [List.append_assoc]
  rw [show i * 3 + (l.length - 1 - i) * 3 + 3 = l.length * 3 by omega]

set_option maxHeartbeats 4000000 in
set_option maxRecDepth 100000 in
theorem delete_any (v : Value) (l : List WO) (i : Nat) (w : World) (h : Row w v l) (hi : i < l.length) (hl : l.length ≤ 100000) :
    Calls Tryz.prog 101 #[v, .int .i64 i, .int .i64 ((i : Int) + 1)] w fun e w' => ∃ v', e = .returned v' ∧ RowGoes w v w' v' (l.take i ++ l.drop (i + 1)) := by
  have hmix : Tryz.prog.follows .mixedOrders = true := by kernel_rfl
  obtain ⟨g, cap, cur, rfl, hb, hlc, hcm, hcs, h4⟩ := h.open_ (by omega)
  unfold maxLen at hcm
  have hcl : cur.toList.length = cap * 3 := by simpa using hcs
  have hdl : ((l.drop (i + 1)).flatMap oL).length = (l.length - (i + 1)) * 3 := by rw [flatK_len oL 3 oL_len, List.length_drop]
  have hrow : ∀ j u, ((l.drop (i + 1)).flatMap oL)[j]? = some u → cur.toList[(i + 1) * 3 + j]? = some u := fun j u hu => by
    rw [← flatK_drop oL 3 oL_len, List.getElem?_drop, ← h4, List.getElem?_take] at hu
    split at hu
    · exact hu
    · cases hu
  obtain ⟨off, hoff, hsrc⟩ : ∃ off, (if cap = i + 1 then (some (⟨g, 0, none⟩ : Addr)) else some ⟨g, (i + 1) * 3, none⟩) = some ⟨g, off, none⟩ ∧ ∀ j u, ((l.drop (i + 1)).flatMap oL)[j]? = some u → cur.toList[off + j]? = some u := by
    by_cases hc : cap = i + 1
    · refine ⟨0, by rw [if_pos hc], fun j u hu => ?_⟩
      have : ((l.drop (i + 1)).flatMap oL) = [] := List.length_eq_zero_iff.1 (by rw [hdl]; omega)
      rw [this] at hu; simp at hu
    · exact ⟨(i + 1) * 3, by rw [if_neg hc], hrow⟩
  have hap : ∀ ty c2, (Builtin.append_ #[87, 87] ty #[.slice (some ⟨g, 0, none⟩) i cap, .slice (some ⟨g, off, none⟩) (l.length - (i + 1)) c2]).run Tryz.prog w.drew = .ok (.slice (some ⟨g, 0, none⟩) (l.length - 1) cap) (w.drew.setRow g (cur.toList.take (i * 3) ++ (l.drop (i + 1)).flatMap oL ++ cur.toList.drop (i * 3 + ((l.drop (i + 1)).flatMap oL).length)).toArray) := fun ty c2 => by
    have := run_append_downK (P := Tryz.prog) w.drew 87 ty 108 3 g i cap (l.length - (i + 1)) c2 cur off ((l.drop (i + 1)).flatMap oL) Tryz.underlying87 Tryz.size108 hb.drew hdl hsrc (by omega) (by rw [hdl, hcs]; omega) (flat_one _)
    rw [show i + (l.length - (i + 1)) = l.length - 1 by omega] at this
    exact this
  obtain ⟨W1, hW1⟩ : ∃ W1, W1 = w.drew.setRow g (cur.toList.take (i * 3) ++ (l.drop (i + 1)).flatMap oL ++ cur.toList.drop (i * 3 + ((l.drop (i + 1)).flatMap oL).length)).toArray := ⟨_, rfl⟩
  rw [← hW1] at hap
  have hb1 : Blk W1 g 108 (cur.toList.take (i * 3) ++ (l.drop (i + 1)).flatMap oL ++ cur.toList.drop (i * 3 + ((l.drop (i + 1)).flatMap oL).length)).toArray := by rw [hW1]; exact hb.drew.setRow _
  have hk1 : Kept [g] w W1 := by rw [hW1]; exact (Kept.refl _ _).drew.setRow (.inl (by simp)) _
  have hzc : (Builtin.zeroCells (Value.agg (oC 0 0 0)).cells 1).toList = oL ⟨0, 0, 0⟩ := by kernel_rfl
  have hcr : ∀ ty c2, (Builtin.clear_ #[87] ty #[.slice (some ⟨g, (l.length - 1) * 3, none⟩) 1 c2]).run Tryz.prog W1 = .ok (.tuple #[]) (W1.setRow g ((l.take i ++ l.drop (i + 1)).flatMap oL ++ (oL ⟨0, 0, 0⟩ ++ cur.toList.drop (l.length * 3))).toArray) := fun ty c2 => by
    have := run_clearK (P := Tryz.prog) W1 87 ty 108 3 g ((l.length - 1) * 3) c2 1 _ (.agg (oC 0 0 0)) Tryz.underlying87 (by kernel_rfl) rfl (by omega) hb1 (by
      rw [List.size_toArray, List.length_append, List.length_append, List.length_take, List.length_drop, hdl, hcl]; omega) (by rw [hzc]; exact oL_one _)
    rw [hzc, List.toList_toArray, Nat.one_mul, del_cells cur.toList l i hi (by omega) h4 _ rfl] at this
    exact this
  have hfin : ∀ W2, W2 = W1.setRow g ((l.take i ++ l.drop (i + 1)).flatMap oL ++ (oL ⟨0, 0, 0⟩ ++ cur.toList.drop (l.length * 3))).toArray → RowGoes w (.slice (some ⟨g, 0, none⟩) l.length cap) W2 (.slice (some ⟨g, 0, none⟩) (l.length - 1) cap) (l.take i ++ l.drop (i + 1)) := by
    rintro W2 rfl
    have hll : (l.take i ++ l.drop (i + 1)).length = l.length - 1 := by simp; omega
    refine ⟨?_, ?_, fun k hk => .inl hk⟩
    · rw [← hll]
      refine Row.mk_ (hb1.setRow _) (by omega) (by unfold maxLen; omega) ?_ ?_
      · rw [List.size_toArray, List.length_append, List.length_append, flatK_len oL 3 oL_len, hll, List.length_drop, hcl, oL_len]; omega
      · rw [List.toList_toArray, take_pre (flatK_len oL 3 oL_len _)]
    · exact (hk1.mono (by simp [fp, Value.ownBlock])).setRow (.inl (by simp [fp, Value.ownBlock])) _
  have HF := Lib.hid hfin
  have hoff1 : (if cap = i + 1 then (some (⟨g, 0, none⟩ : Addr)) else some ⟨g, (i + 1) * 3, none⟩) = some ⟨g, off, none⟩ := hoff
  have hw1 : IntKind.i64.wrap ((i : Int) + 1) = (i : Int) + 1 := by rw [IntKind.wrap_i64]; omega
  have hb1' : (0 : Int) ≤ (i : Int) + 1 := by omega
  have htn : ((i : Int) + 1).toNat = i + 1 := by omega
  have hne : ((i : Int) == (i : Int) + 1) = false := beq_eq_false_iff_ne.2 (by omega)
  have hb3 : (i : Int) + 1 ≤ (l.length : Int) := by omega
  have hb4 : ¬ (l.length = i) := by omega
  have hb5 : ¬ (cap = l.length - 1) := by omega
  have hb6 : l.length - (l.length - 1) = 1 := by omega
  have hb7 : i ≤ cap := by omega
  have hb8 : i + 1 ≤ l.length := by omega
  have HAP := Lib.hid hap
  clear hap h hb h4 hcs hcl hfin hW1 hb1 hk1 hsrc hdl hrow hoff hzc
  go_enter Tryz.func101, Tryz.ntmps101
  go_wp2
  go_region_law (refine step_append_runK rfl (.tmp 22) (.tmp 25) 87 87 rfl (.slice (some ⟨g, 0, none⟩) i cap) (.slice (some ⟨g, off, none⟩) (l.length - (i + 1)) (cap - (i + 1))) (by simp [Act.eval, Act.put]) (by simp [Act.eval, Act.put]) (HAP.out _ _) ?_)
  go_wp2
  go_ret
  exact ⟨_, rfl, HF.out _ (by simp only [List.flatMap_append, List.append_assoc])⟩

/-- The first place at which p holds, or -1. -/
def IdxOf (p : WO → Bool) (l : List WO) (v : Int) : Prop :=
  (∃ (k : Nat) (x : WO), v = k ∧ l[k]? = some x ∧ p x = true ∧ ∀ j y, j < k → l[j]? = some y → p y = false) ∨ (v = -1 ∧ ∀ x ∈ l, p x = false)

set_option maxHeartbeats 3200000 in
set_option maxRecDepth 100000 in
theorem idx_wais1 (cp : Value) (p : WO → Bool) (A : Option Addr) (n c : Nat) (l : List WO) (w : World) (hr : Reads w 3 A n (l.flatMap oL)) (hl : l.length ≤ 100000)
    (hp : ∀ x ∈ l, ∀ w', Kept [] w w' → Calls Tryz.prog 102 #[.agg (oC x.p x.l x.n), cp] w' fun r w'' => r = .returned (.bool (p x)) ∧ Kept [] w' w'') :
    Calls Tryz.prog 100 #[.slice A n c, .func (.func 102) #[] #[cp]] w fun e w' => (∃ v, e = .returned (.int .i64 v) ∧ IdxOf p l v) ∧ Kept [] w w' := by
  have hn := hr.lenK oL 3 oL_len (by omega)
  subst hn
  have HR := Lib.hid hr
  have HP := Lib.hid hp
  clear hp hr
  go_enter Tryz.func100, Tryz.ntmps100
  go_wp2_with fail
  go_loopw [8] (fun kv wr => ∃ k : Nat, k ≤ l.length ∧ kv = .int .i64 k ∧ Hid (∀ j x, j < k → l[j]? = some x → p x = false) ∧ Hid (Kept [] w wr)) (fun k _ => l.length - (intOf k).toNat)
  case atStart => exact ⟨0, by omega, rfl, (fun j x h1 h2 => by omega), Kept.refl _ _⟩
  case round =>
    obtain ⟨k, hk1, rfl, HJ, HK⟩ := hrel
    by_cases hlt : k < l.length
    · obtain ⟨b, o, rfl, hb, hc⟩ := HR.out.cellsK oL 3 oL_len (by omega) (by omega)
      obtain ⟨x, hx⟩ : ∃ x, l[k]? = some x := ⟨l[k], List.getElem?_eq_getElem hlt⟩
      have hxm : x ∈ l := List.mem_of_getElem? hx
      have hcc := hc k x hx
      have hc0 : wr.cell? ⟨b, o + k * 3, none⟩ = some (.int .i64 x.p) := HK.out.cell_some (hcc 0 (by omega)) (by simp)
      have hc1 : wr.cell? ⟨b, o + k * 3 + 1, none⟩ = some (.int .i64 x.l) := HK.out.cell_some (hcc 1 (by omega)) (by simp)
      have hc2 : wr.cell? ⟨b, o + k * 3 + 2, none⟩ = some (.int .u64 x.n) := HK.out.cell_some (hcc 2 (by omega)) (by simp)
      have HX := Lib.hid hx
      have hP := HP.out x hxm wr HK.out
      generalize hpx : p x = px at *
      have HPX := Lib.hid hpx
      have HPC := Lib.hid hP
      clear hcc hc hx hpx hP hxm
      obtain ⟨xp, xl, xn⟩ := x
      cases px with
      | true =>
        go_wp2_with fail
        refine HPC.out.mono ?_
        rintro e w1 ⟨rfl, hk2⟩
        have HK2 := Lib.hid hk2
        clear hk2
        go_wp2_with fail
        go_ret
        exact ⟨⟨_, rfl, .inl ⟨k, _, rfl, HX.out, HPX.out, HJ.out⟩⟩, HK.out.trans HK2.out⟩
      | false =>
        go_wp2_with fail
        refine HPC.out.mono ?_
        rintro e w1 ⟨rfl, hk2⟩
        have HK2 := Lib.hid hk2
        clear hk2
        go_wp2_with fail
        go_roundw
        case rel => exact ⟨k + 1, by omega, by go_num, (fun j y h1 h2 => by
          rcases Nat.lt_or_ge j k with h3 | h3
          · exact HJ.out j y h3 h2
          · obtain rfl : j = k := by omega
            rw [HX.out] at h2; cases h2; exact HPX.out), HK.out.trans HK2.out⟩
        case measure => simp [intOf]; omega
    · obtain rfl : k = l.length := by omega
      go_wp2_with fail
      go_ret
      exact ⟨⟨_, rfl, .inr ⟨rfl, fun x hx => by
        obtain ⟨j, hj⟩ := List.getElem?_of_mem hx
        exact HJ.out j x (List.getElem?_eq_some_iff.1 hj).1 hj⟩⟩, HK.out⟩

set_option maxHeartbeats 3200000 in
set_option maxRecDepth 100000 in
theorem idx_warput1 (cp cq : Value) (p : WO → Bool) (A : Option Addr) (n c : Nat) (l : List WO) (w : World) (hr : Reads w 3 A n (l.flatMap oL)) (hl : l.length ≤ 100000)
    (hp : ∀ x ∈ l, ∀ w', Kept [] w w' → Calls Tryz.prog 112 #[.agg (oC x.p x.l x.n), cp, cq] w' fun r w'' => r = .returned (.bool (p x)) ∧ Kept [] w' w'') :
    Calls Tryz.prog 100 #[.slice A n c, .func (.func 112) #[] #[cp, cq]] w fun e w' => (∃ v, e = .returned (.int .i64 v) ∧ IdxOf p l v) ∧ Kept [] w w' := by
  have hn := hr.lenK oL 3 oL_len (by omega)
  subst hn
  have HR := Lib.hid hr
  have HP := Lib.hid hp
  clear hp hr
  go_enter Tryz.func100, Tryz.ntmps100
  go_wp2_with fail
  go_loopw [8] (fun kv wr => ∃ k : Nat, k ≤ l.length ∧ kv = .int .i64 k ∧ Hid (∀ j x, j < k → l[j]? = some x → p x = false) ∧ Hid (Kept [] w wr)) (fun k _ => l.length - (intOf k).toNat)
  case atStart => exact ⟨0, by omega, rfl, (fun j x h1 h2 => by omega), Kept.refl _ _⟩
  case round =>
    obtain ⟨k, hk1, rfl, HJ, HK⟩ := hrel
    by_cases hlt : k < l.length
    · obtain ⟨b, o, rfl, hb, hc⟩ := HR.out.cellsK oL 3 oL_len (by omega) (by omega)
      obtain ⟨x, hx⟩ : ∃ x, l[k]? = some x := ⟨l[k], List.getElem?_eq_getElem hlt⟩
      have hxm : x ∈ l := List.mem_of_getElem? hx
      have hcc := hc k x hx
      have hc0 : wr.cell? ⟨b, o + k * 3, none⟩ = some (.int .i64 x.p) := HK.out.cell_some (hcc 0 (by omega)) (by simp)
      have hc1 : wr.cell? ⟨b, o + k * 3 + 1, none⟩ = some (.int .i64 x.l) := HK.out.cell_some (hcc 1 (by omega)) (by simp)
      have hc2 : wr.cell? ⟨b, o + k * 3 + 2, none⟩ = some (.int .u64 x.n) := HK.out.cell_some (hcc 2 (by omega)) (by simp)
      have HX := Lib.hid hx
      have hP := HP.out x hxm wr HK.out
      generalize hpx : p x = px at *
      have HPX := Lib.hid hpx
      have HPC := Lib.hid hP
      clear hcc hc hx hpx hP hxm
      obtain ⟨xp, xl, xn⟩ := x
      cases px with
      | true =>
        go_wp2_with fail
        refine HPC.out.mono ?_
        rintro e w1 ⟨rfl, hk2⟩
        have HK2 := Lib.hid hk2
        clear hk2
        go_wp2_with fail
        go_ret
        exact ⟨⟨_, rfl, .inl ⟨k, _, rfl, HX.out, HPX.out, HJ.out⟩⟩, HK.out.trans HK2.out⟩
      | false =>
        go_wp2_with fail
        refine HPC.out.mono ?_
        rintro e w1 ⟨rfl, hk2⟩
        have HK2 := Lib.hid hk2
        clear hk2
        go_wp2_with fail
        go_roundw
        case rel => exact ⟨k + 1, by omega, by go_num, (fun j y h1 h2 => by
          rcases Nat.lt_or_ge j k with h3 | h3
          · exact HJ.out j y h3 h2
          · obtain rfl : j = k := by omega
            rw [HX.out] at h2; cases h2; exact HPX.out), HK.out.trans HK2.out⟩
        case measure => simp [intOf]; omega
    · obtain rfl : k = l.length := by omega
      go_wp2_with fail
      go_ret
      exact ⟨⟨_, rfl, .inr ⟨rfl, fun x hx => by
        obtain ⟨j, hj⟩ := List.getElem?_of_mem hx
        exact HJ.out j x (List.getElem?_eq_some_iff.1 hj).1 hj⟩⟩, HK.out⟩

end Go.Proofs.YtfoeijiejpenpaaGreatDoor
