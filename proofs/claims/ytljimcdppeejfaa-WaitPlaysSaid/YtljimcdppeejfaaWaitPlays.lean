/- Law 23: WaitPlays: the walk. -/
import Derived.Test.YtljimcdppeejfaaWaitD
namespace Go.Proofs.Ytljimcdppeejfaa
open Go.RowKit

theorem does_any (w0 w : World) (g : Nat) (L M : List WO) (last : Nat) (v : Value) (k : Nat) (pl lev : Int) (hL : MyLine w0 w g L last) (hR : RRow w v M) (hI : Inv L M last) (hm : M.length ≤ last) (hla : last ≤ 900) (hk8 : k < 256) :
    Calls Try.prog 12 #[.pointer (some ⟨g, 0, none⟩), v, .agg #[.int .u8 k, .int .i64 pl, .int .i64 lev]] w (Does w0 g last) := by
  rcases (by omega : (k % 5 = 0 ∨ k % 5 = 1) ∨ k % 5 = 2 ∨ k % 5 = 3 ∨ k % 5 = 4) with hk | hk | hk | hk
  · by_cases hp : 0 ≤ pl ∧ pl < 64
    · cases hf : M.find? (isP pl) with
      | none => exact does_put_new w0 w g L M last v k pl lev hL hR hI hm hla hk8 hk hp.1 hp.2 hf
      | some x => exact does_put_full w0 w g L M x last v k pl lev hL hR hI hm hla hk8 hk hp.1 hp.2 hf
    · exact does_put_far w0 w g L M last v k pl lev hL hR hI hm hla hk8 hk (by omega)
  · cases hf : M.find? (isP pl) with
    | none => exact does_move_none w0 w g L M last v k pl lev hL hR hI hm hla hk8 hk hf
    | some x => exact does_move_some w0 w g L M x last v k pl lev hL hR hI hm hla hk8 hk hf
  · cases hf : M.find? (isP pl) with
    | none => exact does_remove_none w0 w g L M last v k pl lev hL hR hI hm hla hk8 hk hf
    | some x => exact does_remove_some w0 w g L M x last v k pl lev hL hR hI hm hla hk8 hk hf
  · cases L with
    | nil => exact does_pop_none w0 w g M last v k pl lev hL hR hI hm hla hk8 hk
    | cons x t => exact does_pop_some w0 w g M x t last v k pl lev hL hR hI hm hla hk8 hk

/-- Who is first, as Best tells it. -/
def bestP : List WO → Int
  | [] => 0
  | x :: _ => x.p
theorem my_best (w0 w : World) (g : Nat) (L : List WO) (last : Nat) (is : Bool) (his : (is = true ∧ 0 < L.length) ∨ (is = false ∧ L.length = 0)) (h : MyLine w0 w g L last) :
    Calls Try.prog 16 #[.pointer (some ⟨g, 0, none⟩)] w fun e w' => e = .returned (.tuple #[.int .i64 (bestP L), .bool is]) ∧ w = w' := by
  cases L with
  | nil =>
    obtain rfl : is = false := by simpa using his
    exact my_best_none w0 w g last h
  | cons x t =>
    obtain rfl : is = true := by simpa using his
    exact my_best_some w0 w g x t last h
def levelP (o : Option WO) : Int := match o with
  | none => 8
  | some x => x.l
theorem my_level (w0 w : World) (g : Nat) (L : List WO) (last : Nat) (pl : Int) (th : Bool) (hth : th = (findW pl L).isSome) (h : MyLine w0 w g L last) (hl : L.length ≤ 1000) :
    Calls Try.prog 17 #[.pointer (some ⟨g, 0, none⟩), .int .i64 pl] w fun e w' => e = .returned (.tuple #[.int .i64 (levelP (findW pl L)), .bool th]) ∧ Kept [] w w' := by
  subst hth
  cases hf : findW pl L with
  | none => exact my_level_none w0 w g L last pl h hl hf
  | some x => exact my_level_some w0 w g L last pl x h hl hf

set_option maxHeartbeats 6400000 in
set_option maxRecDepth 100000 in
theorem waitPlays_any (A2 : Option Addr) (n2 c2 : Nat) (acts : List Ac) (pl : Int) (w : World) (hr2 : Reads w 3 A2 n2 (acts.flatMap aL)) (hn2 : n2 ≤ 9223372036854775807) (ha : ∀ a ∈ acts, a.k < 256) :
    Calls Try.prog 4 #[.slice A2 n2 c2, .int .i64 pl] w fun e w' => e = .returned (.bool true) ∧ Kept [] w w' := by
  obtain rfl := hr2.lenK aL 3 aL_len (by omega)
  have HR2 := Lib.hid hr2
  have HA := Lib.hid ha
  clear hr2 ha
  go_enter Try.func4, Try.ntmps4
  go_wp2_with fail
  refine (my_new w).mono ?_
  rintro e w1 ⟨rfl, h1⟩
  have H1 := Lib.hid h1
  clear h1
  go_wp2_with fail
  go_loopw [6, 7] (fun rv iv wr => ∃ (i : Nat) (Ar : Option Addr) (cr : Nat) (L M : List WO) (last : Nat), i ≤ acts.length ∧ i ≤ 90 ∧ iv = .int .i64 i ∧ rv = .slice Ar M.length cr ∧ last ≤ i ∧ Hid (Inv L M last) ∧ Hid (MyLine w wr w.heap.size L last) ∧ Hid (RRow wr (.slice Ar M.length cr) M) ∧ Hid (M.length ≤ last)) (fun _ i _ => 90 - (intOf i).toNat)
  case atStart => exact ⟨0, none, 0, [], [], 0, by omega, by omega, rfl, rfl, by omega, Inv.nil, H1, RRow.nil _, Nat.le_refl _⟩
  case round =>
    obtain ⟨i, Ar, cr, L, M, last, hi1, hi2, rfl, rfl, hla, HI, HL, HR, HM⟩ := hrel
    by_cases hgo : i < acts.length ∧ i < 90
    · obtain ⟨hg1, hg2⟩ := hgo
      obtain ⟨x, hx⟩ : ∃ x, acts[i]? = some x := ⟨acts[i], List.getElem?_eq_getElem hg1⟩
      have hk8 := HA.out x (List.mem_of_getElem? hx)
      obtain ⟨b, o, rfl, hb0, hcc⟩ := HR2.out.cellsK aL 3 aL_len (by omega) (by omega)
      have hc0 : wr.cell? ⟨b, o + i * 3, none⟩ = some (.int .u8 x.k) := HL.out.kept.cell_some (hcc i x hx 0 (by omega)) (by simp)
      have hc1 : wr.cell? ⟨b, o + i * 3 + 1, none⟩ = some (.int .i64 x.p) := HL.out.kept.cell_some (hcc i x hx 1 (by omega)) (by simp)
      have hc2 : wr.cell? ⟨b, o + i * 3 + 2, none⟩ = some (.int .i64 x.l) := HL.out.kept.cell_some (hcc i x hx 2 (by omega)) (by simp)
      have hj0 : (0 : Int) ≤ (i : Int) := by omega
      have hj1 : (i : Int) < (acts.length : Int) := by omega
      have d1 : decide ((i : Int) < (acts.length : Int)) = true := by simpa using hg1
      have d2 : decide ((i : Int) < 90) = true := by simp; omega
      obtain ⟨ak, xp, xl⟩ := x
      simp only at hc0 hc1 hc2 hk8
      have HDO := Lib.hid (does_any w wr w.heap.size L M last (.slice Ar M.length cr) ak xp xl HL.out HR.out HI.out HM.out (by omega) hk8)
      clear hcc hx hk8
      go_wp2_with fail
      refine (HDO.out).mono ?_
      rintro e w2 ⟨v', L', M', last', rfl, hl2, hr2, hi2', hm2, hla2⟩
      clear HDO HI HL HR HM
      have hlen := hi2'.len
      have hLl : L'.length ≤ 1000 := by omega
      have hMl : M'.length ≤ 1000 := by omega
      obtain ⟨A1, cc1, rfl, hnc1, hcm1⟩ := hr2.form
      have HAL := Lib.hid (refAll_any _ M' w2 hr2 hMl)
      rw [← hi2'.all] at HAL
      have HI := Lib.hid hi2'
      have HL2 := Lib.hid hl2
      have HR2' := Lib.hid hr2
      have HM := Lib.hid hm2
      have hfm := hi2'.find pl
      have db : (((L'.length : Nat) : Int) != ((M'.length : Nat) : Int)) = false := by rw [hlen]; simp
      obtain ⟨is, his⟩ : ∃ is : Bool, (is = true ∧ 0 < L'.length) ∨ (is = false ∧ L'.length = 0) := by
        rcases Nat.eq_zero_or_pos L'.length with h | h
        · exact ⟨false, .inr ⟨rfl, h⟩⟩
        · exact ⟨true, .inl ⟨rfl, h⟩⟩
      have HBE := Lib.hid (fun w' h => my_best w w' w.heap.size L' last' is his h)
      obtain ⟨th, hth⟩ : ∃ th, th = (findW pl L').isSome := ⟨_, rfl⟩
      have HLV := Lib.hid (fun w' h => my_level w w' w.heap.size L' last' pl th hth h hLl)
      have HAT := Lib.hid (fun w' (h : RRow w' (.slice A1 M'.length cc1) M') => refAt_any A1 cc1 M' pl w' (Reads.of_own h) (by omega))
      have HTH : Hid ((th = true ∧ ∃ x, M'.find? (isP pl) = some x ∧ levelP (findW pl L') = x.l) ∨ (th = false ∧ M'.find? (isP pl) = none ∧ levelP (findW pl L') = 8)) := by
        show _ ∨ _
        subst hth
        unfold findW
        rw [hfm]
        cases hf : M'.find? (isP pl) with
        | none => exact .inr ⟨rfl, rfl, rfl⟩
        | some x => exact .inl ⟨rfl, x, rfl, rfl⟩
      have HIS := Lib.hid his
      have HLEN := Lib.hid hlen
      clear hl2 hr2 hi2' hm2 hlen hfm his hth
      generalize levelP (findW pl L') = lvl at *
      go_wp2_with fail
      refine (HAL.out).mono ?_
      rintro e w3 ⟨Aa, na, ca, rfl, hfa⟩
      have hna : na = L'.length := by rw [hfa.len, List.length_map]
      have HNA := Lib.hid hna
      have HFA := Lib.hid hfa
      have HL3 := Lib.hid (HL2.out.old hfa.2.1)
      have HR3 := Lib.hid (HR2'.out.old hfa.2.1)
      clear hfa hna
      go_wp2_with fail
      refine (my_len w _ w.heap.size L' last' HL3.out).mono ?_
      rintro e w4 ⟨rfl, rfl⟩
      go_wp2_with fail
      refine (my_all w _ w.heap.size L' last' HL3.out hLl).mono ?_
      rintro e w4 ⟨Ab, nb, cb, rfl, hfb⟩
      have HSA := Lib.hid (refSameI Ab nb cb Aa na ca (L'.map WO.p) w4 hfb.reads ((HFA.out.old hfb.2.1).reads) (by rw [List.length_map]; omega))
      have HL4 := Lib.hid (HL3.out.old hfb.2.1)
      have HR4 := Lib.hid (HR3.out.old hfb.2.1)
      have HO4 := Lib.hid (own_kept HFA.out.1 hfb.2.1 (by simp))
      clear hfb
      go_wp2_with fail
      refine (HSA.out).mono ?_
      rintro e w5 ⟨rfl, hk5⟩
      have HL5 := Lib.hid (HL4.out.old hk5)
      have HR5 := Lib.hid (HR4.out.old hk5)
      have HO5 := Lib.hid (own_kept HO4.out hk5 (by simp))
      clear hk5
      go_wp2_with fail
      refine (HBE.out _ HL5.out).mono ?_
      rintro e w6 ⟨rfl, rfl⟩
      have hcase : Hid ((is = true ∧ 0 < na ∧ ∃ bb oo, Aa = some ⟨bb, oo, none⟩ ∧ w5.cell? ⟨bb, oo, none⟩ = some (.int .i64 (bestP L'))) ∨ (is = false ∧ na = 0 ∧ bestP L' = 0)) := by
        show _ ∨ _
        rcases HIS.out with ⟨h1, h2⟩ | ⟨h1, h2⟩
        · refine .inl ⟨h1, by rw [HNA.out]; exact h2, ?_⟩
          obtain ⟨bb, oo, e1, _, h3⟩ := (Reads.of_own HO5.out).addr (by rw [HNA.out]; exact h2) (by omega)
          refine ⟨bb, oo, e1, h3 0 _ ?_⟩
          cases L' with
          | nil => simp at h2
          | cons x t => rfl
        · refine .inr ⟨h1, by rw [HNA.out]; exact h2, ?_⟩
          cases L' with
          | nil => rfl
          | cons x t => simp at h2
      clear HBE HIS
      generalize bestP L' = bp at *
      rcases hcase with ⟨rfl, hn0, bb, oo, rfl, hcb⟩ | ⟨rfl, rfl, rfl⟩
      all_goals
        try have hz1 : (bp != bp) = false := by simp
        try have hn1 : (0 : Int) < (na : Int) := by omega
        go_wp2_with fail
        refine (HLV.out _ HL5.out).mono ?_
        rintro e w7 ⟨rfl, hk7⟩
        have HL7 := Lib.hid (HL5.out.old hk7)
        have HR7 := Lib.hid (HR5.out.old hk7)
        clear hk7
        go_wp2_with fail
        refine (HAT.out _ HR7.out).mono ?_
        rintro e w8 ⟨⟨kv, rfl, hat⟩, rfl⟩
        have hcase2 : Hid ((th = true ∧ ∃ (k : Nat) (b1 o1 : Nat), kv = k ∧ k < M'.length ∧ A1 = some ⟨b1, o1, none⟩ ∧ w7.cell? ⟨b1, o1 + k * 2 + 1, none⟩ = some (.int .i64 lvl)) ∨ (th = false ∧ kv = -1 ∧ lvl = 8)) := by
          show _ ∨ _
          rcases HTH.out with ⟨h1, x, h2, h3⟩ | ⟨h1, h2, h3⟩
          · obtain ⟨k, h4, h5, h6, _⟩ := atM_some hat h2
            obtain ⟨b1, o1, e1, _, h7⟩ := (Reads.of_own HR7.out).cellsK rL 2 rL_len (by omega) (by omega)
            refine .inl ⟨h1, k, b1, o1, h4, h6, e1, ?_⟩
            have := h7 k x h5 1 (by omega)
            rw [h3]
            rw [← Nat.add_assoc] at this
            exact this
          · exact .inr ⟨h1, atM_none hat h2, h3⟩
        clear HTH hat
        rcases hcase2 with ⟨rfl, k, b1, o1, rfl, hk1, rfl, hck⟩ | ⟨rfl, rfl, rfl⟩
      all_goals
        try have hz2 : (lvl != lvl) = false := by simp
        try have hk2 : (0 : Int) ≤ (k : Int) := by omega
        try have hk3 : (k : Int) < (M'.length : Int) := by omega
        go_wp2_with fail
        go_roundw
        case rel => exact ⟨i + 1, _, _, L', M', last', by omega, by omega, by go_num, rfl, by omega, HI, HL7, HR7, HM⟩
        case measure => simp [intOf]; omega
    · have hex : (decide (i < acts.length) = false ∧ acts.length ≤ i) ∨ ((decide (i < acts.length) = true ∧ i < acts.length) ∧ decide ((i : Int) < 90) = false) := by
        by_cases h1 : i < acts.length
        · right; exact ⟨⟨by simpa using h1, h1⟩, by simp; omega⟩
        · left; exact ⟨by simp; omega, by omega⟩
      clear hgo
      rcases hex with ⟨d1, d3⟩ | ⟨⟨d1, d3⟩, d2⟩
      all_goals
        go_wp2_with fail
        refine (awake23 _).mono ?_
        rintro e w3 ⟨rfl, hk3⟩
        have HK3 := Lib.hid (HL.out.kept.trans hk3)
        clear hk3
        go_wp2_with fail
        go_ret
        exact ⟨rfl, HK3.out⟩

end Go.Proofs.Ytljimcdppeejfaa
