/- Levels along the waits: what the walks that make better and worse leave (the plain law); Lines whose waiters stand with their effective levels, behind the walks that move them (the plain law); Locks: what always holds of them, behind any call (the plain law). -/
import Derived.Test.YtfoeijiejpenpaaGreatDoorLkP
import Derived.Test.YtfoeijiejpenpaaGreatDoorWaitPlain

/- Levels along the waits: what the walks that make better and worse leave (the plain law). -/
namespace Go.Proofs.YtfoeijiejpenpaaGreatDoor

/-- A number for each thread that falls along its next ones: there is no ring. -/
def Falls (nx : Int → Int) (r : Int → Nat) : Prop := ∀ t, 0 ≤ t → 0 ≤ nx t → r (nx t) < r t
/-- A thread's due level. -/
structure IsDue (owner level : List Int) (waits : List (Int × Int)) (eff : List Int) (t : Nat) (d : Int) : Prop where
  lev : d ≤ level.getD t 0
  give : ∀ i : Nat, i < waits.length → nextG owner waits i = t → d ≤ eff.getD i 0
  one : d = level.getD t 0 ∨ ∃ i : Nat, i < waits.length ∧ nextG owner waits i = t ∧ d = eff.getD i 0
theorem IsDue.uniq {owner level : List Int} {waits : List (Int × Int)} {eff : List Int} {t : Nat} {d e : Int} (h : IsDue owner level waits eff t d) (h' : IsDue owner level waits eff t e) : d = e := by
  have h1 : d ≤ e := by
    rcases h'.one with h2 | ⟨i, hi, hn, h2⟩
    · have := h.lev; omega
    · have := h.give i hi hn; omega
  have h1' : e ≤ d := by
    rcases h.one with h2 | ⟨i, hi, hn, h2⟩
    · have := h'.lev; omega
    · have := h'.give i hi hn; omega
  omega
theorem dueF_is {owner level : List Int} {waits : List (Int × Int)} {eff : List Int} {t : Nat} : ∀ (f i : Nat) (best : Int), i + f = waits.length → best ≤ level.getD t 0 →
    (∀ j : Nat, j < i → nextG owner waits j = t → best ≤ eff.getD j 0) → (best = level.getD t 0 ∨ ∃ j : Nat, j < i ∧ nextG owner waits j = t ∧ best = eff.getD j 0) →
    IsDue owner level waits eff t (dueF owner level waits eff t f i best)
  | 0, i, best, hi, h1, h2, h3 => by
    refine ⟨h1, fun j hj hn => h2 j (by omega) hn, ?_⟩
    rcases h3 with h3 | ⟨j, hj, hn, h3⟩
    · exact .inl h3
    · exact .inr ⟨j, by omega, hn, h3⟩
  | f + 1, i, best, hi, h1, h2, h3 => by
    rw [dueF]
    have hup : ∀ j : Nat, j < i + 1 → j < i ∨ j = i := fun j hj => by omega
    by_cases hc : nextG owner waits i = t
    · rw [if_pos hc]
      by_cases hl : eff.getD i 0 < best
      · rw [if_pos hl]
        refine dueF_is f (i + 1) _ (by omega) (by omega) (fun j hj hn => ?_) (.inr ⟨i, by omega, hc, rfl⟩)
        rcases hup j hj with hj | rfl
        · have := h2 j hj hn; omega
        · omega
      · rw [if_neg hl]
        refine dueF_is f (i + 1) _ (by omega) h1 (fun j hj hn => ?_) ?_
        · rcases hup j hj with hj | rfl
          · exact h2 j hj hn
          · omega
        · rcases h3 with h3 | ⟨j, hj, hn, h3⟩
          · exact .inl h3
          · exact .inr ⟨j, by omega, hn, h3⟩
    · rw [if_neg hc]
      refine dueF_is f (i + 1) _ (by omega) h1 (fun j hj hn => ?_) ?_
      · rcases hup j hj with hj | rfl
        · exact h2 j hj hn
        · exact absurd hn hc
      · rcases h3 with h3 | ⟨j, hj, hn, h3⟩
        · exact .inl h3
        · exact .inr ⟨j, by omega, hn, h3⟩
theorem dueM_is (owner level : List Int) (waits : List (Int × Int)) (eff : List Int) (t : Nat) : IsDue owner level waits eff t (dueM owner level waits eff t) :=
  dueF_is _ 0 _ (by omega) (Int.le_refl _) (fun j hj => by omega) (.inl rfl)
theorem IsDue.congr {owner level : List Int} {waits : List (Int × Int)} {eff eff' : List Int} {t : Nat} {d : Int} (h : IsDue owner level waits eff t d) (he : ∀ i : Nat, i < waits.length → nextG owner waits i = t → eff'.getD i 0 = eff.getD i 0) : IsDue owner level waits eff' t d := by
  refine ⟨h.lev, fun i hi hn => by rw [he i hi hn]; exact h.give i hi hn, ?_⟩
  rcases h.one with h3 | ⟨j, hj, hn, h3⟩
  · exact .inl h3
  · exact .inr ⟨j, hj, hn, by rw [he j hj hn]; exact h3⟩
theorem getD_set_eq (l : List Int) (k : Nat) (x d : Int) (h : k < l.length) : (l.set k x).getD k d = x := by simp [List.getD_eq_getElem?_getD, List.getElem?_set_self h]
theorem getD_set_ne {α : Type} (l : List α) (k j : Nat) (x d : α) (h : k ≠ j) : (l.set k x).getD j d = l.getD j d := by simp [List.getD_eq_getElem?_getD, List.getElem?_set_ne h]
/-- A thread's level is what it must be. -/
def Fix (owner level : List Int) (waits : List (Int × Int)) (eff : List Int) (u : Nat) : Prop := IsDue owner level waits eff u (eff.getD u 0)

theorem countP_set_true (vis : List Bool) (k : Nat) (hk : k < vis.length) (h : vis.getD k false = false) : (vis.set k true).countP (fun b => !b) + 1 = vis.countP (fun b => !b) := by
  have hg : vis[k] = false := by rw [List.getD_eq_getElem?_getD, List.getElem?_eq_getElem hk] at h; exact h
  have := List.countP_set (p := fun b : Bool => !b) (l := vis) (i := k) (a := true) hk
  have hpos : 0 < vis.countP (fun b => !b) := List.countP_pos_iff.2 ⟨vis[k], List.getElem_mem hk, by simp [hg]⟩
  simp [hg] at this
  omega

/-- What the walk that makes worse leaves. -/
theorem roadF_fix {owner level : List Int} {waits : List (Int × Int)} {r : Int → Nat} (hr : Falls (nextG owner waits) r) (hn : waits.length ≤ 64) (B : Nat → Prop) : ∀ (f : Nat) (vis : List Bool) (t : Int) (out met : List Int),
    vis.length = 64 → vis.countP (fun b => !b) < f → (∀ v : Nat, vis.getD v false = true → 0 ≤ t → r t < r v) → out.length = waits.length →
    (∀ u : Nat, u < waits.length → (u : Int) ≠ t → ¬ B u → Fix owner level waits out u) →
    (roadF owner level waits f vis t out met).1.length = waits.length ∧ (∀ u : Nat, u < waits.length → ¬ B u → Fix owner level waits (roadF owner level waits f vis t out met).1 u) ∧
    (∀ u : Nat, (u : Int) ∉ (roadF owner level waits f vis t out met).2 → (roadF owner level waits f vis t out met).1.getD u 0 = out.getD u 0) ∧ ∀ x ∈ met, x ∈ (roadF owner level waits f vis t out met).2
  | 0, vis, t, out, met, _, h2, _, _, _ => by omega
  | f + 1, vis, t, out, met, h1, h2, h3, h4, h5 => by
    rw [roadF]
    by_cases ht : ¬ (0 ≤ t ∧ t < (waits.length : Int))
    · rw [if_pos ht]
      exact ⟨h4, fun u hu hb => h5 u hu (fun e => ht (by omega)) hb, fun u _ => rfl, fun x hx => hx⟩
    rw [if_neg ht]
    obtain ⟨k, rfl⟩ : ∃ k : Nat, t = k := ⟨t.toNat, by omega⟩
    have hk : k < waits.length := by omega
    simp only [Int.toNat_natCast]
    by_cases hv : vis.getD k false = true
    · have := h3 k hv (by omega); omega
    rw [if_neg hv]
    have hd := dueM_is owner level waits out k
    generalize hde : dueM owner level waits out k = d at *
    by_cases he : d = out.getD k 0
    · rw [if_pos he]
      refine ⟨h4, fun u hu hb => ?_, fun u _ => rfl, fun x hx => hx⟩
      by_cases hu2 : u = k
      · subst hu2; rw [he] at hd; exact hd
      · exact h5 u hu (by omega) hb
    rw [if_neg he]
    have hself : nextG owner waits k ≠ k := fun e => by
      have := hr k (by omega) (by omega)
      rw [e] at this; omega
    have hstep := roadF_fix hr hn B f (vis.set k true) (nextG owner waits k) (out.set k d) (met ++ [(k : Int)]) (by simp [h1])
      (by have := countP_set_true vis k (by omega) (by simpa using hv); omega)
      (fun v hv2 h0 => by
        have hrk := hr k (by omega) h0
        by_cases hvk : v = k
        · subst hvk; exact hrk
        · rw [getD_set_ne _ _ _ _ _ (Ne.symm hvk)] at hv2
          have := h3 v hv2 (by omega); omega)
      (by simp [h4])
      (fun u hu hun hb => by
        by_cases huk : u = k
        · subst huk
          unfold Fix
          rw [getD_set_eq _ _ _ _ (by omega)]
          exact hd.congr (fun i hi hni => getD_set_ne _ _ _ _ _ (fun e => hself (by subst e; exact hni)))
        · unfold Fix
          rw [getD_set_ne _ _ _ _ _ (Ne.symm huk)]
          exact (h5 u hu (by omega) hb).congr (fun i hi hni => getD_set_ne _ _ _ _ _ (fun e => hun (by subst e; exact hni.symm))))
    refine ⟨hstep.1, hstep.2.1, fun u hu => ?_, fun x hx => hstep.2.2.2 x (by simp [hx])⟩
    rw [hstep.2.2.1 u hu]
    have huk : k ≠ u := fun e => hu (hstep.2.2.2 u (by simp [e]))
    exact getD_set_ne _ _ _ _ _ huk

/-- What the walk that makes better leaves. -/
theorem betF_fix {owner level : List Int} {waits : List (Int × Int)} {r : Int → Nat} (hr : Falls (nextG owner waits) r) (given : Int) (hnx : ∀ t : Nat, t < waits.length → -1 ≤ nextG owner waits t ∧ nextG owner waits t < waits.length) : ∀ (f : Nat) (t : Int) (eff met : List Int),
    worseN given eff < f → -1 ≤ t → t < waits.length → eff.length = waits.length →
    (∀ u : Nat, u < waits.length → (u : Int) ≠ t → Fix owner level waits eff u) → (∀ k : Nat, t = k → IsDue owner level waits eff k (min (eff.getD k 0) given)) →
    (betF owner waits given f t eff met).1.length = waits.length ∧ (∀ u : Nat, u < waits.length → Fix owner level waits (betF owner waits given f t eff met).1 u) ∧
    (∀ u : Nat, (u : Int) ∉ (betF owner waits given f t eff met).2 → (betF owner waits given f t eff met).1.getD u 0 = eff.getD u 0) ∧ ∀ x ∈ met, x ∈ (betF owner waits given f t eff met).2
  | 0, t, eff, met, h, _, _, _, _, _ => by omega
  | f + 1, t, eff, met, h, h0, h1, h2, h3, h4 => by
    rw [betF]
    by_cases ht : t = -1
    · rw [if_pos ht]
      exact ⟨h2, fun u hu => h3 u hu (by omega), fun u _ => rfl, fun x hx => hx⟩
    rw [if_neg ht]
    obtain ⟨k, rfl⟩ : ∃ k : Nat, t = k := ⟨t.toNat, by omega⟩
    have hk : k < waits.length := by omega
    have hke : k < eff.length := by omega
    simp only [Int.toNat_natCast]
    have hdk := h4 k rfl
    by_cases hle : eff.getD k 0 ≤ given
    · rw [if_pos hle]
      refine ⟨h2, fun u hu => ?_, fun u _ => rfl, fun x hx => hx⟩
      by_cases hu2 : u = k
      · subst hu2
        rw [show min (eff.getD u 0) given = eff.getD u 0 by omega] at hdk
        exact hdk
      · exact h3 u hu (by omega)
    rw [if_neg hle]
    have hmin : min (eff.getD k 0) given = given := by omega
    rw [hmin] at hdk
    have hself : nextG owner waits k ≠ k := fun e => by
      have := hr k (by omega) (by omega)
      rw [e] at this; omega
    have hfix : ∀ u : Nat, u < waits.length → (u : Int) ≠ nextG owner waits k → Fix owner level waits (eff.set k given) u := fun u hu hun => by
      unfold Fix
      by_cases huk : u = k
      · subst huk
        rw [getD_set_eq _ _ _ _ (by omega)]
        exact hdk.congr (fun i hi hni => getD_set_ne _ _ _ _ _ (fun e => hself (by subst e; exact hni)))
      · rw [getD_set_ne _ _ _ _ _ (Ne.symm huk)]
        exact (h3 u hu (by omega)).congr (fun i hi hni => getD_set_ne _ _ _ _ _ (fun e => hun (by subst e; exact hni.symm)))
    by_cases hw : (getW waits (k : Int)).1 = -1
    · rw [if_pos hw]
      have hnk : nextG owner waits (k : Int) = -1 := by rw [nextG, if_pos hw]
      refine ⟨by simp [h2], fun u hu => hfix u hu (by omega), fun u hu => ?_, fun x hx => by simp [hx]⟩
      have huk : k ≠ u := fun e => hu (by simp [e])
      exact getD_set_ne _ _ _ _ _ huk
    rw [if_neg hw]
    have hnk : nextG owner waits (k : Int) = getO owner (getW waits (k : Int)).1 := by rw [nextG, if_neg hw]
    rw [← hnk]
    have hrange := hnx k hk
    have hstep := betF_fix (level := level) hr given hnx f (nextG owner waits k) (eff.set k given) (met ++ [(k : Int)]) (by have := worseN_set hke hle; omega) hrange.1 hrange.2 (by simp [h2]) hfix (fun j hj => by
      have hjn : j < waits.length := by omega
      have hjk : j ≠ k := fun e => hself (by rw [hj, e])
      have hfj := h3 j hjn (by omega)
      rw [getD_set_ne _ _ _ _ _ (Ne.symm hjk)]
      have hjge : eff.getD j 0 ≤ eff.getD k 0 := hfj.give k hk hj
      refine ⟨by have := hfj.lev; omega, fun i hi hni => ?_, ?_⟩
      · by_cases hik : k = i
        · subst hik; rw [getD_set_eq _ _ _ _ hke]; omega
        · rw [getD_set_ne _ _ _ _ _ hik]
          have := hfj.give i hi hni; omega
      · by_cases hlt : eff.getD j 0 ≤ given
        · rw [show min (eff.getD j 0) given = eff.getD j 0 by omega]
          rcases hfj.one with h6 | ⟨i, hi, hni, h6⟩
          · exact .inl h6
          · refine .inr ⟨i, hi, hni, ?_⟩
            by_cases hik : k = i
            · subst hik; omega
            · rw [getD_set_ne _ _ _ _ _ hik]; exact h6
        · rw [show min (eff.getD j 0) given = given by omega]
          exact .inr ⟨k, hk, hj, by rw [getD_set_eq _ _ _ _ hke]⟩)
    refine ⟨hstep.1, hstep.2.1, fun u hu => ?_, fun x hx => hstep.2.2.2 x (by simp [hx])⟩
    rw [hstep.2.2.1 u hu]
    have huk : k ≠ u := fun e => hu (hstep.2.2.2 u (by simp [e]))
    exact getD_set_ne _ _ _ _ _ huk

end Go.Proofs.YtfoeijiejpenpaaGreatDoor

/- Lines whose waiters stand with their effective levels, behind the walks that move them (the plain law). -/
namespace Go.Proofs.YtfoeijiejpenpaaGreatDoor

/-- A lock's line holds just those who wait for the lock, each with its level. -/
structure LineOk (waits : List (Int × Int)) (lv : Int → Int) (q : Int) (L : List WO) (last : Nat) : Prop where
  inv : ∃ M, Inv L M last
  mem : ∀ x ∈ L, 0 ≤ x.p ∧ x.p < waits.length ∧ (getW waits x.p).1 = q ∧ x.l = lv x.p
  all : ∀ t : Nat, t < waits.length → (getW waits t).1 = q → ∃ x ∈ L, x.p = t
/-- All lines are so. -/
def LinesOk (waits : List (Int × Int)) (lv : Int → Int) (lines : List (List WO × Nat)) : Prop := ∀ (q : Nat) (L : List WO) (last : Nat), lines[q]? = some (L, last) → LineOk waits lv q L last
theorem LineOk.congr {waits : List (Int × Int)} {lv lv' : Int → Int} {q : Int} {L : List WO} {last : Nat} (h : LineOk waits lv q L last) (he : ∀ x ∈ L, lv' x.p = lv x.p) : LineOk waits lv' q L last :=
  ⟨h.inv, fun x hx => ⟨(h.mem x hx).1, (h.mem x hx).2.1, (h.mem x hx).2.2.1, by rw [he x hx]; exact (h.mem x hx).2.2.2⟩, h.all⟩
theorem LinesOk.congr {waits : List (Int × Int)} {lv lv' : Int → Int} {lines : List (List WO × Nat)} (h : LinesOk waits lv lines) (he : ∀ t : Int, 0 ≤ t → t < waits.length → lv' t = lv t) : LinesOk waits lv' lines :=
  fun q L last hq => (h q L last hq).congr (fun x hx => he x.p ((h q L last hq).mem x hx).1 ((h q L last hq).mem x hx).2.1)
theorem holdL_id {x : Int} (h0 : 0 ≤ x) (h7 : x ≤ 7) : holdL x = x := by unfold holdL; rw [if_neg (by omega), if_neg (by omega)]
theorem moveM_ok {waits : List (Int × Int)} {lv : Int → Int} {lines : List (List WO × Nat)} (h : LinesOk waits lv lines) (t : Nat) (ht : t < waits.length) (q : Nat) (hw : (getW waits t).1 = q) (lev : Int) (h0 : 0 ≤ lev) (h7 : lev ≤ 7) :
    LinesOk waits (fun u => if u = (t : Int) then lev else lv u) (moveM lines q t lev) := by
  have hother : ∀ (q' : Nat) (L : List WO) (last : Nat), q' ≠ q → lines[q']? = some (L, last) → LineOk waits (fun u => if u = (t : Int) then lev else lv u) q' L last := fun q' L last hq hl =>
    (h q' L last hl).congr (fun x hx => by
      have hm := ((h q' L last hl).mem x hx).2.2.1
      exact if_neg (fun e => hq (by rw [e, hw] at hm; omega)))
  unfold moveM
  split
  · rename_i hno
    intro q' L last hl
    exact hother q' L last (fun e => by subst e; rw [hno] at hl; cases hl) hl
  · rename_i l hl
    obtain ⟨L, last⟩ := l
    have hok := h q L last hl
    obtain ⟨x, hx, hxp⟩ := hok.all t ht hw
    obtain ⟨M, hM⟩ := hok.inv
    split
    · rename_i hno
      exact absurd hxp ((find_none_iff _ _).1 hno x hx)
    · rename_i y hy
      have hyp : y.p = t := (isP_iff _ _).1 (List.find?_some hy)
      have hfM := hy
      unfold findW at hfM
      rw [holdL_id h0 h7]
      have hpl : L.Pairwise (fun a b => a.p ≠ b.p) := (hM.perm.pairwise_iff (fun {a b} hab => Ne.symm hab)).2 hM.places
      obtain ⟨hpm, hno⟩ := erase_none hpl t hfM
      intro q' L' last' hl'
      by_cases hq : q' = q
      · subst hq
        rw [List.getElem?_set_self (List.getElem?_eq_some_iff.1 hl).1] at hl'
        injection hl' with hl'
        injection hl' with e1 e2
        subst e1 e2
        refine ⟨⟨_, hM.move hfM h0 h7⟩, fun z hz => ?_, fun u hu hwu => ?_⟩
        · rcases List.mem_cons.1 ((insW_perm _ _).mem_iff.1 hz) with rfl | hz
          · simp only [hyp]
            exact ⟨by omega, by omega, hw, by simp⟩
          · have hzn := hno z hz
            have hm := hok.mem z (List.eraseP_sublist.subset hz)
            exact ⟨hm.1, hm.2.1, hm.2.2.1, by rw [if_neg hzn]; exact hm.2.2.2⟩
        · obtain ⟨z, hz, hzp⟩ := hok.all u hu hwu
          by_cases hut : u = t
          · subst hut
            exact ⟨⟨y.p, lev, y.n⟩, (insW_perm _ _).mem_iff.2 (by simp), hyp⟩
          · refine ⟨z, (insW_perm _ _).mem_iff.2 (List.mem_cons_of_mem _ ?_), hzp⟩
            rcases List.mem_cons.1 (hpm.mem_iff.1 hz) with rfl | hz
            · exact absurd (hzp.symm.trans hyp) (by omega)
            · exact hz
      · rw [List.getElem?_set_ne (Ne.symm hq)] at hl'
        exact hother q' L' last' hq hl'
theorem takeL_ok {waits : List (Int × Int)} {eff : List Int} (he : ∀ t : Nat, t < waits.length → 0 ≤ eff.getD t 0 ∧ eff.getD t 0 ≤ 7) (hwl : ∀ t : Nat, t < waits.length → -1 ≤ (getW waits t).1) : ∀ (met : List Int) (lines : List (List WO × Nat)) (lv : Int → Int), LinesOk waits lv lines →
    (∀ t ∈ met, 0 ≤ t ∧ t < (waits.length : Int)) → LinesOk waits (fun u => if u ∈ met then eff.getD u.toNat 0 else lv u) (takeL waits eff met lines)
  | [], lines, lv, h, _ => by simpa [takeL] using h
  | t :: r, lines, lv, h, hm => by
    rw [takeL]
    have htt := hm t (by simp)
    obtain ⟨k, rfl⟩ : ∃ k : Nat, t = k := ⟨t.toNat, by omega⟩
    have hk : k < waits.length := by omega
    have hgo : ∀ lines', LinesOk waits (fun u => if u = (k : Int) then eff.getD k 0 else lv u) lines' → LinesOk waits (fun u => if u ∈ (k : Int) :: r then eff.getD u.toNat 0 else lv u) (takeL waits eff r lines') := fun lines' h' => by
      refine (takeL_ok he hwl r lines' _ h' (fun u hu => hm u (by simp [hu]))).congr (fun u h0 h1 => ?_)
      by_cases hur : u ∈ r
      · simp [hur]
      · by_cases huk : u = k
        · subst huk; simp
        · simp [hur, huk]
    split
    · rename_i hn
      refine hgo lines (fun q L last hl => (h q L last hl).congr (fun x hx => if_neg (fun e => ?_)))
      have := ((h q L last hl).mem x hx).2.2.1
      rw [e, hn] at this
      omega
    · rename_i hn
      have hge := hwl k hk
      refine hgo _ ?_
      simp only [Int.toNat_natCast]
      exact moveM_ok h k hk (getW waits (k : Int)).1.toNat (by omega) (eff.getD k 0) (he k hk).1 (he k hk).2
/-- Behind a walk: all stand with their levels again. -/
theorem takeL_all {waits : List (Int × Int)} {eff eff' : List Int} {met : List Int} {lines : List (List WO × Nat)} (he : ∀ t : Nat, t < waits.length → 0 ≤ eff'.getD t 0 ∧ eff'.getD t 0 ≤ 7) (hwl : ∀ t : Nat, t < waits.length → -1 ≤ (getW waits t).1)
    (h : LinesOk waits (fun u => eff.getD u.toNat 0) lines) (hm : ∀ t ∈ met, 0 ≤ t ∧ t < (waits.length : Int)) (hs : ∀ u : Nat, (u : Int) ∉ met → eff'.getD u 0 = eff.getD u 0) :
    LinesOk waits (fun u => eff'.getD u.toNat 0) (takeL waits eff' met lines) := by
  refine (takeL_ok he hwl met lines _ h hm).congr (fun u h0 h1 => ?_)
  obtain ⟨k, rfl⟩ : ∃ k : Nat, u = k := ⟨u.toNat, by omega⟩
  simp only [Int.toNat_natCast]
  by_cases hum : (k : Int) ∈ met
  · rw [if_pos hum]
  · rw [if_neg hum]; exact hs k hum

end Go.Proofs.YtfoeijiejpenpaaGreatDoor

/- Locks: what always holds of them, behind any call (the plain law). -/
namespace Go.Proofs.YtfoeijiejpenpaaGreatDoor

theorem Lk.Whole.setW {s : Lk} {K : Nat} (h : s.Whole K) (k : Nat) (x : Int × Int) (h1 : -1 ≤ x.1 ∧ x.1 < s.lines.length) (h2 : -1 ≤ x.2 ∧ x.2 < s.eff.length) : ({ s with waits := s.waits.set k x } : Lk).Whole K :=
  ⟨h.nt, h.nl, h.owner, by simp [h.waits], h.level, h.owners, fun y hy => by
    rcases List.mem_or_eq_of_mem_set hy with hy | rfl
    · exact h.wls y hy
    · exact h1, fun y hy => by
    rcases List.mem_or_eq_of_mem_set hy with hy | rfl
    · exact h.wts y hy
    · exact h2, h.levels, h.effs, h.lens, h.lasts⟩
theorem Lk.Whole.setO {s : Lk} {K : Nat} (h : s.Whole K) (k : Nat) (x : Int) (h1 : -1 ≤ x ∧ x < s.eff.length) : ({ s with owner := s.owner.set k x } : Lk).Whole K :=
  ⟨h.nt, h.nl, by simp [h.owner], h.waits, h.level, fun y hy => by
    rcases List.mem_or_eq_of_mem_set hy with hy | rfl
    · exact h.owners y hy
    · exact h1, h.wls, h.wts, h.levels, h.effs, h.lens, h.lasts⟩
theorem Lk.Whole.setLn {s : Lk} {K : Nat} (h : s.Whole K) (k : Nat) (x : List WO × Nat) (h1 : x.1.length ≤ 64) (h2 : x.2 ≤ K) : ({ s with lines := s.lines.set k x } : Lk).Whole K :=
  ⟨h.nt, by simp [h.nl], by simp [h.owner], h.waits, h.level, h.owners, fun y hy => by simpa using h.wls y hy, h.wts, h.levels, h.effs, fun y hy => by
    rcases List.mem_or_eq_of_mem_set hy with hy | rfl
    · exact h.lens y hy
    · exact h1, fun y hy => by
    rcases List.mem_or_eq_of_mem_set hy with hy | rfl
    · exact h.lasts y hy
    · exact h2⟩
theorem Lk.Whole.up {s : Lk} {K K' : Nat} (h : s.Whole K) (hk : K ≤ K') : s.Whole K' := ⟨h.nt, h.nl, h.owner, h.waits, h.level, h.owners, h.wls, h.wts, h.levels, h.effs, h.lens, fun x hx => Nat.le_trans (h.lasts x hx) hk⟩
theorem getW_set {ws : List (Int × Int)} {k : Nat} (hk : k < ws.length) (x : Int × Int) (t : Int) : getW (ws.set k x) t = if t = k then x else getW ws t := by
  unfold getW
  by_cases h0 : 0 ≤ t
  · obtain ⟨j, rfl⟩ : ∃ j : Nat, t = j := ⟨t.toNat, by omega⟩
    rw [if_pos h0, if_pos h0, Int.toNat_natCast]
    by_cases hj : j = k
    · subst hj; simp [List.getD_eq_getElem?_getD, List.getElem?_set_self hk]
    · rw [if_neg (by omega), getD_set_ne _ _ _ _ _ (Ne.symm hj)]
  · rw [if_neg h0, if_neg h0, if_neg (by omega)]
theorem getO_set {ws : List Int} {k : Nat} (hk : k < ws.length) (x : Int) (t : Int) : getO (ws.set k x) t = if t = k then x else getO ws t := by
  unfold getO
  by_cases h0 : 0 ≤ t
  · obtain ⟨j, rfl⟩ : ∃ j : Nat, t = j := ⟨t.toNat, by omega⟩
    rw [if_pos h0, if_pos h0, Int.toNat_natCast]
    by_cases hj : j = k
    · subst hj; simp [List.getD_eq_getElem?_getD, List.getElem?_set_self hk]
    · rw [if_neg (by omega), getD_set_ne _ _ _ _ _ (Ne.symm hj)]
  · rw [if_neg h0, if_neg h0, if_neg (by omega)]
theorem getW_rng {ws : List (Int × Int)} {m n : Int} (hm : 0 ≤ m) (hn : 0 ≤ n) (h1 : ∀ x ∈ ws, -1 ≤ x.1 ∧ x.1 < m) (h2 : ∀ x ∈ ws, -1 ≤ x.2 ∧ x.2 < n) (t : Int) : (-1 ≤ (getW ws t).1 ∧ (getW ws t).1 < m) ∧ (-1 ≤ (getW ws t).2 ∧ (getW ws t).2 < n) := by
  by_cases h : t < 0 ∨ ws.length ≤ t
  · rw [getW_out h]; simp; omega
  · obtain ⟨j, rfl⟩ : ∃ j : Nat, t = j := ⟨t.toNat, by omega⟩
    rw [getW_in (by omega)]
    exact ⟨h1 _ (List.getElem_mem _), h2 _ (List.getElem_mem _)⟩
theorem getO_rng {ws : List Int} {n : Int} (hn : 0 ≤ n) (h1 : ∀ x ∈ ws, -1 ≤ x ∧ x < n) (t : Int) : -1 ≤ getO ws t ∧ getO ws t < n := by
  by_cases h : t < 0 ∨ ws.length ≤ t
  · rw [getO_out h]; omega
  · obtain ⟨j, rfl⟩ : ∃ j : Nat, t = j := ⟨t.toNat, by omega⟩
    rw [getO_in (by omega)]
    exact h1 _ (List.getElem_mem _)

theorem rep_no (n v : Nat) (h : (List.replicate n false).getD v false = true) : False := by
  rw [List.getD_eq_getElem?_getD, List.getElem?_replicate] at h
  split at h <;> simp at h

/-- What always holds of locks, but for the effective levels of these. -/
structure LkInv (s : Lk) (K : Nat) (B : Nat → Prop) : Prop where
  whole : s.Whole K
  one : ∀ t : Int, (getW s.waits t).1 = -1 ∨ (getW s.waits t).2 = -1
  held : ∀ t : Int, (getW s.waits t).1 ≠ -1 → getO s.owner (getW s.waits t).1 ≠ -1
  falls : ∃ r, Falls (nextW s.owner s.waits) r
  e7 : ∀ t : Nat, t < s.eff.length → 0 ≤ s.eff.getD t 0 ∧ s.eff.getD t 0 ≤ 7
  fix : ∀ t : Nat, t < s.eff.length → ¬ B t → Fix s.owner s.level s.waits s.eff t
  lines : LinesOk s.waits (fun u => s.eff.getD u.toNat 0) s.lines
/-- What always holds of locks. -/
abbrev LkAll (s : Lk) (K : Nat) : Prop := LkInv s K (fun _ => False)
theorem LkInv.mono {s : Lk} {K K' : Nat} {B B' : Nat → Prop} (h : LkInv s K B) (hk : K ≤ K') (hb : ∀ u, B u → B' u) : LkInv s K' B' :=
  ⟨h.whole.up hk, h.one, h.held, h.falls, h.e7, fun t ht hn => h.fix t ht (fun hB => hn (hb t hB)), h.lines⟩
theorem LkInv.wrng {s : Lk} {K : Nat} {B : Nat → Prop} (h : LkInv s K B) (t : Int) : (-1 ≤ (getW s.waits t).1 ∧ (getW s.waits t).1 < s.lines.length) ∧ (-1 ≤ (getW s.waits t).2 ∧ (getW s.waits t).2 < s.eff.length) := getW_rng (by omega) (by omega) h.whole.wls h.whole.wts t
theorem LkInv.orng {s : Lk} {K : Nat} {B : Nat → Prop} (h : LkInv s K B) (t : Int) : -1 ≤ getO s.owner t ∧ getO s.owner t < s.eff.length := getO_rng (by omega) h.whole.owners t
theorem LkInv.nrng {s : Lk} {K : Nat} {B : Nat → Prop} (h : LkInv s K B) (t : Int) : -1 ≤ nextW s.owner s.waits t ∧ nextW s.owner s.waits t < s.eff.length := by
  unfold nextW
  split
  · exact (h.wrng t).2
  · exact h.orng _
theorem LkInv.grng {s : Lk} {K : Nat} {B : Nat → Prop} (h : LkInv s K B) (t : Int) : -1 ≤ nextG s.owner s.waits t ∧ nextG s.owner s.waits t < s.eff.length := by
  unfold nextG
  split
  · omega
  · exact h.orng _
theorem Falls.toG {owner : List Int} {waits : List (Int × Int)} {r : Int → Nat} (h : Falls (nextW owner waits) r) : Falls (nextG owner waits) r := fun t h0 h1 => by
  unfold nextG at h1 ⊢
  have h2 := h t h0
  unfold nextW at h2
  split at h1
  · omega
  · rename_i hn
    rw [if_neg hn] at h2 ⊢
    exact h2 h1

theorem due_e7 {owner level : List Int} {waits : List (Int × Int)} {eff : List Int} {k : Nat} {d : Int} (hd : IsDue owner level waits eff k d) (hk : k < waits.length) (hlv : ∀ x ∈ level, 0 ≤ x ∧ x ≤ 7) (hll : level.length = waits.length) (he : ∀ u : Nat, u < waits.length → 0 ≤ eff.getD u 0 ∧ eff.getD u 0 ≤ 7) : 0 ≤ d ∧ d ≤ 7 := by
  have hl : 0 ≤ level.getD k 0 ∧ level.getD k 0 ≤ 7 := by
    rw [List.getD_eq_getElem?_getD, List.getElem?_eq_getElem (by omega)]
    exact hlv _ (List.getElem_mem _)
  refine ⟨?_, Int.le_trans hd.lev hl.2⟩
  rcases hd.one with h1 | ⟨i, hi, _, h1⟩
  · rw [h1]; exact hl.1
  · rw [h1]; exact (he i hi).1
theorem set_e7 {n : Nat} {out : List Int} (he : ∀ u : Nat, u < n → 0 ≤ out.getD u 0 ∧ out.getD u 0 ≤ 7) (hl : out.length = n) (k : Nat) (d : Int) (hd : 0 ≤ d ∧ d ≤ 7) : ∀ u : Nat, u < n → 0 ≤ (out.set k d).getD u 0 ∧ (out.set k d).getD u 0 ≤ 7 := fun u hu => by
  by_cases huk : k = u
  · subst huk; rw [getD_set_eq _ _ _ _ (by omega)]; exact hd
  · rw [getD_set_ne _ _ _ _ _ huk]; exact he u hu
theorem roadF_e7 {owner level : List Int} {waits : List (Int × Int)} (hlv : ∀ x ∈ level, 0 ≤ x ∧ x ≤ 7) (hll : level.length = waits.length) : ∀ (f : Nat) (vis : List Bool) (t : Int) (out met : List Int), out.length = waits.length → (∀ u : Nat, u < waits.length → 0 ≤ out.getD u 0 ∧ out.getD u 0 ≤ 7) →
    ∀ u : Nat, u < waits.length → 0 ≤ (roadF owner level waits f vis t out met).1.getD u 0 ∧ (roadF owner level waits f vis t out met).1.getD u 0 ≤ 7
  | 0, vis, t, out, met, _, h => h
  | f + 1, vis, t, out, met, hl, h => by
    rw [roadF]
    split
    · exact h
    split
    · exact h
    split
    · exact h
    rename_i ht _ _
    exact roadF_e7 hlv hll f _ _ _ _ (by simp [hl]) (set_e7 h hl _ _ (due_e7 (dueM_is owner level waits out t.toNat) (by omega) hlv hll h))
theorem betF_e7 {owner : List Int} {waits : List (Int × Int)} {given : Int} (hg : 0 ≤ given ∧ given ≤ 7) : ∀ (f : Nat) (t : Int) (eff met : List Int), eff.length = waits.length → (∀ u : Nat, u < waits.length → 0 ≤ eff.getD u 0 ∧ eff.getD u 0 ≤ 7) →
    ∀ u : Nat, u < waits.length → 0 ≤ (betF owner waits given f t eff met).1.getD u 0 ∧ (betF owner waits given f t eff met).1.getD u 0 ≤ 7
  | 0, t, eff, met, _, h => h
  | f + 1, t, eff, met, hl, h => by
    rw [betF]
    split
    · exact h
    split
    · exact h
    split
    · exact set_e7 h hl _ _ hg
    exact betF_e7 hg f _ _ _ (by simp [hl]) (set_e7 h hl _ _ hg)
theorem betF_met {owner : List Int} {waits : List (Int × Int)} {given : Int} {n : Int} (hn : 0 ≤ n) (ho : ∀ t, getO owner t < n) : ∀ (f : Nat) (t : Int) (eff met : List Int), -1 ≤ t → t < n → (∀ x ∈ met, 0 ≤ x ∧ x < n) → (∀ t, -1 ≤ getO owner t) → ∀ x ∈ (betF owner waits given f t eff met).2, 0 ≤ x ∧ x < n
  | 0, t, eff, met, _, _, h, _ => h
  | f + 1, t, eff, met, h0, h1, h, hom => by
    rw [betF]
    have hm : ∀ ht : ¬ t = -1, ∀ x ∈ met ++ [t], 0 ≤ x ∧ x < n := fun ht x hx => by
      rcases List.mem_append.1 hx with hx | hx
      · exact h x hx
      · obtain rfl := List.mem_singleton.1 hx; omega
    split
    · exact h
    rename_i ht
    split
    · exact h
    split
    · exact hm ht
    exact betF_met hn ho f _ _ _ (hom _) (ho _) (hm ht) hom

/-- Behind worse: the thread's level is right, too. -/
theorem worse_inv {s : Lk} {K : Nat} {B : Nat → Prop} {t : Int} (h : LkInv s K (fun u => (u : Int) = t ∨ B u)) : LkInv (worseS s t) K B := by
  obtain ⟨r, hr⟩ := h.falls
  have hwl := h.whole.waits
  have hfx := roadF_fix (level := s.level) hr.toG (by rw [hwl]; exact h.whole.nt) B 65 (List.replicate 64 false) t s.eff [] (by simp) (by simp) (fun v hv => (rep_no _ _ hv).elim) hwl.symm
    (fun u hu hun hb => h.fix u (by omega) (fun hh => hh.elim hun hb))
  have he7 := roadF_e7 (owner := s.owner) h.whole.levels (by rw [hwl, h.whole.level]) 65 (List.replicate 64 false) t s.eff [] hwl.symm (fun u hu => h.e7 u (by omega))
  have hmet := (roadF_props (owner := s.owner) (waits := s.waits) h.whole.levels 65 (List.replicate 64 false) t s.eff [] h.whole.effs).2.2.1
  have hlen : (worseS s t).eff.length = s.eff.length := hfx.1.trans hwl
  refine ⟨worseS_whole h.whole t, h.one, h.held, ⟨r, hr⟩, fun u hu => he7 u (by omega), fun u hu hb => hfx.2.1 u (by omega) hb, ?_⟩
  exact takeL_all he7 (fun u hu => (h.wrng u).1.1) h.lines (fun u hu => (hmet u hu).elim (fun e => by simp at e) id) hfx.2.2.1

theorem IsDue.lev_congr {owner level level' : List Int} {waits : List (Int × Int)} {eff : List Int} {t : Nat} {d : Int} (h : IsDue owner level waits eff t d) (he : level'.getD t 0 = level.getD t 0) : IsDue owner level' waits eff t d :=
  ⟨by rw [he]; exact h.lev, h.give, by rw [he]; exact h.one⟩
/-- Whom a thread's givers are is all that counts. -/
theorem IsDue.next_congr {owner owner' level : List Int} {waits waits' : List (Int × Int)} {eff : List Int} {t : Nat} {d : Int} (h : IsDue owner level waits eff t d) (hl : waits'.length = waits.length) (he : ∀ i : Nat, i < waits.length → (nextG owner' waits' i = t ↔ nextG owner waits i = t)) : IsDue owner' level waits' eff t d := by
  refine ⟨h.lev, fun i hi hn => h.give i (by omega) ((he i (by omega)).1 hn), ?_⟩
  rcases h.one with h1 | ⟨i, hi, hn, h1⟩
  · exact .inl h1
  · exact .inr ⟨i, by omega, (he i hi).2 hn, h1⟩

/-- SetLevel. -/
theorem setLevel_inv {s : Lk} {K : Nat} (h : LkAll s K) (t lev : Int) : LkAll (setLevelS s t lev) K := by
  unfold setLevelS
  split
  · rename_i ht
    refine worse_inv (B := fun _ => False) ⟨⟨h.whole.nt, h.whole.nl, h.whole.owner, h.whole.waits, by simp [h.whole.level], h.whole.owners, h.whole.wls, h.whole.wts, fun x hx => ?_, h.whole.effs, h.whole.lens, h.whole.lasts⟩, h.one, h.held, h.falls, h.e7, fun u hu hb => ?_, h.lines⟩
    · rcases List.mem_or_eq_of_mem_set hx with hx | rfl
      · exact h.whole.levels x hx
      · unfold holdL; split
        · omega
        · split <;> omega
    · exact (h.fix u hu id).lev_congr (getD_set_ne _ _ _ _ _ (fun e => hb (.inl (by omega))))
  · exact h

/-- A lock for which nobody waits has another owner. -/
theorem own_inv {s : Lk} {K : Nat} {B : Nat → Prop} (h : LkInv s K B) (q : Nat) (hq : q < s.lines.length) (hno : ∀ t : Int, (getW s.waits t).1 ≠ q) (u : Int) (hu : -1 ≤ u ∧ u < s.eff.length) : LkInv { s with owner := s.owner.set q u } K B := by
  have hqo : q < s.owner.length := by rw [h.whole.owner]; exact hq
  have ho : ∀ t : Int, getO (s.owner.set q u) (getW s.waits t).1 = getO s.owner (getW s.waits t).1 := fun t => by rw [getO_set hqo, if_neg (hno t)]
  have hG : nextG (s.owner.set q u) s.waits = nextG s.owner s.waits := funext fun t => by unfold nextG; rw [ho]
  have hW : nextW (s.owner.set q u) s.waits = nextW s.owner s.waits := funext fun t => by unfold nextW; rw [ho]
  refine ⟨h.whole.setO q u hu, h.one, fun t ht => by rw [ho]; exact h.held t ht, by rw [hW]; exact h.falls, h.e7, fun t ht hb => (h.fix t ht hb).next_congr rfl (fun i _ => by rw [hG]), h.lines⟩
theorem LinesOk.waits_congr {waits waits' : List (Int × Int)} {lv : Int → Int} {lines : List (List WO × Nat)} (h : LinesOk waits lv lines) (hl : waits'.length = waits.length) (he : ∀ t : Int, (getW waits' t).1 = (getW waits t).1) : LinesOk waits' lv lines := fun q L last hq =>
  ⟨(h q L last hq).inv, fun x hx => by rw [he, hl]; exact (h q L last hq).mem x hx, fun t ht hw => (h q L last hq).all t (by omega) (by rw [← he]; exact hw)⟩
/-- A thread waits for a thread's end no more. -/
theorem part_inv {s : Lk} {K : Nat} {B : Nat → Prop} (h : LkInv s K B) (k : Nat) (hk : k < s.eff.length) (hw : (getW s.waits k).1 = -1) : LkInv { s with waits := s.waits.set k (-1, -1) } K B := by
  have hkw : k < s.waits.length := by rw [h.whole.waits]; exact hk
  have he : ∀ t : Int, (getW (s.waits.set k (-1, -1)) t).1 = (getW s.waits t).1 := fun t => by
    rw [getW_set hkw]
    split
    · rename_i e; rw [e, hw]
    · rfl
  have hG : nextG s.owner (s.waits.set k (-1, -1)) = nextG s.owner s.waits := funext fun t => by unfold nextG; rw [he]
  obtain ⟨r, hr⟩ := h.falls
  refine ⟨h.whole.setW k _ (by simp; omega) (by simp; omega), fun t => ?_, fun t => by rw [he]; exact h.held t, ⟨r, fun t h0 h1 => ?_⟩, h.e7, fun t ht hb => (h.fix t ht hb).next_congr (by simp) (fun i _ => by rw [hG]), h.lines.waits_congr (by simp) he⟩
  · show (getW (s.waits.set k (-1, -1)) t).1 = -1 ∨ (getW (s.waits.set k (-1, -1)) t).2 = -1
    rw [getW_set hkw]
    split
    · exact .inl rfl
    · exact h.one t
  · have hx := hr t h0
    have e : nextW s.owner (s.waits.set k (-1, -1)) t = if t = k then -1 else nextW s.owner s.waits t := by
      unfold nextW
      rw [getW_set hkw]
      split <;> simp
    show r (nextW s.owner (s.waits.set k (-1, -1)) t) < r t
    rw [show nextW s.owner ({ s with waits := s.waits.set k (-1, -1) } : Lk).waits t = _ from e] at h1
    rw [e]
    split at h1
    · omega
    · rename_i hn; rw [if_neg hn]; exact hx h1

/-- A thread is reached from another one. -/
inductive Reach (nx : Int → Int) : Int → Int → Prop
  | refl (a : Int) (h : 0 ≤ a) : Reach nx a a
  | step (a b : Int) (h : 0 ≤ a) : Reach nx (nx a) b → Reach nx a b
theorem Reach.from {nx : Int → Int} {a b : Int} (h : Reach nx a b) : 0 ≤ a := by cases h <;> assumption
open Classical in
/-- One more goes on to another one, from which it is not reached. -/
theorem falls_edge {nx nx' : Int → Int} {r : Int → Nat} (hr : Falls nx r) (k o : Int) (hk : 0 ≤ k) (h1 : nx' k = o) (h2 : ∀ t, t ≠ k → nx' t = nx t) (hno : ¬ Reach nx o k) : ∃ r', Falls nx' r' := by
  refine ⟨fun x => if Reach nx x k then r x + (r o + 1) else r x, fun t h0 hn => ?_⟩
  show (if Reach nx (nx' t) k then _ else _) < if Reach nx t k then _ else _
  by_cases ht : t = k
  · subst ht
    rw [h1, if_neg hno, if_pos (.refl t hk)]
    omega
  · rw [h2 t ht] at hn ⊢
    have := hr t h0 hn
    by_cases hc : Reach nx (nx t) k
    · rw [if_pos hc, if_pos (.step t k h0 hc)]; omega
    · rw [if_neg hc]
      split <;> omega
theorem walkF_no {owner : List Int} {waits : List (Int × Int)} {r : Int → Nat} (hr : Falls (nextW owner waits) r) (hnx : ∀ t, -1 ≤ nextW owner waits t ∧ nextW owner waits t < 64) (t u : Int) : ∀ (f : Nat) (met : List Bool) (n : Int), met.length = 64 → met.countP (fun b => !b) < f →
    (∀ v : Nat, met.getD v false = true → 0 ≤ n → r n < r v) → (0 ≤ n → r n < r u) → -1 ≤ n → n < 64 → walkF owner waits t u f met n false = false → ¬ Reach (nextW owner waits) n t
  | 0, met, n, _, h2, _, _, _, _, _ => by omega
  | f + 1, met, n, h1, h2, h3, h4, h5, h6, h7 => by
    rw [walkF] at h7
    by_cases hn : n = -1
    · subst hn
      intro h
      have := h.from
      omega
    rw [if_neg hn] at h7
    obtain ⟨k, rfl⟩ : ∃ k : Nat, n = k := ⟨n.toNat, by omega⟩
    by_cases hu : (k : Int) = u
    · subst hu; have := h4 (by omega); omega
    rw [if_neg hu] at h7
    simp only [Int.toNat_natCast] at h7
    by_cases hm : met.getD k false = true
    · have := h3 k hm (by omega); omega
    rw [if_neg hm] at h7
    by_cases ht : (k : Int) = t
    · simp [ht] at h7
    have hb : ((k : Int) == t) = false := beq_eq_false_iff_ne.2 ht
    rw [hb] at h7
    simp only [Bool.or_self, Bool.false_eq_true, if_false] at h7
    have hx := hnx (k : Int)
    have hstep := walkF_no hr hnx t u f (met.set k true) (nextW owner waits k) (by simp [h1]) (by have := countP_set_true met k (by omega) (by simpa using hm); omega)
      (fun v hv h0 => by
        have hrk := hr k (by omega) h0
        by_cases hvk : v = k
        · subst hvk; exact hrk
        · rw [getD_set_ne _ _ _ _ _ (Ne.symm hvk)] at hv
          have := h3 v hv (by omega); omega)
      (fun h0 => by have := hr k (by omega) h0; have := h4 (by omega); omega) hx.1 hx.2 h7
    intro h
    cases h with
    | refl => exact ht rfl
    | step _ _ _ h => exact hstep h
theorem closesM_no {s : Lk} {K : Nat} {B : Nat → Prop} (h : LkInv s K B) {t u : Int} (ht : 0 ≤ t ∧ t < s.eff.length) (hu : 0 ≤ u ∧ u < s.eff.length) (hc : closesM s.owner s.waits t u = false) : ¬ Reach (nextW s.owner s.waits) u t := by
  obtain ⟨r, hr⟩ := h.falls
  have hn := h.whole.nt
  unfold closesM at hc
  rw [if_pos (by rw [h.whole.waits]; exact ⟨ht, hu⟩)] at hc
  unfold closesF at hc
  have hnx : ∀ t, -1 ≤ nextW s.owner s.waits t ∧ nextW s.owner s.waits t < 64 := fun t => by have := h.nrng t; omega
  by_cases htu : t = u
  · exfalso
    subst htu
    rw [walkF] at hc
    simp only [beq_self_eq_true, Bool.true_or, if_true] at hc
    split at hc
    · cases hc
    split at hc
    · cases hc
    split at hc
    · cases hc
    · cases hc
  · have hb : (t == u) = false := beq_eq_false_iff_ne.2 htu
    rw [hb] at hc
    have hw := walkF_no hr hnx t u 65 (List.replicate 64 false) (nextW s.owner s.waits u) (by simp) (by simp) (fun v hv => (rep_no _ _ hv).elim) (fun h0 => hr u hu.1 h0) (hnx u).1 (hnx u).2 hc
    intro hh
    cases hh with
    | refl => exact htu rfl
    | step _ _ _ hh => exact hw hh

/-- Join. -/
theorem join_inv {s : Lk} {K : Nat} {B : Nat → Prop} (h : LkInv s K B) (k : Nat) (hk : k < s.eff.length) (u : Int) (hu : 0 ≤ u ∧ u < s.eff.length) (hw : getW s.waits k = (-1, -1)) (hno : ¬ Reach (nextW s.owner s.waits) u k) : LkInv { s with waits := s.waits.set k (-1, u) } K B := by
  have hkw : k < s.waits.length := by rw [h.whole.waits]; exact hk
  have he : ∀ t : Int, (getW (s.waits.set k (-1, u)) t).1 = (getW s.waits t).1 := fun t => by
    rw [getW_set hkw]
    split
    · rename_i e; rw [e, hw]
    · rfl
  have hG : nextG s.owner (s.waits.set k (-1, u)) = nextG s.owner s.waits := funext fun t => by unfold nextG; rw [he]
  obtain ⟨r, hr⟩ := h.falls
  refine ⟨h.whole.setW k _ (by simp; omega) ⟨by simp; omega, by simp; omega⟩, fun t => ?_, fun t => by rw [he]; exact h.held t, falls_edge hr k u (by omega) ?_ (fun t ht => ?_) hno, h.e7, fun t ht hb => (h.fix t ht hb).next_congr (by simp) (fun i _ => by rw [hG]), h.lines.waits_congr (by simp) he⟩
  · show (getW (s.waits.set k (-1, u)) t).1 = -1 ∨ (getW (s.waits.set k (-1, u)) t).2 = -1
    rw [getW_set hkw]
    split
    · exact .inl rfl
    · exact h.one t
  · unfold nextW; rw [getW_set hkw, if_pos rfl]; simp
  · unfold nextW; rw [getW_set hkw, if_neg ht]

theorem pigeon : ∀ (n : Nat) (l : List Int), l.Nodup → (∀ x ∈ l, 0 ≤ x ∧ x < (n : Int)) → l.length ≤ n
  | 0, l, _, h => by
    cases l with
    | nil => simp
    | cons x r => have := h x (by simp); omega
  | n + 1, l, hd, h => by
    by_cases hn : (n : Int) ∈ l
    · have h1 := List.length_erase_of_mem hn
      have h2 := pigeon n (l.erase (n : Int)) (hd.erase _) (fun x hx => by
        have hx2 := (List.Nodup.mem_erase_iff hd).1 hx
        have := h x hx2.2
        have := hx2.1
        omega)
      omega
    · have := pigeon n l hd (fun x hx => by
        have := h x hx
        have : x ≠ (n : Int) := fun e => hn (e ▸ hx)
        omega)
      omega
theorem Inv.placesL {L M : List WO} {last : Nat} (h : Inv L M last) : L.Pairwise (fun a b => a.p ≠ b.p) := (h.perm.pairwise_iff (fun {a b} hab => Ne.symm hab)).2 h.places
/-- A line that a thread does not stand in has room. -/
theorem line_room {waits : List (Int × Int)} {lv : Int → Int} {q : Int} {L : List WO} {last : Nat} (h : LineOk waits lv q L last) (k : Nat) (hk : k < waits.length) (hw : (getW waits k).1 ≠ q) : L.length + 1 ≤ waits.length := by
  obtain ⟨M, hM⟩ := h.inv
  have hp := hM.placesL
  have := pigeon waits.length ((k : Int) :: L.map WO.p) (List.nodup_cons.2 ⟨fun hm => by
    obtain ⟨x, hx, e⟩ := List.mem_map.1 hm
    exact hw (by rw [← e]; exact (h.mem x hx).2.2.1), by rw [List.nodup_iff_pairwise_ne, List.pairwise_map]; exact hp⟩) (fun x hx => by
    rcases List.mem_cons.1 hx with rfl | hx
    · omega
    · obtain ⟨y, hy, rfl⟩ := List.mem_map.1 hx
      exact ⟨(h.mem y hy).1, (h.mem y hy).2.1⟩)
  simpa using this

/-- A thread waits for a lock that another one owns. -/
theorem wait_inv {s : Lk} {K : Nat} (h : LkAll s K) (k q : Nat) (hk : k < s.eff.length) (hq : q < s.lines.length) (hw : getW s.waits k = (-1, -1)) (ho : getO s.owner q ≠ -1) (hno : ¬ Reach (nextW s.owner s.waits) (getO s.owner q) k) :
    findW (k : Int) (s.lines.getD q ([], 0)).1 = none ∧ ({ s with waits := s.waits.set k ((q : Int), -1) } : Lk).Whole K ∧ (putS s k q).Whole (K + 1) ∧ LkAll (betterS (putS s k q) (getO s.owner q) (s.eff.getD k 0)) (K + 1) := by
  have hwl := h.whole.waits
  have hkw : k < s.waits.length := by rw [h.whole.waits]; exact hk
  have hqo : q < s.owner.length := by rw [h.whole.owner]; exact hq
  obtain ⟨L, last, hl⟩ : ∃ L last, s.lines[q]? = some (L, last) := ⟨_, _, List.getElem?_eq_getElem hq⟩
  have hgl : s.lines.getD q ([], 0) = (L, last) := by rw [List.getD_eq_getElem?_getD, hl]; rfl
  have hok := h.lines q L last hl
  obtain ⟨M, hM⟩ := hok.inv
  have hw1 : (getW s.waits k).1 = -1 := by rw [hw]
  have hnone : findW (k : Int) L = none := (find_none_iff _ _).2 fun y hy e => by
    have := (hok.mem y hy).2.2.1
    rw [e, hw1] at this; omega
  have hW1 : ({ s with waits := s.waits.set k ((q : Int), -1) } : Lk).Whole K := h.whole.setW k _ ⟨by simp only; omega, by simp only; omega⟩ ⟨by simp only; omega, by simp only; omega⟩
  have he := h.e7 k hk
  have hpe : putS s k q = { s with waits := s.waits.set k ((q : Int), -1), lines := s.lines.set q (insW ⟨k, s.eff.getD k 0, last + 1⟩ L, last + 1) } := by
    unfold putS; rw [hgl, holdL_id he.1 he.2]
  have hroom := line_room hok k hkw (by rw [hw1]; omega)
  have hlast := h.whole.lasts _ (List.mem_of_getElem? hl)
  have hW2 : (putS s k q).Whole (K + 1) := by
    rw [hpe]
    exact (hW1.up (Nat.le_succ K)).setLn q _ (by have h1 := h.whole.nt; have h2 := h.whole.waits; show (insW _ L).length ≤ 64; rw [insW_len]; omega) (by show last + 1 ≤ K + 1; have : last ≤ K := hlast; omega)
  refine ⟨by rw [hgl]; exact hnone, hW1, hW2, ?_⟩
  have hor := h.orng q
  have hG : ∀ t : Int, nextG s.owner (s.waits.set k ((q : Int), -1)) t = if t = k then getO s.owner q else nextG s.owner s.waits t := fun t => by
    unfold nextG
    rw [getW_set hkw]
    split
    · rw [if_neg (show ¬ ((q : Int) = -1) by omega)]
    · rfl
  have hGk : nextG s.owner s.waits k = -1 := by unfold nextG; rw [if_pos hw1]
  have hNW : ∀ t : Int, nextW s.owner (s.waits.set k ((q : Int), -1)) t = if t = k then getO s.owner q else nextW s.owner s.waits t := fun t => by
    unfold nextW
    rw [getW_set hkw]
    split
    · rw [if_neg (show ¬ ((q : Int) = -1) by omega)]
    · rfl
  obtain ⟨r0, hr0⟩ := h.falls
  obtain ⟨r, hr⟩ : ∃ r, Falls (nextW s.owner (s.waits.set k ((q : Int), -1))) r := falls_edge hr0 k (getO s.owner q) (by omega) (by rw [hNW, if_pos rfl]) (fun t ht => by rw [hNW, if_neg ht]) hno
  have hlen : (s.waits.set k ((q : Int), -1)).length = s.eff.length := by simp [h.whole.waits]
  have hfx := betF_fix (level := s.level) hr.toG (s.eff.getD k 0) (fun t ht => by
      rw [hG]; split
      · omega
      · have := h.grng (t : Int); omega) (worseN (s.eff.getD k 0) s.eff + 1) (getO s.owner q) s.eff [] (by omega) hor.1 (by omega) hlen.symm
    (fun u hu hun => (h.fix u (by omega) id).next_congr (by simp) (fun i hi => by
      rw [hG]; split
      · rename_i e; rw [e, hGk]; omega
      · rfl))
    (fun j hj => by
      have hjn : j < s.eff.length := by omega
      have hfj := h.fix j hjn id
      refine ⟨by have := hfj.lev; omega, fun i hi hni => ?_, ?_⟩
      · rw [hG] at hni
        split at hni
        · rename_i e
          have hik : i = k := by omega
          subst hik; omega
        · have := hfj.give i (by omega) hni; omega
      · by_cases hle : s.eff.getD j 0 ≤ s.eff.getD k 0
        · rw [show min (s.eff.getD j 0) (s.eff.getD k 0) = s.eff.getD j 0 by omega]
          rcases hfj.one with h6 | ⟨i, hi, hni, h6⟩
          · exact .inl h6
          · refine .inr ⟨i, by omega, ?_, h6⟩
            rw [hG, if_neg (fun e => by have hik : i = k := (by omega); subst hik; rw [hGk] at hni; omega)]
            exact hni
        · rw [show min (s.eff.getD j 0) (s.eff.getD k 0) = s.eff.getD k 0 by omega]
          exact .inr ⟨k, by omega, by rw [hG, if_pos rfl]; exact hj, rfl⟩)
  have he7 := betF_e7 (owner := s.owner) (waits := s.waits.set k ((q : Int), -1)) he (worseN (s.eff.getD k 0) s.eff + 1) (getO s.owner q) s.eff [] hlen.symm (fun u hu => h.e7 u (by omega))
  have hmet := betF_met (owner := s.owner) (waits := s.waits.set k ((q : Int), -1)) (given := s.eff.getD k 0) (n := s.eff.length) (by omega) (fun t => (h.orng t).2) (worseN (s.eff.getD k 0) s.eff + 1) (getO s.owner q) s.eff [] hor.1 hor.2 (by simp) (fun t => (h.orng t).1)
  have hlines : LinesOk (s.waits.set k ((q : Int), -1)) (fun u => s.eff.getD u.toNat 0) (s.lines.set q (insW ⟨k, s.eff.getD k 0, last + 1⟩ L, last + 1)) := by
    intro q' L' last' hl'
    by_cases hqq : q' = q
    · subst hqq
      rw [List.getElem?_set_self hq] at hl'
      injection hl' with hl'
      injection hl' with e1 e2
      subst e1 e2
      refine ⟨⟨_, hM.put (by rw [← hM.find]; exact hnone) he.1 he.2⟩, fun z hz => ?_, fun t ht hwt => ?_⟩
      · rcases List.mem_cons.1 ((insW_perm _ _).mem_iff.1 hz) with rfl | hz
        · simp only [Int.toNat_natCast]
          exact ⟨by omega, by omega, by rw [getW_set hkw, if_pos rfl], trivial⟩
        · have hm := hok.mem z hz
          have hzk : z.p ≠ k := fun e => by have := hm.2.2.1; rw [e, hw1] at this; omega
          exact ⟨hm.1, by rw [List.length_set]; exact hm.2.1, by rw [getW_set hkw, if_neg hzk]; exact hm.2.2.1, hm.2.2.2⟩
      · by_cases htk : t = k
        · subst htk
          exact ⟨_, (insW_perm _ _).mem_iff.2 (List.mem_cons_self ..), rfl⟩
        · rw [getW_set hkw, if_neg (by omega)] at hwt
          obtain ⟨z, hz, hzp⟩ := hok.all t (by rw [List.length_set] at ht; exact ht) hwt
          exact ⟨z, (insW_perm _ _).mem_iff.2 (List.mem_cons_of_mem _ hz), hzp⟩
    · rw [List.getElem?_set_ne (Ne.symm hqq)] at hl'
      have hok' := h.lines q' L' last' hl'
      refine ⟨hok'.inv, fun z hz => ?_, fun t ht hwt => ?_⟩
      · have hm := hok'.mem z hz
        have hzk : z.p ≠ k := fun e => by have := hm.2.2.1; rw [e, hw1] at this; omega
        exact ⟨hm.1, by rw [List.length_set]; exact hm.2.1, by rw [getW_set hkw, if_neg hzk]; exact hm.2.2.1, hm.2.2.2⟩
      · rw [getW_set hkw] at hwt
        split at hwt
        · simp only at hwt; omega
        · exact hok'.all t (by rw [List.length_set] at ht; exact ht) hwt
  rw [hpe]
  have hlen2 := hfx.1
  have hnt := h.whole.nt
  have hres := takeL_all he7 (fun u hu => by
    rw [getW_set hkw]; split
    · simp only; omega
    · exact (h.wrng u).1.1) hlines (fun t ht => by have := hmet t ht; omega) hfx.2.2.1
  have hp := takeL_props (K := K + 1) (m := 64) (s.waits.set k ((q : Int), -1)) (betF s.owner (s.waits.set k ((q : Int), -1)) (s.eff.getD k 0) (worseN (s.eff.getD k 0) s.eff + 1) (getO s.owner q) s.eff []).1 (betF s.owner (s.waits.set k ((q : Int), -1)) (s.eff.getD k 0) (worseN (s.eff.getD k 0) s.eff + 1) (getO s.owner q) s.eff []).2 _ (by rw [hpe] at hW2; exact hW2.lens) (by rw [hpe] at hW2; exact hW2.lasts)
  unfold betterS betterR
  simp only
  generalize hR : betF s.owner (s.waits.set k ((q : Int), -1)) (s.eff.getD k 0) (worseN (s.eff.getD k 0) s.eff + 1) (getO s.owner q) s.eff [] = R at *
  have hRl : R.1.length = s.eff.length := by omega
  refine ⟨⟨by simp only; omega, by simp only; rw [hp.1]; simp [h.whole.nl], by simp only; rw [hp.1]; simp [h.whole.owner], by simp only; omega, by simp only; rw [hRl]; exact h.whole.level, by simp only; rw [hRl]; exact h.whole.owners, by simp only; rw [hp.1]; rw [hpe] at hW2; exact hW2.wls, by simp only; rw [hRl]; rw [hpe] at hW2; exact hW2.wts, h.whole.levels, fun x hx => ?_, hp.2.1, hp.2.2⟩, fun t => ?_, fun t => ?_, ⟨r, hr⟩, fun u hu => he7 u (by simp only at hu; omega), fun u hu _ => hfx.2.1 u (by simp only at hu; omega), hres⟩
  · simp only at hx
    obtain ⟨i, hi, rfl⟩ := List.mem_iff_getElem.1 hx
    have := he7 i (by omega)
    rw [List.getD_eq_getElem?_getD, List.getElem?_eq_getElem hi] at this
    simp at this; omega
  · simp only
    rw [getW_set hkw]
    split
    · exact .inr rfl
    · exact h.one t
  · simp only
    rw [getW_set hkw]
    split
    · intro _; exact ho
    · exact h.held t

/-- A thread leaves a line. -/
theorem LinesOk.leave {waits : List (Int × Int)} {lv : Int → Int} {lines : List (List WO × Nat)} (h : LinesOk waits lv lines) (k : Nat) (hk : k < waits.length) (q : Nat) (hw : (getW waits k).1 = q) {L : List WO} {last : Nat} (hl : lines[q]? = some (L, last)) :
    LinesOk (waits.set k (-1, -1)) lv (lines.set q (L.eraseP (isP k), last)) := by
  intro q' L' last' hl'
  by_cases hqq : q' = q
  · subst hqq
    rw [List.getElem?_set_self (List.getElem?_eq_some_iff.1 hl).1] at hl'
    injection hl' with hl'
    injection hl' with e1 e2
    subst e1 e2
    have hok := h q' L last hl
    obtain ⟨M, hM⟩ := hok.inv
    obtain ⟨x, hx, hxp⟩ := hok.all k hk hw
    have hne : ∀ z ∈ L.eraseP (isP k), z.p ≠ k := by
      cases hf : L.find? (isP k) with
      | none => exact absurd hxp ((find_none_iff _ _).1 hf x hx)
      | some y => exact (erase_none hM.placesL k hf).2
    refine ⟨⟨_, hM.remove k⟩, fun z hz => ?_, fun t ht hwt => ?_⟩
    · have hm := hok.mem z (List.eraseP_sublist.subset hz)
      exact ⟨hm.1, by rw [List.length_set]; exact hm.2.1, by rw [getW_set hk, if_neg (hne z hz)]; exact hm.2.2.1, hm.2.2.2⟩
    · rw [getW_set hk] at hwt
      split at hwt
      · simp only at hwt; omega
      · rename_i htk
        obtain ⟨z, hz, hzp⟩ := hok.all t (by rw [List.length_set] at ht; exact ht) hwt
        refine ⟨z, ?_, hzp⟩
        cases hf : L.find? (isP k) with
        | none => exact absurd hxp ((find_none_iff _ _).1 hf x hx)
        | some y =>
          rcases List.mem_cons.1 ((erase_none hM.placesL k hf).1.mem_iff.1 hz) with rfl | hz
          · have := (isP_iff _ _).1 (List.find?_some hf)
            exact absurd (hzp.symm.trans this) htk
          · exact hz
  · rw [List.getElem?_set_ne (Ne.symm hqq)] at hl'
    have hok' := h q' L' last' hl'
    refine ⟨hok'.inv, fun z hz => ?_, fun t ht hwt => ?_⟩
    · have hm := hok'.mem z hz
      have hzk : z.p ≠ k := fun e => by have := hm.2.2.1; rw [e, hw] at this; omega
      exact ⟨hm.1, by rw [List.length_set]; exact hm.2.1, by rw [getW_set hk, if_neg hzk]; exact hm.2.2.1, hm.2.2.2⟩
    · rw [getW_set hk] at hwt
      split at hwt
      · simp only at hwt; omega
      · exact hok'.all t (by rw [List.length_set] at ht; exact ht) hwt

/-- A waiter's going, with the lock's owner as it is or another one that waits for nothing: whose levels may be wrong. -/
theorem leave_inv {s : Lk} {K : Nat} (h : LkAll s K) (k : Nat) (hk : k < s.eff.length) (q : Nat) (hw : (getW s.waits k).1 = q) (hq : q < s.lines.length) {L : List WO} {last : Nat} (hl : s.lines[q]? = some (L, last)) (own : Bool) :
    LkInv { s with owner := if own then s.owner.set q k else s.owner, waits := s.waits.set k (-1, -1), lines := s.lines.set q (L.eraseP (isP k), last) } K (fun u => (u : Int) = getO s.owner q ∨ (own = true ∧ u = k)) := by
  have hkw : k < s.waits.length := by rw [h.whole.waits]; exact hk
  have hqo : q < s.owner.length := by rw [h.whole.owner]; exact hq
  obtain ⟨r, hr⟩ := h.falls
  have hO : ∀ t : Int, getO (if own then s.owner.set q k else s.owner) t = if own = true ∧ t = q then (k : Int) else getO s.owner t := fun t => by
    cases own
    · simp
    · simp only [if_true, true_and]; exact getO_set hqo _ _
  have hlen : (L.eraseP (isP k)).length ≤ L.length := List.eraseP_sublist.length_le
  have hW : ({ s with owner := if own then s.owner.set q k else s.owner, waits := s.waits.set k (-1, -1), lines := s.lines.set q (L.eraseP (isP k), last) } : Lk).Whole K := by
    have h1 := (h.whole.setW k (-1, -1) ⟨by simp, by simp; omega⟩ ⟨by simp, by simp; omega⟩).setLn q (L.eraseP (isP k), last) (by have : L.length ≤ 64 := h.whole.lens _ (List.mem_of_getElem? hl); show (L.eraseP (isP k)).length ≤ 64; omega) (show last ≤ K from h.whole.lasts (L, last) (List.mem_of_getElem? hl))
    cases own
    · exact h1
    · exact h1.setO q k ⟨by omega, by simp only; omega⟩
  refine ⟨hW, fun t => ?_, fun t ht => ?_, ⟨fun y => if y = (k : Int) then 0 else r y + 1, fun t h0 hn => ?_⟩, h.e7, fun u hu hb => ?_, h.lines.leave k hkw q hw hl⟩
  · simp only
    rw [getW_set hkw]
    split
    · exact .inl rfl
    · exact h.one t
  · simp only at ht ⊢
    rw [getW_set hkw] at ht ⊢
    split at ht
    · simp at ht
    · rename_i htk
      rw [if_neg htk, hO]
      split
      · omega
      · exact h.held t ht
  · have e : nextW (if own then s.owner.set q k else s.owner) (s.waits.set k (-1, -1)) t = if t = k then -1 else if own = true ∧ (getW s.waits t).1 = q then (k : Int) else nextW s.owner s.waits t := by
      unfold nextW
      rw [getW_set hkw]
      split
      · simp
      · rw [hO]
        by_cases hc : own = true ∧ (getW s.waits t).1 = (q : Int)
        · rw [if_pos hc, if_pos hc, if_neg (by omega)]
        · rw [if_neg hc, if_neg hc]
    simp only at hn ⊢
    rw [e] at hn ⊢
    by_cases htk : t = k
    · rw [if_pos htk] at hn; omega
    rw [if_neg htk] at hn ⊢
    rw [if_neg htk]
    by_cases hc : own = true ∧ (getW s.waits t).1 = (q : Int)
    · rw [if_pos hc]; simp
    · rw [if_neg hc] at hn ⊢
      have := hr t h0 hn
      split <;> omega
  · refine (h.fix u hu id).next_congr (by simp) (fun i hi => ?_)
    have e : nextG (if own then s.owner.set q k else s.owner) (s.waits.set k (-1, -1)) i = if (i : Int) = k then -1 else if own = true ∧ (getW s.waits i).1 = q then (k : Int) else nextG s.owner s.waits i := by
      unfold nextG
      rw [getW_set hkw]
      split
      · simp
      · rw [hO]
        by_cases hc : own = true ∧ (getW s.waits i).1 = (q : Int)
        · rw [if_pos hc, if_pos hc, if_neg (by omega)]
        · rw [if_neg hc, if_neg hc]
    have hq2 : (getW s.waits i).1 = (q : Int) → nextG s.owner s.waits i = getO s.owner q := fun e2 => by
      unfold nextG; rw [e2, if_neg (by omega)]
    simp only
    rw [e]
    by_cases hik : (i : Int) = k
    · rw [if_pos hik]
      have : nextG s.owner s.waits i = getO s.owner q := hq2 (by rw [hik]; exact hw)
      rw [this]
      constructor
      · intro h1; omega
      · intro h1; exact absurd (.inl h1.symm) hb
    rw [if_neg hik]
    by_cases hc : own = true ∧ (getW s.waits i).1 = (q : Int)
    · rw [if_pos hc, hq2 hc.2]
      constructor
      · intro h1; exact absurd (.inr ⟨hc.1, by omega⟩) hb
      · intro h1; exact absurd (.inl h1.symm) hb
    · rw [if_neg hc]

/-- Cancel: a thread waits for no lock any more. -/
def cancelS (s : Lk) (t : Int) : Lk := if (0 ≤ t ∧ t < s.eff.length) ∧ (getW s.waits t).1 ≠ -1 then
    worseS { s with waits := s.waits.set t.toNat (-1, -1), lines := s.lines.set (getW s.waits t).1.toNat ((s.lines.getD (getW s.waits t).1.toNat ([], 0)).1.eraseP (isP t), (s.lines.getD (getW s.waits t).1.toNat ([], 0)).2) } (getO s.owner (getW s.waits t).1)
  else s
theorem cancel_inv {s : Lk} {K : Nat} (h : LkAll s K) (t : Int) : LkAll (cancelS s t) K := by
  unfold cancelS
  split
  · rename_i hc
    have hwr := h.wrng t
    obtain ⟨k, rfl⟩ : ∃ k : Nat, t = k := ⟨t.toNat, by omega⟩
    obtain ⟨q, hq⟩ : ∃ q : Nat, (getW s.waits k).1 = q := ⟨(getW s.waits k).1.toNat, by omega⟩
    have hql : q < s.lines.length := by omega
    rw [hq]
    simp only [Int.toNat_natCast]
    have hl : s.lines[q]? = some ((s.lines.getD q ([], 0)).1, (s.lines.getD q ([], 0)).2) := by rw [List.getD_eq_getElem?_getD, List.getElem?_eq_getElem hql]; rfl
    have := leave_inv h k (by omega) q hq hql hl false
    exact worse_inv (B := fun _ => False) (this.mono (Nat.le_refl _) (fun u hu => hu.elim .inl (fun hh => by simp at hh)))
  · exact h
/-- A lock goes to the first of its line. -/
theorem pass_inv {s : Lk} {K : Nat} (h : LkAll s K) (q : Nat) (hq : q < s.lines.length) : LkAll (passS s q) K := by
  unfold passS
  obtain ⟨L, last, hl⟩ : ∃ L last, s.lines[q]? = some (L, last) := ⟨_, _, List.getElem?_eq_getElem hq⟩
  have hgl : s.lines.getD q ([], 0) = (L, last) := by rw [List.getD_eq_getElem?_getD, hl]; rfl
  have hok := h.lines q L last hl
  rw [hgl]
  cases L with
  | nil =>
    refine own_inv h q hq (fun t ht => ?_) (-1) (by omega)
    have hwl := h.whole.waits
    by_cases hr : t < 0 ∨ s.waits.length ≤ t
    · rw [getW_out hr] at ht
      have : (-1 : Int) = q := ht
      omega
    · obtain ⟨k, rfl⟩ : ∃ k : Nat, t = k := ⟨t.toNat, by omega⟩
      obtain ⟨x, hx, _⟩ := hok.all k (by omega) ht
      simp at hx
  | cons x r =>
    simp only
    have hm := hok.mem x (by simp)
    obtain ⟨k, hk⟩ : ∃ k : Nat, x.p = k := ⟨x.p.toNat, by omega⟩
    have hwl := h.whole.waits
    have := leave_inv h k (by omega) q (by rw [← hk]; exact hm.2.2.1) hq hl true
    have he : (x :: r).eraseP (isP (k : Int)) = r := List.eraseP_cons_of_pos ((isP_iff _ _).2 hk)
    rw [he] at this
    have h1 : passS1 s q x r last = { s with owner := if true then s.owner.set q k else s.owner, waits := s.waits.set k (-1, -1), lines := s.lines.set q (r, last) } := by
      unfold passS1; rw [hk]; simp
    rw [h1, hk]
    exact worse_inv (B := fun _ => False) ((worse_inv (B := fun u => u = k) (this.mono (Nat.le_refl _) (fun u hu => hu.elim .inl (fun hh => .inr hh.2)))).mono (Nat.le_refl _) (fun u hu => .inl (by omega)))
theorem LkInv.places {s : Lk} {K : Nat} {B : Nat → Prop} (h : LkInv s K B) : ∀ y ∈ s.lines, ∀ x ∈ y.1, 0 ≤ x.p ∧ x.p < s.eff.length := fun y hy x hx => by
  obtain ⟨q, hq⟩ := List.mem_iff_getElem?.1 hy
  obtain ⟨L, last⟩ := y
  have := (h.lines q L last hq).mem x hx
  have hwl := h.whole.waits
  exact ⟨this.1, by omega⟩

end Go.Proofs.YtfoeijiejpenpaaGreatDoor

