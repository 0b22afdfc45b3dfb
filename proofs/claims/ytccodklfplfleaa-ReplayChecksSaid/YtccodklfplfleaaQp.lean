/- Regions that draw their order, walked in phases: what is quiet in a class of worlds comes up in whatever order; then one for which all others wait or have waited. No program in sight. -/
import Derived.Test.YtccodklfplfleaaP00
import Derived.Deep.Quiet
import Derived.Deep.RegionHeld3
namespace Go.Proofs.Ytccodklfplfleaa
open Go

section
variable {P : Program} {ops : Array Oper} {C : World → Prop} {Q : Exit → Act → World → Prop}

/-- j waits for l, by itself or through others. -/
inductive Dep (ops : Array Oper) : Nat → Nat → Prop
  | one {j : Nat} {o : Oper} {e : Edge} : ops[j]? = some o → e ∈ o.after → Region.binds .any e = true → Dep ops j e.on
  | more {j l : Nat} {o : Oper} {e : Edge} : ops[j]? = some o → e ∈ o.after → Region.binds .any e = true → Dep ops e.on l → Dep ops j l
/-- What is listed has all that it waits for listed. -/
def Closed (ops : Array Oper) (listed : Array Bool) : Prop := ∀ j oj, ops[j]? = some oj → listed.getD j false = true → ∀ e ∈ oj.after, Region.binds .any e = true → listed.getD e.on false = true
theorem Closed.dep {listed : Array Bool} (h : Closed ops listed) {j l : Nat} (hd : Dep ops j l) : listed.getD j false = true → listed.getD l false = true := by
  induction hd with
  | one ho he hb => exact fun hl => h _ _ ho hl _ he hb
  | more ho he hb _ ih => exact fun hl => ih (h _ _ ho hl _ he hb)
theorem Closed.ready {listed : Array Bool} (h : Closed ops listed) {j l : Nat} (hd : Dep ops j l) (hr : j ∈ Region.ready .any ops listed) : listed.getD l false = true := by
  obtain ⟨_, o, ho, hall⟩ := mem_ready.1 hr
  cases hd with
  | one ho' he hb =>
    obtain rfl := Option.some.inj (ho.symm.trans ho')
    exact hall _ he hb
  | more ho' he hb hd =>
    obtain rfl := Option.some.inj (ho.symm.trans ho')
    exact h.dep hd (hall _ he hb)
theorem getD_fls {listed : Array Bool} {i : Nat} (h : listed.getD i true = false) : listed.getD i false = false := by
  rcases Nat.lt_or_ge i listed.size with h' | h'
  · simp [h'] at h ⊢; exact h
  · simp [Array.getElem?_eq_none h'] at h
theorem Closed.set {listed : Array Bool} (h : Closed ops listed) {i : Nat} (hi : i ∈ Region.ready .any ops listed) : Closed ops (listed.setIfInBounds i true) := by
  obtain ⟨_, oi, hoi, hall⟩ := mem_ready.1 hi
  intro j oj hj hl e he hb
  by_cases hij : i = j
  · subst hij
    obtain rfl := Option.some.inj (hj.symm.trans hoi)
    exact getD_set_true (hall e he hb)
  · rw [getD_set_ne false hij] at hl
    exact getD_set_true (h j oj hj hl e he hb)
/-- Masks of what each waits for. -/
def maskP (acc : List Nat) (s : Nat) (e : Edge) : Nat := if Region.binds .any e then s ||| 2 ^ e.on ||| acc.getD e.on 0 else s
def befP : List Oper → List Nat → List Nat
  | [], acc => acc
  | o :: r, acc => befP r (acc ++ [o.after.toList.foldl (maskP acc) 0])
theorem maskP_bit {acc : List Nat} {l : Nat} : ∀ (es : List Edge) (s : Nat), (es.foldl (maskP acc) s).testBit l = true → s.testBit l = true ∨ ∃ e ∈ es, Region.binds .any e = true ∧ (l = e.on ∨ (acc.getD e.on 0).testBit l = true)
  | [], s, h => .inl h
  | e :: es, s, h => by
    rcases maskP_bit es _ h with h1 | ⟨e', h1, h2⟩
    · unfold maskP at h1
      by_cases hb : Region.binds .any e = true
      · rw [if_pos hb, Nat.testBit_or, Nat.testBit_or, Nat.testBit_two_pow, Bool.or_eq_true, Bool.or_eq_true, decide_eq_true_eq] at h1
        rcases h1 with (h1 | h1) | h1
        · exact .inl h1
        · exact .inr ⟨e, by simp, hb, .inl h1.symm⟩
        · exact .inr ⟨e, by simp, hb, .inr h1⟩
      · rw [if_neg hb] at h1
        exact .inl h1
    · exact .inr ⟨e', by simp [h1], h2⟩
theorem befP_dep : ∀ (r : List Oper) (acc : List Nat), (∀ j, r[j]? = ops[acc.length + j]?) → (∀ j l, (acc.getD j 0).testBit l = true → Dep ops j l) → ∀ j l, ((befP r acc).getD j 0).testBit l = true → Dep ops j l
  | [], _, _, h => h
  | o :: r, acc, hl, h => by
    refine befP_dep r _ (fun j => by have := hl (j + 1); simp only [List.getElem?_cons_succ] at this; rw [this]; simp [Nat.add_assoc, Nat.add_comm 1 j]) fun j l hb => ?_
    rcases Nat.lt_trichotomy j acc.length with hj | hj | hj
    · rw [List.getD_eq_getElem?_getD, List.getElem?_append_left hj, ← List.getD_eq_getElem?_getD] at hb
      exact h j l hb
    · subst hj
      rw [List.getD_eq_getElem?_getD, List.getElem?_append_right (Nat.le_refl _), Nat.sub_self] at hb
      have ho : ops[acc.length]? = some o := by have := hl 0; simpa using this.symm
      rcases maskP_bit _ _ hb with h1 | ⟨e, he, hbd, h1⟩
      · simp at h1
      · rcases h1 with rfl | h1
        · exact .one ho (by simpa using he) hbd
        · exact .more ho (by simpa using he) hbd (h _ _ h1)
    · rw [List.getD_eq_getElem?_getD, List.getElem?_eq_none (by simp; omega)] at hb
      simp at hb
/-- Are all of H listed? -/
def allL (listed : Array Bool) (H : List Nat) : Prop := ∀ h ∈ H, listed.getD h true = true
/-- Whatever of L is picked from here on; where all of H are listed, the rest may come up too. -/
def wpAnyP (P : Program) (ops : Array Oper) (C : World → Prop) (L H : List Nat) (g : Nat) (Q : Exit → Act → World → Prop) : Nat → Array Bool → Act → Prop
  | 0, listed, a => (∀ j ∈ Region.ready .any ops listed, j ∉ L) ∧ (allL listed H → ∀ w, C w → wpAny P .any ops Q (0 + g) listed a w) ∧ (¬ allL listed H → Region.ready .any ops listed ≠ [] ∧ ∀ j ∈ Region.ready .any ops listed, j ∈ L)
  | f + 1, listed, a => (∀ j ∈ Region.ready .any ops listed, j ∈ L → qOp P ops C j (wpAnyP P ops C L H g Q f (listed.setIfInBounds j true)) a) ∧ (allL listed H → ∀ w, C w → wpAny P .any ops Q (f + 1 + g) listed a w) ∧ (¬ allL listed H → Region.ready .any ops listed ≠ [] ∧ ∀ j ∈ Region.ready .any ops listed, j ∈ L)
theorem wpAny_of_phase {L H : List Nat} {g : Nat} : ∀ (f : Nat) (listed : Array Bool) (a : Act) (w : World), C w → wpAnyP P ops C L H g Q f listed a → wpAny P .any ops Q (f + g) listed a w
  | 0, listed, a, w, hC, h => by
    by_cases hH : allL listed H
    · exact h.2.1 hH w hC
    · obtain ⟨h1, h2⟩ := h.2.2 hH
      obtain ⟨j, hj⟩ := List.exists_mem_of_ne_nil _ h1
      exact absurd (h2 j hj) (h.1 j hj)
  | f + 1, listed, a, w, hC, h => by
    by_cases hH : allL listed H
    · exact h.2.1 hH w hC
    · obtain ⟨h1, h2⟩ := h.2.2 hH
      rw [show f + 1 + g = (f + g) + 1 by omega]
      exact ⟨fun h0 => absurd h0 h1, fun i hi => wpOp_of_qOp hC (fun a' w' hC' h' => wpAny_of_phase f _ a' w' hC' h') (h.1 i hi (h2 i hi))⟩
/-- All others wait for all of H. -/
def Behind (ops : Array Oper) (listed : Array Bool) (L H : List Nat) : Prop := ∀ j, listed.getD j true = false → j ∈ L ∨ ∀ l ∈ H, Dep ops j l
theorem unset {listed : Array Bool} {i j : Nat} (hj : (listed.setIfInBounds i true).getD j true = false) : listed.getD j true = false := by
  by_cases hij : i = j
  · subst hij
    rcases Nat.lt_or_ge i listed.size with h' | h'
    · simp [h'] at hj
    · simp [Array.getElem?_eq_none h'] at hj
  · rwa [getD_set_ne true hij] at hj
theorem Behind.set {listed : Array Bool} {L H : List Nat} (h : Behind ops listed L H) (i : Nat) : Behind ops (listed.setIfInBounds i true) L H := fun j hj => h j (unset hj)
theorem Behind.in_ {listed : Array Bool} {L H : List Nat} (hb : Behind ops listed L H) (hc : Closed ops listed) (hH : ¬ allL listed H) {j : Nat} (hj : j ∈ Region.ready .any ops listed) : j ∈ L := by
  rcases hb j (mem_ready.1 hj).1 with h | h
  · exact h
  · refine absurd (fun l hl => ?_) hH
    have h1 := hc.ready (h l hl) hj
    cases h2 : listed.getD l true with
    | true => rfl
    | false => rw [getD_fls h2] at h1; cases h1
theorem wpAnyP_first {L H : List Nat} {g : Nat} {i : Nat} {oi : Oper} {v : Value} (hi : ops[i]? = some oi) (hiL : i ∈ L) (hsel : ∀ (j : Nat) (o : Oper) cs b, ops[j]? = some o → o.op ≠ .select cs b)
    (hQ : ∀ c a w, Q (.panic c) (a.put oi.dst v) w → Q (.panic c) a w) :
    ∀ (f : Nat) (listed : Array Bool) (a : Act), Closed ops listed → Behind ops listed L H →
      (∀ j oj, ops[j]? = some oj → j ≠ i → listed.getD j true = false → (∀ e ∈ oj.after, Region.binds .any e = true → e.on ≠ i) → oi.apart ops oj = true) →
      i ∈ Region.ready .any ops listed → YieldsIn P ops C oi v a → (i ∈ H ∨ Yields P ops oi v a) →
      wpAnyP P ops C L H g Q f (listed.setIfInBounds i true) (a.put oi.dst v) → wpAnyP P ops C L H g Q (f + 1) listed a := by
  intro f
  have two : ∀ (f : Nat) (listed : Array Bool) (a : Act),
      (∀ j oj, ops[j]? = some oj → j ≠ i → listed.getD j true = false → (∀ e ∈ oj.after, Region.binds .any e = true → e.on ≠ i) → oi.apart ops oj = true) →
      i ∈ Region.ready .any ops listed → (i ∈ H ∨ Yields P ops oi v a) → (allL (listed.setIfInBounds i true) H → ∀ w, C w → wpAny P .any ops Q (f + g) (listed.setIfInBounds i true) (a.put oi.dst v) w) →
      allL listed H → ∀ w, C w → wpAny P .any ops Q (f + 1 + g) listed a w := fun f listed a hfree hr hy h hH w hC => by
    rcases hy with hy | hy
    · have h1 := hH i hy
      rw [(mem_ready.1 hr).1] at h1
      cases h1
    · rw [show f + 1 + g = (f + g) + 1 by omega]
      refine wpAny_first hi hsel hQ _ _ _ _ hfree hr hy (h (fun l hl => ?_) w hC)
      by_cases hij : i = l
      · subst hij
        rcases Nat.lt_or_ge i listed.size with h' | h'
        · simp [h']
        · simp [Array.getElem?_eq_none h']
      · rw [getD_set_ne true hij]; exact hH l hl
  induction f with
  | zero =>
    intro listed a hc hb hfree hr hy hs HP
    refine ⟨fun j hj hjL => ?_, two 0 listed a hfree hr hs HP.2.1, fun hH => ⟨fun h => (by rw [h] at hr; cases hr), fun j hj => hb.in_ hc hH hj⟩⟩
    by_cases hji : j = i
    · subst hji; exact hy.qOp hi HP
    · exact absurd hjL (HP.1 j (ready_mono hj hji))
  | succ f ih =>
    intro listed a hc hb hfree hr hy hs HP
    refine ⟨fun j hj hjL => ?_, two (f + 1) listed a hfree hr hs HP.2.1, fun hH => ⟨fun h => (by rw [h] at hr; cases hr), fun j hj => hb.in_ hc hH hj⟩⟩
    by_cases hji : j = i
    · subst hji; exact hy.qOp hi HP
    · have h1 := HP.1 j (ready_mono hj hji) hjL
      have hun := (mem_ready.1 hr).1
      obtain ⟨hjun, oj, hoj, hall⟩ := mem_ready.1 hj
      have hnot : ∀ e ∈ oj.after, Region.binds .any e = true → e.on ≠ i := fun e he hb heq => by
        have h1 := hall e he hb
        rw [heq, getD_fls hun] at h1
        cases h1
      have hap := hfree j oj hoj hji hjun hnot
      have h2 := qOp_put hoj hap (fun cs b => hsel i oi cs b hi) (fun cs b => hsel j oj cs b hoj) hy h1
      have hfree' : ∀ k ok, ops[k]? = some ok → k ≠ i → (listed.setIfInBounds j true).getD k true = false →
          (∀ e ∈ ok.after, Region.binds .any e = true → e.on ≠ i) → oi.apart ops ok = true := fun k ok hk hki hun hno => hfree k ok hk hki (unset hun) hno
      obtain ⟨ap1, ap2, ap3⟩ := Oper.apart_spec hap
      obtain ⟨vj, hyj, hKj⟩ := yieldsIn_of_qOp hoj h2
      refine hyj.qOp hoj (ih (listed.setIfInBounds j true) (a.put oj.dst vj) (hc.set hj) (hb.set j) hfree' (ready_mono hr (Ne.symm hji)) hKj.1 ?_ ?_)
      · rcases hs with hs | hs
        · exact .inl hs
        · exact .inr (hs.of_same (execOp_put oi (fun cs b => hsel i oi cs b hi) a oj.dst vj ap3) (wanted_put oi a oj.dst vj ap3))
      · rw [Array.setIfInBounds_comm _ _ hji]
        exact hKj.2
/-- One that yields in whatever world. -/
def sOp (P : Program) (ops : Array Oper) (i : Nat) (K : Act → Prop) (a : Act) : Prop :=
  match ops[i]? with
  | none => K a
  | some o => ∃ v, Yields P ops o v a ∧ K (a.put o.dst v)
/-- The walk through L, in its order; 'true': it must yield in whatever world. -/
def wpQL (P : Program) (ops : Array Oper) (C : World → Prop) (G : Act → Prop) : List (Nat × Bool) → Act → Prop
  | [], a => G a
  | (i, false) :: r, a => qOp P ops C i (wpQL P ops C G r) a
  | (i, true) :: r, a => sOp P ops i (wpQL P ops C G r) a
def listAll (listed : Array Bool) : List (Nat × Bool) → Array Bool
  | [] => listed
  | (i, _) :: r => listAll (listed.setIfInBounds i true) r
def lexP (ops : Array Oper) : List (Nat × Bool) → Array Bool → Bool
  | [], _ => true
  | (k, _) :: r, listed => (Region.ready .any ops listed).contains k && (Region.free .any ops listed k && lexP ops r (listed.setIfInBounds k true))
theorem listAll_of {listed : Array Bool} {j : Nat} (h : listed.getD j true = true) : ∀ (r : List (Nat × Bool)), (listAll listed r).getD j true = true := by
  intro r
  induction r generalizing listed with
  | nil => exact h
  | cons x r ih =>
    refine ih ?_
    by_cases hij : x.1 = j
    · rw [hij]
      rcases Nat.lt_or_ge j listed.size with h' | h'
      · simp [h']
      · simp [Array.getElem?_eq_none h']
    · rw [getD_set_ne true hij]; exact h
theorem listAll_mem {listed : Array Bool} {x : Nat × Bool} : ∀ (r : List (Nat × Bool)), x ∈ r → (listAll listed r).getD x.1 true = true := by
  intro r
  induction r generalizing listed with
  | nil => intro h; cases h
  | cons y r ih =>
    intro h
    rcases List.mem_cons.1 h with rfl | h
    · refine listAll_of ?_ r
      rcases Nat.lt_or_ge x.1 listed.size with h' | h'
      · simp [h']
      · simp [Array.getElem?_eq_none h']
    · exact ih h
def hardL (L : List (Nat × Bool)) : List Nat := (L.filter fun x => !x.2).map (·.1)
theorem Yields.in_ {o : Oper} {v : Value} {a : Act} (h : Yields P ops o v a) : YieldsIn P ops C o v a :=
  h.imp (fun ⟨hw, hv⟩ => ⟨hw, fun w _ => by unfold Oper.quietAt; rw [hv w]; exact ⟨rfl, rfl⟩⟩) id
theorem wpAnyP_lex {L : List (Nat × Bool)} {g : Nat} {fin : Array Bool} (hsel : Region.noSelect ops = true) (hQ : ∀ d v c a w, Q (.panic c) (Act.put a d v) w → Q (.panic c) a w) (hfin : ∀ x ∈ L, fin.getD x.1 true = true) :
    ∀ (r : List (Nat × Bool)) (listed : Array Bool) (a : Act), (∀ x ∈ r, x ∈ L) → Closed ops listed → Behind ops listed (L.map (·.1)) (hardL L) → listAll listed r = fin →
    lexP ops r listed = true → wpQL P ops C (fun a' => ∀ w', C w' → wpAny P .any ops Q g fin a' w') r a → wpAnyP P ops C (L.map (·.1)) (hardL L) g Q r.length listed a
  | [], listed, a, _, _, _, hf, _, h => by
    have hf : listed = fin := hf
    subst hf
    refine ⟨fun j hj hjL => ?_, fun _ w hC => by rw [Nat.zero_add]; exact h w hC, fun hn => absurd (fun l hl => ?_) hn⟩
    · obtain ⟨x, hx, rfl⟩ := List.mem_map.1 hjL
      have h1 := hfin x hx
      rw [(mem_ready.1 hj).1] at h1
      cases h1
    · obtain ⟨x, hx, rfl⟩ := List.mem_map.1 hl
      exact hfin x (List.mem_filter.1 hx).1
  | (i, b) :: r, listed, a, hr, hc, hb, hf, hB, h => by
    simp only [lexP, Bool.and_eq_true] at hB
    obtain ⟨hrd, hfr, hB'⟩ := hB
    have hrd' : i ∈ Region.ready .any ops listed := by simpa using hrd
    obtain ⟨_, oi, hoi, _⟩ := mem_ready.1 hrd'
    have hiL : i ∈ L.map (·.1) := List.mem_map.2 ⟨(i, b), hr _ (by simp), rfl⟩
    cases b with
    | false =>
      obtain ⟨v, hy, hK⟩ := yieldsIn_of_qOp hoi h
      exact wpAnyP_first hoi hiL (Region.noSelect_spec hsel) (fun c a w => hQ _ _ c a w) r.length listed a hc hb (Region.free_spec hoi hfr) hrd' hy (.inl (List.mem_map.2 ⟨(i, false), List.mem_filter.2 ⟨hr _ (by simp), rfl⟩, rfl⟩))
        (wpAnyP_lex hsel hQ hfin r _ _ (fun x hx => hr x (by simp [hx])) (hc.set hrd') (hb.set i) hf hB' hK)
    | true =>
      have h' : ∃ v, Yields P ops oi v a ∧ wpQL P ops C (fun a' => ∀ w', C w' → wpAny P .any ops Q g fin a' w') r (a.put oi.dst v) := by
        unfold wpQL sOp at h
        simpa only [hoi] using h
      obtain ⟨v, hy, hK⟩ := h'
      exact wpAnyP_first hoi hiL (Region.noSelect_spec hsel) (fun c a w => hQ _ _ c a w) r.length listed a hc hb (Region.free_spec hoi hfr) hrd' (Yields.in_ hy) (.inr hy)
        (wpAnyP_lex hsel hQ hfin r _ _ (fun x hx => hr x (by simp [hx])) (hc.set hrd') (hb.set i) hf hB' hK)
def closedB (ops : Array Oper) (listed : Array Bool) : Bool := (List.range ops.size).all fun j => !listed.getD j false || ((ops[j]?).map (·.after.all fun e => !Region.binds .any e || listed.getD e.on false)).getD true
def behindB (ops : Array Oper) (listed : Array Bool) (L H : List Nat) : Bool := (List.range ops.size).all fun j => listed.getD j true || (L.contains j || H.all fun l => ((befP ops.toList []).getD j 0).testBit l)
/-- The phase is sound: a Bool over the region's text. -/
def phaseB (ops : Array Oper) (listed : Array Bool) (L : List (Nat × Bool)) : Bool := Region.noSelect ops && (closedB ops listed && (behindB ops listed (L.map (·.1)) (hardL L) && (lexP ops L listed && decide (listed.size = ops.size))))
theorem closed_of {listed : Array Bool} (h : closedB ops listed = true) : Closed ops listed := by
  intro j oj hj hl e he hb
  have h1 := List.all_eq_true.1 h j (List.mem_range.2 (Array.getElem?_eq_some_iff.1 hj).1)
  rw [hl, hj] at h1
  simp only [Bool.not_true, Bool.false_or, Option.map_some, Option.getD_some] at h1
  have h2 := Array.all_eq_true_iff_forall_mem.1 h1 e he
  rw [hb] at h2
  simpa using h2
theorem behind_of {listed : Array Bool} {L H : List Nat} (h : behindB ops listed L H = true) (hs : listed.size = ops.size) : Behind ops listed L H := by
  intro j hj
  have hlt : j < ops.size := by
    rcases Nat.lt_or_ge j listed.size with h' | h'
    · omega
    · simp [Array.getElem?_eq_none h'] at hj
  have h1 := List.all_eq_true.1 h j (List.mem_range.2 hlt)
  rw [hj, Bool.false_or, Bool.or_eq_true] at h1
  rcases h1 with h1 | h1
  · exact .inl (by simpa using h1)
  · exact .inr fun l hl => befP_dep ops.toList [] (fun j => by simp) (fun j l h => by simp at h) j l (List.all_eq_true.1 h1 l hl)
/-- The walk through L, shut: nothing looks into it. -/
structure QW (P : Program) (ops : Array Oper) (C : World → Prop) (G : Act → Prop) (r : List (Nat × Bool)) (a : Act) : Prop where
  out : wpQL P ops C G r a
/-- A quiet phase; behind it whatever world of the class. -/
theorem wpAny_phase (C : World → Prop) (L : List (Nat × Bool)) {fuel : Nat} {listed listed' : Array Bool} {a : Act} {w : World} (hB : phaseB ops listed L = true) (hl : listAll listed L = listed') {f : Nat} (hf : fuel = L.length + f) (hC : C w)
    (hQ : ∀ d v c a w, Q (.panic c) (Act.put a d v) w → Q (.panic c) a w)
    (h : QW P ops C (fun a' => ∀ w', C w' → wpAny P .any ops Q f listed' a' w') L a) : wpAny P .any ops Q fuel listed a w := by
  subst hf hl
  simp only [phaseB, Bool.and_eq_true, decide_eq_true_eq] at hB
  obtain ⟨h1, h2, h3, h4, h5⟩ := hB
  exact wpAny_of_phase _ _ _ _ hC (wpAnyP_lex h1 hQ (fun x hx => listAll_mem L hx) L listed a (fun i hi => hi) (closed_of h2) (behind_of h3 h5) rfl h4 h.out)
/-- An operation of a text, written out. -/
def nthO : List Oper → Nat → Option Oper
  | [], _ => none
  | o :: _, 0 => some o
  | _ :: r, n + 1 => nthO r n
theorem nthO_eq : ∀ (l : List Oper) (i : Nat), nthO l i = l.toArray[i]?
  | [], i => by simp [nthO]
  | o :: l, 0 => by simp [nthO]
  | o :: l, i + 1 => by rw [nthO, nthO_eq l i]; simp
section
variable {o0 o1 o2 o3 o4 o5 o6 o7 o8 o9 o10 o11 o12 o13 o14 o15 o16 o17 o18 o19 o20 o21 o22 o23 o24 o25 o26 o27 o28 o29 o30 o31 o32 o33 o34 o35 o36 o37 o38 o39 o40 o41 o42 o43 o44 o45 o46 o47 o48 o49 o50 o51 o52 o53 o54 o55 o56 o57 o58 o59 o60 o61 o62 o63 o64 o65 o66 o67 o68 o69 o70 o71 o72 o73 o74 o75 o76 o77 o78 o79 : Oper} {r : List Oper}
theorem nth_0 : nthO (o0::r) 0 = some o0 := rfl
theorem nth_1 : nthO (o0::o1::r) 1 = some o1 := rfl
theorem nth_2 : nthO (o0::o1::o2::r) 2 = some o2 := rfl
theorem nth_3 : nthO (o0::o1::o2::o3::r) 3 = some o3 := rfl
theorem nth_4 : nthO (o0::o1::o2::o3::o4::r) 4 = some o4 := rfl
theorem nth_5 : nthO (o0::o1::o2::o3::o4::o5::r) 5 = some o5 := rfl
theorem nth_6 : nthO (o0::o1::o2::o3::o4::o5::o6::r) 6 = some o6 := rfl
theorem nth_7 : nthO (o0::o1::o2::o3::o4::o5::o6::o7::r) 7 = some o7 := rfl
theorem nth_8 : nthO (o0::o1::o2::o3::o4::o5::o6::o7::o8::r) 8 = some o8 := rfl
theorem nth_9 : nthO (o0::o1::o2::o3::o4::o5::o6::o7::o8::o9::r) 9 = some o9 := rfl
theorem nth_10 : nthO (o0::o1::o2::o3::o4::o5::o6::o7::o8::o9::o10::r) 10 = some o10 := rfl
theorem nth_11 : nthO (o0::o1::o2::o3::o4::o5::o6::o7::o8::o9::o10::o11::r) 11 = some o11 := rfl
theorem nth_12 : nthO (o0::o1::o2::o3::o4::o5::o6::o7::o8::o9::o10::o11::o12::r) 12 = some o12 := rfl
theorem nth_13 : nthO (o0::o1::o2::o3::o4::o5::o6::o7::o8::o9::o10::o11::o12::o13::r) 13 = some o13 := rfl
theorem nth_14 : nthO (o0::o1::o2::o3::o4::o5::o6::o7::o8::o9::o10::o11::o12::o13::o14::r) 14 = some o14 := rfl
theorem nth_15 : nthO (o0::o1::o2::o3::o4::o5::o6::o7::o8::o9::o10::o11::o12::o13::o14::o15::r) 15 = some o15 := rfl
theorem nth_16 : nthO (o0::o1::o2::o3::o4::o5::o6::o7::o8::o9::o10::o11::o12::o13::o14::o15::o16::r) 16 = some o16 := rfl
theorem nth_17 : nthO (o0::o1::o2::o3::o4::o5::o6::o7::o8::o9::o10::o11::o12::o13::o14::o15::o16::o17::r) 17 = some o17 := rfl
theorem nth_18 : nthO (o0::o1::o2::o3::o4::o5::o6::o7::o8::o9::o10::o11::o12::o13::o14::o15::o16::o17::o18::r) 18 = some o18 := rfl
theorem nth_19 : nthO (o0::o1::o2::o3::o4::o5::o6::o7::o8::o9::o10::o11::o12::o13::o14::o15::o16::o17::o18::o19::r) 19 = some o19 := rfl
theorem nth_20 : nthO (o0::o1::o2::o3::o4::o5::o6::o7::o8::o9::o10::o11::o12::o13::o14::o15::o16::o17::o18::o19::o20::r) 20 = some o20 := rfl
theorem nth_21 : nthO (o0::o1::o2::o3::o4::o5::o6::o7::o8::o9::o10::o11::o12::o13::o14::o15::o16::o17::o18::o19::o20::o21::r) 21 = some o21 := rfl
theorem nth_22 : nthO (o0::o1::o2::o3::o4::o5::o6::o7::o8::o9::o10::o11::o12::o13::o14::o15::o16::o17::o18::o19::o20::o21::o22::r) 22 = some o22 := rfl
theorem nth_23 : nthO (o0::o1::o2::o3::o4::o5::o6::o7::o8::o9::o10::o11::o12::o13::o14::o15::o16::o17::o18::o19::o20::o21::o22::o23::r) 23 = some o23 := rfl
theorem nth_24 : nthO (o0::o1::o2::o3::o4::o5::o6::o7::o8::o9::o10::o11::o12::o13::o14::o15::o16::o17::o18::o19::o20::o21::o22::o23::o24::r) 24 = some o24 := rfl
theorem nth_25 : nthO (o0::o1::o2::o3::o4::o5::o6::o7::o8::o9::o10::o11::o12::o13::o14::o15::o16::o17::o18::o19::o20::o21::o22::o23::o24::o25::r) 25 = some o25 := rfl
theorem nth_26 : nthO (o0::o1::o2::o3::o4::o5::o6::o7::o8::o9::o10::o11::o12::o13::o14::o15::o16::o17::o18::o19::o20::o21::o22::o23::o24::o25::o26::r) 26 = some o26 := rfl
theorem nth_27 : nthO (o0::o1::o2::o3::o4::o5::o6::o7::o8::o9::o10::o11::o12::o13::o14::o15::o16::o17::o18::o19::o20::o21::o22::o23::o24::o25::o26::o27::r) 27 = some o27 := rfl
theorem nth_28 : nthO (o0::o1::o2::o3::o4::o5::o6::o7::o8::o9::o10::o11::o12::o13::o14::o15::o16::o17::o18::o19::o20::o21::o22::o23::o24::o25::o26::o27::o28::r) 28 = some o28 := rfl
theorem nth_29 : nthO (o0::o1::o2::o3::o4::o5::o6::o7::o8::o9::o10::o11::o12::o13::o14::o15::o16::o17::o18::o19::o20::o21::o22::o23::o24::o25::o26::o27::o28::o29::r) 29 = some o29 := rfl
theorem nth_30 : nthO (o0::o1::o2::o3::o4::o5::o6::o7::o8::o9::o10::o11::o12::o13::o14::o15::o16::o17::o18::o19::o20::o21::o22::o23::o24::o25::o26::o27::o28::o29::o30::r) 30 = some o30 := rfl
theorem nth_31 : nthO (o0::o1::o2::o3::o4::o5::o6::o7::o8::o9::o10::o11::o12::o13::o14::o15::o16::o17::o18::o19::o20::o21::o22::o23::o24::o25::o26::o27::o28::o29::o30::o31::r) 31 = some o31 := rfl
theorem nth_32 : nthO (o0::o1::o2::o3::o4::o5::o6::o7::o8::o9::o10::o11::o12::o13::o14::o15::o16::o17::o18::o19::o20::o21::o22::o23::o24::o25::o26::o27::o28::o29::o30::o31::o32::r) 32 = some o32 := rfl
theorem nth_33 : nthO (o0::o1::o2::o3::o4::o5::o6::o7::o8::o9::o10::o11::o12::o13::o14::o15::o16::o17::o18::o19::o20::o21::o22::o23::o24::o25::o26::o27::o28::o29::o30::o31::o32::o33::r) 33 = some o33 := rfl
end
/-- One comes up alone. -/
theorem wpAny_loud (n : Nat) {l : List Oper} {o : Oper} {fuel : Nat} {listed listed' : Array Bool} {a : Act} {w : World} (hr : decide (Region.ready .any l.toArray listed = [n]) = true) (hl : listed.setIfInBounds n true = listed') (ho : nthO l n = some o)
    (h : ∀ K : Act → World → Prop, Shut (∀ a w, wpAny P .any l.toArray Q fuel listed' a w → K a w) → if Region.wanted o (yielded l.toArray a.tmps) = true then Oper.wp P o a w K Q else K (a.put o.dst undef) w) : wpAny P .any l.toArray Q (fuel + 1) listed a w := by
  subst hl
  rw [nthO_eq] at ho
  have hr := of_decide_eq_true hr
  refine ⟨fun h0 => (by rw [hr] at h0; cases h0), fun i hi => ?_⟩
  rw [hr] at hi
  obtain rfl := List.mem_singleton.1 hi
  exact wpOp_step ho (fun K' hK => h K' hK)
theorem wpQL_nil {G : Act → Prop} {a : Act} (h : G a) : QW P ops C G [] a := ⟨h⟩
/-- One that yields its value in every world of the class. -/
theorem wpQL_take {l : List Oper} {G : Act → Prop} {i : Nat} {r : List (Nat × Bool)} {a : Act} {o : Oper} {v : Value} (ho : nthO l i = some o) (hw : Region.wanted o (yielded l.toArray a.tmps) = true)
    (hy : ∀ w, C w → (execOp a.eval o).run P w = .ok (.value v) w) (h : QW P l.toArray C G r (a.put o.dst v)) : QW P l.toArray C G ((i, false) :: r) a := by
  rw [nthO_eq] at ho
  refine ⟨?_⟩
  unfold wpQL qOp
  simp only [ho, hw, if_true]
  exact ⟨v, fun w hC => by unfold Oper.quietAt; rw [hy w hC]; exact ⟨rfl, rfl⟩, h.out⟩
/-- One that is not wanted. -/
theorem wpQL_not {l : List Oper} {G : Act → Prop} {i : Nat} {r : List (Nat × Bool)} {a : Act} {o : Oper} (ho : nthO l i = some o) (hw : Region.wanted o (yielded l.toArray a.tmps) = false)
    (h : QW P l.toArray C G r (a.put o.dst undef)) : QW P l.toArray C G ((i, false) :: r) a := by
  rw [nthO_eq] at ho
  refine ⟨?_⟩
  unfold wpQL qOp
  simp only [ho, hw, Bool.false_eq_true, if_false]
  exact h.out
/-- A call that hands back one value, in every world of the class. -/
theorem wpQL_call {l : List Oper} {G : Act → Prop} {i : Nat} {r : List (Nat × Bool)} {a : Act} {o : Oper} {v : Value} {f : FuncId} {args : Array Value} (ho : nthO l i = some o) (hw : Region.wanted o (yielded l.toArray a.tmps) = true)
    (hy : ∀ w, C w → (execOp a.eval o).run P w = .ok (.enter f args) w) (hc : ∀ w, C w → Calls P f args w fun e w' => e = .returned v ∧ C w') (h : QW P l.toArray C G r (a.put o.dst v)) : QW P l.toArray C G ((i, false) :: r) a := by
  rw [nthO_eq] at ho
  refine ⟨?_⟩
  unfold wpQL qOp
  simp only [ho, hw, if_true]
  exact ⟨v, fun w hC => by unfold Oper.quietAt; rw [hy w hC]; exact ⟨rfl, hc w hC⟩, h.out⟩
end
/-- The beginning. -/
theorem wp_region_phases {P : Program} {Q : Exit → Act → World → Prop} {id : Nat} {l : List Oper} {a : Act} {w : World} (hm : P.follows .mixedOrders = true) {n : Nat} {listed : Array Bool} (hn : l.toArray.size = n) (hl : Array.replicate n false = listed)
    (h : wpAny P .any l.toArray Q n listed a w.drew) : (Code.region id l.toArray true).wp P Q a w := by
  subst hn hl
  exact wp_region_any hm h

/-- The same moves where one condition holds throughout. -/
theorem held_take {P : Program} {l : List Oper} {Q : Exit → Act → World → Prop} {S : World → Prop} {i : Nat} {oi : Oper} {v : Value} {fuel : Nat} {listed : Array Bool} {a : Act} {w : World} (hi : nthO l i = some oi)
    (hs : Region.noSelect l.toArray = true) (hf : Region.free .any l.toArray listed i = true) (hr : (Region.ready .any l.toArray listed).contains i = true)
    (hQ : ∀ c a w, Q (.panic c) (a.put oi.dst v) w → Q (.panic c) a w) (hy : YieldsIf P l.toArray S oi v a) (hS : S w)
    (h : wpAnyH P .any l.toArray Q S fuel (listed.setIfInBounds i true) (a.put oi.dst v) w) : wpAnyH P .any l.toArray Q S (fuel + 1) listed a w :=
  wpAnyH_take (by rw [← nthO_eq]; exact hi) hs hf hr hQ hy hS h
theorem held_cons {P : Program} {l : List Oper} {Q : Exit → Act → World → Prop} {S : World → Prop} {fuel : Nat} {listed : Array Bool} {a : Act} {w : World} {i : Nat} {o : Oper} {rs : List Nat} (ho : nthO l i = some o)
    (h : ∀ K' : Act → World → Prop, Shut (∀ a w, S w → (S w → wpAnyH P .any l.toArray Q S fuel (listed.setIfInBounds i true) a w) → K' a w) → if Region.wanted o (yielded l.toArray a.tmps) = true then Oper.wp P o a w K' Q else K' (a.put o.dst undef) w)
    (hs : AllReadyH P .any l.toArray Q S fuel listed a w rs) : AllReadyH P .any l.toArray Q S fuel listed a w (i :: rs) :=
  AllReadyH.cons (by rw [← nthO_eq]; exact ho) h hs
/-- A call that reads, in the class of worlds that keep all of an elder one. -/
theorem quiet_call {P : Program} {f : FuncId} {args : Array Value} {v : Value} {wb W : World} (hC : Kept [] wb W) (h : Calls P f args W fun e w' => e = .returned v ∧ Kept [] W w') : Calls P f args W fun e w' => e = .returned v ∧ Kept [] wb w' :=
  h.mono fun _ _ h => ⟨h.1, hC.trans h.2⟩

end Go.Proofs.Ytccodklfplfleaa
