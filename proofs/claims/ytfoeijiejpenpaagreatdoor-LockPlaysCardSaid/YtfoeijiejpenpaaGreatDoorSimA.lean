/- Law 26: the document's state and the program's (the plain law): rings, effective levels. No program in sight; Law 26: the document's state stands for the program's: what both tell (the plain law). No program in sight; Law 26: the document's lines and lists are the program's (the plain law). No program in sight; Law 26: each call keeps the document's state standing for the program's, and both tell the same (the plain law). No program in sight; Law 26: drops and ends keep the document's state standing for the program's (the plain law). No program in sight. -/
import Derived.Test.YtfoeijiejpenpaaGreatDoorRefC
import Derived.Test.YtfoeijiejpenpaaGreatDoorLkGl

/- Law 26: the document's state and the program's (the plain law): rings, effective levels. No program in sight. -/
namespace Go.Proofs.YtfoeijiejpenpaaGreatDoor

theorem countP_strict {l : List Nat} {p q : Nat → Bool} (h : ∀ x, p x = true → q x = true) {y : Nat} (hy : y ∈ l) (hq : q y = true) (hp : p y = false) : l.countP p < l.countP q := by
  induction l with
  | nil => simp at hy
  | cons z t ih =>
    rw [List.countP_cons, List.countP_cons]
    have hm : t.countP p ≤ t.countP q := List.countP_mono_left (fun x _ hx => h x hx)
    rcases List.mem_cons.1 hy with rfl | hy
    · rw [hq, hp]; simp; omega
    · have := ih hy
      have h2 : (if p z = true then 1 else 0) ≤ (if q z = true then 1 else 0) := by
        by_cases hz : p z = true
        · rw [if_pos hz, if_pos (h z hz)]; exact Nat.le_refl _
        · rw [if_neg hz]; exact Nat.zero_le _
      omega
/-- How many stand lower. -/
def dn (r : Int → Nat) (n : Nat) (a : Int) : Nat := (List.range n).countP (fun i : Nat => decide (r i < r a))
theorem dn_le (r : Int → Nat) (n : Nat) (a : Int) : dn r n a ≤ n := by
  unfold dn
  have := List.countP_le_length (p := fun i : Nat => decide (r i < r a)) (l := List.range n)
  simpa using this
theorem dn_lt {nx : Int → Int} {r : Int → Nat} (hr : Falls nx r) {n : Nat} {a : Int} (h0 : 0 ≤ a) (h1 : 0 ≤ nx a) (h2 : nx a < n) : dn r n (nx a) < dn r n a := by
  have hlt := hr a h0 h1
  unfold dn
  refine countP_strict (y := (nx a).toNat) (fun x hx => ?_) (List.mem_range.2 (by omega)) ?_ ?_
  · have := of_decide_eq_true hx; exact decide_eq_true (by omega)
  · rw [show (((nx a).toNat : Nat) : Int) = nx a by omega]; exact decide_eq_true hlt
  · rw [show (((nx a).toNat : Nat) : Int) = nx a by omega]; exact decide_eq_false (by omega)
theorem dn_self {nx : Int → Int} {r : Int → Nat} {n : Nat} {a : Int} (h0 : 0 ≤ a) (h2 : a < n) : dn r n a < n := by
  unfold dn
  have h := countP_strict (l := List.range n) (p := fun i : Nat => decide (r i < r a)) (q := fun _ => true) (y := a.toNat) (fun _ _ => rfl) (List.mem_range.2 (by omega)) rfl (by rw [show ((a.toNat : Nat) : Int) = a by omega]; exact decide_eq_false (by omega))
  simpa using h
theorem Reach.trans {nx : Int → Int} {a b c : Int} (h : Reach nx a b) (h2 : Reach nx b c) : Reach nx a c := by
  induction h with
  | refl => exact h2
  | step a b h _ ih => exact .step a c h (ih h2)
theorem Reach.to {nx : Int → Int} {a b : Int} (h : Reach nx a b) : 0 ≤ b := by
  induction h with
  | refl _ h => exact h
  | step _ _ _ _ ih => exact ih
theorem Reach.cong {nx nx' : Int → Int} {a b : Int} (h : Reach nx a b) (he : ∀ x, nx x = nx' x) : Reach nx' a b := by
  induction h with
  | refl a h => exact .refl a h
  | step a b h _ ih => exact .step a b h (by rw [← he]; exact ih)

/-! ### What the program's search says -/
theorem walkF_yes {owner : List Int} {waits : List (Int × Int)} (hnx : ∀ t, -1 ≤ nextW owner waits t) (t u : Int) : ∀ (f : Nat) (met : List Bool) (n : Int) (fd : Bool), -1 ≤ n → walkF owner waits t u f met n fd = true → fd = true ∨ Reach (nextW owner waits) n t
  | 0, _, _, fd, _, h => .inl h
  | f + 1, met, n, fd, hn, h => by
    rw [walkF] at h
    by_cases h1 : n = -1
    · rw [if_pos h1] at h; exact .inl h
    · rw [if_neg h1] at h
      by_cases h2 : n = u
      · rw [if_pos h2] at h; exact .inl h
      · rw [if_neg h2] at h
        by_cases h3 : met.getD n.toNat false = true
        · rw [if_pos h3] at h; exact .inl h
        · rw [if_neg h3] at h
          by_cases h4 : (fd || n == t) = true
          · rcases Bool.or_eq_true_iff.1 h4 with h5 | h5
            · exact .inl h5
            · have : n = t := by simpa using h5
              subst this
              exact .inr (.refl n (by omega))
          · rw [if_neg h4] at h
            rcases walkF_yes hnx t u f _ _ _ (hnx n) h with h5 | h5
            · cases h5
            · exact .inr (.step n t (by omega) h5)
theorem closesM_yes {s : Lk} {K : Nat} {B : Nat → Prop} (h : LkInv s K B) {t u : Int} (hc : closesM s.owner s.waits t u = true) : (0 ≤ t ∧ t < s.eff.length) ∧ (0 ≤ u ∧ u < s.eff.length) ∧ Reach (nextW s.owner s.waits) u t := by
  unfold closesM at hc
  split at hc
  · rename_i hr
    rw [h.whole.waits] at hr
    refine ⟨hr.1, hr.2, ?_⟩
    unfold closesF at hc
    rcases walkF_yes (fun t => (h.nrng t).1) t u _ _ _ _ (h.nrng u).1 hc with h1 | h1
    · have : t = u := by simpa using h1
      subst this
      exact .refl t hr.1.1
    · exact .step u t hr.2.1 h1
  · cases hc
theorem closesM_iff {s : Lk} {K : Nat} {B : Nat → Prop} (h : LkInv s K B) {t u : Int} : closesM s.owner s.waits t u = true ↔ (0 ≤ t ∧ t < s.eff.length) ∧ (0 ≤ u ∧ u < s.eff.length) ∧ Reach (nextW s.owner s.waits) u t := by
  refine ⟨closesM_yes h, fun ⟨h1, h2, h3⟩ => ?_⟩
  cases hc : closesM s.owner s.waits t u with
  | true => rfl
  | false => exact absurd h3 (closesM_no h h1 h2 hc)

/-! ### What the document's searches say -/
theorem reachF_yes {f : Rf} {nx : Int → Int} (he : ∀ x, nextR f x = nx x) {tg : Int} : ∀ (k : Nat) (a : Int), 0 ≤ a → reachF f tg k a = true → Reach nx a tg
  | 0, _, _, h => by cases h
  | k + 1, a, h0, h => by
    rw [reachF] at h
    by_cases h1 : nextR f a < 0
    · rw [if_pos h1] at h; cases h
    · rw [if_neg h1] at h
      by_cases h2 : nextR f a = tg
      · refine .step a tg h0 ?_
        rw [← he, h2]
        exact .refl tg (by omega)
      · rw [if_neg h2] at h
        have := reachF_yes he k _ (by omega) h
        refine .step a tg h0 ?_
        rw [← he]; exact this
theorem reachF_no {f : Rf} {nx : Int → Int} (he : ∀ x, nextR f x = nx x) {r : Int → Nat} (hr : Falls nx r) {n : Nat} (hn : ∀ x, nx x < n) {tg : Int} : ∀ (k : Nat) (a : Int), dn r n a ≤ k → a ≠ tg → Reach nx a tg → reachF f tg k a = true
  | 0, a, hd, hne, h => by
    cases h with
    | refl => exact absurd rfl hne
    | step _ _ h0 h1 => have := dn_lt hr h0 h1.from (hn a); omega
  | k + 1, a, hd, hne, h => by
    cases h with
    | refl => exact absurd rfl hne
    | step _ _ h0 h1 =>
      have h2 := dn_lt hr h0 h1.from (hn a)
      have h3 := h1.from
      rw [reachF, he, if_neg (by omega)]
      by_cases h4 : nx a = tg
      · rw [if_pos h4]
      · rw [if_neg h4]
        exact reachF_no he hr hn k _ (by omega) h4 h1
theorem givesF_yes {f : Rf} {nx : Int → Int} (he : ∀ x : Int, 0 ≤ x → x < f.level.length → nextA f x = nx x) (hn : ∀ x, nx x < f.level.length) {tg : Int} (htg : 0 ≤ tg) : ∀ (k : Nat) (a : Int), a < f.level.length → givesF f tg k a = true → Reach nx a tg
  | 0, _, _, h => by cases h
  | k + 1, a, hl, h => by
    rw [givesF] at h
    by_cases h1 : a = tg
    · subst h1; exact .refl a htg
    · rw [if_neg h1] at h
      by_cases h0 : 0 ≤ a
      · rw [if_pos h0, he a h0 hl] at h
        exact .step a tg h0 (givesF_yes he hn htg k _ (hn a) h)
      · rw [if_neg h0] at h
        exact absurd (givesF_yes he hn htg k a hl h).from h0
theorem givesF_no {f : Rf} {nx : Int → Int} (he : ∀ x : Int, 0 ≤ x → x < f.level.length → nextA f x = nx x) {r : Int → Nat} (hr : Falls nx r) (hn : ∀ x, nx x < f.level.length) {tg : Int} : ∀ (k : Nat) (a : Int), dn r f.level.length a < k → a < f.level.length → Reach nx a tg → givesF f tg k a = true
  | 0, _, hd, _, _ => by omega
  | k + 1, a, hd, hl, h => by
    rw [givesF]
    by_cases h1 : a = tg
    · rw [if_pos h1]
    · rw [if_neg h1]
      cases h with
      | refl => exact absurd rfl h1
      | step _ _ h0 h2 =>
        rw [if_pos h0, he a h0 hl]
        have h3 := dn_lt hr h0 h2.from (hn a)
        exact givesF_no he hr hn k _ (by omega) (hn a) h2

end Go.Proofs.YtfoeijiejpenpaaGreatDoor

/- Law 26: the document's state stands for the program's: what both tell (the plain law). No program in sight. -/
namespace Go.Proofs.YtfoeijiejpenpaaGreatDoor

/-- When a thread came. -/
def cm (f : Rf) (t : Int) : Int := f.came.getD t.toNat 0
/-- The document's state is the program's. -/
structure Sim (s : Lk) (js : List (List Int)) (f : Rf) : Prop where
  level : f.level = s.level
  owner : f.owner = s.owner
  lock : f.lock = s.waits.map Prod.fst
  join : f.join = s.waits.map Prod.snd
  clen : f.came.length = s.level.length
  last : 0 ≤ f.last
  upto : ∀ x ∈ f.came, x ≤ f.last
  cameL : ∀ (q : Nat) (L : List WO) (last : Nat), s.lines[q]? = some (L, last) → ∀ x ∈ L, ∀ y ∈ L, x.n < y.n → cm f x.p < cm f y.p
  cameJ : ∀ (u : Nat) (h : u < js.length), js[u].Pairwise (fun a b => cm f a < cm f b)
  all : ∀ (u : Nat) (h : u < js.length) (t : Nat), t < s.waits.length → (getW s.waits t).2 = u → (t : Int) ∈ js[u]
section
variable {s : Lk} {js : List (List Int)} {f : Rf} {K : Nat} {B : Nat → Prop}

theorem Sim.n (h : Sim s js f) (hs : s.Whole K) : f.level.length = s.eff.length := by rw [h.level, hs.level]
theorem Sim.m (h : Sim s js f) (hs : s.Whole K) : f.owner.length = s.lines.length := by rw [h.owner, hs.owner]
theorem Sim.lock_at (h : Sim s js f) {k : Nat} (hk : k < s.waits.length) : f.lock.getD k 0 = (getW s.waits k).1 := by
  rw [h.lock, getW_in hk, List.getD_eq_getElem?_getD, List.getElem?_map, List.getElem?_eq_getElem hk]; rfl
theorem Sim.join_at (h : Sim s js f) {k : Nat} (hk : k < s.waits.length) : f.join.getD k 0 = (getW s.waits k).2 := by
  rw [h.join, getW_in hk, List.getD_eq_getElem?_getD, List.getElem?_map, List.getElem?_eq_getElem hk]; rfl
theorem Sim.owner_at (h : Sim s js f) {k : Nat} (hk : k < s.owner.length) : f.owner.getD k 0 = getO s.owner k := by
  rw [h.owner, getO_in hk, List.getD_eq_getElem?_getD, List.getElem?_eq_getElem hk]; rfl
theorem Sim.whole (h : Sim s js f) (hs : s.Whole K) : f.Whole := by
  have hn := h.n hs
  have hm := h.m hs
  have hn' := hs.nt
  have hm' := hs.nl
  refine ⟨by omega, by omega, by rw [h.lock, List.length_map, hs.waits, hn], by rw [h.join, List.length_map, hs.waits, hn], by rw [h.clen, h.level], ?_, ?_, ?_⟩
  · rw [h.owner, hn]; exact hs.owners
  · rw [h.lock, hm]
    intro x hx
    obtain ⟨y, hy, rfl⟩ := List.mem_map.1 hx
    exact hs.wls y hy
  · rw [h.join, hn]
    intro x hx
    obtain ⟨y, hy, rfl⟩ := List.mem_map.1 hx
    exact hs.wts y hy
theorem Sim.next (h : Sim s js f) (hI : LkInv s K B) (t : Int) : nextR f t = nextW s.owner s.waits t := by
  have hn := h.n hI.whole
  have hr := hI.wrng t
  unfold nextR nextW
  by_cases ht : 0 ≤ t ∧ t < f.level.length
  · rw [if_pos ht]
    obtain ⟨k, rfl⟩ : ∃ k : Nat, t = k := ⟨t.toNat, by omega⟩
    have hk : k < s.waits.length := by rw [hI.whole.waits]; omega
    rw [Int.toNat_natCast, h.lock_at hk, h.join_at hk]
    by_cases h1 : (getW s.waits k).1 = -1
    · rw [if_pos h1, if_neg (by omega)]
    · rw [if_neg h1, if_pos (by omega)]
      have hq : (getW s.waits k).1.toNat < s.owner.length := by rw [hI.whole.owner]; omega
      have e : ((((getW s.waits k).1.toNat : Nat)) : Int) = (getW s.waits k).1 := by omega
      rw [h.owner_at hq, e]
  · rw [if_neg ht, getW_out (by rw [hI.whole.waits]; omega)]
    rfl
theorem Sim.nextA (h : Sim s js f) (hI : LkInv s K B) (t : Int) (h0 : 0 ≤ t) (h1 : t < f.level.length) : nextA f t = nextG s.owner s.waits t := by
  have hn := h.n hI.whole
  have hr := hI.wrng t
  unfold Go.Proofs.YtfoeijiejpenpaaGreatDoor.nextA nextG
  obtain ⟨k, rfl⟩ : ∃ k : Nat, t = k := ⟨t.toNat, by omega⟩
  have hk : k < s.waits.length := by rw [hI.whole.waits]; omega
  rw [Int.toNat_natCast, h.lock_at hk]
  by_cases h1 : (getW s.waits k).1 = -1
  · rw [if_pos h1, if_pos (by omega)]
  · rw [if_neg h1, if_neg (by omega)]
    have hq : (getW s.waits k).1.toNat < s.owner.length := by rw [hI.whole.owner]; omega
    have e : ((((getW s.waits k).1.toNat : Nat)) : Int) = (getW s.waits k).1 := by omega
    rw [h.owner_at hq, e]
theorem Sim.closes (h : Sim s js f) (hI : LkInv s K B) (t u : Int) : closesR f t u = closesM s.owner s.waits t u := by
  have hn := h.n hI.whole
  rw [Bool.eq_iff_iff, closesM_iff hI]
  unfold closesR
  simp only [Bool.and_eq_true, Bool.or_eq_true, decide_eq_true_eq, beq_iff_eq, hn]
  constructor
  · rintro ⟨h1, h2, h3⟩
    refine ⟨h1, h2, ?_⟩
    rcases h3 with rfl | h3
    · exact .refl t h1.1
    · exact reachF_yes (fun x => h.next hI x) _ u h2.1 h3
  · rintro ⟨h1, h2, h3⟩
    refine ⟨h1, h2, ?_⟩
    by_cases e : t = u
    · exact .inl e
    · obtain ⟨r, hr⟩ := hI.falls
      refine .inr (reachF_no (n := s.eff.length) (fun x => h.next hI x) hr (fun x => (hI.nrng x).2) _ u ?_ (fun e' => e e'.symm) h3)
      have := dn_le r s.eff.length u; omega
theorem Sim.waits (h : Sim s js f) (hI : LkInv s K B) {k : Nat} (hk : k < s.eff.length) : waitsR f k = waitsB s k := by
  have hr := hI.wrng (k : Int)
  have hk' : k < s.waits.length := by rw [hI.whole.waits]; exact hk
  unfold waitsR waitsB
  rw [h.lock_at hk', h.join_at hk']
  have e : ∀ x : Int, -1 ≤ x → decide (0 ≤ x) = (x != -1) := fun x hx => by
    by_cases h1 : x = -1
    · subst h1; rfl
    · rw [decide_eq_true (by omega)]; simp [bne_iff_ne, h1]
  rw [e _ hr.1.1, e _ hr.2.1]
theorem falls_G (hI : LkInv s K B) {r : Int → Nat} (hr : Falls (nextW s.owner s.waits) r) : Falls (nextG s.owner s.waits) r := fun t h0 hn => by
  have e : nextG s.owner s.waits t = nextW s.owner s.waits t := by
    unfold nextG at hn ⊢
    unfold nextW
    split
    · rename_i h1; rw [if_pos h1] at hn; omega
    · rfl
  rw [e] at hn ⊢
  exact hr t h0 hn

/-! ### Effective levels -/
theorem bestF_is {l : List Int} {m : Int} (hle : ∀ x ∈ l, m ≤ f.level.getD x.toNat 0) (h8 : m ≤ 8) (hone : ∃ x ∈ l, f.level.getD x.toNat 0 = m) : bestF f l = m := by
  have key : ∀ (l : List Int) (b : Int), m ≤ b → (∀ x ∈ l, m ≤ f.level.getD x.toNat 0) → (b = m ∨ ∃ x ∈ l, f.level.getD x.toNat 0 = m) → l.foldl (fun b i => min b (f.level.getD i.toNat 0)) b = m := by
    intro l
    induction l with
    | nil =>
      intro b hb _ h
      rcases h with h | ⟨x, hx, _⟩
      · exact h
      · simp at hx
    | cons y t ih =>
      intro b hb hl h
      rw [List.foldl_cons]
      have hy := hl y (by simp)
      refine ih _ (by omega) (fun x hx => hl x (by simp [hx])) ?_
      rcases h with h | ⟨x, hx, he⟩
      · exact .inl (by omega)
      · rcases List.mem_cons.1 hx with rfl | hx
        · exact .inl (by omega)
        · exact .inr ⟨x, hx, he⟩
  exact key l 8 h8 hle (.inr hone)
theorem eff_le (hI : LkAll s K) {i t : Int} (h : Reach (nextG s.owner s.waits) i t) (hi : i < s.eff.length) : s.eff.getD t.toNat 0 ≤ s.eff.getD i.toNat 0 := by
  induction h with
  | refl => exact Int.le_refl _
  | step a b h0 h1 ih =>
    have hg := hI.grng a
    have h2 := ih (by omega)
    have h3 := h1.from
    have hf := (hI.fix (nextG s.owner s.waits a).toNat (by omega) (fun x => x)).give a.toNat (by rw [hI.whole.waits]; omega) (by rw [show ((a.toNat : Nat) : Int) = a by omega, show (((nextG s.owner s.waits a).toNat : Nat) : Int) = nextG s.owner s.waits a by omega])
    omega
/-- How many stand higher. -/
def un (r : Int → Nat) (n : Nat) (a : Int) : Nat := (List.range n).countP (fun i : Nat => decide (r a < r i))
theorem un_lt {nx : Int → Int} {r : Int → Nat} (hr : Falls nx r) {n : Nat} {i : Nat} (hi : i < n) (h1 : 0 ≤ nx i) : un r n i < un r n (nx i) := by
  have hlt := hr i (by omega) h1
  unfold un
  refine countP_strict (y := i) (fun x hx => ?_) (List.mem_range.2 hi) ?_ ?_
  · have := of_decide_eq_true hx; exact decide_eq_true (by omega)
  · exact decide_eq_true hlt
  · exact decide_eq_false (by omega)
theorem eff_one (hI : LkAll s K) {r : Int → Nat} (hr : Falls (nextG s.owner s.waits) r) : ∀ (k : Nat) (t : Nat), t < s.eff.length → un r s.eff.length t ≤ k → ∃ i : Nat, i < s.eff.length ∧ Reach (nextG s.owner s.waits) i t ∧ s.eff.getD t 0 = s.level.getD i 0 := by
  intro k
  induction k with
  | zero =>
    intro t ht hu
    rcases (hI.fix t ht (fun x => x)).one with h1 | ⟨i, hi, hn, h1⟩
    · exact ⟨t, ht, .refl t (by omega), h1⟩
    · have := un_lt hr (n := s.eff.length) (i := i) (by rw [← hI.whole.waits]; exact hi) (by omega)
      rw [hn] at this
      omega
  | succ k ih =>
    intro t ht hu
    rcases (hI.fix t ht (fun x => x)).one with h1 | ⟨i, hi, hn, h1⟩
    · exact ⟨t, ht, .refl t (by omega), h1⟩
    · have hi' : i < s.eff.length := by rw [← hI.whole.waits]; exact hi
      have h2 := un_lt hr (n := s.eff.length) (i := i) hi' (by omega)
      rw [hn] at h2
      obtain ⟨j, hj, hR, he⟩ := ih i hi' (by omega)
      refine ⟨j, hj, hR.trans (.step i t (by omega) ?_), by omega⟩
      rw [hn]
      exact .refl t (by omega)
theorem Sim.eff (h : Sim s js f) (hI : LkAll s K) (t : Int) : effR f t = effM s t := by
  have hn := h.n hI.whole
  unfold effR effM
  rw [hn]
  by_cases ht : 0 ≤ t ∧ t < s.eff.length
  · rw [if_pos ht, if_pos ht]
    obtain ⟨k, rfl⟩ : ∃ k : Nat, t = k := ⟨t.toNat, by omega⟩
    rw [Int.toNat_natCast]
    have hk : k < s.eff.length := by omega
    obtain ⟨r, hr⟩ := hI.falls
    have hr := falls_G hI hr
    have he : ∀ x : Int, 0 ≤ x → x < f.level.length → Go.Proofs.YtfoeijiejpenpaaGreatDoor.nextA f x = nextG s.owner s.waits x := fun x h0 h1 => h.nextA hI x h0 h1
    have hnx : ∀ x, nextG s.owner s.waits x < f.level.length := fun x => by rw [hn]; exact (hI.grng x).2
    refine bestF_is (fun x hx => ?_) (by have := hI.e7 k hk; omega) ?_
    · obtain ⟨i, hi, rfl⟩ := List.mem_map.1 hx
      obtain ⟨hi1, hi2⟩ := List.mem_filter.1 hi
      have hi3 := List.mem_range.1 hi1
      have hR := givesF_yes he hnx (by omega) _ _ (by omega) hi2
      have h1 := eff_le hI hR (by omega)
      have h2 := (hI.fix i (by omega) (fun x => x)).lev
      rw [Int.toNat_natCast] at h1 ⊢
      rw [Int.toNat_natCast] at h1
      rw [h.level]
      omega
    · obtain ⟨i, hi, hR, h1⟩ := eff_one hI hr _ k hk (Nat.le_refl _)
      refine ⟨(i : Int), List.mem_map.2 ⟨i, List.mem_filter.2 ⟨List.mem_range.2 (by omega), ?_⟩, rfl⟩, ?_⟩
      · exact givesF_no he hr hnx _ _ (by have := dn_self (nx := nextG s.owner s.waits) (r := r) (n := f.level.length) (a := (i : Int)) (by omega) (by omega); omega) (by omega) hR
      · rw [Int.toNat_natCast, h.level, ← h1]
  · rw [if_neg ht, if_neg ht]
end

end Go.Proofs.YtfoeijiejpenpaaGreatDoor

/- Law 26: the document's lines and lists are the program's (the plain law). No program in sight. -/
namespace Go.Proofs.YtfoeijiejpenpaaGreatDoor

/-! ### Sorting -/
section
variable {f : Rf} {byL : Bool}
theorem lessR_true (x y : Int) : lessR f true x y = true ↔ effR f x < effR f y ∨ (effR f x = effR f y ∧ cm f x < cm f y) := by
  simp [lessR, cm]
theorem lessR_false (x y : Int) : lessR f false x y = true ↔ cm f x < cm f y := by
  simp [lessR, cm]
theorem lessR_trans {x y z : Int} (h1 : lessR f byL x y = true) (h2 : lessR f byL y z = true) : lessR f byL x z = true := by
  cases byL
  · rw [lessR_false] at *; omega
  · rw [lessR_true] at *; omega
theorem lessR_asymm {x y : Int} (h1 : lessR f byL x y = true) (h2 : lessR f byL y x = true) : False := by
  cases byL
  · rw [lessR_false] at *; omega
  · rw [lessR_true] at *; omega
theorem posR_up {x : Int} {out : List Int} : ∀ (k j : Nat), posR f byL x out k ≤ j → j < k → lessR f byL x (out.getD j 0) = true
  | 0, j, _, h => by omega
  | k + 1, j, h, hj => by
    rw [posR] at h
    split at h
    · rename_i hl
      by_cases hjk : j = k
      · subst hjk; exact hl
      · exact posR_up k j h (by omega)
    · omega
theorem posR_dn {x : Int} {out : List Int} : ∀ (k j : Nat), j + 1 = posR f byL x out k → lessR f byL x (out.getD j 0) = false
  | 0, j, h => by rw [posR] at h; omega
  | k + 1, j, h => by
    rw [posR] at h
    split at h
    · exact posR_dn k j h
    · rename_i hl
      obtain rfl : j = k := by omega
      simpa using hl
theorem insR_sorted {x : Int} {out : List Int} (h : out.Pairwise (fun a b => lessR f byL a b = true)) (ht : ∀ y ∈ out, lessR f byL x y = true ∨ lessR f byL y x = true) : (insR f byL x out).Pairwise (fun a b => lessR f byL a b = true) := by
  have hle := posR_le f byL x out out.length
  have hup := posR_up (f := f) (byL := byL) (x := x) (out := out) out.length
  have hdn := posR_dn (f := f) (byL := byL) (x := x) (out := out) out.length
  unfold insR
  generalize posR f byL x out out.length = p at *
  have hg : ∀ (j : Nat) (hj : j < out.length), out.getD j 0 = out[j] := fun j hj => by rw [List.getD_eq_getElem?_getD, List.getElem?_eq_getElem hj]; rfl
  have h1 : ∀ z ∈ out.drop p, lessR f byL x z = true := fun z hz => by
    obtain ⟨i, hi, rfl⟩ := List.mem_iff_getElem.1 hz
    have hi' : p + i < out.length := by simp at hi; omega
    have := hup (p + i) (by omega) hi'
    rw [hg _ hi'] at this
    rw [List.getElem_drop]; exact this
  have h2 : ∀ z ∈ out.take p, lessR f byL z x = true := fun z hz => by
    obtain ⟨i, hi, rfl⟩ := List.mem_iff_getElem.1 hz
    have hip : i < p := by simp at hi; omega
    have hi' : i < out.length := by omega
    have hm : p - 1 < out.length := by omega
    have h3 := hdn (p - 1) (by omega)
    rw [hg _ hm] at h3
    have h4 : lessR f byL out[p - 1] x = true := (ht _ (List.getElem_mem hm)).resolve_left (by rw [h3]; simp)
    rw [List.getElem_take]
    by_cases e : i = p - 1
    · subst e; exact h4
    · exact lessR_trans (List.pairwise_iff_getElem.1 h i (p - 1) hi' hm (by omega)) h4
  rw [List.append_assoc, List.pairwise_append]
  refine ⟨h.sublist (List.take_sublist _ _), List.pairwise_cons.2 ⟨h1, h.sublist (List.drop_sublist _ _)⟩, fun a ha b hb => ?_⟩
  rcases List.mem_cons.1 hb with rfl | hb
  · exact h2 a ha
  · exact lessR_trans (h2 a ha) (h1 b hb)
theorem insR_perm (x : Int) (out : List Int) : (insR f byL x out).Perm (x :: out) := by
  unfold insR
  rw [List.append_assoc, List.singleton_append]
  refine List.perm_middle.trans ?_
  rw [List.take_append_drop]
theorem sortK_perm (l : List Int) : ∀ k, k ≤ l.length → (sortK f byL l k).Perm (l.take k)
  | 0, _ => by simp [sortK]
  | k + 1, h => by
    rw [sortK_step f byL l k l[k] (List.getElem?_eq_getElem (by omega)), List.take_succ_eq_append_getElem (by omega)]
    exact (insR_perm _ _).trans (((sortK_perm l k (by omega)).cons _).trans (List.perm_append_comm (l₁ := [_])))
theorem sortK_sorted {l : List Int} (hn : l.Nodup) (ht : ∀ a ∈ l, ∀ b ∈ l, a ≠ b → lessR f byL a b = true ∨ lessR f byL b a = true) : ∀ k, k ≤ l.length → (sortK f byL l k).Pairwise (fun a b => lessR f byL a b = true)
  | 0, _ => by simp [sortK]
  | k + 1, h => by
    rw [sortK_step f byL l k l[k] (List.getElem?_eq_getElem (by omega))]
    refine insR_sorted (sortK_sorted hn ht k (by omega)) (fun y hy => ?_)
    have hy := (sortK_perm l k (by omega)).mem_iff.1 hy
    obtain ⟨i, hi, rfl⟩ := List.mem_iff_getElem.1 hy
    have hik : i < k := by simp at hi; omega
    rw [List.getElem_take]
    refine ht _ (List.getElem_mem _) _ (List.getElem_mem _) (fun e => ?_)
    exact List.pairwise_iff_getElem.1 hn i k (by omega) (by omega) hik e.symm
/-- Sorted threads are those that stand in order. -/
theorem sort_is {l L : List Int} (hn : l.Nodup) (hL : L.Pairwise (fun a b => lessR f byL a b = true)) (hm : ∀ x, x ∈ L ↔ x ∈ l) : sortK f byL l l.length = L := by
  have hLn : L.Nodup := hL.imp (fun {a b} hab e => by subst e; exact lessR_asymm hab hab)
  have hp : L.Perm l := (List.perm_ext_iff_of_nodup hLn hn).2 hm
  have ht : ∀ a ∈ l, ∀ b ∈ l, a ≠ b → lessR f byL a b = true ∨ lessR f byL b a = true := fun a ha b hb hab => by
    obtain ⟨i, hi, rfl⟩ := List.mem_iff_getElem.1 ((hm a).2 ha)
    obtain ⟨j, hj, rfl⟩ := List.mem_iff_getElem.1 ((hm b).2 hb)
    rcases Nat.lt_trichotomy i j with h | rfl | h
    · exact .inl (List.pairwise_iff_getElem.1 hL i j hi hj h)
    · exact absurd rfl hab
    · exact .inr (List.pairwise_iff_getElem.1 hL j i hj hi h)
  refine List.Perm.eq_of_pairwise (le := fun a b => lessR f byL a b = true) (fun a b _ _ h1 h2 => (lessR_asymm h1 h2).elim) (sortK_sorted hn ht _ (Nat.le_refl _)) hL ?_
  exact ((sortK_perm l l.length (Nat.le_refl _)).trans (by rw [List.take_length])).trans hp.symm
end

theorem natMap_nodup (l : List Nat) (h : l.Nodup) : (l.map (fun t : Nat => (t : Int))).Nodup := by
  rw [List.Nodup, List.pairwise_map]
  exact h.imp (fun {a b} hab e => hab (by omega))
theorem onK_nodup (f : Rf) (l : Int) (k : Nat) : (onK f l k).Nodup := natMap_nodup _ (List.nodup_range.filter _)
theorem joinK_nodup (f : Rf) (u : Int) (k : Nat) : (joinK f u k).Nodup := natMap_nodup _ (List.nodup_range.filter _)
theorem onK_iff (f : Rf) (l x : Int) (k : Nat) : x ∈ onK f l k ↔ ∃ t : Nat, x = t ∧ t < k ∧ (0 ≤ l ∧ l < f.owner.length) ∧ f.lock.getD t 0 = l := by
  unfold onK
  simp only [List.mem_map, List.mem_filter, List.mem_range, Bool.and_eq_true, decide_eq_true_eq, beq_iff_eq]
  constructor
  · rintro ⟨t, ⟨h1, h2, h3⟩, rfl⟩; exact ⟨t, rfl, h1, h2, h3⟩
  · rintro ⟨t, rfl, h1, h2, h3⟩; exact ⟨t, ⟨h1, h2, h3⟩, rfl⟩
theorem joinK_iff (f : Rf) (u x : Int) (k : Nat) : x ∈ joinK f u k ↔ ∃ t : Nat, x = t ∧ t < k ∧ (0 ≤ u ∧ u < f.level.length) ∧ f.join.getD t 0 = u := by
  unfold joinK
  simp only [List.mem_map, List.mem_filter, List.mem_range, Bool.and_eq_true, decide_eq_true_eq, beq_iff_eq]
  constructor
  · rintro ⟨t, ⟨h1, h2, h3⟩, rfl⟩; exact ⟨t, rfl, h1, h2, h3⟩
  · rintro ⟨t, rfl, h1, h2, h3⟩; exact ⟨t, ⟨h1, h2, h3⟩, rfl⟩
section
variable {s : Lk} {js : List (List Int)} {f : Rf} {K : Nat}
/-- Those who wait for a lock, sorted, are its line. -/
theorem Sim.line (h : Sim s js f) (hI : LkAll s K) (l : Int) : lineR f l = lineM s l := by
  have hn := h.n hI.whole
  have hm := h.m hI.whole
  have hww := hI.whole.waits
  unfold lineR
  by_cases hl : 0 ≤ l ∧ l < s.lines.length
  · obtain ⟨q, rfl⟩ : ∃ q : Nat, l = q := ⟨l.toNat, by omega⟩
    have hql : q < s.lines.length := by omega
    refine sort_is (onK_nodup _ _ _) ?_ (fun x => ?_)
    · unfold lineM
      rw [if_pos hl, Int.toNat_natCast, List.getD_eq_getElem?_getD, List.getElem?_eq_getElem hql, List.pairwise_map]
      have hok := hI.lines q s.lines[q].1 s.lines[q].2 (List.getElem?_eq_getElem hql)
      obtain ⟨M, hM⟩ := hok.inv
      refine hM.sorted.imp_of_mem (fun {a b} ha hb hab => ?_)
      have h1 := hok.mem a ha
      have h2 := hok.mem b hb
      rw [lessR_true, h.eff hI, h.eff hI]
      unfold effM
      rw [if_pos ⟨by omega, by omega⟩, if_pos ⟨by omega, by omega⟩, ← h1.2.2.2, ← h2.2.2.2]
      rcases (aheadB_iff a b).1 hab with h3 | ⟨h3, h4⟩
      · exact .inl h3
      · exact .inr ⟨h3, h.cameL q _ _ (List.getElem?_eq_getElem hql) a ha b hb h4⟩
    · rw [onK_iff]
      constructor
      · intro hx
        obtain ⟨i, rfl, hi, hw⟩ := lineM_mem hI hql hx
        exact ⟨i, rfl, by omega, by omega, by rw [h.lock_at hi]; exact hw⟩
      · rintro ⟨t, rfl, ht, _, hw⟩
        have ht' : t < s.waits.length := by omega
        rw [h.lock_at ht'] at hw
        exact lineM_all hI hql t ht' hw
  · have e1 : onK f l f.level.length = [] := List.eq_nil_iff_forall_not_mem.2 (fun x hx => by
      obtain ⟨_, _, _, h3, _⟩ := (onK_iff _ _ _ _).1 hx
      exact hl (by omega))
    have e2 : lineM s l = [] := by unfold lineM; rw [if_neg hl]
    rw [e1, e2]; rfl
/-- Those who wait for a thread's end are those of the document. -/
theorem Sim.endq (h : Sim s js f) (hI : LkAll s K) (hj : JInv s js) (hjl : js.length = s.eff.length) (u : Int) : endQ f u = endedL s js u := by
  have hn := h.n hI.whole
  have hww := hI.whole.waits
  unfold endQ endedL
  by_cases hu : 0 ≤ u ∧ u < s.eff.length
  · rw [if_pos hu]
    obtain ⟨q, rfl⟩ : ∃ q : Nat, u = q := ⟨u.toNat, by omega⟩
    have hqj : q < js.length := by omega
    rw [Int.toNat_natCast, show js.getD q [] = js[q] by rw [List.getD_eq_getElem?_getD, List.getElem?_eq_getElem hqj]; rfl]
    refine sort_is (joinK_nodup _ _ _) ?_ (fun x => ?_)
    · exact (h.cameJ q hqj).imp (fun {a b} hab => (lessR_false a b).2 hab)
    · rw [joinK_iff]
      constructor
      · intro hx
        have h1 := hj.mem q hqj x hx
        obtain ⟨i, rfl⟩ : ∃ i : Nat, x = i := ⟨x.toNat, by omega⟩
        exact ⟨i, rfl, by omega, by omega, by rw [h.join_at (by omega)]; exact h1.2.2⟩
      · rintro ⟨t, rfl, ht, _, hw⟩
        have ht' : t < s.waits.length := by omega
        rw [h.join_at ht'] at hw
        exact h.all q hqj t ht' hw
  · have e1 : joinK f u f.level.length = [] := List.eq_nil_iff_forall_not_mem.2 (fun x hx => by
      obtain ⟨_, _, _, h3, _⟩ := (joinK_iff _ _ _ _).1 hx
      exact hu (by omega))
    rw [e1, if_neg hu]; rfl
theorem Sim.may (h : Sim s js f) (hI : LkAll s K) (t l : Int) : mayR f t l = mayM s t l := by
  have hn := h.n hI.whole
  have hm := h.m hI.whole
  have hww := hI.whole.waits
  unfold mayR mayM
  rw [hn, hm]
  by_cases h1 : ¬ (0 ≤ t ∧ t < (s.eff.length : Int))
  · rw [if_pos h1, if_pos h1]
  · rw [if_neg h1, if_neg h1]
    by_cases h2 : ¬ (0 ≤ l ∧ l < (s.lines.length : Int))
    · rw [if_pos h2, if_pos h2]
    · rw [if_neg h2, if_neg h2]
      obtain ⟨k, rfl⟩ : ∃ k : Nat, t = k := ⟨t.toNat, by omega⟩
      obtain ⟨q, rfl⟩ : ∃ q : Nat, l = q := ⟨l.toNat, by omega⟩
      rw [Int.toNat_natCast, Int.toNat_natCast, h.waits hI (by omega), h.owner_at (by rw [hI.whole.owner]; omega), h.closes hI]
      cases waitsB s k <;> cases closesM s.owner s.waits k (getO s.owner q) <;> rfl
theorem Sim.own (h : Sim s js f) (hI : LkAll s K) (t : Int) : ownR f t f.owner.length = ownN s t := by
  have hn := h.n hI.whole
  have hm := h.m hI.whole
  have hoo := hI.whole.owner
  unfold ownR ownN
  rw [hm]
  have key : ∀ k, k ≤ s.lines.length → setN (fun l => decide (0 ≤ t) && f.owner.getD l 0 == t) k = if 0 ≤ t ∧ t < s.eff.length then setN (fun l : Nat => getO s.owner l == t) k else 0 := by
    intro k
    induction k with
    | zero => intro _; split <;> rfl
    | succ k ih =>
      intro hk
      have ih := ih (by omega)
      have ho := hI.orng k
      rw [setN, ih, h.owner_at (by omega)]
      by_cases ht : 0 ≤ t ∧ t < s.eff.length
      · rw [if_pos ht, if_pos ht, setN, decide_eq_true ht.1, Bool.true_and]
      · rw [if_neg ht, if_neg ht]
        rw [if_neg]
        simp only [Bool.and_eq_true, decide_eq_true_eq, beq_iff_eq]
        rintro ⟨h1, h2⟩
        omega
  exact key _ (Nat.le_refl _)
end

end Go.Proofs.YtfoeijiejpenpaaGreatDoor

/- Law 26: each call keeps the document's state standing for the program's, and both tell the same (the plain law). No program in sight. -/
namespace Go.Proofs.YtfoeijiejpenpaaGreatDoor

/-! ### Lines whose numbers stay -/
/-- Each line's waiters have come before, with these numbers. -/
def NumsIn (L' L : List (List WO × Nat)) : Prop := ∀ (q : Nat) (A : List WO) (last : Nat), L'[q]? = some (A, last) → ∃ A0 last0, L[q]? = some (A0, last0) ∧ ∀ x ∈ A, ∃ y ∈ A0, y.p = x.p ∧ y.n = x.n
theorem NumsIn.refl (L : List (List WO × Nat)) : NumsIn L L := fun _ A last h => ⟨A, last, h, fun x hx => ⟨x, hx, rfl, rfl⟩⟩
theorem NumsIn.trans {L L' L'' : List (List WO × Nat)} (h : NumsIn L'' L') (h' : NumsIn L' L) : NumsIn L'' L := fun q A last hq => by
  obtain ⟨A1, l1, h1, h2⟩ := h q A last hq
  obtain ⟨A0, l0, h3, h4⟩ := h' q A1 l1 h1
  refine ⟨A0, l0, h3, fun x hx => ?_⟩
  obtain ⟨y, hy, e1, e2⟩ := h2 x hx
  obtain ⟨z, hz, e3, e4⟩ := h4 y hy
  exact ⟨z, hz, e3.trans e1, e4.trans e2⟩
theorem NumsIn.set {L : List (List WO × Nat)} (q : Nat) (A : List WO) (last : Nat) (h : ∀ x ∈ A, ∃ y ∈ (L.getD q ([], 0)).1, y.p = x.p ∧ y.n = x.n) : NumsIn (L.set q (A, last)) L := fun q' A' last' hq => by
  by_cases e : q' = q
  · subst e
    by_cases hl : q' < L.length
    · rw [List.getElem?_set_self hl] at hq
      injection hq with hq
      injection hq with e1 e2
      subst e1 e2
      rw [List.getD_eq_getElem?_getD, List.getElem?_eq_getElem hl] at h
      exact ⟨L[q'].1, L[q'].2, List.getElem?_eq_getElem hl, h⟩
    · rw [List.getElem?_eq_none (by simp; omega)] at hq; cases hq
  · rw [List.getElem?_set_ne (Ne.symm e)] at hq
    exact ⟨A', last', hq, fun x hx => ⟨x, hx, rfl, rfl⟩⟩
theorem moveM_nums (L : List (List WO × Nat)) (q : Nat) (t lev : Int) : NumsIn (moveM L q t lev) L := by
  unfold moveM
  split
  · exact .refl L
  · rename_i l hl
    split
    · exact .refl L
    · rename_i y hy
      refine .set q _ _ (fun x hx => ?_)
      rw [List.getD_eq_getElem?_getD, hl]
      rcases List.mem_cons.1 ((insW_perm _ _).mem_iff.1 hx) with rfl | hx
      · exact ⟨y, List.mem_of_find?_eq_some hy, rfl, rfl⟩
      · exact ⟨x, List.eraseP_sublist.subset hx, rfl, rfl⟩
theorem takeL_nums (waits : List (Int × Int)) (eff : List Int) : ∀ (met : List Int) (L : List (List WO × Nat)), NumsIn (takeL waits eff met L) L
  | [], L => .refl L
  | t :: r, L => by
    rw [takeL]
    refine (takeL_nums waits eff r _).trans ?_
    split
    · exact .refl L
    · exact moveM_nums _ _ _ _
theorem worse_nums (s : Lk) (t : Int) : NumsIn (worseS s t).lines s.lines := takeL_nums _ _ _ _
theorem better_nums (s : Lk) (t g : Int) : NumsIn (betterS s t g).lines s.lines := takeL_nums _ _ _ _

/-! ### A state that stands, behind a turn that sends nobody into a line -/
section
variable {s s' : Lk} {js js' : List (List Int)} {f f' : Rf} {K : Nat}
theorem Sim.mono (h : Sim s js f) (h1 : f'.level = s'.level) (h2 : f'.owner = s'.owner) (h3 : f'.lock = s'.waits.map Prod.fst) (h4 : f'.join = s'.waits.map Prod.snd) (hc : f'.came = f.came) (hl : f'.last = f.last) (hn : s'.level.length = s.level.length) (hN : NumsIn s'.lines s.lines)
    (hJ : ∀ (u : Nat) (hu : u < js'.length), ∃ h0 : u < js.length, js'[u].Sublist js[u]) (ha : ∀ (u : Nat) (hu : u < js'.length) (t : Nat), t < s'.waits.length → (getW s'.waits t).2 = u → (t : Int) ∈ js'[u]) : Sim s' js' f' := by
  have hcm : ∀ t, cm f' t = cm f t := fun t => by unfold cm; rw [hc]
  refine ⟨h1, h2, h3, h4, by rw [hc, hn]; exact h.clen, by rw [hl]; exact h.last, by rw [hc, hl]; exact h.upto, fun q L last hq x hx y hy hxy => ?_, fun u hu => ?_, ha⟩
  · obtain ⟨L0, last0, hq0, hm⟩ := hN q L last hq
    obtain ⟨x0, hx0, e1, e2⟩ := hm x hx
    obtain ⟨y0, hy0, e3, e4⟩ := hm y hy
    rw [hcm, hcm, ← e1, ← e3]
    exact h.cameL q L0 last0 hq0 x0 hx0 y0 hy0 (by omega)
  · obtain ⟨h0, hs⟩ := hJ u hu
    exact ((h.cameJ u h0).sublist hs).imp (fun {a b} hab => by rw [hcm, hcm]; exact hab)
theorem js_self (js : List (List Int)) : ∀ (u : Nat) (hu : u < js.length), ∃ h0 : u < js.length, js[u].Sublist js[u] := fun _ hu => ⟨hu, List.Sublist.refl _⟩
theorem Sim.lock_set (h : Sim s js f) (k : Nat) (x : Int × Int) : f.lock.set k x.1 = (s.waits.set k x).map Prod.fst := by rw [h.lock, List.map_set]
theorem Sim.join_set (h : Sim s js f) (k : Nat) (x : Int × Int) : f.join.set k x.2 = (s.waits.set k x).map Prod.snd := by rw [h.join, List.map_set]
theorem Sim.all_set (h : Sim s js f) (k : Nat) (hk : k < s.waits.length) (x : Int × Int) (hx : x.2 = -1) : ∀ (u : Nat) (hu : u < js.length) (t : Nat), t < (s.waits.set k x).length → (getW (s.waits.set k x) t).2 = u → (t : Int) ∈ js[u] := fun u hu t ht he => by
  rw [getW_set hk] at he
  split at he
  · omega
  · exact h.all u hu t (by simpa using ht) he
theorem Sim.setLevel (h : Sim s js f) (hI : LkAll s K) (t lev : Int) : Sim (setLevelS s t lev) js (setLevelR f t lev) := by
  have hn := h.n hI.whole
  unfold setLevelS setLevelR
  by_cases ht : 0 ≤ t ∧ t < (s.eff.length : Int)
  · rw [if_pos ht, if_pos (by omega)]
    refine h.mono ?_ h.owner h.lock h.join rfl rfl ?_ (worse_nums _ _) (js_self js) h.all
    · show f.level.set _ _ = s.level.set _ _
      rw [h.level]
    · show (s.level.set _ _).length = _
      simp
  · rw [if_neg ht, if_neg (by omega)]; exact h
theorem Sim.own_set (h : Sim s js f) (q : Nat) (t : Int) : Sim { s with owner := s.owner.set q t } js { f with owner := f.owner.set q t } :=
  h.mono h.level (by show f.owner.set _ _ = s.owner.set _ _; rw [h.owner]) h.lock h.join rfl rfl rfl (.refl _) (js_self js) h.all

/-! ### A thread comes -/
theorem cm_came (f : Rf) (k : Nat) (hk : k < f.came.length) (x : Int) (hx : 0 ≤ x) : cm (cameR f k) x = if x = k then f.last + 1 else cm f x := by
  unfold cm cameR
  simp only
  split
  · rename_i e
    subst e
    rw [Int.toNat_natCast, getD_set_eq _ _ _ _ hk]
  · rename_i e
    rw [getD_set_ne _ _ _ _ _ (by omega)]
theorem Sim.cm_le (h : Sim s js f) (x : Int) : cm f x ≤ f.last := by
  unfold cm
  rw [List.getD_eq_getElem?_getD]
  by_cases hx : x.toNat < f.came.length
  · rw [List.getElem?_eq_getElem hx]; exact h.upto _ (List.getElem_mem hx)
  · rw [List.getElem?_eq_none (by omega)]; exact h.last
/-- A thread that waits for nothing may come. -/
theorem Sim.come (h : Sim s js f) (hI : LkAll s K) (hj : JInv s js) (k : Nat) (hk : k < s.eff.length) (hno : getW s.waits k = (-1, -1)) : Sim s js (cameR f k) ∧ ∀ x : Int, 0 ≤ x → x ≠ k → cm (cameR f k) x < cm (cameR f k) k := by
  have hww := hI.whole.waits
  have hkc : k < f.came.length := by rw [h.clen, hI.whole.level]; exact hk
  have hcm := cm_came f k hkc
  have hlast := h.last
  refine ⟨⟨h.level, h.owner, h.lock, h.join, by show (f.came.set _ _).length = _; rw [List.length_set]; exact h.clen, by show 0 ≤ f.last + 1; omega, ?_, ?_, ?_, h.all⟩, fun x h0 hx => ?_⟩
  · intro x hx
    show x ≤ f.last + 1
    rcases List.mem_or_eq_of_mem_set hx with hx | rfl
    · have := h.upto x hx; omega
    · exact Int.le_refl _
  · intro q L last hq x hx y hy hxy
    have hm := (hI.lines q L last hq).mem
    have hx0 := hm x hx
    have hy0 := hm y hy
    have hne : ∀ z ∈ L, z.p ≠ k := fun z hz e => by
      have h1 := (hm z hz).2.2.1
      rw [e, hno] at h1
      have h2 : (-1 : Int) = q := h1
      omega
    rw [hcm _ hx0.1, hcm _ hy0.1, if_neg (hne x hx), if_neg (hne y hy)]
    exact h.cameL q L last hq x hx y hy hxy
  · intro u hu
    have hne : ∀ z ∈ js[u], z ≠ k := fun z hz e => by
      have h1 := (hj.mem u hu z hz).2.2
      rw [e, hno] at h1
      have h2 : (-1 : Int) = u := h1
      omega
    refine (h.cameJ u hu).imp_of_mem (fun {a b} ha hb hab => ?_)
    rw [hcm _ (hj.mem u hu a ha).1, hcm _ (hj.mem u hu b hb).1, if_neg (hne a ha), if_neg (hne b hb)]
    exact hab
  · rw [hcm x h0, hcm k (by omega), if_neg hx, if_pos rfl]
    have := h.cm_le x
    omega
/-- Who came last stands in a line. -/
theorem Sim.put (h : Sim s js f) (hI : LkAll s K) (k q : Nat) (hk : k < s.eff.length) (hq : q < s.lines.length) (hno : getW s.waits k = (-1, -1)) (hnew : ∀ x : Int, 0 ≤ x → x ≠ k → cm f x < cm f k) : Sim (putS s k q) js (waitR f k q (-1)) := by
  have hww := hI.whole.waits
  refine ⟨h.level, h.owner, h.lock_set k ((q : Int), -1), h.join_set k ((q : Int), -1), h.clen, h.last, h.upto, ?_, h.cameJ, h.all_set k (by omega) _ rfl⟩
  intro q' L last hl x hx y hy hxy
  show cm f x.p < cm f y.p
  by_cases e : q' = q
  · subst e
    have hl : (s.lines.set q' (insW ⟨k, holdL (s.eff.getD k 0), (s.lines.getD q' ([], 0)).2 + 1⟩ (s.lines.getD q' ([], 0)).1, (s.lines.getD q' ([], 0)).2 + 1))[q']? = some (L, last) := hl
    have hgl : s.lines.getD q' ([], 0) = s.lines[q'] := by rw [List.getD_eq_getElem?_getD, List.getElem?_eq_getElem hq]; rfl
    rw [List.getElem?_set_self hq, hgl] at hl
    have hok := hI.lines q' s.lines[q'].1 s.lines[q'].2 (List.getElem?_eq_getElem hq)
    obtain ⟨M, hM⟩ := hok.inv
    injection hl with hl
    injection hl with e1 e2
    subst e1
    have hup : ∀ z ∈ s.lines[q'].1, z.n ≤ s.lines[q'].2 ∧ 0 ≤ z.p ∧ z.p ≠ k := fun z hz => by
      have hm := hok.mem z hz
      refine ⟨hM.upto z (hM.perm.mem_iff.1 hz), hm.1, fun e => ?_⟩
      have h1 := hm.2.2.1
      rw [e, hno] at h1
      have h2 : (-1 : Int) = q' := h1
      omega
    rcases List.mem_cons.1 ((insW_perm _ _).mem_iff.1 hx) with rfl | hx
    · rcases List.mem_cons.1 ((insW_perm _ _).mem_iff.1 hy) with rfl | hy
      · exact absurd hxy (Nat.lt_irrefl _)
      · have h1 := (hup y hy).1
        simp only at hxy
        omega
    · rcases List.mem_cons.1 ((insW_perm _ _).mem_iff.1 hy) with rfl | hy
      · exact hnew _ (hup x hx).2.1 (hup x hx).2.2
      · exact h.cameL q' _ _ (List.getElem?_eq_getElem hq) x hx y hy hxy
  · have hl : (s.lines.set q _)[q']? = some (L, last) := hl
    rw [List.getElem?_set_ne (Ne.symm e)] at hl
    exact h.cameL q' L last hl x hx y hy hxy
theorem Sim.zero (h : Sim s js f) (hI : LkAll s K) {t l : Int} (hm : mayM s t l = 0) : ∃ k q : Nat, t = k ∧ l = q ∧ k < s.eff.length ∧ q < s.lines.length ∧ getW s.waits k = (-1, -1) ∧ closesM s.owner s.waits k (getO s.owner q) = false ∧ f.owner.getD q 0 = getO s.owner q ∧ (f.owner.getD q 0 < 0 ↔ getO s.owner q = -1) := by
  have hz := mayM_zero hm
  have hoo := hI.whole.owner
  obtain ⟨k, rfl⟩ : ∃ k : Nat, t = k := ⟨t.toNat, by omega⟩
  obtain ⟨q, rfl⟩ : ∃ q : Nat, l = q := ⟨l.toNat, by omega⟩
  have ho := h.owner_at (k := q) (by omega)
  have hr := hI.orng q
  exact ⟨k, q, rfl, rfl, by omega, by omega, waitsB_no hz.2.2.1, hz.2.2.2, ho, by rw [ho]; omega⟩
theorem Sim.lock_ (h : Sim s js f) (hI : LkAll s K) (hj : JInv s js) (t l : Int) : Sim (lockS s t l) js (lockR f t l) := by
  unfold lockS lockR
  rw [h.may hI]
  by_cases hm : mayM s t l = 0
  · rw [if_neg (not_not_intro hm), if_neg (not_not_intro hm)]
    obtain ⟨k, q, rfl, rfl, hk, hq, hno, hcl, ho, hoi⟩ := h.zero hI hm
    simp only [Int.toNat_natCast]
    by_cases e : getO s.owner q = -1
    · rw [if_pos e, if_pos (hoi.2 e)]
      exact h.own_set q k
    · rw [if_neg e, if_neg (fun hh => e (hoi.1 hh))]
      obtain ⟨h1, h2⟩ := h.come hI hj k hk hno
      have h3 := h1.put hI k q hk hq hno h2
      exact h3.mono h3.level h3.owner h3.lock h3.join rfl rfl rfl (better_nums _ _ _) (js_self js) h3.all
  · rw [if_pos hm, if_pos hm]; exact h
theorem Sim.lockB (h : Sim s js f) (hI : LkAll s K) (t l : Int) : lockBR f t l = Go.Proofs.YtfoeijiejpenpaaGreatDoor.lockB s t l := by
  unfold lockBR Go.Proofs.YtfoeijiejpenpaaGreatDoor.lockB
  rw [h.may hI]
  by_cases hm : mayM s t l = 0
  · obtain ⟨k, q, rfl, rfl, hk, hq, hno, hcl, ho, hoi⟩ := h.zero hI hm
    rw [hm, Int.toNat_natCast]
    simp only [beq_self_eq_true, Bool.true_and]
    rw [Bool.eq_iff_iff, decide_eq_true_eq, beq_iff_eq, hoi]
  · rw [beq_false_of_ne hm]; rfl
theorem Sim.tryE (h : Sim s js f) (hI : LkAll s K) (t l : Int) : tryER f t l = Go.Proofs.YtfoeijiejpenpaaGreatDoor.tryE s t l := by
  unfold tryER Go.Proofs.YtfoeijiejpenpaaGreatDoor.tryE
  rw [h.may hI]
  by_cases hm : mayM s t l = 0
  · obtain ⟨k, q, rfl, rfl, hk, hq, hno, hcl, ho, hoi⟩ := h.zero hI hm
    rw [if_neg (not_not_intro hm), if_neg (not_not_intro hm), Int.toNat_natCast]
    by_cases e : getO s.owner q = -1
    · rw [if_pos (hoi.2 e), if_neg (by omega)]
    · rw [if_neg (fun hh => e (hoi.1 hh)), if_pos e]
  · rw [if_pos hm, if_pos hm]
theorem Sim.try_ (h : Sim s js f) (hI : LkAll s K) (t l : Int) : Sim (tryS s t l) js (tryR f t l) := by
  unfold tryS tryR
  unfold Go.Proofs.YtfoeijiejpenpaaGreatDoor.tryE
  rw [h.may hI]
  by_cases hm : mayM s t l = 0
  · rw [if_neg (not_not_intro hm), if_neg (not_not_intro hm)]
    obtain ⟨k, q, rfl, rfl, hk, hq, hno, hcl, ho, hoi⟩ := h.zero hI hm
    simp only [Int.toNat_natCast]
    by_cases e : getO s.owner q = -1
    · rw [if_pos (hoi.2 e), if_neg (by omega : ¬ getO s.owner q ≠ -1), if_pos rfl]
      exact h.own_set q k
    · rw [if_neg (fun hh => e (hoi.1 hh)), if_pos e, if_neg (by omega)]; exact h
  · rw [if_pos hm, if_pos hm, if_neg hm]; exact h

/-! ### A lock is passed on -/
theorem Sim.pass (h : Sim s js f) (hI : LkAll s K) (q : Nat) (hq : q < s.lines.length) : Sim (passS s q) js (passR f q (lineR f q)) ∧ passE (lineR f q) = passN s q := by
  have hww := hI.whole.waits
  have hgl : s.lines.getD q ([], 0) = s.lines[q] := by rw [List.getD_eq_getElem?_getD, List.getElem?_eq_getElem hq]; rfl
  have hok := hI.lines q s.lines[q].1 s.lines[q].2 (List.getElem?_eq_getElem hq)
  rw [h.line hI]
  unfold lineM
  rw [if_pos ⟨by omega, by omega⟩, Int.toNat_natCast]
  unfold passS passN
  rw [hgl]
  generalize hA : s.lines[q] = A at *
  obtain ⟨L, last⟩ := A
  cases L with
  | nil => exact ⟨h.own_set q (-1), rfl⟩
  | cons x r =>
    have hm := hok.mem x (by simp)
    obtain ⟨k, hk⟩ : ∃ k : Nat, x.p = k := ⟨x.p.toNat, by omega⟩
    refine ⟨?_, rfl⟩
    have h0 := h.own_set q x.p
    have h1 : Sim (passS1 s q x r last) js (passR f q (List.map WO.p (x :: r))) := by
      refine h.mono h.level ?_ ?_ ?_ rfl rfl rfl ?_ (js_self js) ?_
      · show f.owner.set _ _ = s.owner.set _ _
        rw [h.owner]
      · exact h.lock_set x.p.toNat (-1, -1)
      · exact h.join_set x.p.toNat (-1, -1)
      · refine .set q r last (fun y hy => ⟨y, ?_, rfl, rfl⟩)
        rw [hgl]
        exact List.mem_cons_of_mem _ hy
      · exact h.all_set x.p.toNat (by omega) (-1, -1) rfl
    have h2 := h1.mono (s' := worseS (passS1 s q x r last) (getO s.owner q)) h1.level h1.owner h1.lock h1.join rfl rfl rfl (worse_nums _ _) (js_self js) h1.all
    exact h2.mono (s' := worseS (worseS (passS1 s q x r last) (getO s.owner q)) x.p) h2.level h2.owner h2.lock h2.join rfl rfl rfl (worse_nums _ _) (js_self js) h2.all
theorem Sim.unlE (h : Sim s js f) (hI : LkAll s K) (t l : Int) : unlockE f t l = Go.Proofs.YtfoeijiejpenpaaGreatDoor.unlE s t l := by
  have hn := h.n hI.whole
  have hm := h.m hI.whole
  have hoo := hI.whole.owner
  unfold unlockE Go.Proofs.YtfoeijiejpenpaaGreatDoor.unlE
  rw [hn, hm]
  by_cases h1 : ¬ ¬ (0 ≤ t ∧ t < (s.eff.length : Int))
  · rw [if_neg h1, if_neg h1]
    by_cases h2 : ¬ ¬ (0 ≤ l ∧ l < (s.lines.length : Int))
    · rw [if_neg h2, if_neg h2]
      obtain ⟨k, rfl⟩ : ∃ k : Nat, t = k := ⟨t.toNat, by omega⟩
      obtain ⟨q, rfl⟩ : ∃ q : Nat, l = q := ⟨l.toNat, by omega⟩
      rw [Int.toNat_natCast, Int.toNat_natCast, h.waits hI (by omega), h.owner_at (by omega)]
      cases waitsB s k <;> rfl
    · have h2 := Decidable.not_not.1 h2
      rw [if_pos h2, if_pos h2]
  · have h1 := Decidable.not_not.1 h1
    rw [if_pos h1, if_pos h1]
theorem unlE_zero {t l : Int} (h : unlE s t l = 0) : 0 ≤ l ∧ l < s.lines.length := by
  unfold unlE at h
  split at h
  · omega
  · split at h
    · omega
    · omega
theorem Sim.unl (h : Sim s js f) (hI : LkAll s K) (t l : Int) : Sim (unlS s t l) js (unlockR f t l) ∧ unlockT f t l = unlN s t l := by
  unfold unlS unlN unlockR unlockT
  rw [h.unlE hI]
  by_cases e : Go.Proofs.YtfoeijiejpenpaaGreatDoor.unlE s t l = 0
  · have hz := unlE_zero e
    rw [if_pos e, if_pos e, if_pos e, if_pos e]
    obtain ⟨q, rfl⟩ : ∃ q : Nat, l = q := ⟨l.toNat, by omega⟩
    rw [Int.toNat_natCast]
    exact h.pass hI q (by omega)
  · rw [if_neg e, if_neg e, if_neg e, if_neg e]
    exact ⟨h, rfl⟩
theorem Sim.cancelB (h : Sim s js f) (hI : LkAll s K) (t : Int) : cancelBR f t = decide ((0 ≤ t ∧ t < s.eff.length) ∧ (getW s.waits t).1 ≠ -1) := by
  have hn := h.n hI.whole
  have hww := hI.whole.waits
  unfold cancelBR
  rw [hn]
  by_cases h1 : 0 ≤ t ∧ t < (s.eff.length : Int)
  · obtain ⟨k, rfl⟩ : ∃ k : Nat, t = k := ⟨t.toNat, by omega⟩
    have hr := hI.wrng (k : Int)
    rw [Int.toNat_natCast, h.lock_at (by omega), decide_eq_true h1, Bool.true_and]
    exact decide_eq_decide.2 ⟨fun h2 => ⟨h1, by omega⟩, fun h2 => by omega⟩
  · rw [decide_eq_false h1, decide_eq_false (fun h2 : (0 ≤ t ∧ t < (s.eff.length : Int)) ∧ (getW s.waits t).1 ≠ -1 => h1 h2.1)]; rfl
theorem Sim.cancel (h : Sim s js f) (hI : LkAll s K) (t : Int) : Sim (cancelS s t) js (cancelR f t) := by
  have hww := hI.whole.waits
  unfold cancelS cancelR
  rw [h.cancelB hI]
  by_cases hc : (0 ≤ t ∧ t < (s.eff.length : Int)) ∧ (getW s.waits t).1 ≠ -1
  · rw [if_pos hc, decide_eq_true hc]
    have h1 : Sim { s with waits := s.waits.set t.toNat (-1, -1), lines := s.lines.set (getW s.waits t).1.toNat ((s.lines.getD (getW s.waits t).1.toNat ([], 0)).1.eraseP (isP t), (s.lines.getD (getW s.waits t).1.toNat ([], 0)).2) } js (waitR f t.toNat (-1) (-1)) :=
      h.mono h.level h.owner (h.lock_set t.toNat (-1, -1)) (h.join_set t.toNat (-1, -1)) rfl rfl rfl (.set _ _ _ (fun x hx => ⟨x, List.eraseP_sublist.subset hx, rfl, rfl⟩)) (js_self js) (h.all_set t.toNat (by omega) _ rfl)
    exact h1.mono h1.level h1.owner h1.lock h1.join rfl rfl rfl (worse_nums _ _) (js_self js) h1.all
  · rw [if_neg hc, decide_eq_false hc]; exact h

/-! ### Joins -/
theorem Sim.joinE (h : Sim s js f) (hI : LkAll s K) (t u : Int) : joinER f t u = Go.Proofs.YtfoeijiejpenpaaGreatDoor.joinE s t u := by
  have hn := h.n hI.whole
  unfold joinER Go.Proofs.YtfoeijiejpenpaaGreatDoor.joinE
  rw [hn]
  by_cases h1 : ¬ ¬ (0 ≤ t ∧ t < (s.eff.length : Int))
  · rw [if_neg h1, if_neg h1]
    by_cases h2 : ¬ ¬ (0 ≤ u ∧ u < (s.eff.length : Int))
    · rw [if_neg h2, if_neg h2]
      obtain ⟨k, rfl⟩ : ∃ k : Nat, t = k := ⟨t.toNat, by omega⟩
      rw [Int.toNat_natCast, h.waits hI (by omega), h.closes hI]
      cases waitsB s k <;> cases closesM s.owner s.waits k u <;> rfl
    · have h2 := Decidable.not_not.1 h2
      rw [if_pos h2, if_pos h2]
  · have h1 := Decidable.not_not.1 h1
    rw [if_pos h1, if_pos h1]
theorem Sim.join_ (h : Sim s js f) (hI : LkAll s K) (hj : JInv s js) (hjl : js.length = s.eff.length) (t u : Int) : Sim (joinS s t u) (joinJ s js t u) (joinR f t u) := by
  have hww := hI.whole.waits
  unfold joinS joinJ joinR
  rw [h.joinE hI]
  by_cases e : Go.Proofs.YtfoeijiejpenpaaGreatDoor.joinE s t u = 0
  · rw [if_pos e, if_pos e, if_pos e]
    have hz := joinE_zero e
    have hno := waitsB_no hz.2.2.1
    obtain ⟨k, rfl⟩ : ∃ k : Nat, t = k := ⟨t.toNat, by omega⟩
    obtain ⟨q, rfl⟩ : ∃ q : Nat, u = q := ⟨u.toNat, by omega⟩
    have hqj : q < js.length := by omega
    have hge : js.getD q [] = js[q] := by rw [List.getD_eq_getElem?_getD, List.getElem?_eq_getElem hqj]; rfl
    simp only [Int.toNat_natCast]
    rw [hge]
    obtain ⟨h1, h2⟩ := h.come hI hj k (by omega) hno
    have hne : ∀ (v : Nat) (hv : v < js.length) (x : Int), x ∈ js[v] → 0 ≤ x ∧ x ≠ k := fun v hv x hx => by
      have h1 := hj.mem v hv x hx
      refine ⟨h1.1, fun e => ?_⟩
      have h3 := h1.2.2
      rw [e, hno] at h3
      have h2 : (-1 : Int) = v := h3
      omega
    refine ⟨h1.level, h1.owner, h1.lock_set k (-1, (q : Int)), h1.join_set k (-1, (q : Int)), h1.clen, h1.last, h1.upto, h1.cameL, fun v hv => ?_, fun v hv x hx hxv => ?_⟩
    · have hv' : v < js.length := by simpa using hv
      rw [List.getElem_set]
      split
      · rename_i e2
        subst e2
        refine List.pairwise_append.2 ⟨h1.cameJ q hqj, by simp, fun a ha b hb => ?_⟩
        obtain rfl := List.mem_singleton.1 hb
        have := hne q hqj a ha
        exact h2 a this.1 this.2
      · exact h1.cameJ v hv'
    · have hv' : v < js.length := by simpa using hv
      have hx' : x < s.waits.length := by simpa using hx
      have hxv : (getW (s.waits.set k (-1, (q : Int))) x).2 = v := hxv
      rw [getW_set (by omega)] at hxv
      rw [List.getElem_set]
      split at hxv
      · rename_i e2
        have hqv : q = v := by have h5 : (q : Int) = v := hxv; omega
        rw [if_pos hqv]
        exact List.mem_append.2 (.inr (by rw [e2]; simp))
      · split
        · rename_i e3
          subst e3
          exact List.mem_append.2 (.inl (h.all q hqj x hx' hxv))
        · exact h.all v hv' x hx' hxv
  · rw [if_neg e, if_neg e, if_neg e]; exact h
end

end Go.Proofs.YtfoeijiejpenpaaGreatDoor

/- Law 26: drops and ends keep the document's state standing for the program's (the plain law). No program in sight. -/
namespace Go.Proofs.YtfoeijiejpenpaaGreatDoor

section
variable {s : Lk} {js : List (List Int)} {f : Rf} {K : Nat}
theorem waitR_twice (f : Rf) (k : Nat) (l u : Int) : waitR (waitR f k l u) k l u = waitR f k l u := by
  unfold waitR
  simp
theorem getElem_of_getD {js : List (List Int)} {q : Nat} (h : q < js.length) : js.getD q [] = js[q] := by rw [List.getD_eq_getElem?_getD, List.getElem?_eq_getElem h]; rfl
/-- A join is left. -/
theorem Sim.leave (h : Sim s js f) (hI : LkAll s K) (hj : JInv s js) (hjl : js.length = s.eff.length) (t : Int) (ht : 0 ≤ t ∧ t < s.eff.length) (h1 : (getW s.waits t).1 = -1) : Sim (leaveS s t) (leaveJ s js t) (waitR f t.toNat (-1) (-1)) := by
  have hww := hI.whole.waits
  have hr := hI.wrng t
  unfold leaveS leaveJ
  obtain ⟨k, rfl⟩ : ∃ k : Nat, t = k := ⟨t.toNat, by omega⟩
  rw [Int.toNat_natCast]
  have hk : k < s.waits.length := by omega
  by_cases e : (getW s.waits (k : Int)).2 = -1
  · rw [if_neg (by omega), if_neg (by omega)]
    have hs : s.waits.set k (-1, -1) = s.waits := by
      have h2 : s.waits[k] = (-1, -1) := by
        have := getW_in hk
        rw [this] at h1 e
        exact Prod.ext h1 e
      rw [← h2, List.set_getElem_self]
    have h2 := h.lock_set k (-1, -1)
    have h3 := h.join_set k (-1, -1)
    rw [hs] at h2 h3
    exact h.mono h.level h.owner h2 h3 rfl rfl rfl (.refl _) (js_self js) h.all
  · rw [if_pos e, if_pos e]
    obtain ⟨q, hq⟩ : ∃ q : Nat, (getW s.waits k).2 = q := ⟨(getW s.waits k).2.toNat, by omega⟩
    rw [hq, Int.toNat_natCast]
    have hqj : q < js.length := by omega
    rw [getElem_of_getD hqj]
    refine h.mono h.level h.owner (h.lock_set k (-1, -1)) (h.join_set k (-1, -1)) rfl rfl rfl (.refl _) (fun v hv => ?_) (fun v hv x hx hxv => ?_)
    · have hv' : v < js.length := by simpa using hv
      refine ⟨hv', ?_⟩
      rw [List.getElem_set]
      split
      · rename_i e2
        subst e2
        exact List.filter_sublist
      · exact List.Sublist.refl _
    · have hv' : v < js.length := by simpa using hv
      have hx' : x < s.waits.length := by simpa using hx
      have hxv : (getW (s.waits.set k (-1, -1)) x).2 = v := hxv
      rw [getW_set hk] at hxv
      split at hxv
      · have h5 : (-1 : Int) = v := hxv
        omega
      · rename_i e2
        have h6 := h.all v hv' x hx' hxv
        rw [List.getElem_set]
        split
        · rename_i e3
          subst e3
          exact List.mem_filter.2 ⟨h6, by simpa using e2⟩
        · exact h6
theorem passS_owner (s : Lk) (q : Nat) : (passS s q).owner = s.owner.set q (passN s q) := by
  unfold passS passN
  split <;> rfl
theorem passAll_owner (k : Nat) : ∀ (l : List Nat) (s : Lk), k ∉ l → (passAll s l).owner[k]? = s.owner[k]?
  | [], _, _ => rfl
  | q :: r, s, h => by
    have e : passAll s (q :: r) = passAll (passS s q) r := rfl
    rw [e, passAll_owner k r _ (fun hm => h (by simp [hm])), passS_owner, List.getElem?_set_ne (fun e => h (by simp [e]))]
theorem handL_fst : ∀ (l : List Nat) (s : Lk), (handL s l).map Prod.fst = l.map (fun q : Nat => (q : Int))
  | [], _ => rfl
  | q :: r, s => by rw [handL, List.map_cons, handL_fst r, List.map_cons]
theorem cancelS_len (s : Lk) (t : Int) : (cancelS s t).waits.length = s.waits.length ∧ (cancelS s t).owner.length = s.owner.length := by
  unfold cancelS
  split
  · exact ⟨by show (s.waits.set _ _).length = _; simp, rfl⟩
  · exact ⟨rfl, rfl⟩
theorem leaveS_len (s : Lk) (t : Int) : (leaveS s t).eff = s.eff ∧ (leaveS s t).lines = s.lines ∧ (leaveS s t).owner = s.owner := by
  unfold leaveS
  split <;> exact ⟨rfl, rfl, rfl⟩
theorem leaveJ_len (s : Lk) (js : List (List Int)) (t : Int) : (leaveJ s js t).length = js.length := by
  unfold leaveJ
  split <;> simp
/-- A drop: both lists, and what is left. -/
theorem Sim.drop (h : Sim s js f) (hI : LkAll s K) (hj : JInv s js) (hjl : js.length = s.eff.length) (t : Int) (ht : 0 ≤ t ∧ t < s.eff.length) :
    Sim (dropS s t) (dropJ s js t) (dropK f t f.owner.length).1 ∧ (dropK f t f.owner.length).2.1 = (dropL s t).map Prod.fst ∧ (dropK f t f.owner.length).2.2 = (dropL s t).map Prod.snd := by
  have hm := h.m hI.whole
  have hI1 := cancel_inv hI t
  have hj1 := cancel_j hI hj t
  have hs1 := Same.of hI.whole hI1.whole (cancelS_len s t).1 (cancelS_len s t).2
  have hno := cancel_no hI t
  have h1 := (h.cancel hI t).leave hI1 hj1 (by rw [hs1.n]; exact hjl) t (by rw [hs1.n]; exact ht) hno
  have hI2 := leave_all hI1 t (by rw [hs1.n]; exact ht) hno
  have hj2 := leave_j hI1 hj1 (by rw [hs1.n]; exact hjl) t (by rw [hs1.n]; exact ht)
  have hw0 : waitR (cancelR f t) t.toNat (-1) (-1) = waitR f t.toNat (-1) (-1) := by
    unfold cancelR
    cases cancelBR f t
    · rfl
    · exact waitR_twice f t.toNat (-1) (-1)
  rw [hw0] at h1
  unfold dropS dropJ dropL
  rw [if_pos ht, if_pos ht, if_pos ht, hm]
  have hlen := (leaveS_len (cancelS s t) t).2.1
  generalize leaveS (cancelS s t) t = s0 at *
  generalize leaveJ (cancelS s t) js t = js0 at *
  have hm0 : s0.lines.length = s.lines.length := by rw [hlen]; exact hs1.m
  unfold ownedL
  rw [handL_fst, ← hm0]
  have key : ∀ k, k ≤ s0.lines.length → Sim (passAll s0 ((List.range k).filter fun l : Nat => getO s0.owner l == t)) js0 (dropK f t k).1 ∧ (dropK f t k).2.1 = ((List.range k).filter fun l : Nat => getO s0.owner l == t).map (fun q : Nat => (q : Int)) ∧ (dropK f t k).2.2 = (handL s0 ((List.range k).filter fun l : Nat => getO s0.owner l == t)).map Prod.snd := by
    intro k
    induction k with
    | zero => intro _; exact ⟨h1, rfl, rfl⟩
    | succ k ih =>
      intro hk
      obtain ⟨i1, i2, i3⟩ := ih (by omega)
      have hmem : ∀ q ∈ (List.range k).filter (fun l : Nat => getO s0.owner l == t), q < k := fun q hq => List.mem_range.1 (List.mem_filter.1 hq).1
      obtain ⟨hIa, hja, hsa⟩ := passAll_ok hI2 hj2 ((List.range k).filter fun l : Nat => getO s0.owner l == t) (fun q hq => by have := hmem q hq; omega)
      have hoo := hIa.whole.owner
      have hoo0 := hI2.whole.owner
      have hkk : k < s0.owner.length := by omega
      have hka : k < (passAll s0 ((List.range k).filter fun l : Nat => getO s0.owner l == t)).owner.length := by rw [hoo, hsa.m]; omega
      have ho : (dropK f t k).1.owner.getD k 0 = getO s0.owner k := by
        have h5 := passAll_owner k ((List.range k).filter fun l : Nat => getO s0.owner l == t) s0 (fun hq => by have := hmem k hq; omega)
        rw [List.getElem?_eq_getElem hkk] at h5
        rw [i1.owner, getO_in hkk, List.getD_eq_getElem?_getD, h5]
        rfl
      rw [List.range_succ, List.filter_append, dropK, ho]
      by_cases e : getO s0.owner k = t
      · have h6 : [k].filter (fun l : Nat => getO s0.owner l == t) = [k] := by simp [e]
        rw [if_pos e, h6, passAll_one, handL_one, List.map_append, List.map_append, ← i2, ← i3]
        have h7 := i1.pass hIa k (by rw [hsa.m]; omega)
        refine ⟨h7.1, rfl, ?_⟩
        show _ ++ [_] = _ ++ [_]
        rw [h7.2]
      · have h6 : [k].filter (fun l : Nat => getO s0.owner l == t) = [] := by simp [e]
        rw [if_neg e, h6, List.append_nil]
        exact ⟨i1, i2, i3⟩
  exact key _ (Nat.le_refl _)

/-! ### An end -/
theorem clearW_in : ∀ (l : List Int) (ws : List (Int × Int)) (x : Int), (∀ t ∈ l, 0 ≤ t ∧ t < (ws.length : Int)) → x ∈ l → getW (clearW ws l) x = (-1, -1)
  | [], _, _, _, h => by simp at h
  | t :: r, ws, x, h, hx => by
    have ht := h t (by simp)
    obtain ⟨k, rfl⟩ : ∃ k : Nat, t = k := ⟨t.toNat, by omega⟩
    have e : clearW ws ((k : Int) :: r) = clearW (ws.set k (-1, -1)) r := by simp [clearW]
    have hr : ∀ u ∈ r, 0 ≤ u ∧ u < ((ws.set k (-1, -1)).length : Int) := fun u hu => by simp; exact h u (by simp [hu])
    rw [e]
    by_cases hm : x ∈ r
    · exact clearW_in r _ x hr hm
    · rw [clearW_get r _ x hr hm]
      rcases List.mem_cons.1 hx with rfl | hx
      · rw [getW_set (by omega), if_pos rfl]
      · exact absurd hx hm
theorem endedR_is (h : Sim s js f) (L : List Int) : ∀ k, k ≤ L.length → (endedR f L k).level = f.level ∧ (endedR f L k).owner = f.owner ∧ (endedR f L k).lock = (clearW s.waits (L.take k)).map Prod.fst ∧ (endedR f L k).join = (clearW s.waits (L.take k)).map Prod.snd ∧ (endedR f L k).came = f.came ∧ (endedR f L k).last = f.last
  | 0, _ => ⟨rfl, rfl, h.lock, h.join, rfl, rfl⟩
  | k + 1, hk => by
    obtain ⟨h1, h2, h3, h4, h5, h6⟩ := endedR_is h L k (by omega)
    have hd : L.getD k 0 = L[k] := by rw [List.getD_eq_getElem?_getD, List.getElem?_eq_getElem (by omega)]; rfl
    rw [endedR, List.take_succ_eq_append_getElem (by omega), clearW_one, hd]
    refine ⟨h1, h2, ?_, ?_, h5, h6⟩
    · show (endedR f L k).lock.set _ _ = _
      rw [h3, List.map_set]
    · show (endedR f L k).join.set _ _ = _
      rw [h4, List.map_set]
theorem Sim.ended (h : Sim s js f) (hI : LkAll s K) (hj : JInv s js) (hjl : js.length = s.eff.length) (u : Int) : Sim (endedS s js u) (endedJ s js u) (endedR f (endQ f u) (endQ f u).length) := by
  have hww := hI.whole.waits
  rw [h.endq hI hj hjl]
  obtain ⟨h1, h2, h3, h4, h5, h6⟩ := endedR_is h (endedL s js u) (endedL s js u).length (Nat.le_refl _)
  rw [List.take_length] at h3 h4
  have hL : ∀ t ∈ endedL s js u, 0 ≤ t ∧ t < (s.waits.length : Int) := fun t ht => by
    unfold endedL at ht
    split at ht
    · rename_i hu
      have hq : u.toNat < js.length := by omega
      rw [getElem_of_getD hq] at ht
      have := hj.mem _ hq t ht
      omega
    · simp at ht
  refine h.mono (s' := endedS s js u) (h1.trans h.level) (h2.trans h.owner) h3 h4 h5 h6 rfl (.refl _) (fun v hv => ?_) (fun v hv x hx hxv => ?_)
  · unfold endedJ at hv ⊢
    split
    · rename_i hc
      rw [if_pos hc] at hv
      have hv' : v < js.length := by simpa using hv
      refine ⟨hv', ?_⟩
      rw [List.getElem_set]
      split
      · exact List.nil_sublist _
      · exact List.Sublist.refl _
    · rename_i hc
      rw [if_neg hc] at hv
      exact ⟨hv, List.Sublist.refl _⟩
  · have hx' : x < s.waits.length := by
      have : (clearW s.waits (endedL s js u)).length = s.waits.length := clearW_len _ _
      have hx : x < (clearW s.waits (endedL s js u)).length := hx
      omega
    have hxv : (getW (clearW s.waits (endedL s js u)) x).2 = v := hxv
    by_cases hm : (x : Int) ∈ endedL s js u
    · rw [clearW_in _ _ _ hL hm] at hxv
      have h7 : (-1 : Int) = v := hxv
      omega
    · rw [clearW_get _ _ _ hL hm] at hxv
      unfold endedJ at hv ⊢
      unfold endedL at hm
      split
      · rename_i hc
        rw [if_pos hc] at hv hm
        have hv' : v < js.length := by simpa using hv
        have h6 := h.all v hv' x hx' hxv
        rw [List.getElem_set]
        split
        · rename_i e
          have hq : u.toNat < js.length := by omega
          rw [getElem_of_getD hq] at hm
          subst e
          exact absurd h6 hm
        · exact h6
      · rename_i hc
        rw [if_neg hc] at hv
        exact h.all v hv x hx' hxv
end

end Go.Proofs.YtfoeijiejpenpaaGreatDoor

