/- The runner: what stands for what; The runner: values and memory that stand for the program's; The runner: memory that stands for the program's. -/
import Derived.Test.YtdkebebingchpaaGreatDoorRuA
import Derived.Laws.Sem
import Derived.Laws.CopyRow
import Derived.RangeFuncRecord
import Derived.Below

/- The runner: what stands for what. -/
namespace Go.Proofs.YtdkebebingchpaaGreatDoor.Ru
open Go

/- Tries. -/
def getT {α : Type} (d : α) : Tr α → Nat → α
  | .nil, _ => d
  | .node _ v _, 0 => v
  | .node l _ r, j + 1 => if j % 2 = 0 then getT d l (j / 2) else getT d r (j / 2)
def setT {α : Type} (d : α) : Nat → Tr α → Nat → α → Tr α
  | 0, t, _, _ => t
  | _ + 1, .nil, 0, v => .node .nil v .nil
  | f + 1, .nil, j + 1, v => if j % 2 = 0 then .node (setT d f .nil (j / 2) v) d .nil else .node .nil d (setT d f .nil (j / 2) v)
  | _ + 1, .node l _ r, 0, v => .node l v r
  | f + 1, .node l x r, j + 1, v => if j % 2 = 0 then .node (setT d f l (j / 2) v) x r else .node l x (setT d f r (j / 2) v)
theorem getT_set {α : Type} (d : α) : ∀ (f : Nat) (t : Tr α) (k : Nat) (v : α) (j : Nat), k + 1 < 2 ^ f → getT d (setT d f t k v) j = if j = k then v else getT d t j
  | 0, _, k, _, _, h => by simp at h
  | f + 1, .nil, 0, v, j, _ => by cases j <;> simp [setT, getT]
  | f + 1, .node l x r, 0, v, j, _ => by cases j <;> simp [setT, getT]
  | f + 1, .nil, k + 1, v, j, h => by
    have hb : k / 2 + 1 < 2 ^ f := by rw [Nat.pow_succ] at h; omega
    rw [setT]
    by_cases hk : k % 2 = 0
    · rw [if_pos hk]
      cases j with
      | zero => simp [getT]
      | succ j =>
        rw [getT.eq_3, getT_set d f .nil (k / 2) v (j / 2) hb]
        by_cases hj : j % 2 = 0
        · rw [if_pos hj]
          by_cases e : j = k
          · subst e; simp
          · rw [if_neg (by omega), if_neg (by omega)]; simp [getT]
        · rw [if_neg hj, if_neg (by omega)]; simp [getT]
    · rw [if_neg hk]
      cases j with
      | zero => simp [getT]
      | succ j =>
        rw [getT.eq_3, getT_set d f .nil (k / 2) v (j / 2) hb]
        by_cases hj : j % 2 = 0
        · rw [if_pos hj, if_neg (by omega)]; simp [getT]
        · rw [if_neg hj]
          by_cases e : j = k
          · subst e; simp
          · rw [if_neg (by omega), if_neg (by omega)]; simp [getT]
  | f + 1, .node l x r, k + 1, v, j, h => by
    have hb : k / 2 + 1 < 2 ^ f := by rw [Nat.pow_succ] at h; omega
    rw [setT]
    by_cases hk : k % 2 = 0
    · rw [if_pos hk]
      cases j with
      | zero => simp [getT]
      | succ j =>
        rw [getT, getT_set d f l (k / 2) v (j / 2) hb, getT]
        by_cases hj : j % 2 = 0
        · rw [if_pos hj, if_pos hj]
          by_cases e : j = k
          · subst e; simp
          · rw [if_neg (by omega), if_neg (by omega)]
        · rw [if_neg hj, if_neg hj, if_neg (by omega)]
    · rw [if_neg hk]
      cases j with
      | zero => simp [getT]
      | succ j =>
        rw [getT, getT_set d f r (k / 2) v (j / 2) hb, getT]
        by_cases hj : j % 2 = 0
        · rw [if_pos hj, if_pos hj, if_neg (by omega)]
        · rw [if_neg hj, if_neg hj]
          by_cases e : j = k
          · subst e; simp
          · rw [if_neg (by omega), if_neg (by omega)]
theorem rec_mod {α : Type} (a : α) (b : α) (j : Nat) : @Nat.rec (fun _ => α) a (fun _ _ => b) (Nat.mod j 2) = if j % 2 = 0 then a else b := by
  show @Nat.rec (fun _ => α) a (fun _ _ => b) (j % 2) = _
  cases j % 2 <;> rfl
theorem getV_eq : ∀ (E : Env) (k : Nat), getV E k = getT undef E k
  | .nil, _ => rfl
  | .node _ _ _, 0 => rfl
  | .node l x r, j + 1 => by
    show @Nat.rec (fun _ => Value) (getV l (Nat.div j 2)) (fun _ _ => getV r (Nat.div j 2)) (Nat.mod j 2) = _
    rw [rec_mod, getV_eq l, getV_eq r]; rfl
theorem setFV_eq : ∀ (f : Nat) (E : Env) (k : Nat) (v : Value), setFV f E k v = setT undef f E k v
  | 0, _, _, _ => rfl
  | _ + 1, .nil, 0, _ => rfl
  | _ + 1, .node _ _ _, 0, _ => rfl
  | f + 1, .nil, j + 1, v => by
    show @Nat.rec (fun _ => Env) (.node (setFV f .nil (Nat.div j 2) v) undef .nil) (fun _ _ => .node .nil undef (setFV f .nil (Nat.div j 2) v)) (Nat.mod j 2) = _
    rw [rec_mod, setFV_eq f]; rfl
  | f + 1, .node l x r, j + 1, v => by
    show @Nat.rec (fun _ => Env) (.node (setFV f l (Nat.div j 2) v) x r) (fun _ _ => .node l x (setFV f r (Nat.div j 2) v)) (Nat.mod j 2) = _
    rw [rec_mod, setFV_eq f, setFV_eq f]; rfl
theorem getB_eq : ∀ (E : Tr (Option AB)) (k : Nat), getB E k = getT none E k
  | .nil, _ => rfl
  | .node _ _ _, 0 => rfl
  | .node l x r, j + 1 => by
    show @Nat.rec (fun _ => Option AB) (getB l (Nat.div j 2)) (fun _ _ => getB r (Nat.div j 2)) (Nat.mod j 2) = _
    rw [rec_mod, getB_eq l, getB_eq r]; rfl
theorem setFB_eq : ∀ (f : Nat) (E : Tr (Option AB)) (k : Nat) (v : Option AB), setFB f E k v = setT none f E k v
  | 0, _, _, _ => rfl
  | _ + 1, .nil, 0, _ => rfl
  | _ + 1, .node _ _ _, 0, _ => rfl
  | f + 1, .nil, j + 1, v => by
    show @Nat.rec (fun _ => Tr (Option AB)) (.node (setFB f .nil (Nat.div j 2) v) none .nil) (fun _ _ => .node .nil none (setFB f .nil (Nat.div j 2) v)) (Nat.mod j 2) = _
    rw [rec_mod, setFB_eq f]; rfl
  | f + 1, .node l x r, j + 1, v => by
    show @Nat.rec (fun _ => Tr (Option AB)) (.node (setFB f l (Nat.div j 2) v) x r) (fun _ _ => .node l x (setFB f r (Nat.div j 2) v)) (Nat.mod j 2) = _
    rw [rec_mod, setFB_eq f, setFB_eq f]; rfl
theorem getV_set (E : Env) (k : Nat) (v : Value) (j : Nat) (h : k < 16000001) : getV (setFV 24 E k v) j = if j = k then v else getV E j := by
  rw [getV_eq, setFV_eq, getT_set _ _ _ _ _ _ (by omega), getV_eq]
theorem getB_set (t : Tr (Option AB)) (k : Nat) (v : Option AB) (j : Nat) (h : k < 16000001) : getB (setB t k v) j = if j = k then v else getB t j := by
  rw [getB_eq, setB, setFB_eq, getT_set _ _ _ _ _ _ (by omega), getB_eq]

/- What a block is, and how many elements it holds where it was made by an append. -/
abbrev BM := Nat → Option (Nat × Nat)
def MLe (m m2 : BM) : Prop := ∀ b x, m b = some x → m2 b = some x
theorem MLe.refl (m : BM) : MLe m m := fun _ _ h => h
theorem MLe.trans {a b c : BM} (h : MLe a b) (k : MLe b c) : MLe a c := fun _ _ e => k _ _ (h _ _ e)
def litV : Value → Bool
  | .bool _ | .int _ _ | .float _ _ | .string _ | .pointer none | .map none | .nilFunc | .nilIface => true
  | .slice none 0 0 => true
  | _ => false
inductive VRel (m : BM) : Value → Value → Prop
  | lit {v : Value} : litV v = true → VRel m v v
  | junk (v : Value) : VRel m (.chan (some 0)) v
  | ptr {b o : Nat} {x : Nat × Nat} : m b = some x → VRel m (.pointer (some ⟨b, o, none⟩)) (.pointer (some ⟨x.1, o, none⟩))
  | slice {b o n c c' : Nat} {x : Nat × Nat} : m b = some x → n ≤ capLow c → capLow c < big → capLow c ≤ c' → (c < big → c' = c) → (big ≤ c → o = 0 → c' = x.2) →
      VRel m (.slice (some ⟨b, o, none⟩) n c) (.slice (some ⟨x.1, o, none⟩) n c')
  | empty {a : Option Addr} {c : Nat} : VRel m (.slice none 0 1) (.slice a 0 c)
  | map {b : Nat} {x : Nat × Nat} : m b = some x → VRel m (.map (some b)) (.map (some x.1))
  | func {f : FuncId} {a a' c c' : Array Value} : a.toList.length = a'.toList.length → (∀ i, VRel m (a.toList.getD i .nilIface) (a'.toList.getD i .nilIface)) →
      c.toList.length = c'.toList.length → (∀ i, VRel m (c.toList.getD i .nilIface) (c'.toList.getD i .nilIface)) → VRel m (.func (.func f) a c) (.func (.func f) a' c')
  | yield {l : Nat} {x : Nat × Nat} : m l = some x → VRel m (.func (.yield l) #[] #[]) (.func (.yield x.1) #[] #[])
  | agg {a a' : Array Value} : a.toList.length = a'.toList.length → (∀ i, VRel m (a.toList.getD i .nilIface) (a'.toList.getD i .nilIface)) → VRel m (.agg a) (.agg a')
  | tuple {a a' : Array Value} : a.toList.length = a'.toList.length → (∀ i, VRel m (a.toList.getD i .nilIface) (a'.toList.getD i .nilIface)) → VRel m (.tuple a) (.tuple a')
theorem VRel.mono {m m2 : BM} (hm : MLe m m2) {v v' : Value} (h : VRel m v v') : VRel m2 v v' := by
  induction h with
  | lit h => exact .lit h
  | junk v => exact .junk v
  | ptr h => exact .ptr (hm _ _ h)
  | slice h a b c d e => exact .slice (hm _ _ h) a b c d e
  | empty => exact .empty
  | map h => exact .map (hm _ _ h)
  | func a _ b _ ih1 ih2 => exact .func a ih1 b ih2
  | yield h => exact .yield (hm _ _ h)
  | agg a _ ih => exact .agg a ih
  | tuple a _ ih => exact .tuple a ih
/-- Two lists of values. -/
def LRel (m : BM) (l l' : List Value) : Prop := l.length = l'.length ∧ ∀ i, VRel m (l.getD i .nilIface) (l'.getD i .nilIface)
theorem VRel.undef (m : BM) : VRel m undef undef := .tuple rfl fun i => by
  cases i <;> exact .lit rfl

end Go.Proofs.YtdkebebingchpaaGreatDoor.Ru

/- The runner: values and memory that stand for the program's. -/
namespace Go.Proofs.YtdkebebingchpaaGreatDoor.Ru
open Go

section
variable {m : BM}
theorem LRel.get {l l' : List Value} (h : LRel m l l') {i : Nat} {u : Value} (hu : l[i]? = some u) : ∃ u', l'[i]? = some u' ∧ VRel m u u' := by
  obtain ⟨hi, rfl⟩ := List.getElem?_eq_some_iff.1 hu
  have hi' : i < l'.length := by rw [← h.1]; exact hi
  have := h.2 i
  rw [List.getD_eq_getElem?_getD, List.getD_eq_getElem?_getD, List.getElem?_eq_getElem hi, List.getElem?_eq_getElem hi'] at this
  exact ⟨l'[i], List.getElem?_eq_getElem hi', this⟩
theorem LRel.of {l l' : List Value} (hl : l.length = l'.length) (h : ∀ (i : Nat) (u : Value), l[i]? = some u → ∃ u' : Value, l'[i]? = some u' ∧ VRel m u u') : LRel m l l' := by
  refine ⟨hl, fun i => ?_⟩
  rw [List.getD_eq_getElem?_getD, List.getD_eq_getElem?_getD]
  cases hu : l[i]? with
  | none => rw [List.getElem?_eq_none (by rw [← hl]; exact List.getElem?_eq_none_iff.1 hu)]; exact .lit rfl
  | some u => obtain ⟨u', h1, h2⟩ := h i u hu; rw [h1]; exact h2
theorem LRel.nil : LRel m [] [] := ⟨rfl, fun i => by cases i <;> exact .lit rfl⟩
theorem LRel.cons {a a' : Value} {l l' : List Value} (h : VRel m a a') (hl : LRel m l l') : LRel m (a :: l) (a' :: l') := .of (by simp [hl.1]) fun i u hu => by
  cases i with
  | zero => cases hu; exact ⟨a', rfl, h⟩
  | succ i => exact hl.get hu
theorem LRel.len {l l' : List Value} (h : LRel m l l') : l.length = l'.length := h.1
theorem LRel.mono {m2 : BM} (hm : MLe m m2) {l l' : List Value} (h : LRel m l l') : LRel m2 l l' := ⟨h.1, fun i => (h.2 i).mono hm⟩
theorem LRel.take {l l' : List Value} (h : LRel m l l') (n : Nat) : LRel m (l.take n) (l'.take n) := .of (by simp [h.1]) fun i u hu => by
  rw [List.getElem?_take] at hu ⊢
  split at hu
  · rename_i hi; rw [if_pos hi]; exact h.get hu
  · cases hu
theorem LRel.drop {l l' : List Value} (h : LRel m l l') (n : Nat) : LRel m (l.drop n) (l'.drop n) := .of (by simp [h.1]) fun i u hu => by
  rw [List.getElem?_drop] at hu ⊢
  exact h.get hu
theorem LRel.append {l l' r r' : List Value} (h : LRel m l l') (k : LRel m r r') : LRel m (l ++ r) (l' ++ r') := .of (by simp [h.1, k.1]) fun i u hu => by
  rcases Nat.lt_or_ge i l.length with hi | hi
  · rw [List.getElem?_append_left hi] at hu
    rw [List.getElem?_append_left (by rw [← h.1]; exact hi)]
    exact h.get hu
  · rw [List.getElem?_append_right hi] at hu
    rw [List.getElem?_append_right (by rw [← h.1]; exact hi), ← h.1]
    exact k.get hu
theorem LRel.map {α : Type} {f g : α → Value} : ∀ {l : List α}, (∀ x ∈ l, VRel m (f x) (g x)) → LRel m (l.map f) (l.map g)
  | [], _ => .nil
  | a :: l, h => .cons (h a (by simp)) (LRel.map fun x hx => h x (by simp [hx]))
theorem LRel.setL : ∀ {l l' : List Value} {o : Nat} {vs vs' : List Value}, LRel m l l' → LRel m vs vs' → LRel m (setL l o vs) (setL l' o vs')
  | l, l', _, [], vs', h, hv => by
    have : vs' = [] := List.eq_nil_of_length_eq_zero hv.1.symm
    subst this
    cases l <;> cases l' <;> simpa [Ru.setL] using h
  | [], l', _, v :: vs, vs', h, hv => by
    have : l' = [] := List.eq_nil_of_length_eq_zero h.1.symm
    subst this
    cases vs' <;> simpa [Ru.setL] using LRel.nil
  | a :: l, l', o, v :: vs, vs', h, hv => by
    match l', vs', h, hv with
    | [], _, h, _ => simp [LRel] at h
    | _ :: _, [], _, hv => simp [LRel] at hv
    | a' :: l', v' :: vs', h, hv =>
      have ht : LRel m l l' := h.drop 1
      have hh : VRel m a a' := h.2 0
      cases o with
      | zero => exact .cons (hv.2 0) (LRel.setL ht (hv.drop 1))
      | succ o => exact .cons hh (LRel.setL ht hv)
theorem LRel.repL {l l' : List Value} (h : LRel m l l') : ∀ n, LRel m (repL n l) (repL n l')
  | 0 => .nil
  | n + 1 => h.append (h.repL n)
theorem LRel.arr {a a' : Array Value} (h1 : a.toList.length = a'.toList.length) (h2 : ∀ i, VRel m (a.toList.getD i .nilIface) (a'.toList.getD i .nilIface)) : LRel m a.toList a'.toList := ⟨h1, h2⟩
theorem VRel.aggL {l l' : List Value} (h : LRel m l l') : VRel m (.agg l.toArray) (.agg l'.toArray) := .agg h.1 h.2
theorem VRel.tupL {l l' : List Value} (h : LRel m l l') : VRel m (.tuple l.toArray) (.tuple l'.toArray) := .tuple h.1 h.2
/- What stands for a value of a kind is of that kind. -/
theorem VRel.bool {b : Bool} {v : Value} (h : VRel m (.bool b) v) : v = .bool b := by cases h; rfl
theorem VRel.int {k : IntKind} {n : Int} {v : Value} (h : VRel m (.int k n) v) : v = .int k n := by cases h; rfl
theorem VRel.str {s : ByteArray} {v : Value} (h : VRel m (.string s) v) : v = .string s := by cases h; rfl
theorem VRel.ptr0 {v : Value} (h : VRel m (.pointer none) v) : v = .pointer none := by cases h; rfl
theorem VRel.pointer {b o : Nat} {v : Value} (h : VRel m (.pointer (some ⟨b, o, none⟩)) v) : ∃ x, m b = some x ∧ v = .pointer (some ⟨x.1, o, none⟩) := by
  cases h with
  | lit h => simp [litV] at h
  | ptr h => exact ⟨_, h, rfl⟩
theorem VRel.pointer' {a : Addr} {v : Value} (h : VRel m (.pointer (some a)) v) : a.spot = none ∧ ∃ x, m a.block = some x ∧ v = .pointer (some ⟨x.1, a.off, none⟩) := by
  cases h with
  | lit h => simp [litV] at h
  | ptr h => exact ⟨rfl, _, h, rfl⟩
theorem VRel.slice0 {v : Value} (h : VRel m (.slice none 0 0) v) : v = .slice none 0 0 := by cases h; rfl
theorem VRel.sliceS {a : Addr} {n c : Nat} {v : Value} (h : VRel m (.slice (some a) n c) v) : a.spot = none ∧ ∃ x c', m a.block = some x ∧ v = .slice (some ⟨x.1, a.off, none⟩) n c' ∧ n ≤ capLow c ∧ capLow c < big ∧ capLow c ≤ c' ∧ (c < big → c' = c) ∧ (big ≤ c → a.off = 0 → c' = x.2) := by
  cases h with
  | lit h => simp [litV] at h
  | slice h a b c d e => exact ⟨rfl, _, _, h, rfl, a, b, c, d, e⟩
theorem VRel.sliceN {n c : Nat} {v : Value} (h : VRel m (.slice none n c) v) : n = 0 ∧ ∃ a c', v = .slice a 0 c' := by
  cases h with
  | lit h =>
    match n, c, h with
    | 0, 0, _ => exact ⟨rfl, _, _, rfl⟩
  | empty => exact ⟨rfl, _, _, rfl⟩
theorem VRel.sliceL {a : Option Addr} {n c : Nat} {v : Value} (h : VRel m (.slice a n c) v) : ∃ a' c', v = .slice a' n c' := by
  cases a with
  | none => obtain ⟨rfl, a', c', rfl⟩ := h.sliceN; exact ⟨_, _, rfl⟩
  | some a => obtain ⟨_, x, c', _, rfl, _⟩ := h.sliceS; exact ⟨_, _, rfl⟩
theorem VRel.map0 {v : Value} (h : VRel m (.map none) v) : v = .map none := by cases h; rfl
theorem VRel.mapS {b : Nat} {v : Value} (h : VRel m (.map (some b)) v) : ∃ x, m b = some x ∧ v = .map (some x.1) := by
  cases h with
  | lit h => simp [litV] at h
  | map h => exact ⟨_, h, rfl⟩
theorem VRel.funcF {f : FuncId} {a c : Array Value} {v : Value} (h : VRel m (.func (.func f) a c) v) : ∃ a' c', v = .func (.func f) a' c' ∧ LRel m a.toList a'.toList ∧ LRel m c.toList c'.toList := by
  cases h with
  | lit h => simp [litV] at h
  | func h1 h2 h3 h4 => exact ⟨_, _, rfl, ⟨h1, h2⟩, ⟨h3, h4⟩⟩
theorem VRel.yieldF {l : Nat} {a c : Array Value} {v : Value} (h : VRel m (.func (.yield l) a c) v) : ∃ x, m l = some x ∧ v = .func (.yield x.1) #[] #[] ∧ a = #[] ∧ c = #[] := by
  cases h with
  | lit h => simp [litV] at h
  | yield h => exact ⟨_, h, rfl, rfl, rfl⟩
theorem VRel.aggF {a : Array Value} {v : Value} (h : VRel m (.agg a) v) : ∃ a', v = .agg a' ∧ LRel m a.toList a'.toList := by
  cases h with
  | lit h => simp [litV] at h
  | agg h1 h2 => exact ⟨_, rfl, ⟨h1, h2⟩⟩
theorem VRel.tupF {a : Array Value} {v : Value} (h : VRel m (.tuple a) v) : ∃ a', v = .tuple a' ∧ LRel m a.toList a'.toList := by
  cases h with
  | lit h => simp [litV] at h
  | tuple h1 h2 => exact ⟨_, rfl, ⟨h1, h2⟩⟩
theorem VRel.cells {v v' : Value} (h : VRel m v v') (hj : v ≠ .chan (some 0)) : LRel m v.cells.toList v'.cells.toList := by
  cases h with
  | lit h =>
    have : v.cells = #[v] := by cases v <;> first | rfl | simp [litV] at h
    rw [this]
    exact .cons (.lit h) .nil
  | junk => exact absurd rfl hj
  | ptr h => exact .cons (.ptr h) .nil
  | slice h a b c d e => exact .cons (.slice h a b c d e) .nil
  | empty => exact .cons .empty .nil
  | map h => exact .cons (.map h) .nil
  | func a b c d => exact .cons (.func a b c d) .nil
  | yield h => exact .cons (.yield h) .nil
  | agg a b => exact ⟨a, b⟩
  | tuple a b => exact .cons (.tuple a b) .nil
theorem oneC_rel {v v' : Value} (h : VRel m v v') (h1 : oneC v = true) : v'.oneCell' = true := by
  cases h <;> first | rfl | (rename_i hl; cases v <;> first | rfl | simp [litV] at hl) | simp [oneC] at h1
theorem notJ_ne {v : Value} (h : notJ v = true) : v ≠ .chan (some 0) := fun e => by rw [e] at h; cases h
/-- What is plain stands for itself. -/
theorem plain_eq : ∀ (n : Nat) (v v' : Value), plain n v = true → VRel m v v' → v = v'
  | 0, _, _, h, _ => by simp [plain] at h
  | n + 1, v, v', h, hv => by
    have all : ∀ {l l' : List Value}, l.all (plain n) = true → LRel m l l' → l = l' := fun {l l'} ha hl => by
      refine List.ext_getElem? fun i => ?_
      cases hu : l[i]? with
      | none => rw [List.getElem?_eq_none (by rw [← hl.1]; exact List.getElem?_eq_none_iff.1 hu)]
      | some u =>
        obtain ⟨u', h1, h2⟩ := hl.get hu
        rw [h1, plain_eq n u u' (List.all_eq_true.1 ha u (List.mem_of_getElem? hu)) h2]
    cases hv with
    | lit h => rfl
    | junk => simp [plain] at h
    | ptr => simp [plain] at h
    | slice => simp [plain] at h
    | empty => simp [plain] at h
    | map => simp [plain] at h
    | yield => simp [plain] at h
    | func a b c d =>
      simp only [plain, Bool.and_eq_true] at h
      have e1 := all h.1 ⟨a, b⟩
      have e2 := all h.2 ⟨c, d⟩
      rw [Array.toList_inj.1 e1, Array.toList_inj.1 e2]
    | agg a b =>
      simp only [plain] at h
      rw [Array.toList_inj.1 (all h ⟨a, b⟩)]
    | tuple a b =>
      simp only [plain] at h
      rw [Array.toList_inj.1 (all h ⟨a, b⟩)]
theorem plain_rel : ∀ (n : Nat) (v : Value), plain n v = true → VRel m v v
  | 0, _, h => by simp [plain] at h
  | n + 1, v, h => by
    have all : ∀ {l : List Value}, l.all (plain n) = true → LRel m l l := fun {l} ha => .of rfl fun i u hu => ⟨u, hu, plain_rel n u (List.all_eq_true.1 ha u (List.mem_of_getElem? hu))⟩
    unfold plain at h
    split at h
    all_goals first
      | exact .lit rfl
      | (simp only [Bool.and_eq_true] at h; exact .func rfl (all h.1).2 rfl (all h.2).2)
      | exact .agg rfl (all h).2
      | exact .tuple rfl (all h).2
      | simp at h
end

end Go.Proofs.YtdkebebingchpaaGreatDoor.Ru

/- The runner: memory that stands for the program's. -/
namespace Go.Proofs.YtdkebebingchpaaGreatDoor.Ru
open Go Go.RowKit

theorem setL_get : ∀ (cs : List Value) (o : Nat) (vs : List Value) (i : Nat), o + vs.length ≤ cs.length → (setL cs o vs)[i]? = if o ≤ i ∧ i < o + vs.length then vs[i - o]? else cs[i]?
  | cs, o, [], i, _ => by
    rw [if_neg (fun h => by have h1 := h.1; have h2 : i < o + 0 := h.2; omega)]
    cases cs <;> rfl
  | [], o, v :: vs, i, h => by simp at h
  | c :: cs, 0, v :: vs, i, h => by
    rw [setL]
    cases i with
    | zero => simp
    | succ i =>
      rw [List.getElem?_cons_succ, setL_get cs 0 vs i (by simp at h ⊢; omega)]
      by_cases hi : i < vs.length
      · rw [if_pos (by simp; omega), if_pos (by simp; omega)]; simp
      · rw [if_neg (by simp; omega), if_neg (by simp; omega)]; simp
  | c :: cs, o + 1, v :: vs, i, h => by
    rw [setL]
    · cases i with
      | zero => simp
      | succ i =>
        rw [List.getElem?_cons_succ, setL_get cs o (v :: vs) i (by simp at h ⊢; omega)]
        by_cases hi : o ≤ i ∧ i < o + (v :: vs).length
        · rw [if_pos hi, if_pos (by simp at hi ⊢; omega), show i + 1 - (o + 1) = i - o by omega]
        · rw [if_neg hi, if_neg (by simp at hi ⊢; omega)]; simp
    · intro h; cases h
theorem setL_len : ∀ (cs : List Value) (o : Nat) (vs : List Value), (setL cs o vs).length = cs.length
  | cs, _, [] => by cases cs <;> rfl
  | [], _, _ :: _ => rfl
  | c :: cs, 0, v :: vs => by rw [setL]; simp [setL_len cs 0 vs]
  | c :: cs, o + 1, v :: vs => by
    rw [setL]
    · simp [setL_len cs o (v :: vs)]
    · intro h; cases h

/-- A frame's temporaries. -/
def ERel (m : BM) (n : Nat) (E : Env) (tmps : Array Value) : Prop := (tmps.size = n ∧ ∀ t, n ≤ t → getV E t = undef) ∧ ∀ t, VRel m (getV E t) (tmps.getD t undef)
def BRel (K : PK) (m : BM) (w : World) (b : Nat) (x : Nat × Nat) : AB → Prop
  | .cells cs e => (∀ i u, cs[i]? = some u → ∃ u', w.cell? ⟨x.1, i, none⟩ = some u' ∧ VRel m u u') ∧
      (N0 ≤ b → ∃ C : Array Value, w.heap[x.1]? = some (.cells C e (0, 0)) ∧ cs.length ≤ C.size ∧ (0 < x.2 → C.size = x.2 * sizeT K e))
  | .loop st p fn E ps a bd d n => ∃ (tmps : Array Value) (y : Nat × Nat), w.heap[x.1]? = some (.loop { state := st, pending := p, fn := fn, tmps := tmps, params := ps.toArray, assign := a, body := bd, defers := y.1 }) ∧ m d = some y ∧ ERel m n E tmps
  | .defs => w.heap[x.1]? = some (.deferred (some []))
  | .map es c => ∃ es' : Array MapEntry, w.heap[x.1]? = some (.map es' c) ∧ es.length = es'.size ∧ ∀ (i : Nat) (e : Value × Value × Nat), es[i]? = some e → ∃ e' : MapEntry, es'[i]? = some e' ∧ e'.key = e.1 ∧ VRel m e.2.1 e'.val ∧ e'.born = e.2.2
  | .sit s pos => w.heap[x.1]? = some (.stringIter s pos)
  | .mit none => ∃ a b c, w.heap[x.1]? = some (.mapIter none a b c)
  | .mit (some r) => ∃ (y : Nat × Nat) (a c : Nat), m r = some y ∧ w.heap[x.1]? = some (.mapIter (some y.1) a #[] c)
structure HRel (K : PK) (w0 : World) (m : BM) (h : AH) (w : World) : Prop where
  n0 : N0 ≤ h.n
  nb : h.n ≤ 16000001
  stat : ∀ g, g < N0 → m g = some (g, 0)
  fresh : ∀ b, h.n ≤ b → m b = none
  dyn : ∀ b x, N0 ≤ b → m b = some x → w0.heap.size ≤ x.1 ∧ x.1 < w.heap.size
  inj : ∀ b c x y, N0 ≤ b → N0 ≤ c → m b = some x → m c = some y → x.1 = y.1 → (getB h.t b).isSome = true → (getB h.t c).isSome = true → b = c
  live : ∀ b x blk, m b = some x → getB h.t b = some blk → BRel K m w b x blk
  low : ∀ b, b < N0 → (getB h.t b).isSome = true → b < w0.heap.size
  wsz : w0.heap.size ≤ w.heap.size
/-- What a piece of the program may turn. -/
structure Ext (m : BM) (h : AH) (w : World) (m' : BM) (h' : AH) (w' : World) : Prop where
  le : MLe m m'
  news : ∀ b x, m' b = some x → m b = some x ∨ (h.n ≤ b ∧ (w.heap.size ≤ x.1 ∨ ∃ b0 y, N0 ≤ b0 ∧ m b0 = some y ∧ y.1 = x.1))
  absf : ∀ b, b < h.n → m b = none → getB h'.t b = getB h.t b
  conf : ∀ c, c < w.heap.size → (∀ b x, N0 ≤ b → m b = some x → x.1 ≠ c) → w'.heap[c]? = w.heap[c]?
  hn : h.n ≤ h'.n
  wsz : w.heap.size ≤ w'.heap.size
  os : w'.os = w.os
  tape : w'.tape = w.tape
  output : w'.output = w.output
theorem Ext.refl (m : BM) (h : AH) (w : World) : Ext m h w m h w := ⟨.refl m, fun _ _ e => .inl e, fun _ _ _ => rfl, fun _ _ _ => rfl, Nat.le_refl _, Nat.le_refl _, rfl, rfl, rfl⟩
theorem Ext.trans {m m1 m2 : BM} {h h1 h2 : AH} {w w1 w2 : World} (hN : N0 ≤ h.n) (a : Ext m h w m1 h1 w1) (b : Ext m1 h1 w1 m2 h2 w2) : Ext m h w m2 h2 w2 where
  le := a.le.trans b.le
  news := fun c x e => by
    rcases b.news c x e with e1 | ⟨hc, e1⟩
    · exact a.news c x e1
    · refine .inr ⟨Nat.le_trans a.hn hc, ?_⟩
      rcases e1 with e1 | ⟨b0, y, hb0, e2, e3⟩
      · exact .inl (Nat.le_trans a.wsz e1)
      · rcases a.news b0 y e2 with e4 | ⟨_, e4 | ⟨b1, z, h1, h2, h3⟩⟩
        · exact .inr ⟨b0, y, hb0, e4, e3⟩
        · exact .inl (by rw [← e3]; exact e4)
        · exact .inr ⟨b1, z, h1, h2, by rw [h3, e3]⟩
  absf := fun c hc e => by
    have e1 : m1 c = none := by
      cases hx : m1 c with
      | none => rfl
      | some x =>
        rcases a.news c x hx with h1 | ⟨h1, _⟩
        · rw [e] at h1; cases h1
        · omega
    rw [b.absf c (Nat.lt_of_lt_of_le hc a.hn) e1, a.absf c hc e]
  conf := fun c hc hn => by
    rw [b.conf c (Nat.lt_of_lt_of_le hc a.wsz) ?_, a.conf c hc hn]
    intro d x hd e
    rcases a.news d x e with h1 | ⟨_, h1 | ⟨b0, y, h1, h2, h3⟩⟩
    · exact hn d x hd h1
    · omega
    · rw [← h3]; exact hn b0 y h1 h2
  hn := Nat.le_trans a.hn b.hn
  wsz := Nat.le_trans a.wsz b.wsz
  os := b.os.trans a.os
  tape := b.tape.trans a.tape
  output := b.output.trans a.output
theorem ERel.mono {m m2 : BM} (hm : MLe m m2) {n : Nat} {E : Env} {t : Array Value} (h : ERel m n E t) : ERel m2 n E t := ⟨h.1, fun i => (h.2 i).mono hm⟩
theorem ERel.put {m : BM} {n : Nat} {E : Env} {t : Array Value} (h : ERel m n E t) {d : Nat} {v v' : Value} (hd : d < n) (hn : n ≤ 65536) (hv : VRel m v v') : ERel m n (setFV 24 E d v) (t.setIfInBounds d v') := by
  refine ⟨⟨by simpa using h.1.1, fun i hi => by rw [getV_set _ _ _ _ (by omega), if_neg (by omega)]; exact h.1.2 i hi⟩, fun i => ?_⟩
  rw [getV_set _ _ _ _ (by omega)]
  by_cases e : i = d
  · subst e
    have : i < t.size := by rw [h.1.1]; exact hd
    rw [if_pos rfl]
    simpa [Array.getD, this] using hv
  · rw [if_neg e]
    have h1 := h.2 i
    have e2 : (t.setIfInBounds d v').getD i undef = t.getD i undef := by
      simp only [Array.getD_eq_getD_getElem?]
      rw [Array.getElem?_setIfInBounds_ne (fun h => e h.symm)]
    rw [e2]; exact h1
/-- Nothing of the world that a block leans on has turned. -/
theorem BRel.keep {K : PK} {m m2 : BM} {w w2 : World} {b : Nat} {x : Nat × Nat} {blk : AB} (h : BRel K m w b x blk) (hm : MLe m m2) (hw : w2.heap[x.1]? = w.heap[x.1]?) : BRel K m2 w2 b x blk := by
  cases blk with
  | cells cs e =>
    refine ⟨fun i u hu => ?_, fun hb => ?_⟩
    · obtain ⟨u', h1, h2⟩ := h.1 i u hu
      refine ⟨u', ?_, h2.mono hm⟩
      unfold World.cell? at h1 ⊢
      simp only [hw]; exact h1
    · obtain ⟨C, h1, h2, h3⟩ := h.2 hb
      exact ⟨C, hw.trans h1, h2, h3⟩
  | loop st p fn E ps a bd d n =>
    obtain ⟨t, y, h1, h2, h3⟩ := h
    exact ⟨t, y, hw.trans h1, hm _ _ h2, h3.mono hm⟩
  | defs => exact hw.trans (show w.heap[x.1]? = _ from h)
  | sit s pos => exact hw.trans (show w.heap[x.1]? = _ from h)
  | mit r => cases r with
    | none =>
      obtain ⟨a, b, c, h1⟩ := h
      exact ⟨a, b, c, hw.trans h1⟩
    | some r =>
      obtain ⟨y, a, c, h1, h2⟩ := h
      exact ⟨y, a, c, hm _ _ h1, hw.trans h2⟩
  | map es c =>
    obtain ⟨es', h1, h2, h3⟩ := h
    refine ⟨es', hw.trans h1, h2, fun i e he => ?_⟩
    obtain ⟨e', a, b, c, d⟩ := h3 i e he
    exact ⟨e', a, b, c.mono hm, d⟩
section
variable {K : PK} {w0 : World} {m : BM} {h : AH} {w : World}
theorem HRel.drew (H : HRel K w0 m h w) : HRel K w0 m h w.drew := ⟨H.n0, H.nb, H.stat, H.fresh, H.dyn, H.inj, fun b x blk e1 e2 => (H.live b x blk e1 e2).keep (.refl m) rfl, H.low, H.wsz⟩
theorem Ext.drew (m : BM) (h : AH) (w : World) : Ext m h w m h w.drew := ⟨.refl m, fun _ _ e => .inl e, fun _ _ _ => rfl, fun _ _ _ => rfl, Nat.le_refl _, Nat.le_refl _, rfl, rfl, rfl⟩
/-- A block is thought of; nothing stands for it yet. -/
theorem HRel.think (H : HRel K w0 m h w) (b : AB) (hb : h.n < 16000000) : HRel K w0 m ⟨setB h.t h.n (some b), h.n + 1⟩ w where
  n0 := Nat.le_succ_of_le H.n0
  nb := by show h.n + 1 ≤ _; omega
  stat := H.stat
  fresh := fun c hc => H.fresh c (by have : h.n + 1 ≤ c := hc; omega)
  dyn := H.dyn
  inj := fun b' c x y hb hc e1 e2 e3 s1 s2 => by
    have f1 : b' ≠ h.n := fun e => by rw [H.fresh b' (by omega)] at e1; cases e1
    have f2 : c ≠ h.n := fun e => by rw [H.fresh c (by omega)] at e2; cases e2
    simp only [getB_set _ _ _ _ (show h.n < 16000001 by omega), if_neg f1] at s1
    simp only [getB_set _ _ _ _ (show h.n < 16000001 by omega), if_neg f2] at s2
    exact H.inj b' c x y hb hc e1 e2 e3 s1 s2
  live := fun c x blk e1 e2 => by
    have f1 : c ≠ h.n := fun e => by rw [H.fresh c (by omega)] at e1; cases e1
    simp only [getB_set _ _ _ _ (show h.n < 16000001 by omega), if_neg f1] at e2
    exact H.live c x blk e1 e2
  low := fun c hc s => by
    have f1 : c ≠ h.n := fun e => by have := H.n0; omega
    simp only [getB_set _ _ _ _ (show h.n < 16000001 by omega), if_neg f1] at s
    exact H.low c hc s
  wsz := H.wsz
/-- Something is made that stands for it. -/
def BM.add (m : BM) (b : Nat) (x : Nat × Nat) : BM := fun c => if c = b then some x else m c
theorem MLe.add {m : BM} {b : Nat} {x : Nat × Nat} (h : m b = none) : MLe m (m.add b x) := fun c y e => by
  unfold BM.add
  rw [if_neg (fun e2 => by rw [e2, h] at e; cases e)]; exact e
theorem BM.add_self (m : BM) (b : Nat) (x : Nat × Nat) : m.add b x b = some x := by simp [BM.add]
theorem heap_alloc_new (w : World) (o : Obj) : (w.alloc o).heap[w.heap.size]? = some o := World.alloc_heap_new w o
theorem HRel.make (H : HRel K w0 m h w) {b : Nat} {blk : AB} {o : Obj} {κ : Nat} (hb0 : N0 ≤ b) (hbn : b < h.n) (hm : m b = none) (hg : getB h.t b = some blk)
    (hr : BRel K (m.add b (w.heap.size, κ)) (w.alloc o) b (w.heap.size, κ) blk) : HRel K w0 (m.add b (w.heap.size, κ)) h (w.alloc o) where
  n0 := H.n0
  nb := H.nb
  stat := fun g hg => by unfold BM.add; rw [if_neg (by omega)]; exact H.stat g hg
  fresh := fun c hc => by unfold BM.add; rw [if_neg (by omega)]; exact H.fresh c hc
  dyn := fun c x hc e => by
    unfold BM.add at e
    split at e
    · cases e; exact ⟨H.wsz, by simp⟩
    · have := H.dyn c x hc e
      exact ⟨this.1, by simp; omega⟩
  inj := fun c d x y hc hd e1 e2 e3 s1 s2 => by
    unfold BM.add at e1 e2
    split at e1
    · split at e2
      · omega
      · cases e1
        have := (H.dyn d y hd e2).2
        simp only at e3; omega
    · split at e2
      · cases e2
        have := (H.dyn c x hc e1).2
        simp only at e3; omega
      · exact H.inj c d x y hc hd e1 e2 e3 s1 s2
  live := fun c x blk' e1 e2 => by
    by_cases hc : c = b
    · subst hc
      rw [hg] at e2; cases e2
      rw [BM.add_self] at e1; cases e1
      exact hr
    · unfold BM.add at e1
      rw [if_neg hc] at e1
      refine (H.live c x blk' e1 e2).keep (.add hm) ?_
      by_cases h1 : N0 ≤ c
      · exact Below.heap_alloc w o x.1 (H.dyn c x h1 e1).2
      · have h2 := H.low c (by omega) (by rw [e2]; rfl)
        rw [H.stat c (by omega)] at e1
        cases e1
        exact Below.heap_alloc w o c (Nat.lt_of_lt_of_le h2 H.wsz)
  low := H.low
  wsz := Nat.le_trans H.wsz (by simp)
theorem Ext.make {b : Nat} {o : Obj} {κ : Nat} (hm : m b = none) (hb : h.n ≤ b) : Ext m h w (m.add b (w.heap.size, κ)) h (w.alloc o) where
  le := .add hm
  news := fun c x e => by
    unfold BM.add at e
    split at e
    · cases e; exact .inr ⟨by omega, .inl (Nat.le_refl _)⟩
    · exact .inl e
  absf := fun _ _ _ => rfl
  conf := fun c hc _ => Below.heap_alloc w o c hc
  hn := Nat.le_refl _
  wsz := by simp
  os := rfl
  tape := rfl
  output := rfl
/-- A block is made. -/
theorem HRel.alloc (H : HRel K w0 m h w) (b : AB) (o : Obj) (κ : Nat) (hb : h.n < 16000000) (hr : BRel K (m.add h.n (w.heap.size, κ)) (w.alloc o) h.n (w.heap.size, κ) b) :
    HRel K w0 (m.add h.n (w.heap.size, κ)) ⟨setB h.t h.n (some b), h.n + 1⟩ (w.alloc o) ∧ Ext m h w (m.add h.n (w.heap.size, κ)) ⟨setB h.t h.n (some b), h.n + 1⟩ (w.alloc o) := by
  have hm := H.fresh h.n (Nat.le_refl _)
  refine ⟨(H.think b hb).make H.n0 (Nat.lt_succ_self _) hm (by rw [getB_set _ _ _ _ (by omega), if_pos rfl]) hr, ?_⟩
  have e := Ext.make (m := m) (h := h) (w := w) (b := h.n) (o := o) (κ := κ) hm (Nat.le_refl _)
  exact ⟨e.le, e.news, fun c hc _ => by simp only; rw [getB_set _ _ _ _ (by omega), if_neg (by omega)], e.conf, Nat.le_succ _, e.wsz, rfl, rfl, rfl⟩
theorem BRel.newCells {cs : List Value} {C : Array Value} {e : TypeId} {κ b : Nat} {w : World} (hl : ∀ (i : Nat) (u : Value), cs[i]? = some u → ∃ u' : Value, C[i]? = some u' ∧ VRel m u u') (hn : cs.length ≤ C.size) (hk : 0 < κ → C.size = κ * sizeT K e) :
    BRel K m (w.alloc (.cells C e)) b (w.heap.size, κ) (.cells cs e) :=
  ⟨fun i u hu => by obtain ⟨u', h1, h2⟩ := hl i u hu; exact ⟨u', by simpa using h1, h2⟩, fun _ => ⟨C, heap_alloc_new w _, hn, hk⟩⟩
end

end Go.Proofs.YtdkebebingchpaaGreatDoor.Ru

