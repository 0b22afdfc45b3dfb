/- The runner: what stands for what. -/
import Derived.Test.YthahmfeaekddnaaGreatDoorRuA
namespace Go.Proofs.YthahmfeaekddnaaGreatDoor.Ru
open Go

/- Tries. -/
def getT {α : Type} (d : α) : Tr α → Nat → α
  | .nil, _ => d
  | .node _ v _, 0 => v
  | .node l _ r, j + 1 => if j % 2 = 0 then getT d l (j / 2) else getT d r (j / 2)
def setT {α : Type} (d : α) : Nat → Tr α → Nat → α → Tr α
  | 0, t, _, _ => t
  | _ + 1, .nil, 0, v => .node .nil v .nil
  | f + 1, .nil, j + 1, v => if j % 2 = 0 then .node (setT d f .nil (j / 2) v) d .nil else .node .nil d (setT d f .nil (j / 2) v)
  | _ + 1, .node l _ r, 0, v => .node l v r
  | f + 1, .node l x r, j + 1, v => if j % 2 = 0 then .node (setT d f l (j / 2) v) x r else .node l x (setT d f r (j / 2) v)
theorem getT_set {α : Type} (d : α) : ∀ (f : Nat) (t : Tr α) (k : Nat) (v : α) (j : Nat), k + 1 < 2 ^ f → getT d (setT d f t k v) j = if j = k then v else getT d t j
  | 0, _, k, _, _, h => by simp at h
  | f + 1, .nil, 0, v, j, _ => by cases j <;> simp [setT, getT]
  | f + 1, .node l x r, 0, v, j, _ => by cases j <;> simp [setT, getT]
  | f + 1, .nil, k + 1, v, j, h => by
    have hb : k / 2 + 1 < 2 ^ f := by rw [Nat.pow_succ] at h; omega
    rw [setT]
    by_cases hk : k % 2 = 0
    · rw [if_pos hk]
      cases j with
      | zero => simp [getT]
      | succ j =>
        rw [getT.eq_3, getT_set d f .nil (k / 2) v (j / 2) hb]
        by_cases hj : j % 2 = 0
        · rw [if_pos hj]
          by_cases e : j = k
          · subst e; simp
          · rw [if_neg (by omega), if_neg (by omega)]; simp [getT]
        · rw [if_neg hj, if_neg (by omega)]; simp [getT]
    · rw [if_neg hk]
      cases j with
      | zero => simp [getT]
      | succ j =>
        rw [getT.eq_3, getT_set d f .nil (k / 2) v (j / 2) hb]
        by_cases hj : j % 2 = 0
        · rw [if_pos hj, if_neg (by omega)]; simp [getT]
        · rw [if_neg hj]
          by_cases e : j = k
          · subst e; simp
          · rw [if_neg (by omega), if_neg (by omega)]; simp [getT]
  | f + 1, .node l x r, k + 1, v, j, h => by
    have hb : k / 2 + 1 < 2 ^ f := by rw [Nat.pow_succ] at h; omega
    rw [setT]
    by_cases hk : k % 2 = 0
    · rw [if_pos hk]
      cases j with
      | zero => simp [getT]
      | succ j =>
        rw [getT, getT_set d f l (k / 2) v (j / 2) hb, getT]
        by_cases hj : j % 2 = 0
        · rw [if_pos hj, if_pos hj]
          by_cases e : j = k
          · subst e; simp
          · rw [if_neg (by omega), if_neg (by omega)]
        · rw [if_neg hj, if_neg hj, if_neg (by omega)]
    · rw [if_neg hk]
      cases j with
      | zero => simp [getT]
      | succ j =>
        rw [getT, getT_set d f r (k / 2) v (j / 2) hb, getT]
        by_cases hj : j % 2 = 0
        · rw [if_pos hj, if_pos hj, if_neg (by omega)]
        · rw [if_neg hj, if_neg hj]
          by_cases e : j = k
          · subst e; simp
          · rw [if_neg (by omega), if_neg (by omega)]
theorem rec_mod {α : Type} (a : α) (b : α) (j : Nat) : @Nat.rec (fun _ => α) a (fun _ _ => b) (Nat.mod j 2) = if j % 2 = 0 then a else b := by
  show @Nat.rec (fun _ => α) a (fun _ _ => b) (j % 2) = _
  cases j % 2 <;> rfl
theorem getV_eq : ∀ (E : Env) (k : Nat), getV E k = getT undef E k
  | .nil, _ => rfl
  | .node _ _ _, 0 => rfl
  | .node l x r, j + 1 => by
    show @Nat.rec (fun _ => Value) (getV l (Nat.div j 2)) (fun _ _ => getV r (Nat.div j 2)) (Nat.mod j 2) = _
    rw [rec_mod, getV_eq l, getV_eq r]; rfl
theorem setFV_eq : ∀ (f : Nat) (E : Env) (k : Nat) (v : Value), setFV f E k v = setT undef f E k v
  | 0, _, _, _ => rfl
  | _ + 1, .nil, 0, _ => rfl
  | _ + 1, .node _ _ _, 0, _ => rfl
  | f + 1, .nil, j + 1, v => by
    show @Nat.rec (fun _ => Env) (.node (setFV f .nil (Nat.div j 2) v) undef .nil) (fun _ _ => .node .nil undef (setFV f .nil (Nat.div j 2) v)) (Nat.mod j 2) = _
    rw [rec_mod, setFV_eq f]; rfl
  | f + 1, .node l x r, j + 1, v => by
    show @Nat.rec (fun _ => Env) (.node (setFV f l (Nat.div j 2) v) x r) (fun _ _ => .node l x (setFV f r (Nat.div j 2) v)) (Nat.mod j 2) = _
    rw [rec_mod, setFV_eq f, setFV_eq f]; rfl
theorem getB_eq : ∀ (E : Tr (Option AB)) (k : Nat), getB E k = getT none E k
  | .nil, _ => rfl
  | .node _ _ _, 0 => rfl
  | .node l x r, j + 1 => by
    show @Nat.rec (fun _ => Option AB) (getB l (Nat.div j 2)) (fun _ _ => getB r (Nat.div j 2)) (Nat.mod j 2) = _
    rw [rec_mod, getB_eq l, getB_eq r]; rfl
theorem setFB_eq : ∀ (f : Nat) (E : Tr (Option AB)) (k : Nat) (v : Option AB), setFB f E k v = setT none f E k v
  | 0, _, _, _ => rfl
  | _ + 1, .nil, 0, _ => rfl
  | _ + 1, .node _ _ _, 0, _ => rfl
  | f + 1, .nil, j + 1, v => by
    show @Nat.rec (fun _ => Tr (Option AB)) (.node (setFB f .nil (Nat.div j 2) v) none .nil) (fun _ _ => .node .nil none (setFB f .nil (Nat.div j 2) v)) (Nat.mod j 2) = _
    rw [rec_mod, setFB_eq f]; rfl
  | f + 1, .node l x r, j + 1, v => by
    show @Nat.rec (fun _ => Tr (Option AB)) (.node (setFB f l (Nat.div j 2) v) x r) (fun _ _ => .node l x (setFB f r (Nat.div j 2) v)) (Nat.mod j 2) = _
    rw [rec_mod, setFB_eq f, setFB_eq f]; rfl
theorem getV_set (E : Env) (k : Nat) (v : Value) (j : Nat) (h : k < 16000001) : getV (setFV 24 E k v) j = if j = k then v else getV E j := by
  rw [getV_eq, setFV_eq, getT_set _ _ _ _ _ _ (by omega), getV_eq]
theorem getB_set (t : Tr (Option AB)) (k : Nat) (v : Option AB) (j : Nat) (h : k < 16000001) : getB (setB t k v) j = if j = k then v else getB t j := by
  rw [getB_eq, setB, setFB_eq, getT_set _ _ _ _ _ _ (by omega), getB_eq]

/- What a block is, and how many elements it holds where it was made by an append. -/
abbrev BM := Nat → Option (Nat × Nat)
def MLe (m m2 : BM) : Prop := ∀ b x, m b = some x → m2 b = some x
theorem MLe.refl (m : BM) : MLe m m := fun _ _ h => h
theorem MLe.trans {a b c : BM} (h : MLe a b) (k : MLe b c) : MLe a c := fun _ _ e => k _ _ (h _ _ e)
def litV : Value → Bool
  | .bool _ | .int _ _ | .float _ _ | .string _ | .pointer none | .map none | .nilFunc | .nilIface => true
  | .slice none 0 0 => true
  | _ => false
inductive VRel (m : BM) : Value → Value → Prop
  | lit {v : Value} : litV v = true → VRel m v v
  | junk (v : Value) : VRel m (.chan (some 0)) v
  | ptr {b o : Nat} {x : Nat × Nat} : m b = some x → VRel m (.pointer (some ⟨b, o, none⟩)) (.pointer (some ⟨x.1, o, none⟩))
  | slice {b o n c c' : Nat} {x : Nat × Nat} : m b = some x → n ≤ capLow c → capLow c < big → capLow c ≤ c' → (c < big → c' = c) → (big ≤ c → o = 0 → c' = x.2) →
      VRel m (.slice (some ⟨b, o, none⟩) n c) (.slice (some ⟨x.1, o, none⟩) n c')
  | empty {a : Option Addr} {c : Nat} : VRel m (.slice none 0 1) (.slice a 0 c)
  | map {b : Nat} {x : Nat × Nat} : m b = some x → VRel m (.map (some b)) (.map (some x.1))
  | func {f : FuncId} {a a' c c' : Array Value} : a.toList.length = a'.toList.length → (∀ i, VRel m (a.toList.getD i .nilIface) (a'.toList.getD i .nilIface)) →
      c.toList.length = c'.toList.length → (∀ i, VRel m (c.toList.getD i .nilIface) (c'.toList.getD i .nilIface)) → VRel m (.func (.func f) a c) (.func (.func f) a' c')
  | yield {l : Nat} {x : Nat × Nat} : m l = some x → VRel m (.func (.yield l) #[] #[]) (.func (.yield x.1) #[] #[])
  | agg {a a' : Array Value} : a.toList.length = a'.toList.length → (∀ i, VRel m (a.toList.getD i .nilIface) (a'.toList.getD i .nilIface)) → VRel m (.agg a) (.agg a')
  | tuple {a a' : Array Value} : a.toList.length = a'.toList.length → (∀ i, VRel m (a.toList.getD i .nilIface) (a'.toList.getD i .nilIface)) → VRel m (.tuple a) (.tuple a')
theorem VRel.mono {m m2 : BM} (hm : MLe m m2) {v v' : Value} (h : VRel m v v') : VRel m2 v v' := by
  induction h with
  | lit h => exact .lit h
  | junk v => exact .junk v
  | ptr h => exact .ptr (hm _ _ h)
  | slice h a b c d e => exact .slice (hm _ _ h) a b c d e
  | empty => exact .empty
  | map h => exact .map (hm _ _ h)
  | func a _ b _ ih1 ih2 => exact .func a ih1 b ih2
  | yield h => exact .yield (hm _ _ h)
  | agg a _ ih => exact .agg a ih
  | tuple a _ ih => exact .tuple a ih
/-- Two lists of values. -/
def LRel (m : BM) (l l' : List Value) : Prop := l.length = l'.length ∧ ∀ i, VRel m (l.getD i .nilIface) (l'.getD i .nilIface)
theorem VRel.undef (m : BM) : VRel m undef undef := .tuple rfl fun i => by
  cases i <;> exact .lit rfl

end Go.Proofs.YthahmfeaekddnaaGreatDoor.Ru
