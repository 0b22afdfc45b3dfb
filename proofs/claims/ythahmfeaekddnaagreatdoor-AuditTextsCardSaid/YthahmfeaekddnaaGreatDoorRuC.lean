/- The runner: values and memory that stand for the program's. -/
import Derived.Test.YthahmfeaekddnaaGreatDoorRuB
import Derived.Laws.Sem
namespace Go.Proofs.YthahmfeaekddnaaGreatDoor.Ru
open Go

section
variable {m : BM}
theorem LRel.get {l l' : List Value} (h : LRel m l l') {i : Nat} {u : Value} (hu : l[i]? = some u) : ∃ u', l'[i]? = some u' ∧ VRel m u u' := by
  obtain ⟨hi, rfl⟩ := List.getElem?_eq_some_iff.1 hu
  have hi' : i < l'.length := by rw [← h.1]; exact hi
  have := h.2 i
  rw [List.getD_eq_getElem?_getD, List.getD_eq_getElem?_getD, List.getElem?_eq_getElem hi, List.getElem?_eq_getElem hi'] at this
  exact ⟨l'[i], List.getElem?_eq_getElem hi', this⟩
theorem LRel.of {l l' : List Value} (hl : l.length = l'.length) (h : ∀ (i : Nat) (u : Value), l[i]? = some u → ∃ u' : Value, l'[i]? = some u' ∧ VRel m u u') : LRel m l l' := by
  refine ⟨hl, fun i => ?_⟩
  rw [List.getD_eq_getElem?_getD, List.getD_eq_getElem?_getD]
  cases hu : l[i]? with
  | none => rw [List.getElem?_eq_none (by rw [← hl]; exact List.getElem?_eq_none_iff.1 hu)]; exact .lit rfl
  | some u => obtain ⟨u', h1, h2⟩ := h i u hu; rw [h1]; exact h2
theorem LRel.nil : LRel m [] [] := ⟨rfl, fun i => by cases i <;> exact .lit rfl⟩
theorem LRel.cons {a a' : Value} {l l' : List Value} (h : VRel m a a') (hl : LRel m l l') : LRel m (a :: l) (a' :: l') := .of (by simp [hl.1]) fun i u hu => by
  cases i with
  | zero => cases hu; exact ⟨a', rfl, h⟩
  | succ i => exact hl.get hu
theorem LRel.len {l l' : List Value} (h : LRel m l l') : l.length = l'.length := h.1
theorem LRel.mono {m2 : BM} (hm : MLe m m2) {l l' : List Value} (h : LRel m l l') : LRel m2 l l' := ⟨h.1, fun i => (h.2 i).mono hm⟩
theorem LRel.take {l l' : List Value} (h : LRel m l l') (n : Nat) : LRel m (l.take n) (l'.take n) := .of (by simp [h.1]) fun i u hu => by
  rw [List.getElem?_take] at hu ⊢
  split at hu
  · rename_i hi; rw [if_pos hi]; exact h.get hu
  · cases hu
theorem LRel.drop {l l' : List Value} (h : LRel m l l') (n : Nat) : LRel m (l.drop n) (l'.drop n) := .of (by simp [h.1]) fun i u hu => by
  rw [List.getElem?_drop] at hu ⊢
  exact h.get hu
theorem LRel.append {l l' r r' : List Value} (h : LRel m l l') (k : LRel m r r') : LRel m (l ++ r) (l' ++ r') := .of (by simp [h.1, k.1]) fun i u hu => by
  rcases Nat.lt_or_ge i l.length with hi | hi
  · rw [List.getElem?_append_left hi] at hu
    rw [List.getElem?_append_left (by rw [← h.1]; exact hi)]
    exact h.get hu
  · rw [List.getElem?_append_right hi] at hu
    rw [List.getElem?_append_right (by rw [← h.1]; exact hi), ← h.1]
    exact k.get hu
theorem LRel.map {α : Type} {f g : α → Value} : ∀ {l : List α}, (∀ x ∈ l, VRel m (f x) (g x)) → LRel m (l.map f) (l.map g)
  | [], _ => .nil
  | a :: l, h => .cons (h a (by simp)) (LRel.map fun x hx => h x (by simp [hx]))
theorem LRel.setL : ∀ {l l' : List Value} {o : Nat} {vs vs' : List Value}, LRel m l l' → LRel m vs vs' → LRel m (setL l o vs) (setL l' o vs')
  | l, l', _, [], vs', h, hv => by
    have : vs' = [] := List.eq_nil_of_length_eq_zero hv.1.symm
    subst this
    cases l <;> cases l' <;> simpa [Ru.setL] using h
  | [], l', _, v :: vs, vs', h, hv => by
    have : l' = [] := List.eq_nil_of_length_eq_zero h.1.symm
    subst this
    cases vs' <;> simpa [Ru.setL] using LRel.nil
  | a :: l, l', o, v :: vs, vs', h, hv => by
    match l', vs', h, hv with
    | [], _, h, _ => simp [LRel] at h
    | _ :: _, [], _, hv => simp [LRel] at hv
    | a' :: l', v' :: vs', h, hv =>
      have ht : LRel m l l' := h.drop 1
      have hh : VRel m a a' := h.2 0
      cases o with
      | zero => exact .cons (hv.2 0) (LRel.setL ht (hv.drop 1))
      | succ o => exact .cons hh (LRel.setL ht hv)
theorem LRel.repL {l l' : List Value} (h : LRel m l l') : ∀ n, LRel m (repL n l) (repL n l')
  | 0 => .nil
  | n + 1 => h.append (h.repL n)
theorem LRel.arr {a a' : Array Value} (h1 : a.toList.length = a'.toList.length) (h2 : ∀ i, VRel m (a.toList.getD i .nilIface) (a'.toList.getD i .nilIface)) : LRel m a.toList a'.toList := ⟨h1, h2⟩
theorem VRel.aggL {l l' : List Value} (h : LRel m l l') : VRel m (.agg l.toArray) (.agg l'.toArray) := .agg h.1 h.2
theorem VRel.tupL {l l' : List Value} (h : LRel m l l') : VRel m (.tuple l.toArray) (.tuple l'.toArray) := .tuple h.1 h.2
/- What stands for a value of a kind is of that kind. -/
theorem VRel.bool {b : Bool} {v : Value} (h : VRel m (.bool b) v) : v = .bool b := by cases h; rfl
theorem VRel.int {k : IntKind} {n : Int} {v : Value} (h : VRel m (.int k n) v) : v = .int k n := by cases h; rfl
theorem VRel.str {s : ByteArray} {v : Value} (h : VRel m (.string s) v) : v = .string s := by cases h; rfl
theorem VRel.ptr0 {v : Value} (h : VRel m (.pointer none) v) : v = .pointer none := by cases h; rfl
theorem VRel.pointer {b o : Nat} {v : Value} (h : VRel m (.pointer (some ⟨b, o, none⟩)) v) : ∃ x, m b = some x ∧ v = .pointer (some ⟨x.1, o, none⟩) := by
  cases h with
  | lit h => simp [litV] at h
  | ptr h => exact ⟨_, h, rfl⟩
theorem VRel.pointer' {a : Addr} {v : Value} (h : VRel m (.pointer (some a)) v) : a.spot = none ∧ ∃ x, m a.block = some x ∧ v = .pointer (some ⟨x.1, a.off, none⟩) := by
  cases h with
  | lit h => simp [litV] at h
  | ptr h => exact ⟨rfl, _, h, rfl⟩
theorem VRel.slice0 {v : Value} (h : VRel m (.slice none 0 0) v) : v = .slice none 0 0 := by cases h; rfl
theorem VRel.sliceS {a : Addr} {n c : Nat} {v : Value} (h : VRel m (.slice (some a) n c) v) : a.spot = none ∧ ∃ x c', m a.block = some x ∧ v = .slice (some ⟨x.1, a.off, none⟩) n c' ∧ n ≤ capLow c ∧ capLow c < big ∧ capLow c ≤ c' ∧ (c < big → c' = c) ∧ (big ≤ c → a.off = 0 → c' = x.2) := by
  cases h with
  | lit h => simp [litV] at h
  | slice h a b c d e => exact ⟨rfl, _, _, h, rfl, a, b, c, d, e⟩
theorem VRel.sliceN {n c : Nat} {v : Value} (h : VRel m (.slice none n c) v) : n = 0 ∧ ∃ a c', v = .slice a 0 c' := by
  cases h with
  | lit h =>
    match n, c, h with
    | 0, 0, _ => exact ⟨rfl, _, _, rfl⟩
  | empty => exact ⟨rfl, _, _, rfl⟩
theorem VRel.sliceL {a : Option Addr} {n c : Nat} {v : Value} (h : VRel m (.slice a n c) v) : ∃ a' c', v = .slice a' n c' := by
  cases a with
  | none => obtain ⟨rfl, a', c', rfl⟩ := h.sliceN; exact ⟨_, _, rfl⟩
  | some a => obtain ⟨_, x, c', _, rfl, _⟩ := h.sliceS; exact ⟨_, _, rfl⟩
theorem VRel.map0 {v : Value} (h : VRel m (.map none) v) : v = .map none := by cases h; rfl
theorem VRel.mapS {b : Nat} {v : Value} (h : VRel m (.map (some b)) v) : ∃ x, m b = some x ∧ v = .map (some x.1) := by
  cases h with
  | lit h => simp [litV] at h
  | map h => exact ⟨_, h, rfl⟩
theorem VRel.funcF {f : FuncId} {a c : Array Value} {v : Value} (h : VRel m (.func (.func f) a c) v) : ∃ a' c', v = .func (.func f) a' c' ∧ LRel m a.toList a'.toList ∧ LRel m c.toList c'.toList := by
  cases h with
  | lit h => simp [litV] at h
  | func h1 h2 h3 h4 => exact ⟨_, _, rfl, ⟨h1, h2⟩, ⟨h3, h4⟩⟩
theorem VRel.yieldF {l : Nat} {a c : Array Value} {v : Value} (h : VRel m (.func (.yield l) a c) v) : ∃ x, m l = some x ∧ v = .func (.yield x.1) #[] #[] ∧ a = #[] ∧ c = #[] := by
  cases h with
  | lit h => simp [litV] at h
  | yield h => exact ⟨_, h, rfl, rfl, rfl⟩
theorem VRel.aggF {a : Array Value} {v : Value} (h : VRel m (.agg a) v) : ∃ a', v = .agg a' ∧ LRel m a.toList a'.toList := by
  cases h with
  | lit h => simp [litV] at h
  | agg h1 h2 => exact ⟨_, rfl, ⟨h1, h2⟩⟩
theorem VRel.tupF {a : Array Value} {v : Value} (h : VRel m (.tuple a) v) : ∃ a', v = .tuple a' ∧ LRel m a.toList a'.toList := by
  cases h with
  | lit h => simp [litV] at h
  | tuple h1 h2 => exact ⟨_, rfl, ⟨h1, h2⟩⟩
theorem VRel.cells {v v' : Value} (h : VRel m v v') (hj : v ≠ .chan (some 0)) : LRel m v.cells.toList v'.cells.toList := by
  cases h with
  | lit h =>
    have : v.cells = #[v] := by cases v <;> first | rfl | simp [litV] at h
    rw [this]
    exact .cons (.lit h) .nil
  | junk => exact absurd rfl hj
  | ptr h => exact .cons (.ptr h) .nil
  | slice h a b c d e => exact .cons (.slice h a b c d e) .nil
  | empty => exact .cons .empty .nil
  | map h => exact .cons (.map h) .nil
  | func a b c d => exact .cons (.func a b c d) .nil
  | yield h => exact .cons (.yield h) .nil
  | agg a b => exact ⟨a, b⟩
  | tuple a b => exact .cons (.tuple a b) .nil
theorem oneC_rel {v v' : Value} (h : VRel m v v') (h1 : oneC v = true) : v'.oneCell' = true := by
  cases h <;> first | rfl | (rename_i hl; cases v <;> first | rfl | simp [litV] at hl) | simp [oneC] at h1
theorem notJ_ne {v : Value} (h : notJ v = true) : v ≠ .chan (some 0) := fun e => by rw [e] at h; cases h
/-- What is plain stands for itself. -/
theorem plain_eq : ∀ (n : Nat) (v v' : Value), plain n v = true → VRel m v v' → v = v'
  | 0, _, _, h, _ => by simp [plain] at h
  | n + 1, v, v', h, hv => by
    have all : ∀ {l l' : List Value}, l.all (plain n) = true → LRel m l l' → l = l' := fun {l l'} ha hl => by
      refine List.ext_getElem? fun i => ?_
      cases hu : l[i]? with
      | none => rw [List.getElem?_eq_none (by rw [← hl.1]; exact List.getElem?_eq_none_iff.1 hu)]
      | some u =>
        obtain ⟨u', h1, h2⟩ := hl.get hu
        rw [h1, plain_eq n u u' (List.all_eq_true.1 ha u (List.mem_of_getElem? hu)) h2]
    cases hv with
    | lit h => rfl
    | junk => simp [plain] at h
    | ptr => simp [plain] at h
    | slice => simp [plain] at h
    | empty => simp [plain] at h
    | map => simp [plain] at h
    | yield => simp [plain] at h
    | func a b c d =>
      simp only [plain, Bool.and_eq_true] at h
      have e1 := all h.1 ⟨a, b⟩
      have e2 := all h.2 ⟨c, d⟩
      rw [Array.toList_inj.1 e1, Array.toList_inj.1 e2]
    | agg a b =>
      simp only [plain] at h
      rw [Array.toList_inj.1 (all h ⟨a, b⟩)]
    | tuple a b =>
      simp only [plain] at h
      rw [Array.toList_inj.1 (all h ⟨a, b⟩)]
theorem plain_rel : ∀ (n : Nat) (v : Value), plain n v = true → VRel m v v
  | 0, _, h => by simp [plain] at h
  | n + 1, v, h => by
    have all : ∀ {l : List Value}, l.all (plain n) = true → LRel m l l := fun {l} ha => .of rfl fun i u hu => ⟨u, hu, plain_rel n u (List.all_eq_true.1 ha u (List.mem_of_getElem? hu))⟩
    unfold plain at h
    split at h
    all_goals first
      | exact .lit rfl
      | (simp only [Bool.and_eq_true] at h; exact .func rfl (all h.1).2 rfl (all h.2).2)
      | exact .agg rfl (all h).2
      | exact .tuple rfl (all h).2
      | simp at h
end

end Go.Proofs.YthahmfeaekddnaaGreatDoor.Ru
