/- The runner at this program. -/
import Derived.Test.YthahmfeaekddnaaGreatDoorRuV
import Derived.Test.YthahmfeaekddnaaGreatDoorProg
import Derived.Test.YthahmfeaekddnaaGreatDoorMem
import Derived.KernelRfl
namespace Go.Proofs.YthahmfeaekddnaaGreatDoor.Ru
open Go Go.RowKit

noncomputable def ofL {α : Type} (f : Tr (Option α) → Nat → Option α → Tr (Option α)) : List α → Nat → Tr (Option α) → Tr (Option α)
  | [], _, t => t
  | a :: l, i, t => ofL f l (i + 1) (f t i (some a))
noncomputable def getI : Tr (Option TypeInfo) → Nat → Option TypeInfo :=
  @Tr.rec (Option TypeInfo) (fun _ => Nat → Option TypeInfo) (fun _ => none)
    (fun _ v _ gl gr k => @Nat.rec (fun _ => Option TypeInfo) v (fun j _ => @Nat.rec (fun _ => Option TypeInfo) (gl (Nat.div j 2)) (fun _ _ => gr (Nat.div j 2)) (Nat.mod j 2)) k)
noncomputable def getF : Tr (Option Func) → Nat → Option Func :=
  @Tr.rec (Option Func) (fun _ => Nat → Option Func) (fun _ => none)
    (fun _ v _ gl gr k => @Nat.rec (fun _ => Option Func) v (fun j _ => @Nat.rec (fun _ => Option Func) (gl (Nat.div j 2)) (fun _ _ => gr (Nat.div j 2)) (Nat.mod j 2)) k)
noncomputable def setG {α : Type} : Nat → Tr (Option α) → Nat → Option α → Tr (Option α) :=
  @Nat.rec (fun _ => Tr (Option α) → Nat → Option α → Tr (Option α)) (fun t _ _ => t)
    (fun _ ih t => @Tr.rec (Option α) (fun _ => Nat → Option α → Tr (Option α))
      (fun k v => @Nat.rec (fun _ => Tr (Option α)) (.node .nil v .nil) (fun j _ => @Nat.rec (fun _ => Tr (Option α)) (.node (ih .nil (Nat.div j 2) v) none .nil) (fun _ _ => .node .nil none (ih .nil (Nat.div j 2) v)) (Nat.mod j 2)) k)
      (fun l x r _ _ k v => @Nat.rec (fun _ => Tr (Option α)) (.node l v r) (fun j _ => @Nat.rec (fun _ => Tr (Option α)) (.node (ih l (Nat.div j 2) v) x r) (fun _ _ => .node l x (ih r (Nat.div j 2) v)) (Nat.mod j 2)) k) t)
theorem getI_eq : ∀ (E : Tr (Option TypeInfo)) (k : Nat), getI E k = getT none E k
  | .nil, _ => rfl
  | .node _ _ _, 0 => rfl
  | .node l x r, j + 1 => by
    show @Nat.rec (fun _ => Option TypeInfo) (getI l (Nat.div j 2)) (fun _ _ => getI r (Nat.div j 2)) (Nat.mod j 2) = _
    rw [rec_mod, getI_eq l, getI_eq r]; rfl
theorem getF_eq : ∀ (E : Tr (Option Func)) (k : Nat), getF E k = getT none E k
  | .nil, _ => rfl
  | .node _ _ _, 0 => rfl
  | .node l x r, j + 1 => by
    show @Nat.rec (fun _ => Option Func) (getF l (Nat.div j 2)) (fun _ _ => getF r (Nat.div j 2)) (Nat.mod j 2) = _
    rw [rec_mod, getF_eq l, getF_eq r]; rfl
theorem setG_eq {α : Type} : ∀ (f : Nat) (E : Tr (Option α)) (k : Nat) (v : Option α), setG f E k v = setT none f E k v
  | 0, _, _, _ => rfl
  | _ + 1, .nil, 0, _ => rfl
  | _ + 1, .node _ _ _, 0, _ => rfl
  | f + 1, .nil, j + 1, v => by
    show @Nat.rec (fun _ => Tr (Option α)) (.node (setG f .nil (Nat.div j 2) v) none .nil) (fun _ _ => .node .nil none (setG f .nil (Nat.div j 2) v)) (Nat.mod j 2) = _
    rw [rec_mod, setG_eq f]; rfl
  | f + 1, .node l x r, j + 1, v => by
    show @Nat.rec (fun _ => Tr (Option α)) (.node (setG f l (Nat.div j 2) v) x r) (fun _ _ => .node l x (setG f r (Nat.div j 2) v)) (Nat.mod j 2) = _
    rw [rec_mod, setG_eq f, setG_eq f]; rfl
theorem ofL_get {α : Type} (A : List α) (hA : A.length < 16000000) : ∀ (l : List α) (i : Nat) (t : Tr (Option α)), (∀ k, l[k]? = A[i + k]?) → (∀ j x, getT none t j = some x → A[j]? = some x) → ∀ j x, getT none (ofL (setG 24) l i t) j = some x → A[j]? = some x
  | [], i, t, _, h, j, x, e => h j x e
  | a :: l, i, t, hl, h, j, x, e => by
    have ha : A[i]? = some a := by simpa using (hl 0).symm
    have hi : i < A.length := (List.getElem?_eq_some_iff.1 ha).1
    refine ofL_get A hA l (i + 1) _ (fun k => ?_) (fun j x e => ?_) j x e
    · have := hl (k + 1)
      rw [show i + 1 + k = i + (k + 1) by omega, ← this]; simp
    · rw [setG_eq, getT_set _ _ _ _ _ _ (by omega)] at e
      split at e
      · rename_i hj; rw [hj, ha]; exact e
      · exact h j x e
noncomputable def tI : Tr (Option TypeInfo) := ofL (setG 24) Tryz.prog.types.toList 0 .nil
noncomputable def tF : Tr (Option Func) := ofL (setG 24) Tryz.prog.funcs.toList 0 .nil
noncomputable def undT (t : Nat) : Option TypeDesc := match getI tI t with
  | some i => match i.desc with
    | .named _ u => match getI tI u with | some j => some j.desc | none => none
    | d => some d
  | none => none
noncomputable def KK : PK := ⟨Tryz.prog, getI tI, undT, getF tF⟩
set_option maxRecDepth 1000000 in
theorem lenI : Nat.blt Tryz.prog.types.toList.length 16000000 = true := by kernel_rfl
set_option maxRecDepth 1000000 in
theorem lenF : Nat.blt Tryz.prog.funcs.toList.length 16000000 = true := by kernel_rfl
set_option maxRecDepth 1000000 in
theorem namesF : Tryz.prog.funcs.toList.all (fun f => !(f.name == "runtime.NumGoroutine")) = true := by kernel_rfl
theorem infoOk {t : Nat} {i : TypeInfo} (h : getI tI t = some i) : Tryz.prog.info? t = some i := by
  rw [getI_eq] at h
  have h1 := ofL_get Tryz.prog.types.toList (blt_of lenI) _ 0 .nil (fun k => by rw [Nat.zero_add]) (fun j x e => by cases e) t i h
  rw [Array.getElem?_toList] at h1
  show (if t < Tryz.prog.types.size then Tryz.prog.types[t]? else _) = _
  rw [if_pos (Array.getElem?_eq_some_iff.1 h1).1]; exact h1
set_option maxRecDepth 1000000 in
theorem kok : KOk KK where
  info := fun t i h => infoOk h
  und := fun t d h => by
    change undT t = some d at h
    show Tryz.prog.underlying t = some d
    unfold undT at h
    cases h1 : getI tI t with
    | none => rw [h1] at h; cases h
    | some i =>
      rw [h1] at h
      simp only at h
      unfold Program.underlying
      rw [infoOk h1]
      rcases i with ⟨desc⟩
      cases desc with
      | named n u =>
        simp only at h ⊢
        cases h2 : getI tI u with
        | none => rw [h2] at h; cases h
        | some j => rw [h2] at h; rw [infoOk h2]; exact h
      | _ => exact h
  fn := fun f g h => by
    change getF tF f = some g at h
    rw [getF_eq] at h
    have h1 := ofL_get Tryz.prog.funcs.toList (blt_of lenF) _ 0 .nil (fun k => by rw [Nat.zero_add]) (fun j x e => by cases e) f g h
    refine ⟨by rw [← Array.getElem?_toList]; exact h1, ?_⟩
    have := List.all_eq_true.1 namesF g (List.mem_of_getElem? h1)
    simpa using this
  mix := by kernel_rfl
def deB : List Value := [0, 1, 56, 2, 57, 49, 28, 3, 61, 58, 42, 50, 38, 29, 17, 4, 62, 47, 59, 36, 45, 43, 51, 22, 53, 39, 33, 30, 24, 18, 12, 5, 63, 55, 48, 27, 60, 41, 37, 16, 46, 35, 44, 21, 52, 32, 23, 11, 54, 26, 40, 15, 34, 20, 31, 10, 25, 14, 19, 9, 13, 8, 7, 6].map fun n => .int .u8 (Int.ofNat n)
noncomputable def H0 : AH := ⟨setB .nil 0 (some (.cells deB 0)), 64⟩
def m0 : BM := fun b => if b < N0 then some (b, 0) else none
theorem start (w : World) (hsz : 0 < w.heap.size) (hc : ∀ i u, deB[i]? = some u → w.cell? ⟨0, i, none⟩ = some u) : HRel KK w m0 H0 w where
  n0 := Nat.le_refl _
  nb := by decide
  stat := fun g hg => by unfold m0; rw [if_pos hg]
  fresh := fun b hb => by unfold m0; exact if_neg (Nat.not_lt.2 hb)
  dyn := fun b x hb e => by unfold m0 at e; rw [if_neg (Nat.not_lt.2 hb)] at e; cases e
  inj := fun b c x y hb _ e => by unfold m0 at e; rw [if_neg (Nat.not_lt.2 hb)] at e; cases e
  live := fun b x blk e1 e2 => by
    change getB (setB .nil 0 (some (.cells deB 0))) b = _ at e2
    rw [getB_set _ _ _ _ (by decide)] at e2
    split at e2
    · rename_i hb; subst hb
      cases e2
      unfold m0 at e1
      rw [if_pos (by decide)] at e1
      cases e1
      refine ⟨fun i u hu => ⟨u, hc i u hu, .lit ?_⟩, fun hb => absurd hb (by decide)⟩
      unfold deB at hu
      rw [List.getElem?_map] at hu
      obtain ⟨n, _, rfl⟩ := Option.map_eq_some_iff.1 hu
      rfl
    · cases e2
  low := fun b hb hs => by
    change (getB (setB .nil 0 (some (.cells deB 0))) b).isSome = true at hs
    rw [getB_set _ _ _ _ (by decide)] at hs
    split at hs
    · rename_i hb; subst hb; exact hsz
    · cases hs
  wsz := Nat.le_refl _
/-- A closed run that says yes. -/
theorem yes (N fuel : Nat) {w : World} {f : FuncId} {args : List Value} {args' : Array Value} {h' : AH} (hf : (callK N KK fuel).cf f args H0 = .ok (.bool true) h') (hsz : 0 < w.heap.size) (hc : ∀ i u, deB[i]? = some u → w.cell? ⟨0, i, none⟩ = some u) (hl : LRel m0 args args'.toList) :
    Calls Tryz.prog f args' w fun e w' => e = .returned (.bool true) ∧ Kept [] w w' := by
  refine (run_calls kok N fuel hf (start w hsz hc) hl).mono fun e w' ⟨m', v', e1, H', X, hv⟩ => ?_
  have := hv.bool
  subst this
  exact ⟨e1, X.os, X.tape, X.output, X.wsz, fun c hc _ => X.conf c hc fun b x hb e => by unfold m0 at e; rw [if_neg (Nat.not_lt.2 hb)] at e; cases e⟩
def isYes : R → Bool
  | .ok (.bool true) _ => true
  | _ => false
theorem yes_of {r : R} (h : isYes r = true) : ∃ h', r = .ok (.bool true) h' := by
  unfold isYes at h
  split at h
  · exact ⟨_, rfl⟩
  · cases h
theorem juncts (m : BM) : ∀ l : List Value, LRel m (l.map fun _ => junk) l := fun l => ⟨by simp, fun i => by
  simp only [List.getD_eq_getElem?_getD, List.getElem?_map]
  cases l[i]? with
  | none => exact .lit rfl
  | some v => exact .junk v⟩
end Go.Proofs.YthahmfeaekddnaaGreatDoor.Ru
