/- A runner: the program's text, carried out on values whose addresses and capacities are not known. It is run by the kernel itself. This text: what it does. -/
import Derived.Calls
import Derived.Orders
namespace Go.Proofs.YtdkebebingchpaaGreatDoor.Ru
open Go

inductive Tr (α : Type) where
  | nil
  | node (l : Tr α) (v : α) (r : Tr α)
abbrev Env := Tr Value
noncomputable def getV : Env → Nat → Value :=
  @Tr.rec Value (fun _ => Nat → Value) (fun _ => undef)
    (fun _ v _ gl gr k => @Nat.rec (fun _ => Value) v (fun j _ => @Nat.rec (fun _ => Value) (gl (Nat.div j 2)) (fun _ _ => gr (Nat.div j 2)) (Nat.mod j 2)) k)
noncomputable def setFV : Nat → Env → Nat → Value → Env :=
  @Nat.rec (fun _ => Env → Nat → Value → Env) (fun t _ _ => t)
    (fun _ ih t => @Tr.rec Value (fun _ => Nat → Value → Env)
      (fun k v => @Nat.rec (fun _ => Env) (.node .nil v .nil) (fun j _ => @Nat.rec (fun _ => Env) (.node (ih .nil (Nat.div j 2) v) undef .nil) (fun _ _ => .node .nil undef (ih .nil (Nat.div j 2) v)) (Nat.mod j 2)) k)
      (fun l x r _ _ k v => @Nat.rec (fun _ => Env) (.node l v r) (fun j _ => @Nat.rec (fun _ => Env) (.node (ih l (Nat.div j 2) v) x r) (fun _ _ => .node l x (ih r (Nat.div j 2) v)) (Nat.mod j 2)) k) t)
noncomputable def setV (E : Env) (k : Nat) (v : Value) : Env := setFV 24 E k v
inductive AB where
  | cells (cs : List Value) (e : TypeId)
  | loop (st : LoopState) (pend : Option Code) (fn : FuncId) (E : Env) (ps : List Tmp) (assign body : Code) (d n : Nat)
  | defs
  | map (es : List (Value × Value × Nat)) (clock : Nat)
  | sit (s : ByteArray) (pos : Nat)
  | mit (r : Option Nat)
noncomputable def getB : Tr (Option AB) → Nat → Option AB :=
  @Tr.rec (Option AB) (fun _ => Nat → Option AB) (fun _ => none)
    (fun _ v _ gl gr k => @Nat.rec (fun _ => Option AB) v (fun j _ => @Nat.rec (fun _ => Option AB) (gl (Nat.div j 2)) (fun _ _ => gr (Nat.div j 2)) (Nat.mod j 2)) k)
noncomputable def setFB : Nat → Tr (Option AB) → Nat → Option AB → Tr (Option AB) :=
  @Nat.rec (fun _ => Tr (Option AB) → Nat → Option AB → Tr (Option AB)) (fun t _ _ => t)
    (fun _ ih t => @Tr.rec (Option AB) (fun _ => Nat → Option AB → Tr (Option AB))
      (fun k v => @Nat.rec (fun _ => Tr (Option AB)) (.node .nil v .nil) (fun j _ => @Nat.rec (fun _ => Tr (Option AB)) (.node (ih .nil (Nat.div j 2) v) none .nil) (fun _ _ => .node .nil none (ih .nil (Nat.div j 2) v)) (Nat.mod j 2)) k)
      (fun l x r _ _ k v => @Nat.rec (fun _ => Tr (Option AB)) (.node l v r) (fun j _ => @Nat.rec (fun _ => Tr (Option AB)) (.node (ih l (Nat.div j 2) v) x r) (fun _ _ => .node l x (ih r (Nat.div j 2) v)) (Nat.mod j 2)) k) t)
noncomputable def setB (t : Tr (Option AB)) (k : Nat) (v : Option AB) : Tr (Option AB) := setFB 24 t k v
structure AH where
  t : Tr (Option AB)
  n : Nat

/-- A program, and its tables as they are looked up. -/
structure PK where
  P : Program
  info : Nat → Option TypeInfo
  und : Nat → Option TypeDesc
  fn : Nat → Option Func
/-- What the tree of an operation that looks at no memory yields. -/
def pureOf {α : Type} (P : Program) : Sem α → Option α
  | .pure a => some a
  | .program k => pureOf P (k P)
  | .mark _ k => pureOf P k
  | _ => none

def plain : Nat → Value → Bool
  | 0, _ => false
  | n + 1, v => match v with
    | .bool _ | .int _ _ | .float _ _ | .string _ | .pointer none | .map none | .nilFunc | .nilIface => true
    | .slice none 0 0 => true
    | .func (.func _) f c => f.toList.all (plain n) && c.toList.all (plain n)
    | .agg cs => cs.toList.all (plain n)
    | .tuple cs => cs.toList.all (plain n)
    | _ => false

/-- What stands for whatever: no operation takes it. -/
def junk : Value := .chan (some 0)
def N0 : Nat := 64
noncomputable def rdK : Operand → Env → Value :=
  @Operand.rec (fun _ => Env → Value) (fun t E => getV E t) (fun v _ => cond (plain 4 v) v junk) (fun g _ => cond (Nat.blt g N0) (.pointer (some ⟨g, 0, none⟩)) junk) (fun f _ => .func (.func f) #[] #[])
noncomputable def rd (E : Env) (x : Operand) : Value := rdK x E

/-- Is a type a struct's or an array's; its size. -/
def tyD (K : PK) (t : TypeId) : Option (Bool × Nat) := match K.und t, K.info t with
  | some (.struct _), some i => some (true, i.size)
  | some (.array ..), some i => some (true, i.size)
  | some _, some i => some (false, i.size)
  | _, _ => none
def sizeT (K : PK) (t : TypeId) : Nat := match K.info t with | some i => i.size | none => 0
/-- A type's zero value; it is plain. -/
def zeroT (K : PK) (t : TypeId) : Option Value := match K.info t with
  | some i => match i.zero with
    | some z => cond (plain 4 z) (some z) none
    | none => none
  | none => none
/- Lists, by recursors: the kernel is quick with them. -/
noncomputable def lenK : List Value → Nat := @List.rec Value (fun _ => Nat) 0 (fun _ _ ih => Nat.succ ih)
noncomputable def isLen : Nat → List Value → Bool :=
  @Nat.rec (fun _ => List Value → Bool) (fun l => @List.rec Value (fun _ => Bool) true (fun _ _ _ => false) l)
    (fun _ ih l => @List.rec Value (fun _ => Bool) false (fun _ r _ => ih r) l)
noncomputable def dropK : Nat → List Value → List Value :=
  @Nat.rec (fun _ => List Value → List Value) (fun l => l) (fun _ ih l => @List.rec Value (fun _ => List Value) [] (fun _ r _ => ih r) l)
noncomputable def takeK : Nat → List Value → List Value :=
  @Nat.rec (fun _ => List Value → List Value) (fun _ => []) (fun _ ih l => @List.rec Value (fun _ => List Value) [] (fun v r _ => v :: ih r) l)
noncomputable def headK : List Value → Option Value := @List.rec Value (fun _ => Option Value) none (fun v _ _ => some v)
noncomputable def joinV : List Value → List Value → List Value := @List.rec Value (fun _ => List Value → List Value) (fun r => r) (fun v _ ih r => v :: ih r)
theorem lenK_eq : ∀ l : List Value, lenK l = l.length
  | [] => rfl
  | _ :: r => congrArg Nat.succ (lenK_eq r)
theorem isLen_eq : ∀ (n : Nat) (l : List Value), isLen n l = Nat.beq l.length n
  | 0, [] => rfl
  | 0, _ :: _ => rfl
  | _ + 1, [] => rfl
  | n + 1, _ :: r => isLen_eq n r
theorem dropK_eq : ∀ (n : Nat) (l : List Value), dropK n l = l.drop n
  | 0, _ => rfl
  | _ + 1, [] => rfl
  | n + 1, _ :: r => dropK_eq n r
theorem takeK_eq : ∀ (n : Nat) (l : List Value), takeK n l = l.take n
  | 0, _ => rfl
  | _ + 1, [] => rfl
  | n + 1, v :: r => congrArg (v :: ·) (takeK_eq n r)
theorem headK_eq (l : List Value) (o : Nat) : headK (dropK o l) = l[o]? := by
  rw [dropK_eq, ← List.head?_drop]
  cases l.drop o <;> rfl
theorem joinV_eq : ∀ l r : List Value, joinV l r = l ++ r
  | [], _ => rfl
  | v :: l, r => congrArg (v :: ·) (joinV_eq l r)
noncomputable def cutK (o n : Nat) (cs : List Value) : Option (List Value) :=
  @Bool.rec (fun _ => Option (List Value)) (@Bool.rec (fun _ => Option (List Value)) none (some (takeK n (dropK o cs))) (isLen n (takeK n (dropK o cs)))) (some cs)
    (@Bool.rec (fun _ => Bool) false (isLen n cs) (Nat.beq o 0))
theorem cutK_eq (o n : Nat) (cs : List Value) : cutK o n cs = cond (Nat.beq ((cs.drop o).take n).length n) (some ((cs.drop o).take n)) none := by
  unfold cutK
  cases h0 : Nat.beq o 0 with
  | false =>
    show @Bool.rec (fun _ => Option (List Value)) none (some (takeK n (dropK o cs))) (isLen n (takeK n (dropK o cs))) = _
    rw [isLen_eq, takeK_eq, dropK_eq]
    cases Nat.beq ((cs.drop o).take n).length n <;> rfl
  | true =>
    have e := Nat.eq_of_beq_eq_true h0
    subst e
    cases h1 : isLen n cs with
    | true =>
      have e := isLen_eq n cs
      rw [h1] at e
      have e := Nat.eq_of_beq_eq_true e.symm
      subst e
      show some cs = _
      rw [List.drop_zero, List.take_length, Nat.beq_refl]
      rfl
    | false =>
      show @Bool.rec (fun _ => Option (List Value)) none (some (takeK n (dropK 0 cs))) (isLen n (takeK n (dropK 0 cs))) = _
      rw [isLen_eq, takeK_eq, dropK_eq]
      cases Nat.beq ((cs.drop 0).take n).length n <;> rfl
noncomputable def rdCells (h : AH) (b o n : Nat) : Option (List Value) :=
  match getB h.t b with
  | some (.cells cs _) => cutK o n cs
  | _ => none
theorem rdCells_eq (h : AH) (b o n : Nat) : rdCells h b o n = match getB h.t b with
  | some (.cells cs _) => cond (Nat.beq ((cs.drop o).take n).length n) (some ((cs.drop o).take n)) none
  | _ => none := by
  unfold rdCells
  split
  · exact cutK_eq _ _ _
  · rfl
noncomputable def rdCell (h : AH) (b o : Nat) : Option Value :=
  match getB h.t b with
  | some (.cells cs _) => headK (dropK o cs)
  | _ => none
theorem rdCell_eq (h : AH) (b o : Nat) : rdCell h b o = match getB h.t b with
  | some (.cells cs _) => cs[o]?
  | _ => none := by
  unfold rdCell
  split
  · exact headK_eq _ _
  · rfl
def setL : List Value → Nat → List Value → List Value
  | cs, _, [] => cs
  | [], _, _ => []
  | _ :: cs, 0, v :: vs => v :: setL cs 0 vs
  | c :: cs, o + 1, vs => c :: setL cs o vs
noncomputable def setLK : List Value → Nat → List Value → List Value :=
  @List.rec Value (fun _ => Nat → List Value → List Value) (fun _ _ => [])
    (fun c r ih o vs => @List.rec Value (fun _ => List Value) (c :: r) (fun v vs' _ => @Nat.rec (fun _ => List Value) (v :: ih 0 vs') (fun o' _ => c :: ih o' vs) o) vs)
theorem setLK_eq : ∀ (cs : List Value) (o : Nat) (vs : List Value), setLK cs o vs = setL cs o vs
  | [], o, [] => by rw [setL]; rfl
  | [], o, v :: vs => by rw [setL] <;> first | rfl | (intro h; cases h)
  | c :: cs, o, [] => by rw [setL]; rfl
  | c :: cs, 0, v :: vs => by
    rw [setL]
    show v :: setLK cs 0 vs = _
    rw [setLK_eq cs 0 vs]
  | c :: cs, o + 1, v :: vs => by
    rw [setL]
    · show c :: setLK cs o (v :: vs) = _
      rw [setLK_eq cs o (v :: vs)]
    · intro h; cases h
def oneC (v : Value) : Bool := match v with | .agg _ => false | .tuple _ => false | .chan _ => false | _ => true
noncomputable def allOne : List Value → Bool := @List.rec Value (fun _ => Bool) true (fun v _ ih => @Bool.rec (fun _ => Bool) false ih (oneC v))
theorem allOne_eq : ∀ l : List Value, allOne l = l.all oneC
  | [] => rfl
  | v :: r => by
    show @Bool.rec (fun _ => Bool) false (allOne r) (oneC v) = _
    rw [List.all_cons, allOne_eq r]
    cases oneC v <;> rfl
def notJ (v : Value) : Bool := match v with | .chan _ => false | _ => true
noncomputable def wrCells (h : AH) (b o : Nat) (vs : List Value) : Option AH :=
  cond (Nat.blt b N0) none
  (match getB h.t b with
  | some (.cells cs e) => cond (Nat.ble (Nat.add o (lenK vs)) (lenK cs) && allOne vs) (some ⟨setB h.t b (some (.cells (setLK cs o vs) e)), h.n⟩) none
  | _ => none)
theorem wrCells_eq (h : AH) (b o : Nat) (vs : List Value) : wrCells h b o vs = cond (Nat.blt b N0) none
  (match getB h.t b with
  | some (.cells cs e) => cond (Nat.ble (o + vs.length) cs.length && vs.all oneC) (some ⟨setB h.t b (some (.cells (setL cs o vs) e)), h.n⟩) none
  | _ => none) := by
  unfold wrCells
  split
  · rw [lenK_eq, lenK_eq, allOne_eq, setLK_eq]
    rfl
  · rfl
def natOf : Value → Option Nat
  | .int _ (.ofNat n) => some n
  | _ => none
def field? (K : PK) (s : TypeId) (f : Nat) : Option Field := match K.und s with | some (.struct fs) => fs[f]? | _ => none
noncomputable def partV (K : PK) (t : TypeId) (cs : List Value) (o : Nat) : Option Value :=
  match tyD K t with
  | some (true, n) => some (.agg (takeK n (dropK o cs)).toArray)
  | some (false, _) => headK (dropK o cs)
  | none => none
theorem partV_eq (K : PK) (t : TypeId) (cs : List Value) (o : Nat) : partV K t cs o = match tyD K t with
  | some (true, n) => some (.agg ((cs.drop o).take n).toArray)
  | some (false, _) => cs[o]?
  | none => none := by
  unfold partV
  rw [headK_eq]
  simp only [takeK_eq, dropK_eq]
/-- A capacity's code: below 2^64 exact; from there on: at least. -/
def big : Nat := 18446744073709551616
def capLow (c : Nat) : Nat := cond (Nat.blt c big) c (c - big)
def bound (x : Option Value) (d m : Nat) : Option Nat := match x with
  | none => some d
  | some v => match natOf v with
    | some n => cond (Nat.ble n m) (some n) none
    | none => none

/-- What an operation does: it looks at no memory; it reads; it makes a block; it does something. -/
inductive R where
  | bad
  | ok (v : Value) (h : AH)
inductive Q where
  | bad
  | pure (v : Value)
  | read (f : AH → Option Value)
  | alloc (b : AB) (mk : Nat → Value)
  | eff (f : AH → R)
  | defer (f : Value) (args : List Value)
noncomputable def Q.of : Option Value → Q := @Option.rec Value (fun _ => Q) .bad (fun v => .pure v)
abbrev CallF := FuncId → List Value → AH → R
abbrev RoundF := Nat → List Value → AH → R
structure Cx where
  cf : CallF
  rf : RoundF

noncomputable def fallback (K : PK) (E : Env) (o : Oper) : Q :=
  cond (o.op.operands.toList.all (fun x => plain 4 (rd E x)))
    (match pureOf K.P (execOp (rd E) o) with
    | some (.value v) => cond (plain 4 v) (.pure v) .bad
    | _ => .bad) .bad

def topOf : IntKind → Nat
  | .i8 => 128 | .i16 => 32768 | .i32 => 2147483648 | .i64 => 9223372036854775808
  | .u8 => 256 | .u16 => 65536 | .u32 => 4294967296 | .u64 => 18446744073709551616
def wrapF (k : IntKind) : Int → Int
  | .ofNat m => cond (Nat.blt m (topOf k)) (.ofNat m) (k.wrap (.ofNat m))
  | .negSucc m => cond (k.signed && Nat.blt m (topOf k)) (.negSucc m) (k.wrap (.negSucc m))
def ieq : Int → Int → Bool
  | .ofNat a, .ofNat b => Nat.beq a b
  | .negSucc a, .negSucc b => Nat.beq a b
  | _, _ => false
def ilt : Int → Int → Bool
  | .ofNat a, .ofNat b => Nat.blt a b
  | .negSucc a, .negSucc b => Nat.blt b a
  | .negSucc _, .ofNat _ => true
  | .ofNat _, .negSucc _ => false
def kindNo : IntKind → Nat
  | .i8 => 0 | .i16 => 1 | .i32 => 2 | .i64 => 3 | .u8 => 4 | .u16 => 5 | .u32 => 6 | .u64 => 7
def sameKind (k j : IntKind) (r : Option Value) : Option Value := cond (Nat.beq (kindNo k) (kindNo j)) r none
/-- A result that is plain. -/
def pl : Option Value → Option Value
  | some v => cond (plain 1 v) (some v) none
  | none => none
noncomputable def intBinK : BinOp → PK → IntKind → Int → IntKind → Int → Option Value :=
  @BinOp.rec (fun _ => PK → IntKind → Int → IntKind → Int → Option Value)
    (fun K k a j b => sameKind k j (some (.int k (wrapF k (Int.add a b)))))
    (fun K k a j b => sameKind k j (some (.int k (wrapF k (Int.sub a b)))))
    (fun K k a j b => sameKind k j (some (.int k (wrapF k (Int.mul a b)))))
    (fun K k a j b => sameKind k j (pl (pureOf K.P (Op.intDiv .quo k a b))))
    (fun K k a j b => sameKind k j (pl (pureOf K.P (Op.intDiv .rem k a b))))
    (fun K k a j b => sameKind k j (pl (pureOf K.P (Op.intBits .and k a b))))
    (fun K k a j b => sameKind k j (pl (pureOf K.P (Op.intBits .or k a b))))
    (fun K k a j b => sameKind k j (pl (pureOf K.P (Op.intBits .xor k a b))))
    (fun K k a j b => pl (pureOf K.P (Op.shift .shl k a j b)))
    (fun K k a j b => pl (pureOf K.P (Op.shift .shr k a j b)))
    (fun K k a j b => sameKind k j (pl (pureOf K.P (Op.intBits .andNot k a b))))
    (fun K k a j b => sameKind k j (some (.bool (ieq a b))))
    (fun K k a j b => sameKind k j (some (.bool (!ieq a b))))
    (fun K k a j b => sameKind k j (some (.bool (ilt a b))))
    (fun K k a j b => sameKind k j (some (.bool (!ilt b a))))
    (fun K k a j b => sameKind k j (some (.bool (ilt b a))))
    (fun K k a j b => sameKind k j (some (.bool (!ilt a b))))
noncomputable def intBin (K : PK) (op : BinOp) (k : IntKind) (a : Int) (j : IntKind) (b : Int) : Option Value := intBinK op K k a j b
/-- Is an address nil? -/
def nilEq : TypeDesc → Value → Value → Option Bool
  | .pointer _, .pointer (some _), .pointer none => some false
  | .pointer _, .pointer none, .pointer (some _) => some false
  | .func .., .func .., .nilFunc => some false
  | .func .., .nilFunc, .func .. => some false
  | .slice _, .slice (some _) _ _, .slice none 0 0 => some false
  | .map .., .map (some _), .map none => some false
  | _, _, _ => none
def nilCmp (d : Option TypeDesc) (op : BinOp) (x y : Value) : Option Value := match d with
  | some d => match nilEq d x y with
    | some r => match op with
      | .eql => some (.bool r)
      | .neq => some (.bool (!r))
      | _ => none
    | none => none
  | none => none

/-- The bounds of a slice expression. -/
def bnds (n c : Nat) (lo hi mx : Option Value) : Option (Nat × Nat × Nat) :=
  match bound mx c c with
  | none => none
  | some m => match hi, mx with
    | none, some _ => none
    | hi, _ => match bound hi n m with
      | none => none
      | some h => match bound lo 0 h with
        | none => none
        | some l => some (l, h, m)
def aSlice (K : PK) (t : TypeId) (x : Value) (lo hi mx : Option Value) : Option Value :=
  match K.und t, x with
  | some (.slice e), .slice (some ⟨b, o, none⟩) n c => match K.info e, bnds n (capLow c) lo hi mx with
    | some i, some (l, h, m) => cond (Nat.beq i.size 0) none (cond (Nat.beq m l)
        (cond (Nat.blt c big || mx.isSome) (some (.slice (some ⟨b, o, none⟩) (h - l) 0)) (some (.slice none 0 1)))
        (some (.slice (some ⟨b, o + l * i.size, none⟩) (h - l) (match mx with | none => c - l | some _ => m - l))))
    | _, _ => none
  | some (.slice e), .slice none 0 0 => match K.info e, bnds 0 0 lo hi mx with
    | some _, some _ => some (.slice none 0 0)
    | _, _ => none
  | some (.array k e), .pointer (some ⟨b, o, none⟩) => match K.info e, bnds k k lo hi mx with
    | some i, some (l, h, m) => cond (Nat.blt k big) (some (.slice (some ⟨b, cond (Nat.beq m l) o (o + l * i.size), none⟩) (h - l) (m - l))) none
    | _, _ => none
  | some .string, .string s => match mx with
    | some _ => none
    | none => match bnds s.size s.size lo hi none with
      | some (l, h, _) => some (.string (s.extract l h))
      | none => none
  | _, _ => none

def aFill (place : Nat → Option (Nat × Nat)) : List Value → List (Nat × Value) → Option (List Value)
  | cells, [] => some cells
  | cells, (i, v) :: rest => match place i with
    | none => none
    | some (off, size) => cond (notJ v && Nat.beq v.cells.toList.length size && Nat.ble (off + size) cells.length) (aFill place (setL cells off v.cells.toList) rest) none
def repL (n : Nat) (l : List Value) : List Value := match n with | 0 => [] | n + 1 => l ++ repL n l
def bytesL (s : ByteArray) : List Value := s.data.toList.map fun b => Value.int .u8 b.toNat
noncomputable def srcL (K : PK) (h : AH) (e : TypeId) : Value → Option (Nat × List Value)
  | .slice none 0 _ => some (0, [])
  | .slice (some ⟨b, o, none⟩) n _ => match rdCells h b o (n * sizeT K e) with | some l => some (n, l) | none => none
  | .string s => cond (Nat.beq (sizeT K e) 1) (some (s.size, bytesL s)) none
  | _ => none
/-- A type of elements whose size is small. -/
def smallT (K : PK) (e : TypeId) : Bool := match K.info e with
  | some i => match zeroT K e with
    | some z => Nat.ble i.bytes 65536 && Nat.ble 1 i.size && Nat.beq z.cells.toList.length i.size && z.cells.toList.all oneC
    | none => false
  | none => false
noncomputable def grow (h : AH) (t : Tr (Option AB)) (e : TypeId) (k : Nat) (cs : List Value) : R :=
  cond (Nat.ble k 65536 && Nat.blt h.n 16000000 && allOne cs) (.ok (.slice (some ⟨h.n, 0, none⟩) k (k + big)) ⟨setB t h.n (some (.cells cs e)), h.n + 1⟩) .bad
theorem grow_eq (h : AH) (t : Tr (Option AB)) (e : TypeId) (k : Nat) (cs : List Value) : grow h t e k cs =
  cond (Nat.ble k 65536 && Nat.blt h.n 16000000 && cs.all oneC) (.ok (.slice (some ⟨h.n, 0, none⟩) k (k + big)) ⟨setB t h.n (some (.cells cs e)), h.n + 1⟩) .bad := by
  unfold grow
  rw [allOne_eq]
noncomputable def elemIs (h : AH) (b : Nat) (e : TypeId) : Bool := match getB h.t b with
  | some (.cells _ e') => Nat.beq e' e
  | _ => false
noncomputable def aAppend (K : PK) (ty : TypeId) (s x : Value) (h : AH) : R :=
  match K.und ty with
  | some (.slice e) => cond (smallT K e) (match srcL K h e x with
    | none => .bad
    | some (k, news) => match s with
      | .slice none 0 0 => cond (Nat.beq k 0) (.ok s h) (grow h h.t e k news)
      | .slice (some ⟨b, o, none⟩) n c =>
        cond (Nat.ble (n + k) (capLow c))
          (match wrCells h b (o + n * sizeT K e) news with
          | some h => .ok (.slice (some ⟨b, o, none⟩) (n + k) c) h
          | none => .bad)
          (match rdCells h b o (n * sizeT K e) with
          | some olds =>
            cond (Nat.blt c big) (grow h h.t e (n + k) (joinV olds news))
              (cond (Nat.ble N0 b && Nat.beq o 0 && elemIs h b e) (grow h (setB h.t b none) e (n + k) (joinV olds news)) .bad)
          | none => .bad)
      | _ => .bad) .bad
  | _ => .bad
noncomputable def aCopy (K : PK) (ty : TypeId) (s x : Value) (h : AH) : R :=
  match K.und ty with
  | some (.slice e) => match K.info e, s, x with
    | some i, .slice (some ⟨b, o, none⟩) n _, .slice (some ⟨b2, o2, none⟩) n2 _ => match rdCells h b2 o2 (Nat.min n2 n * i.size) with
      | some news => match wrCells h b o news with
        | some h => .ok (.int .i64 (Nat.min n2 n)) h
        | none => .bad
      | none => .bad
    | _, _, _ => .bad
  | _ => .bad

/-- Are two keys alike? -/
def keyQ : Value → Value → Option Bool
  | .int i a, .int j n => cond (Nat.beq (kindNo i) (kindNo j)) (some (ieq a n)) none
  | .string s, .string t => some (s.data.toList == t.data.toList)
  | _, _ => none
def findM (k : Value) : List (Value × Value × Nat) → Nat → Option (Option (Nat × Value))
  | [], _ => some none
  | (a, v, _) :: es, n => match keyQ a k with
    | some true => some (some (n, v))
    | some false => findM k es (n + 1)
    | none => none
def keyTy (K : PK) (key : TypeId) (ix : Value) : Bool := match K.und key, ix with
  | some (.int _), .int _ _ => true
  | some .string, .string _ => true
  | _, _ => false
noncomputable def entriesOf (h : AH) : Value → Option (List (Value × Value × Nat))
  | .map none => some []
  | .map (some r) => match getB h.t r with | some (.map es _) => some es | _ => none
  | _ => none
noncomputable def aLookup (K : PK) (t : TypeId) (x ix : Value) (ok : Bool) (h : AH) : Option Value :=
  match K.und t with
  | some (.map key elem) => cond (keyTy K key ix)
    (match entriesOf h x with
      | some es => match findM ix es 0, zeroT K elem with
        | some (some (_, v)), _ => some (cond ok (.tuple #[v, .bool true]) v)
        | some none, some z => some (cond ok (.tuple #[z, .bool false]) z)
        | _, _ => none
      | none => none) none
  | _ => none
noncomputable def aMapUpdate (K : PK) (t : TypeId) (x ix v : Value) (h : AH) : R :=
  match K.und t, x with
  | some (.map key _), .map (some r) => cond (keyTy K key ix && !Nat.blt r N0)
      (match getB h.t r with
      | some (.map es c) => match findM ix es 0 with
        | some (some (i, _)) => .ok undef ⟨setB h.t r (some (.map (es.modify i fun e => (ix, v, e.2.2)) c)), h.n⟩
        | some none => .ok undef ⟨setB h.t r (some (.map (es ++ [(ix, v, c)]) (c + 1))), h.n⟩
        | none => .bad
      | _ => .bad) .bad
  | _, _ => .bad
noncomputable def aDelete (K : PK) (t : TypeId) (x ix : Value) (h : AH) : R :=
  match K.und t, x with
  | some (.map key _), .map (some r) => cond (keyTy K key ix && !Nat.blt r N0)
      (match getB h.t r with
      | some (.map es c) => match findM ix es 0 with
        | some (some (i, _)) => .ok (.tuple #[]) ⟨setB h.t r (some (.map (es.eraseIdx i) c)), h.n⟩
        | some none => .ok (.tuple #[]) h
        | none => .bad
      | _ => .bad) .bad
  | _, _ => .bad
/- The operations, one by one. -/
noncomputable def q_move (E : Env) (x : Operand) : Q := .pure (rd E x)
noncomputable def q_pick (E : Env) (x a b : Operand) : Q := match rd E x with | .bool t => .pure (cond t (rd E a) (rd E b)) | _ => .bad
noncomputable def q_alloc (K : PK) (e : TypeId) : Q := match zeroT K e with | some z => .alloc (.cells z.cells.toList e) (fun b => .pointer (some ⟨b, 0, none⟩)) | none => .bad
noncomputable def q_box (E : Env) (e : TypeId) (x : Operand) : Q := cond (notJ (rd E x)) (.alloc (.cells (rd E x).cells.toList e) (fun b => .pointer (some ⟨b, 0, none⟩))) .bad
def fieldsL (K : PK) : List Field → Option (List (Nat × Nat))
  | [] => some []
  | f :: r => match K.info f.type, fieldsL K r with
    | some i, some l => some ((f.offset, i.size) :: l)
    | _, _ => none
noncomputable def q_build (K : PK) (E : Env) (t : TypeId) (parts : Array (Nat × Operand)) : Q :=
  match zeroT K t, K.und t with
  | some z, some (.struct fs) => match fieldsL K fs.toList with
    | some pl => match aFill (fun i => pl[i]?) z.cells.toList (parts.toList.map fun p => (p.1, rd E p.2)) with
      | some l => .pure (.agg l.toArray)
      | none => .bad
    | none => .bad
  | some z, some (.array _ e) => match K.info e with
    | some i => match aFill (fun j => some (j * i.size, i.size)) z.cells.toList (parts.toList.map fun p => (p.1, rd E p.2)) with
      | some l => .pure (.agg l.toArray)
      | none => .bad
    | none => .bad
  | _, _ => .bad
noncomputable def q_buildSlice (K : PK) (E : Env) (t : TypeId) (len : Nat) (parts : Array (Nat × Operand)) : Q :=
  match K.und t with
  | some (.slice e) => match K.info e with
    | some i => match zeroT K e with
      | some z => cond (Nat.ble (len * i.size) 65536 && Nat.blt len big && Nat.beq z.cells.toList.length i.size) (match aFill (fun j => some (j * i.size, i.size)) (repL len z.cells.toList) (parts.toList.map fun p => (p.1, rd E p.2)) with
        | some l => .alloc (.cells l e) (fun b => .slice (some ⟨b, 0, none⟩) len len)
        | none => .bad) .bad
      | none => .bad
    | none => .bad
  | _ => .bad
noncomputable def q_load (K : PK) (E : Env) (t : TypeId) (a : Operand) : Q := match rd E a with
  | .pointer (some ⟨b, o, none⟩) => match tyD K t with
    | some (true, n) => .read (fun h => match rdCells h b o n with | some l => some (.agg l.toArray) | none => none)
    | some (false, _) => .read (fun h => rdCell h b o)
    | none => .bad
  | _ => .bad
noncomputable def q_store (K : PK) (E : Env) (t : TypeId) (a x : Operand) : Q := match rd E a with
  | .pointer (some ⟨b, o, none⟩) => cond (notJ (rd E x) && isLen (sizeT K t) (rd E x).cells.toList && (K.info t).isSome) (.eff (fun h => match wrCells h b o (rd E x).cells.toList with | some h => .ok undef h | none => .bad)) .bad
  | _ => .bad
noncomputable def q_nilCheck (E : Env) (x : Operand) : Q := match rd E x with
  | .pointer (some a) => .pure (.pointer (some a))
  | .func (.func f) a b => .pure (.func (.func f) a b)
  | _ => .bad
noncomputable def q_binOp (K : PK) (E : Env) (o : Oper) (op : BinOp) (t : TypeId) (x y : Operand) : Q := match rd E x, rd E y with
  | .int k a, .int j b => Q.of (intBin K op k a j b)
  | x, y => match nilCmp (K.und t) op x y with
    | some v => .pure v
    | none => fallback K E o
noncomputable def q_unOp (K : PK) (E : Env) (o : Oper) (op : UnOp) (x : Operand) : Q := match op, rd E x with
  | .not, .bool b => .pure (.bool (!b))
  | _, _ => fallback K E o
noncomputable def q_convert (K : PK) (E : Env) (o : Oper) (src dst : TypeId) (x : Operand) : Q := match K.und src, K.und dst, rd E x with
  | some _, some (.int k), .int _ n => .pure (.int k (wrapF k n))
  | _, _, _ => fallback K E o
noncomputable def q_makeFunc (E : Env) (fn : Fn) (first captured : Array Operand) : Q := match fn with
  | .func f => .pure (.func (.func f) (first.toList.map (rd E)).toArray (captured.toList.map (rd E)).toArray)
  | _ => .bad
def q_makeMap (r : Option Operand) : Q := match r with | none => .alloc (.map [] 0) (fun b => .map (some b)) | some _ => .bad
noncomputable def q_makeSlice (K : PK) (E : Env) (t : TypeId) (l c : Operand) : Q := match K.und t, natOf (rd E l), natOf (rd E c) with
  | some (.slice e), some l, some k => match K.info e with
    | some _ => match zeroT K e with
      | some z => cond (Nat.ble l k && Nat.ble k 65536 && smallT K e) (.alloc (.cells (repL k z.cells.toList) e) (fun b => .slice (some ⟨b, 0, none⟩) l k)) .bad
      | none => .bad
    | none => .bad
  | _, _, _ => .bad
noncomputable def q_slice (K : PK) (E : Env) (t : TypeId) (x : Operand) (lo hi mx : Option Operand) : Q := Q.of (aSlice K t (rd E x) (lo.map (rd E)) (hi.map (rd E)) (mx.map (rd E)))
noncomputable def q_arrPtr (K : PK) (E : Env) (t : TypeId) (x : Operand) : Q := match rd E x, K.und t with
  | .slice (some ⟨b, o, none⟩) n _, some (.array m _) => cond (Nat.ble m n) (.pure (.pointer (some ⟨b, o, none⟩))) .bad
  | _, _ => .bad
/- Iterators: over a string, or over a map that is empty. -/
noncomputable def aIter (b : AB) (h : AH) : R := cond (Nat.blt h.n 16000000) (.ok (.pointer (some ⟨h.n, 0, none⟩)) ⟨setB h.t h.n (some b), h.n + 1⟩) .bad
noncomputable def q_range (K : PK) (E : Env) (t : TypeId) (x : Operand) : Q := match K.und t, rd E x with
  | some .string, .string s => .eff (aIter (.sit s 0))
  | some (.map ..), .map none => .eff (aIter (.mit none))
  | some (.map ..), .map (some r) => .eff (fun h => match getB h.t r with
    | some (.map ..) => aIter (.mit (some r)) h
    | _ => .bad)
  | _, _ => .bad
noncomputable def aNext (isS : Bool) (b : Nat) (h : AH) : R := match getB h.t b with
  | some (.sit s pos) => cond (isS && !Nat.blt b N0) (cond (Nat.blt pos s.size)
      (cond (Nat.blt (s.get! pos).toNat 128) (.ok (.tuple #[.bool true, .int .i64 (.ofNat pos), .int .i32 (.ofNat (s.get! pos).toNat)]) ⟨setB h.t b (some (.sit s (pos + 1))), h.n⟩) .bad)
      (.ok (.tuple #[.bool false]) h)) .bad
  | some (.mit none) => cond isS .bad (.ok (.tuple #[.bool false]) h)
  | some (.mit (some r)) => cond isS .bad (match getB h.t r with
    | some (.map [] _) => .ok (.tuple #[.bool false]) h
    | _ => .bad)
  | _ => .bad
noncomputable def q_next (E : Env) (x : Operand) (isS : Bool) : Q := match rd E x with
  | .pointer (some ⟨b, 0, none⟩) => .eff (aNext isS b)
  | _ => .bad
noncomputable def q_fieldAddr (K : PK) (E : Env) (s : TypeId) (x : Operand) (f : Nat) : Q := match rd E x, field? K s f with
  | .pointer (some ⟨b, o, none⟩), some fd => cond (Nat.beq (sizeT K fd.type) 0) .bad (.pure (.pointer (some ⟨b, o + fd.offset, none⟩)))
  | _, _ => .bad
noncomputable def q_field (K : PK) (E : Env) (s : TypeId) (x : Operand) (f : Nat) : Q := match rd E x, field? K s f with
  | .agg cs, some fd => Q.of (partV K fd.type cs.toList fd.offset)
  | _, _ => .bad
noncomputable def q_indexAddr (K : PK) (E : Env) (t : TypeId) (x i : Operand) : Q := match K.und t, rd E x, natOf (rd E i) with
  | some (.slice e), .slice (some ⟨b, o, none⟩) n _, some i => match K.info e with
    | some d => cond (Nat.blt i n) (.pure (.pointer (some ⟨b, o + i * d.size, none⟩))) .bad
    | none => .bad
  | some (.array n e), .pointer (some ⟨b, o, none⟩), some i => match K.info e with
    | some d => cond (Nat.blt i n) (.pure (.pointer (some ⟨b, o + i * d.size, none⟩))) .bad
    | none => .bad
  | _, _, _ => .bad
noncomputable def q_index (K : PK) (E : Env) (o : Oper) (t : TypeId) (x i : Operand) : Q := match K.und t, rd E x, natOf (rd E i) with
  | some (.array n e), .agg cs, some i => match K.info e with
    | some d => cond (Nat.blt i n) (Q.of (partV K e cs.toList (i * d.size))) .bad
    | none => .bad
  | _, _, _ => fallback K E o
noncomputable def q_extract (E : Env) (t : Operand) (i : Nat) : Q := match rd E t with
  | .tuple vs => Q.of vs.toList[i]?
  | _ => .bad
noncomputable def q_lookup (K : PK) (E : Env) (t : TypeId) (x ix : Operand) (ok : Bool) : Q := .read (aLookup K t (rd E x) (rd E ix) ok)
noncomputable def q_mapUpdate (K : PK) (E : Env) (t : TypeId) (mp k x : Operand) : Q := .eff (aMapUpdate K t (rd E mp) (rd E k) (rd E x))
noncomputable def q_len (K : PK) (E : Env) (o : Oper) (args : Array Operand) (ts : Array TypeId) : Q := match ts.toList, args.toList with
  | t :: _, x :: _ => match K.und t, rd E x with
    | some (.slice _), .slice _ n _ => .pure (.int .i64 (.ofNat n))
    | some (.map ..), .map r => .read (fun h => match entriesOf h (.map r) with | some es => some (.int .i64 (.ofNat es.length)) | none => none)
    | _, _ => fallback K E o
  | _, _ => .bad
/-- A type whose values can be appended. -/
def srcT (K : PK) (u : TypeId) : Bool := match K.und u with
  | some (.slice _) => true
  | some .string => true
  | _ => false
noncomputable def q_append (K : PK) (E : Env) (args : Array Operand) (ts : Array TypeId) : Q := match ts.toList, args.toList with
  | [t, u], [s, x] => cond (srcT K u) (.eff (aAppend K t (rd E s) (rd E x))) .bad
  | _, _ => .bad
noncomputable def q_copy (K : PK) (E : Env) (args : Array Operand) (ts : Array TypeId) : Q := match ts.toList, args.toList with
  | t :: _, [s, x] => .eff (aCopy K t (rd E s) (rd E x))
  | _, _ => .bad
noncomputable def q_delete (K : PK) (E : Env) (args : Array Operand) (ts : Array TypeId) : Q := match ts.toList, args.toList with
  | t :: _, [s, x] => .eff (aDelete K t (rd E s) (rd E x))
  | _, _ => .bad
noncomputable def q_builtin (K : PK) (E : Env) (o : Oper) (b : Builtin) (args : Array Operand) (ts : Array TypeId) : Q :=
  match b with
  | .len => q_len K E o args ts
  | .append => q_append K E args ts
  | .copy => q_copy K E args ts
  | .delete => q_delete K E args ts
  | .min | .max => fallback K E o
  | _ => .bad
noncomputable def q_callv (c : Cx) (args : List Value) : Value → Q
  | .func (.func g) first captured => .eff (c.cf g (first.toList ++ args ++ captured.toList))
  | .func (.yield l) _ _ => .eff (c.rf l args)
  | _ => .bad
noncomputable def q_ext (K : PK) (E : Env) (o : Oper) (g : FuncId) : Q → Q := fun q =>
  match K.fn g with
  | some fn => match fn.body with
    | some _ => q
    | none => fallback K E o
  | none => .bad
noncomputable def q_call (K : PK) (c : Cx) (E : Env) (o : Oper) (k : Call) : Q := match k.callee with
  | .value f => match rd E f with
    | .func (.func g) first captured => q_ext K E o g (q_callv c (k.args.toList.map (rd E)) (.func (.func g) first captured))
    | v => q_callv c (k.args.toList.map (rd E)) v
  | .builtin b => q_builtin K E o b k.args k.argTypes
  | .invoke _ _ => .bad
noncomputable def q_defer (E : Env) (k : Call) : Q := match k.callee with
  | .value f => match rd E f with
    | .func (.func g) a b => .defer (.func (.func g) a b) (k.args.toList.map (rd E))
    | _ => .bad
  | _ => .bad
noncomputable def opK : Op → PK → Cx → Env → Oper → Q :=
  @Op.rec (fun _ => PK → Cx → Env → Oper → Q)
    (fun x _ _ E _ => q_move E x)
    (fun x _ _ E _ => q_move E x)
    (fun x a b _ _ E _ => q_pick E x a b)
    (fun t K _ _ _ => q_alloc K t)
    (fun t x _ _ E _ => q_box E t x)
    (fun t ps K _ E _ => q_build K E t ps)
    (fun t n ps K _ E _ => q_buildSlice K E t n ps)
    (fun t m k x K _ E _ => q_mapUpdate K E t m k x)
    (fun t a K _ E _ => q_load K E t a)
    (fun t a x K _ E _ => q_store K E t a x)
    (fun _ _ _ _ _ => .bad)
    (fun _ _ _ _ _ => .bad)
    (fun x _ _ E _ => q_nilCheck E x)
    (fun op t x y _ K _ E o => q_binOp K E o op t x y)
    (fun op _ x K _ E o => q_unOp K E o op x)
    (fun s d x K _ E o => q_convert K E o s d x)
    (fun t x K _ E _ => q_arrPtr K E t x)
    (fun _ _ _ _ _ _ => .bad)
    (fun f a b _ _ E _ => q_makeFunc E f a b)
    (fun _ r _ _ _ _ => q_makeMap r)
    (fun _ _ _ _ _ _ => .bad)
    (fun t l k K _ E _ => q_makeSlice K E t l k)
    (fun t x a b d K _ E _ => q_slice K E t x a b d)
    (fun t x f K _ E _ => q_fieldAddr K E t x f)
    (fun t x f K _ E _ => q_field K E t x f)
    (fun t x i K _ E _ => q_indexAddr K E t x i)
    (fun t x i K _ E o => q_index K E o t x i)
    (fun t x i k K _ E _ => q_lookup K E t x i k)
    (fun t m k x K _ E _ => q_mapUpdate K E t m k x)
    (fun _ _ _ _ _ _ _ => .bad)
    (fun _ _ _ _ _ _ _ _ => .bad)
    (fun t x K _ E _ => q_range K E t x)
    (fun x b _ _ E _ => q_next E x b)
    (fun _ _ _ _ _ => .bad)
    (fun _ _ _ _ _ _ _ _ => .bad)
    (fun t i _ _ E _ => q_extract E t i)
    (fun k K c E o => q_call K c E o k)
    (fun _ _ _ _ _ => .bad)
    (fun k _ _ E _ => q_defer E k)
    (fun _ _ _ _ _ => .bad)
    (fun _ _ _ _ _ _ => .bad)
    (fun _ _ _ _ _ _ _ => .bad)
    (fun _ _ _ _ _ _ => .bad)
noncomputable def aQ (K : PK) (c : Cx) (E : Env) (o : Oper) : Q := opK o.op K c E o

noncomputable def envOf (i : Nat) (l : List Value) (E : Env) : Env := match l with
  | [] => E
  | v :: vs => envOf (i + 1) vs (setV E i v)

/- A region whose order is drawn. What waits for what: masks, packed, 256 bits for each operation. -/
noncomputable def forced {α : Type} (k : Nat → α) (n : Nat) : α := @Nat.rec (fun _ => α) (k 0) (fun m _ => k (Nat.succ m)) n
theorem forced_eq {α : Type} (k : Nat → α) (n : Nat) : forced k n = k n := by cases n <;> rfl
def W256 : Nat := 115792089237316195423570985008687907853269984665640564039457584007913129639936
noncomputable def rowOf (B i : Nat) : Nat := Nat.mod (Nat.shiftRight B (Nat.mul 256 i)) W256
noncomputable def maskK : List Edge → Nat → Nat → Nat :=
  @List.rec Edge (fun _ => Nat → Nat → Nat) (fun _ s => s)
    (fun e _ ih B s => @Bool.rec (fun _ => Nat) (ih B s) (ih B (Nat.lor s (Nat.lor (Nat.shiftLeft 1 e.on) (rowOf B e.on)))) (Region.binds .any e))
noncomputable def befs : List Oper → Nat → Nat → Nat :=
  @List.rec Oper (fun _ => Nat → Nat → Nat) (fun _ B => B)
    (fun o _ ih i B => forced (ih (Nat.succ i)) (Nat.lor B (Nat.shiftLeft (Nat.mod (maskK o.after.toList B 0) W256) (Nat.mul 256 i))))
noncomputable def bef (B i j : Nat) : Bool := Nat.beq (Nat.land (Nat.shiftRight (rowOf B i) j) 1) 1
noncomputable def effCallee : Callee → Bool := @Callee.rec (fun _ => Bool) (fun _ => true) (fun _ _ => true) (fun b => match b with | .len | .min | .max => false | _ => true)
noncomputable def isEff : Op → Bool :=
  @Op.rec (fun _ => Bool) (fun _ => false) (fun _ => false) (fun _ _ _ => false) (fun _ => false) (fun _ _ => false) (fun _ _ => false) (fun _ _ _ => false) (fun _ _ _ _ => true) (fun _ _ => false)
    (fun _ _ _ => true) (fun _ => false) (fun _ => false) (fun _ => false) (fun _ _ _ _ _ => false) (fun _ _ _ => false) (fun _ _ _ => false) (fun _ _ => false) (fun _ _ => false) (fun _ _ _ => false) (fun _ _ => false) (fun _ _ => false) (fun _ _ _ => false) (fun _ _ _ _ _ => false) (fun _ _ _ => false) (fun _ _ _ => false) (fun _ _ _ => false) (fun _ _ _ => false) (fun _ _ _ _ => false)
    (fun _ _ _ _ => true) (fun _ _ _ => false) (fun _ _ _ _ => false) (fun _ _ => true) (fun _ _ => true) (fun _ => false) (fun _ _ _ _ => false) (fun _ _ => false)
    (fun k => effCallee k.callee) (fun _ => false) (fun _ => true) (fun _ => false) (fun _ _ => false) (fun _ _ _ => false) (fun _ _ => false)
def tmpsOf (l : List Operand) : List Tmp := l.filterMap fun | .tmp t => some t | _ => none
/-- The temporaries that an operation looks at. -/
def readsOf (ops : Array Oper) (o : Oper) : List Tmp := tmpsOf o.op.operands.toList ++ (match o.guard with
  | some (g, _) => match (ops[g]?).bind (·.dst) with | some d => [d] | none => []
  | none => [])
def clash (ops : Array Oper) (a b : Oper) : Bool :=
  (match a.dst with | some d => (readsOf ops b).contains d || b.dst == some d | none => false) || (match b.dst with | some d => (readsOf ops a).contains d | none => false)
noncomputable def optL : Option Operand → List Operand → List Operand := @Option.rec Operand (fun _ => List Operand → List Operand) (fun l => l) (fun x l => x :: l)
noncomputable def sndL : List (Nat × Operand) → List Operand := @List.rec (Nat × Operand) (fun _ => List Operand) [] (fun x _ ih => x.2 :: ih)
noncomputable def joinL : List Operand → List Operand → List Operand := @List.rec Operand (fun _ => List Operand → List Operand) (fun r => r) (fun x _ ih r => x :: ih r)
noncomputable def callL : Callee → List Operand → List Operand := @Callee.rec (fun _ => List Operand → List Operand) (fun f l => f :: l) (fun r _ l => r :: l) (fun _ l => l)
noncomputable def opsL : Op → List Operand :=
  @Op.rec (fun _ => List Operand) (fun x => [x]) (fun x => [x]) (fun x a b => [x, a, b]) (fun _ => []) (fun _ x => [x]) (fun _ ps => sndL ps.toList) (fun _ _ ps => sndL ps.toList) (fun _ m k v => [m, k, v]) (fun _ a => [a])
    (fun _ a v => [a, v]) (fun _ => []) (fun _ => []) (fun x => [x]) (fun _ _ x y _ => [x, y]) (fun _ _ x => [x]) (fun _ _ x => [x]) (fun _ x => [x]) (fun _ x => [x]) (fun _ a b => joinL a.toList b.toList) (fun _ r => optL r []) (fun _ x => [x]) (fun _ a v => [a, v]) (fun _ x l h m => x :: optL l (optL h (optL m []))) (fun _ x _ => [x]) (fun _ x _ => [x]) (fun _ a v => [a, v]) (fun _ a v => [a, v]) (fun _ a v _ => [a, v])
    (fun _ m k v => [m, k, v]) (fun _ a v => [a, v]) (fun _ m k v => [m, k, v]) (fun _ x => [x]) (fun x _ => [x]) (fun x => [x]) (fun x _ _ _ => [x]) (fun x _ => [x])
    (fun k => callL k.callee k.args.toList) (fun k => callL k.callee k.args.toList) (fun k => callL k.callee k.args.toList) (fun x => [x]) (fun a v => [a, v]) (fun _ x _ => [x]) (fun cs _ => (cs.flatMap fun c => #[c.chan] ++ c.send.toArray).toList)
/-- All that an operation looks at: its guard's temporary first. -/
noncomputable def gdK : Option (Nat × Bool) → Array Oper → List Operand → List Operand :=
  @Option.rec (Nat × Bool) (fun _ => Array Oper → List Operand → List Operand) (fun _ l => l)
    (fun g ops l => @Option.rec Tmp (fun _ => List Operand) l (fun d => .tmp d :: l) ((ops[g.1]?).bind (·.dst)))
noncomputable def rdsK (ops : Array Oper) (o : Oper) : List Operand := gdK o.guard ops (opsL o.op)
noncomputable def slot (W s t : Nat) : Nat := Nat.mod (Nat.shiftRight W (Nat.mul s t)) (Nat.shiftLeft 1 s)
noncomputable def subQ (a m : Nat) : Bool := Nat.beq (Nat.land a m) a
noncomputable def tmpQ : Operand → Nat → Nat → Nat → Bool :=
  @Operand.rec (fun _ => Nat → Nat → Nat → Bool) (fun t W s m => subQ (slot W s t) m) (fun _ _ _ _ => true) (fun _ _ _ _ => true) (fun _ _ _ _ => true)
noncomputable def rdQ : List Operand → Nat → Nat → Nat → Bool :=
  @List.rec Operand (fun _ => Nat → Nat → Nat → Bool) (fun _ _ _ => true)
    (fun x _ ih W s m => @Bool.rec (fun _ => Bool) false (ih W s m) (tmpQ x W s m))
noncomputable def tmpA : Operand → Nat → Nat → Nat → Nat :=
  @Operand.rec (fun _ => Nat → Nat → Nat → Nat) (fun t A s i => Nat.lor A (Nat.shiftLeft 1 (Nat.add (Nat.mul s t) i))) (fun _ A _ _ => A) (fun _ A _ _ => A) (fun _ A _ _ => A)
noncomputable def rdA : List Operand → Nat → Nat → Nat → Nat :=
  @List.rec Operand (fun _ => Nat → Nat → Nat → Nat) (fun A _ _ => A) (fun x _ ih A s i => ih (tmpA x A s i) s i)
noncomputable def edQ : List Edge → Nat → Bool :=
  @List.rec Edge (fun _ => Nat → Bool) (fun _ => true)
    (fun e _ ih i => @Bool.rec (fun _ => Bool) (ih i) (@Bool.rec (fun _ => Bool) false (ih i) (Nat.blt e.on i)) (Region.binds .any e))
noncomputable def dstQ : Option Tmp → Nat → Nat → Nat → Bool := @Option.rec Tmp (fun _ => Nat → Nat → Nat → Bool) (fun _ _ _ => true) (fun t A s m => subQ (slot A s t) m)
noncomputable def dstA : Option Tmp → Nat → Nat → Nat → Nat := @Option.rec Tmp (fun _ => Nat → Nat → Nat → Nat) (fun A _ _ => A) (fun t A s i => Nat.lor A (Nat.shiftLeft 1 (Nat.add (Nat.mul s t) i)))
/-- No operation clashes with an earlier one that it does not wait for. W: who writes; A: who reads or writes. -/
noncomputable def clashQ : List Oper → Array Oper → Nat → Nat → Nat → Nat → Nat → Bool :=
  @List.rec Oper (fun _ => Array Oper → Nat → Nat → Nat → Nat → Nat → Bool) (fun _ _ _ _ _ _ => true)
    (fun o _ ih ops s B i W A => @Bool.rec (fun _ => Bool) false
      (@Bool.rec (fun _ => Bool) false
        (@Bool.rec (fun _ => Bool) false
          (forced (fun W' => forced (ih ops s B (Nat.succ i) W') (dstA o.dst (rdA (rdsK ops o) A s i) s i)) (dstA o.dst W s i))
          (dstQ o.dst A s (rowOf B i)))
        (rdQ (rdsK ops o) W s (rowOf B i)))
      (edQ o.after.toList i))
/-- What acts; then all, stage by stage: what waits for none of those that have not acted yet, then the next that acts. -/
noncomputable def effs : List (Nat × Oper) → List (Nat × Oper) :=
  @List.rec (Nat × Oper) (fun _ => List (Nat × Oper)) [] (fun x _ ih => @Bool.rec (fun _ => List (Nat × Oper)) ih (x :: ih) (isEff x.2.op))
noncomputable def rests : List (Nat × Oper) → List (Nat × Oper) :=
  @List.rec (Nat × Oper) (fun _ => List (Nat × Oper)) [] (fun x _ ih => @Bool.rec (fun _ => List (Nat × Oper)) (x :: ih) ih (isEff x.2.op))
noncomputable def effMask : List (Nat × Oper) → Nat := @List.rec (Nat × Oper) (fun _ => Nat) 0 (fun x _ ih => Nat.lor (Nat.shiftLeft 1 x.1) ih)
noncomputable def freeTo : List (Nat × Oper) → Nat → Nat → List (Nat × Oper) → List (Nat × Oper) :=
  @List.rec (Nat × Oper) (fun _ => Nat → Nat → List (Nat × Oper) → List (Nat × Oper)) (fun _ _ l => l)
    (fun x _ ih B U l => @Bool.rec (fun _ => List (Nat × Oper)) (ih B U l) (x :: ih B U l) (Nat.beq (Nat.land (rowOf B x.1) U) 0))
noncomputable def heldK : List (Nat × Oper) → Nat → Nat → List (Nat × Oper) :=
  @List.rec (Nat × Oper) (fun _ => Nat → Nat → List (Nat × Oper)) (fun _ _ => [])
    (fun x _ ih B U => @Bool.rec (fun _ => List (Nat × Oper)) (x :: ih B U) (ih B U) (Nat.beq (Nat.land (rowOf B x.1) U) 0))
noncomputable def stages : List (Nat × Oper) → Nat → List (Nat × Oper) → List (Nat × Oper) :=
  @List.rec (Nat × Oper) (fun _ => Nat → List (Nat × Oper) → List (Nat × Oper)) (fun _ l => l)
    (fun e r ih B l => forced (fun U => freeTo l B U (e :: ih B (heldK l B U))) (effMask (e :: r)))
noncomputable def numbered : List Oper → Nat → List (Nat × Oper) :=
  @List.rec Oper (fun _ => Nat → List (Nat × Oper)) (fun _ => []) (fun o _ ih i => (i, o) :: ih (Nat.succ i))
noncomputable def ordOf (ops : Array Oper) (B : Nat) : List (Nat × Oper) := stages (effs (numbered ops.toList 0)) B (rests (numbered ops.toList 0))
def laterOk (B : Nat) : List (Nat × Oper) → Prop
  | [] => True
  | x :: r => (∀ y ∈ r, x.1 ≠ y.1 ∧ bef B x.1 y.1 = false) ∧ laterOk B r
def actsOk (B : Nat) : List (Nat × Oper) → Prop
  | [] => True
  | x :: r => (isEff x.2.op = true → ∀ y ∈ r, bef B y.1 x.1 = true) ∧ actsOk B r
/-- None comes after one that waits for it, or twice (A); all wait for what has acted (S). -/
noncomputable def ordQ : List (Nat × Oper) → Nat → Nat → Nat → Bool :=
  @List.rec (Nat × Oper) (fun _ => Nat → Nat → Nat → Bool) (fun _ _ _ => true)
    (fun x _ ih B A S => @Bool.rec (fun _ => Bool) false
      (@Bool.rec (fun _ => Bool) false
        (forced (fun A' => forced (ih B A') (@Bool.rec (fun _ => Nat) S (Nat.lor S (Nat.shiftLeft 1 x.1)) (isEff x.2.op))) (Nat.lor A (Nat.lor (Nat.shiftLeft 1 x.1) (rowOf B x.1))))
        (subQ S (rowOf B x.1)))
      (Nat.beq (Nat.land (Nat.shiftRight A x.1) 1) 0))
structure Drw where
  B : Nat
  ord : List (Nat × Oper)
noncomputable def drwB (ops : Array Oper) (B : Nat) : Option Drw :=
  @Bool.rec (fun _ => Option Drw) none (@Bool.rec (fun _ => Option Drw) none (some ⟨B, ordOf ops B⟩) (ordQ (ordOf ops B) B 0 0)) (clashQ ops.toList ops ops.size B 0 0 0)
noncomputable def drwOf (ops : Array Oper) : Option Drw := forced (drwB ops) (befs ops.toList 0 0)
def veq : Nat → Value → Value → Bool
  | 0, _, _ => false
  | n + 1, a, b => match a, b with
    | .bool x, .bool y => x == y
    | .int k x, .int j y => Nat.beq (kindNo k) (kindNo j) && ieq x y
    | .float k x, .float j y => decide (k = j) && Nat.beq x y
    | .string x, .string y => x.data.toList == y.data.toList
    | .pointer none, .pointer none => true
    | .pointer (some ⟨b, o, none⟩), .pointer (some ⟨c, p, none⟩) => Nat.beq b c && Nat.beq o p
    | .slice none n c, .slice none m d => Nat.beq n m && Nat.beq c d
    | .slice (some ⟨b, o, none⟩) n c, .slice (some ⟨b', p, none⟩) m d => Nat.beq b b' && Nat.beq o p && Nat.beq n m && Nat.beq c d
    | .map none, .map none => true
    | .map (some r), .map (some q) => Nat.beq r q
    | .func (.func f) x y, .func (.func g) x' y' => Nat.beq f g && veqs n x.toList x'.toList && veqs n y.toList y'.toList
    | .nilFunc, .nilFunc => true
    | .nilIface, .nilIface => true
    | .agg x, .agg y => veqs n x.toList y.toList
    | .tuple x, .tuple y => veqs n x.toList y.toList
    | _, _ => false
where veqs (n : Nat) : List Value → List Value → Bool
  | [], [] => true
  | a :: l, b :: r => veq n a b && veqs n l r
  | _, _ => false

noncomputable def boolOf : Value → Option Bool
  | .bool b => some b
  | _ => none
def wantV (w : Bool) : Value → Option Bool
  | .bool b => some (cond w b (!b))
  | .tuple cs => cond (Nat.beq cs.size 0) (some false) none
  | _ => none
/-- Is a guarded operation carried out? none: that is not known. -/
noncomputable def wantK : Option (Nat × Bool) → Array Oper → Env → Option Bool :=
  @Option.rec (Nat × Bool) (fun _ => Array Oper → Env → Option Bool) (fun _ _ => some true)
    (fun g ops E => match (ops[g.1]?).bind (·.dst) with
      | some d => wantV g.2 (getV E d)
      | none => some false)

abbrev DL := List (Value × List Value)
structure St where
  E : Env
  D : DL
  h : AH
inductive SR where
  | bad
  | ok (E : Env) (D : DL) (h : AH)
/-- A value goes into a temporary that is there. -/
noncomputable def okP : Option Tmp → Nat → Env → Value → DL → AH → SR :=
  @Option.rec Tmp (fun _ => Nat → Env → Value → DL → AH → SR) (fun _ E _ D h => .ok E D h)
    (fun d n E v D h => @Bool.rec (fun _ => SR) .bad (.ok (setFV 24 E d v) D h) (Nat.blt d n))
noncomputable def aOneK : Q → Option Tmp → Nat → Env → DL → AH → SR :=
  @Q.rec (fun _ => Option Tmp → Nat → Env → DL → AH → SR) (fun _ _ _ _ _ => .bad)
    (fun v d n E D h => okP d n E v D h)
    (fun f d n E D h => @Option.rec Value (fun _ => SR) .bad (fun v => okP d n E v D h) (f h))
    (fun b mk d n E D h => @Bool.rec (fun _ => SR) .bad (okP d n E (mk h.n) D ⟨setB h.t h.n (some b), h.n + 1⟩) (Nat.blt h.n 16000000))
    (fun f d n E D h => @R.rec (fun _ => SR) .bad (fun v h => okP d n E v D h) (f h))
    (fun f args d n E D h => okP d n E undef ((f, args) :: D) h)
/-- One operation, carried out or not. -/
noncomputable def aOp (K : PK) (c : Cx) (n : Nat) (ops : Array Oper) (o : Oper) (E : Env) (D : DL) (h : AH) : SR :=
  @Option.rec Bool (fun _ => SR) .bad (fun b => @Bool.rec (fun _ => SR) (okP o.dst n E undef D h) (aOneK (opK o.op K c E o) o.dst n E D h) b) (wantK o.guard ops E)
/-- The operations of a region whose order is its text's. -/
noncomputable def aSeqK : List Oper → PK → Cx → Nat → Array Oper → Env → DL → AH → SR :=
  @List.rec Oper (fun _ => PK → Cx → Nat → Array Oper → Env → DL → AH → SR) (fun _ _ _ _ E D h => .ok E D h)
    (fun o _ ih K c n ops E D h => @SR.rec (fun _ => SR) .bad (fun E D h => ih K c n ops E D h) (aOp K c n ops o E D h))
structure Pend where
  i : Nat
  f : AH → Option Value
  v : Value
def pendsOk (h : AH) : List Pend → Bool
  | [] => true
  | p :: r => (match p.f h with | some v => veq 4 v p.v | none => false) && pendsOk h r
/-- What has been read and could be read later still. -/
def pendsOf (q : Q) (i : Nat) (h : AH) (ps : List Pend) : List Pend := match q with
  | .read f => match f h with | some v => ⟨i, f, v⟩ :: ps | none => ps
  | _ => ps
def actsQ : Q → Bool
  | .eff _ => true
  | .defer _ _ => true
  | _ => false
/-- The operations of a region whose order is drawn, in their own order. -/
noncomputable def drw1 (K : PK) (c : Cx) (n : Nat) (ops : Array Oper) (B : Nat) (i : Nat) (o : Oper) (ih : Env → DL → AH → List Pend → SR) (E : Env) (D : DL) (h : AH) (ps : List Pend) : SR :=
  match wantK o.guard ops E with
    | none => .bad
    | some false => match okP o.dst n E undef D h with
      | .ok E D h => ih E D h ps
      | .bad => .bad
    | some true => match isEff o.op with
      | true => cond (pendsOk h ps) (match aOneK (opK o.op K c E o) o.dst n E D h with
        | .ok E D h => ih E D h (ps.filter fun p => !bef B i p.i)
        | .bad => .bad) .bad
      | false => cond (actsQ (opK o.op K c E o)) .bad (match aOneK (opK o.op K c E o) o.dst n E D h with
        | .ok E' D' h' => ih E' D' h' (pendsOf (opK o.op K c E o) i h ps)
        | .bad => .bad)
noncomputable def aDrw (K : PK) (c : Cx) (n : Nat) (ops : Array Oper) (B : Nat) : List (Nat × Oper) → Env → DL → AH → List Pend → SR :=
  @List.rec (Nat × Oper) (fun _ => Env → DL → AH → List Pend → SR) (fun E D h ps => cond (pendsOk h ps) (.ok E D h) .bad)
    (fun x _ ih => drw1 K c n ops B x.1 x.2 ih)
theorem aDrw_nil (K : PK) (c : Cx) (n : Nat) (ops : Array Oper) (B : Nat) (E : Env) (D : DL) (h : AH) (ps : List Pend) : aDrw K c n ops B [] E D h ps = cond (pendsOk h ps) (.ok E D h) .bad := rfl
theorem aDrw_cons (K : PK) (c : Cx) (n : Nat) (ops : Array Oper) (B : Nat) (i : Nat) (o : Oper) (r : List (Nat × Oper)) (E : Env) (D : DL) (h : AH) (ps : List Pend) : aDrw K c n ops B ((i, o) :: r) E D h ps = drw1 K c n ops B i o (aDrw K c n ops B r) E D h ps := rfl
structure Out where
  s : St
  j : Option Code
inductive CR where
  | bad
  | next (todo : List Item) (s : St)
  | out (s : St) (j : Option Code)

noncomputable def c_cond (E : Env) (x : Operand) (a b : Code) (k : List Item) (s : St) : CR := match rd E x with
  | .bool t => .next (.code (cond t a b) :: k) s
  | _ => .bad
def c_exit (id : Nat) (k : List Item) (s : St) : CR := match exitTo id k with
  | some k => .next k s
  | none => .out s (some (.exit id))
def c_goto (l : Nat) (k : List Item) (s : St) : CR := match gotoIn l k with
  | some k => .next k s
  | none => .out s (some (.goto l))
def noDefer (l : List Oper) : Bool := l.all fun o => match o.op with | .defer _ => false | _ => true
noncomputable def c_region (K : PK) (c : Cx) (ro : Option Nat) (n : Nat) (ops : Array Oper) (draw : Bool) (k : List Item) (s : St) : CR :=
  cond (ro.isNone || noDefer ops.toList) (match draw with
  | false => match aSeqK ops.toList K c n ops s.E s.D s.h with
    | .ok E D h => .next k ⟨E, D, h⟩
    | .bad => .bad
  | true => match drwOf ops with
    | some d => match aDrw K c n ops d.B d.ord s.E s.D s.h [] with
      | .ok E D h => .next k ⟨E, D, h⟩
      | .bad => .bad
    | none => .bad) .bad
noncomputable def c_enter (ro : Option Nat) (s : St) : Option (Nat × St) := match ro with
  | none => cond (Nat.blt s.h.n 15000000) (some (s.h.n, ⟨s.E, (.pointer (some ⟨s.h.n, 0, none⟩), []) :: s.D, ⟨setB s.h.t s.h.n (some .defs), s.h.n + 1⟩⟩)) none
  | some l => match getB s.h.t l with
    | some (.loop _ _ _ _ _ _ _ d _) => some (d, s)
    | _ => none
noncomputable def c_rangeFunc (c : Cx) (ro : Option Nat) (fn n : Nat) (f : Operand) (params : Array Tmp) (assign body : Code) (k : List Item) (s : St) : CR :=
  match c_enter ro s, rd s.E f with
  | some (d, s1), .func (.func g) first captured => cond (Nat.blt s1.h.n 16000000)
    (match c.cf g (first.toList ++ [.func (.yield s1.h.n) #[] #[]] ++ captured.toList) ⟨setB s1.h.t s1.h.n (some (.loop .ready none fn s1.E params.toList assign body d n)), s1.h.n + 1⟩ with
    | .ok _ h => match getB h.t s1.h.n with
      | some (.loop st p a b c d e f g) => (match st with
        | .busy => .bad
        | _ => .next (match p with | some j => .code j :: k | none => k) ⟨s1.E, s1.D, ⟨setB h.t s1.h.n (some (.loop .exhausted p a b c d e f g)), h.n⟩⟩)
      | _ => .bad
    | .bad => .bad) .bad
  | _, _ => .bad
noncomputable def c_round (ro : Option Nat) (k : List Item) (s : St) : CR := match ro with
  | some l => match getB s.h.t l with
    | some (.loop .ready p a b c d e f g) => .next k ⟨s.E, s.D, ⟨setB s.h.t l (some (.loop .busy p a b c d e f g)), s.h.n⟩⟩
    | _ => .bad
  | none => .bad
noncomputable def codeK : Code → PK → Cx → Option Nat → FuncId → Nat → List Item → St → CR :=
  @Code.rec (fun _ => PK → Cx → Option Nat → FuncId → Nat → List Item → St → CR)
    (fun _ _ _ _ _ k s => .next k s)
    (fun _ ops d K c ro _ n k s => c_region K c ro n ops d k s)
    (fun a b _ _ _ _ _ _ _ k s => .next (.code a :: .code b :: k) s)
    (fun x a b _ _ _ _ _ _ _ k s => c_cond s.E x a b k s)
    (fun id b _ _ _ _ _ _ k s => .next (.code b :: .inBlock id :: k) s)
    (fun b _ _ _ _ _ _ k s => .next (.code b :: .inLoop b :: k) s)
    (fun f ps a b _ _ _ c ro fn n k s => c_rangeFunc c ro fn n f ps a b k s)
    (fun id _ _ _ _ _ k s => c_exit id k s)
    (fun b _ _ _ _ _ _ k s => .next (.code b :: .inScope b :: k) s)
    (fun _ _ _ _ _ _ k s => .next k s)
    (fun l _ _ _ _ _ k s => c_goto l k s)
    (fun _ _ _ _ _ _ s => .out s (some .ret))
    (fun _ _ _ _ _ _ _ _ => .bad)
noncomputable def itemK : Item → PK → Cx → Option Nat → FuncId → Nat → List Item → St → CR :=
  @Item.rec (fun _ => PK → Cx → Option Nat → FuncId → Nat → List Item → St → CR)
    codeK
    (fun _ _ _ _ _ _ k s => .next k s)
    (fun b _ _ _ _ _ k s => .next (.code b :: .inLoop b :: k) s)
    (fun _ _ _ _ _ _ k s => .next k s)
    (fun _ _ _ _ _ _ _ _ _ => .bad)
    (fun _ _ _ _ _ _ _ _ => .bad)
    (fun _ _ _ _ _ _ _ _ => .bad)
    (fun _ _ ro _ _ k s => c_round ro k s)
    (fun _ _ _ _ _ _ _ _ _ _ _ => .bad)
    (fun _ _ _ _ _ _ _ _ _ => .bad)
noncomputable def stepK : List Item → PK → Cx → Option Nat → FuncId → Nat → St → CR :=
  @List.rec Item (fun _ => PK → Cx → Option Nat → FuncId → Nat → St → CR) (fun _ _ _ _ _ s => .out s none) (fun x k _ K c ro fn n s => itemK x K c ro fn n k s)
noncomputable def execK : Nat → PK → Cx → Option Nat → FuncId → Nat → List Item → St → Option Out :=
  @Nat.rec (fun _ => PK → Cx → Option Nat → FuncId → Nat → List Item → St → Option Out) (fun _ _ _ _ _ _ _ => none)
    (fun _ ih K c ro fn n todo s => @CR.rec (fun _ => Option Out) none (fun todo s => ih K c ro fn n todo s) (fun s j => some ⟨s, j⟩) (stepK todo K c ro fn n s))

noncomputable def resV (K : PK) (E : Env) (h : AH) : ResultVar → Option Value
  | .tmp t => some (getV E t)
  | .cell a t => match getV E a with
    | .pointer (some ⟨b, o, none⟩) => match tyD K t with
      | some (true, n) => match rdCells h b o n with | some l => some (.agg l.toArray) | none => none
      | some (false, _) => rdCell h b o
      | none => none
    | _ => none
noncomputable def resVs (K : PK) (E : Env) (h : AH) : List ResultVar → Option (List Value)
  | [] => some []
  | r :: rs => match resV K E h r, resVs K E h rs with
    | some v, some vs => some (v :: vs)
    | _, _ => none
def oneOr : List Value → Value
  | [v] => v
  | vs => .tuple vs.toArray
noncomputable def aDefers (cf : CallF) : DL → AH → Option AH
  | [], h => some h
  | (f, args) :: D, h => match f with
    | .func (.func g) first captured => match cf g (first.toList ++ args ++ captured.toList) h with
      | .ok _ h => aDefers cf D h
      | .bad => none
    | .pointer (some ⟨r, 0, none⟩) => match getB h.t r with
      | some .defs => aDefers cf D ⟨setB h.t r none, h.n⟩
      | _ => none
    | _ => none
def leaves : Option Code → Bool
  | none => true
  | some .ret => true
  | _ => false
noncomputable def aFunc (K : PK) (c : Cx) (fuel : Nat) (f : FuncId) (args : List Value) (h : AH) : R :=
  match K.fn f with
  | some fn => match fn.body with
    | some b => cond (Nat.ble fn.ntmps 65536 && Nat.ble args.length fn.ntmps) (match execK fuel K c none f fn.ntmps [.code b] ⟨envOf 0 args .nil, [], h⟩ with
      | some ⟨⟨E, D, h⟩, j⟩ => cond (leaves j) (match aDefers c.cf D h with
          | some h => match resVs K E h fn.results.toList with
            | some vs => .ok (oneOr vs) h
            | none => .bad
          | none => .bad) .bad
      | none => .bad) .bad
    | none => .bad
  | none => .bad
noncomputable def setPs (n : Nat) : List Tmp → List Value → Env → Option Env
  | t :: ts, v :: vs, E => cond (Nat.blt t n) (setPs n ts vs (setV E t v)) none
  | [], [], E => some E
  | _, _, _ => none
noncomputable def aRound (K : PK) (c : Cx) (fuel : Nat) (l : Nat) (args : List Value) (h : AH) : R :=
  match getB h.t l with
  | some (.loop _ _ fn E ps assign body _ n) => match setPs n ps args E with
    | some E => cond (Nat.ble N0 l && Nat.ble n 65536) (match execK fuel K c (some l) fn n [.code assign, .beginRound, .code body] ⟨E, [], h⟩ with
      | some ⟨⟨_, [], h⟩, j⟩ => match getB h.t l with
        | some (.loop _ _ a E ps assign body d n) => .ok (.bool j.isNone) ⟨setB h.t l (some (.loop (cond j.isNone .ready .done) j a E ps assign body d n)), h.n⟩
        | _ => .bad
      | _ => .bad) .bad
    | none => .bad
  | _ => .bad
noncomputable def callK : Nat → PK → Nat → Cx :=
  @Nat.rec (fun _ => PK → Nat → Cx) (fun _ _ => ⟨fun _ _ _ => .bad, fun _ _ _ => .bad⟩)
    (fun _ ih K fuel => ⟨aFunc K (ih K fuel) fuel, aRound K (ih K fuel) fuel⟩)
end Go.Proofs.YtdkebebingchpaaGreatDoor.Ru
