/- The runner: the machine's steps. -/
import Derived.Test.YthahmfeaekddnaaGreatDoorRuO
import Derived.Defers
namespace Go.Proofs.YthahmfeaekddnaaGreatDoor.Ru
open Go Go.RowKit

/-- A frame at work. -/
def mkF (fn : FuncId) (kind : CallKind) (ro : Option Nat) (tmps : Array Value) (ds : List Deferred) (todo : List Item) : Frame :=
  { fn := fn, tmps := tmps, todo := todo, defers := ds, mode := .run, kind := kind, roundOf := ro }
def putT (d : Option Tmp) (tmps : Array Value) (v : Value) : Array Value := match d with
  | some d => tmps.setIfInBounds d v
  | none => tmps
def evT (tmps : Array Value) : Operand → Value
  | .tmp t => tmps.getD t undef
  | .const v => v
  | .global g => .pointer (some ⟨g, 0, none⟩)
  | .func f => .func (.func f) #[] #[]
section
variable {P : Program} {fn : FuncId} {kind : CallKind} {ro : Option Nat} {tmps : Array Value} {ds : List Deferred} {cs : List Frame} {w w' : World} {k : List Item}
theorem mkF_eval (todo : List Item) : (mkF fn kind ro tmps ds todo).eval = evT tmps := funext fun x => by cases x <;> rfl
theorem mkF_finish (ops : Array Oper) (i : Nat) (rest : List Nat) (v : Value) : (mkF fn kind ro tmps ds (.inRegion ops (i :: rest) :: k)).finish v = mkF fn kind ro (putT ((ops[i]?).bind (·.dst)) tmps v) ds (.inRegion ops rest :: k) := by
  cases h : (ops[i]?).bind (·.dst) <;> simp [Frame.finish, mkF, putT, h]
theorem st_skipC : step P (lone (mkF fn kind ro tmps ds (.code .skip :: k)) cs w) = .next (lone (mkF fn kind ro tmps ds k) cs w) :=
  step_lone_go (by simp [stepG, stepG.exec, mkF])
theorem st_label {l : Nat} : step P (lone (mkF fn kind ro tmps ds (.code (.label l) :: k)) cs w) = .next (lone (mkF fn kind ro tmps ds k) cs w) :=
  step_lone_go (by simp [stepG, stepG.exec, mkF])
theorem st_inBlock {id : Nat} : step P (lone (mkF fn kind ro tmps ds (.inBlock id :: k)) cs w) = .next (lone (mkF fn kind ro tmps ds k) cs w) :=
  step_lone_go (by simp [stepG, stepG.exec, mkF])
theorem st_inScope {b : Code} : step P (lone (mkF fn kind ro tmps ds (.inScope b :: k)) cs w) = .next (lone (mkF fn kind ro tmps ds k) cs w) :=
  step_lone_go (by simp [stepG, stepG.exec, mkF])
theorem st_seq {x y : Code} : step P (lone (mkF fn kind ro tmps ds (.code (.seq x y) :: k)) cs w) = .next (lone (mkF fn kind ro tmps ds (.code x :: .code y :: k)) cs w) :=
  step_lone_go (by simp [stepG, stepG.exec, mkF])
theorem st_cond {c : Operand} {x y : Code} {t : Bool} (h : evT tmps c = .bool t) : step P (lone (mkF fn kind ro tmps ds (.code (.cond c x y) :: k)) cs w) = .next (lone (mkF fn kind ro tmps ds (.code (cond t x y) :: k)) cs w) :=
  step_lone_go (by
    have := congrFun (mkF_eval (fn := fn) (kind := kind) (ro := ro) (tmps := tmps) (ds := ds) (.code (.cond c x y) :: k)) c
    simp only [mkF] at this
    rw [h] at this
    cases t <;> simp [stepG, stepG.exec, mkF, this])
theorem st_block {id : Nat} {c : Code} : step P (lone (mkF fn kind ro tmps ds (.code (.block id c) :: k)) cs w) = .next (lone (mkF fn kind ro tmps ds (.code c :: .inBlock id :: k)) cs w) :=
  step_lone_go (by simp [stepG, stepG.exec, mkF])
theorem st_loop {c : Code} : step P (lone (mkF fn kind ro tmps ds (.code (.loop c) :: k)) cs w) = .next (lone (mkF fn kind ro tmps ds (.code c :: .inLoop c :: k)) cs w) :=
  step_lone_go (by simp [stepG, stepG.exec, mkF])
theorem st_inLoop {c : Code} : step P (lone (mkF fn kind ro tmps ds (.inLoop c :: k)) cs w) = .next (lone (mkF fn kind ro tmps ds (.code c :: .inLoop c :: k)) cs w) :=
  step_lone_go (by simp [stepG, stepG.exec, mkF])
theorem st_scope {c : Code} : step P (lone (mkF fn kind ro tmps ds (.code (.scope c) :: k)) cs w) = .next (lone (mkF fn kind ro tmps ds (.code c :: .inScope c :: k)) cs w) :=
  step_lone_go (by simp [stepG, stepG.exec, mkF])
theorem st_exit {id : Nat} {k' : List Item} (h : exitTo id k = some k') : step P (lone (mkF fn kind ro tmps ds (.code (.exit id) :: k)) cs w) = .next (lone (mkF fn kind ro tmps ds k') cs w) :=
  step_lone_go (by simp [stepG, stepG.exec, mkF, h])
theorem st_goto {l : Nat} {k' : List Item} (h : gotoIn l k = some k') : step P (lone (mkF fn kind ro tmps ds (.code (.goto l) :: k)) cs w) = .next (lone (mkF fn kind ro tmps ds k') cs w) :=
  step_lone_go (by simp [stepG, stepG.exec, mkF, h])
theorem st_region {id : Nat} {ops : Array Oper} : step P (lone (mkF fn kind ro tmps ds (.code (.region id ops false) :: k)) cs w) = .next (lone (mkF fn kind ro tmps ds (.inRegion ops (List.range ops.size) :: k)) cs w) :=
  step_lone_go (by simp [stepG, stepG.exec, mkF])
theorem st_draw {id : Nat} {ops : Array Oper} : step P (lone (mkF fn kind ro tmps ds (.code (.region id ops true) :: k)) cs w) =
    .next (lone (mkF fn kind ro tmps ds (.inRegion ops (Region.schedule (P.follows .mixedOrders) ops (w.tape w.drawn (.order fn id))) :: k)) cs w.drew) :=
  step_lone_go (by simp [stepG, stepG.exec, mkF, choose, Sem.run, Question.forced, Question.cut])
theorem st_done {ops : Array Oper} : step P (lone (mkF fn kind ro tmps ds (.inRegion ops [] :: k)) cs w) = .next (lone (mkF fn kind ro tmps ds k) cs w) :=
  step_lone_go (by simp [stepG, stepG.exec, mkF])
theorem st_pass {ops : Array Oper} {i : Nat} {rest : List Nat} {o : Oper} (ho : ops[i]? = some o) (hw : Region.wanted o (yielded ops tmps) = false) :
    step P (lone (mkF fn kind ro tmps ds (.inRegion ops (i :: rest) :: k)) cs w) = .next (lone (mkF fn kind ro (putT o.dst tmps undef) ds (.inRegion ops rest :: k)) cs w) := by
  have e := mkF_finish (fn := fn) (kind := kind) (ro := ro) (tmps := tmps) (ds := ds) (k := k) ops i rest undef
  rw [ho] at e
  simp only [Option.bind_some] at e
  rw [← e]
  exact step_lone_go (by simp [stepG, stepG.exec, mkF, ho, hw])
theorem st_op {ops : Array Oper} {i : Nat} {rest : List Nat} {o : Oper} (ho : ops[i]? = some o) (hw : Region.wanted o (yielded ops tmps) = true) (hd : ro = none ∨ ∀ c, o.op ≠ .defer c) :
    stepG P true { frame := mkF fn kind ro tmps ds (.inRegion ops (i :: rest) :: k), callers := cs, status := .running, dying := none } w =
      stepG.apply P true (mkF fn kind ro tmps ds (.inRegion ops (i :: rest) :: k)) cs none (execOp (evT tmps) o) w := by
  have he := mkF_eval (fn := fn) (kind := kind) (ro := ro) (tmps := tmps) (ds := ds) (.inRegion ops (i :: rest) :: k)
  simp only [mkF] at he
  simp only [stepG, stepG.exec, stepG.oper, Frame.oper?, mkF, ho, hw, Option.map_some, Option.getD_some, if_true]
  rcases hd with rfl | hd
  · simp only [he]
  · cases ro with
    | none => simp only [he]
    | some l =>
      cases hop : o.op <;> first | (simp only [he]; done) | exact absurd hop (hd _)
theorem st_value {ops : Array Oper} {i : Nat} {rest : List Nat} {o : Oper} (ho : ops[i]? = some o) (hw : Region.wanted o (yielded ops tmps) = true) (hd : ro = none ∨ ∀ c, o.op ≠ .defer c) {v : Value} (hr : (execOp (evT tmps) o).run P w = .ok (.value v) w') :
    step P (lone (mkF fn kind ro tmps ds (.inRegion ops (i :: rest) :: k)) cs w) = .next (lone (mkF fn kind ro (putT o.dst tmps v) ds (.inRegion ops rest :: k)) cs w') := by
  have e := mkF_finish (fn := fn) (kind := kind) (ro := ro) (tmps := tmps) (ds := ds) (k := k) ops i rest v
  rw [ho] at e
  simp only [Option.bind_some] at e
  rw [← e]
  exact step_lone_go (by rw [st_op ho hw hd]; simp [stepG.apply, hr])
theorem st_unit {ops : Array Oper} {i : Nat} {rest : List Nat} {o : Oper} (ho : ops[i]? = some o) (hw : Region.wanted o (yielded ops tmps) = true) (hd : ro = none ∨ ∀ c, o.op ≠ .defer c) (hr : (execOp (evT tmps) o).run P w = .ok .skip w') :
    step P (lone (mkF fn kind ro tmps ds (.inRegion ops (i :: rest) :: k)) cs w) = .next (lone (mkF fn kind ro (putT o.dst tmps undef) ds (.inRegion ops rest :: k)) cs w') := by
  have e := mkF_finish (fn := fn) (kind := kind) (ro := ro) (tmps := tmps) (ds := ds) (k := k) ops i rest undef
  rw [ho] at e
  simp only [Option.bind_some] at e
  rw [← e]
  exact step_lone_go (by rw [st_op ho hw hd]; simp [stepG.apply, hr])
theorem st_defer {ops : Array Oper} {i : Nat} {rest : List Nat} {o : Oper} (ho : ops[i]? = some o) (hw : Region.wanted o (yielded ops tmps) = true) {d : Deferred} (hr : (execOp (evT tmps) o).run P w = .ok (.defer d) w') :
    step P (lone (mkF fn kind none tmps ds (.inRegion ops (i :: rest) :: k)) cs w) = .next (lone (mkF fn kind none (putT o.dst tmps undef) (d :: ds) (.inRegion ops rest :: k)) cs w') := by
  have e := mkF_finish (fn := fn) (kind := kind) (ro := none) (tmps := tmps) (ds := d :: ds) (k := k) ops i rest undef
  rw [ho] at e
  simp only [Option.bind_some] at e
  rw [← e]
  exact step_lone_go (by rw [st_op ho hw (.inl rfl)]; simp [stepG.apply, hr, mkF])
theorem st_enter {ops : Array Oper} {i : Nat} {rest : List Nat} {o : Oper} (ho : ops[i]? = some o) (hw : Region.wanted o (yielded ops tmps) = true) (hd : ro = none ∨ ∀ c, o.op ≠ .defer c) {f : FuncId} {args : Array Value} (hr : (execOp (evT tmps) o).run P w = .ok (.enter f args) w') :
    step P (lone (mkF fn kind ro tmps ds (.inRegion ops (i :: rest) :: k)) cs w) = .next (lone (Frame.enter P f args .normal) (mkF fn kind ro tmps ds (.inRegion ops (i :: rest) :: k) :: cs) w') :=
  step_lone_go (by rw [st_op ho hw hd]; simp [stepG.apply, hr, mkF])
theorem st_round {ops : Array Oper} {i : Nat} {rest : List Nat} {o : Oper} (ho : ops[i]? = some o) (hw : Region.wanted o (yielded ops tmps) = true) (hd : ro = none ∨ ∀ c, o.op ≠ .defer c) {l : Nat} {f : FuncId} {t2 : Array Value} {a b : Code} (hr : (execOp (evT tmps) o).run P w = .ok (.round l f t2 a b) w') :
    step P (lone (mkF fn kind ro tmps ds (.inRegion ops (i :: rest) :: k)) cs w) = .next (lone (Frame.round l f t2 a b .normal) (mkF fn kind ro tmps ds (.inRegion ops (i :: rest) :: k) :: cs) w') :=
  step_lone_go (by rw [st_op ho hw hd]; simp [stepG.apply, hr, mkF])
end
end Go.Proofs.YthahmfeaekddnaaGreatDoor.Ru
