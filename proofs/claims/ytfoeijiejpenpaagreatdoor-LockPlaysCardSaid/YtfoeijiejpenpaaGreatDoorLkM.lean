/- Locks in memory: the pieces of a lock.Locks, and the state that they show. -/
import Derived.Test.YtfoeijiejpenpaaGreatDoorHold
import Derived.Test.YtfoeijiejpenpaaGreatDoorWait5
namespace Go.Proofs.YtfoeijiejpenpaaGreatDoor
open Go.RowKit

/-- The state of locks: each lock's owner, what each thread waits for (a lock, a thread), levels, effective levels, lines. -/
structure Lk where
  owner : List Int
  waits : List (Int × Int)
  level : List Int
  eff : List Int
  lines : List (List WO × Nat)
/-- The state is whole: all lists are as long as they must be. -/
structure Lk.Whole (s : Lk) (K : Nat) : Prop where
  nt : s.eff.length ≤ 64
  nl : s.lines.length ≤ 64
  owner : s.owner.length = s.lines.length
  waits : s.waits.length = s.eff.length
  level : s.level.length = s.eff.length
  owners : ∀ x ∈ s.owner, -1 ≤ x ∧ x < s.eff.length
  wls : ∀ x ∈ s.waits, -1 ≤ x.1 ∧ x.1 < s.lines.length
  wts : ∀ x ∈ s.waits, -1 ≤ x.2 ∧ x.2 < s.eff.length
  levels : ∀ x ∈ s.level, 0 ≤ x ∧ x ≤ 7
  effs : ∀ x ∈ s.eff, 0 ≤ x ∧ x ≤ 8
  lens : ∀ x ∈ s.lines, x.1.length ≤ 64
  lasts : ∀ x ∈ s.lines, x.2 ≤ K
def I64 (x : Int) : Value := .int .i64 x
/-- What a thread waits for, in memory. -/
def wL (x : Int × Int) : List Value := [I64 x.1, I64 x.2]
theorem wL_len (x : Int × Int) : (wL x).length = 2 := rfl
/-- The addresses of locks. -/
structure LkA where
  g : Nat
  gw : Nat
  Ao : Option Addr
  co : Nat
  Aw : Option Addr
  cw : Nat
  AL : Option Addr
  cL : Nat
  AV : Option Addr
  cV : Nat
  AW : Option Addr
  cW : Nat
  AO : Option Addr
  cO : Nat
  AE : Option Addr
  cE : Nat
  J : Value
  gls : List (Nat × Value)
  ex : List Piece
/-- What no turn of locks changes. -/
def LkA.key (a : LkA) : Nat × Value × List Piece := (a.g, a.J, a.ex)
/-- The pieces of lines. -/
def lineP (x : (Nat × Value) × (List WO × Nat)) : List Piece := [.blk x.1.1 91 #[.func (.func 41) #[] #[], x.1.2, .int .u64 x.2.2], .row 108 3 x.1.2 x.2.1.length (x.2.1.flatMap oL)]
/-- The pieces of locks. -/
def lkP (a : LkA) (s : Lk) : List Piece :=
  .blk a.g 47 #[.pointer (some ⟨a.gw, 0, none⟩), .slice a.AL s.lines.length a.cL, .slice a.AV s.eff.length a.cV, .slice a.AW s.eff.length a.cW, .slice a.AO s.lines.length a.cO, .slice a.AE s.eff.length a.cE, a.J] ::
  .blk a.gw 83 #[.slice a.Ao s.lines.length a.co, .slice a.Aw s.eff.length a.cw] ::
  .row 3 1 (.slice a.Ao s.lines.length a.co) s.lines.length (s.owner.map I64) ::
  .row 85 2 (.slice a.Aw s.eff.length a.cw) s.eff.length (s.waits.flatMap wL) ::
  .row 3 1 (.slice a.AV s.eff.length a.cV) s.eff.length (s.level.map I64) ::
  .row 3 1 (.slice a.AW s.eff.length a.cW) s.eff.length (s.waits.map fun x => I64 x.1) ::
  .row 3 1 (.slice a.AO s.lines.length a.cO) s.lines.length (s.owner.map I64) ::
  .row 3 1 (.slice a.AE s.eff.length a.cE) s.eff.length (s.eff.map I64) ::
  .row 48 1 (.slice a.AL s.lines.length a.cL) s.lines.length (a.gls.map fun x => .pointer (some ⟨x.1, 0, none⟩)) ::
  ((List.zip a.gls s.lines).flatMap lineP ++ a.ex)
/-- Locks stand at a block, all of them made after w0. -/
def IsLk (w0 w : World) (g : Nat) (s : Lk) : Prop := ∃ a : LkA, a.g = g ∧ a.gls.length = s.lines.length ∧ Holds w (lkP a s) ∧ Newer w0 (lkP a s)
theorem IsLk.old {w0 w w' : World} {g : Nat} {s : Lk} (h : IsLk w0 w g s) (hk : Kept [] w w') : IsLk w0 w' g s := by
  obtain ⟨a, h1, h2, h3, h4⟩ := h
  exact ⟨a, h1, h2, h3.old hk, h4⟩

end Go.Proofs.YtfoeijiejpenpaaGreatDoor
