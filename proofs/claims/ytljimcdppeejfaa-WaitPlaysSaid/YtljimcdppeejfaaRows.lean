/-
  No cell of these rows narrows 'for every input' (looked for: loops, veiled, ifaces, maps, wideKeys, modest, calm, conditions, laid).
  DERIVED. THE GIVEN ROWS OF THIS SEAT. 3 by the template 'for every input the law returns true; each argument reads behind the call as it read before'; 0 by the template 'total and deterministic' (their statements: YtljimcdppeejfaaTotals.lean).
  GIVEN WITH THE SEED: the statements are not yours to turn. If you find one false, say at which input.
  Laid BY PROGRAM, IN A SANDBOX (cutbox-rows.mjs): the forced cells as the released guide's own fill.sh prints them over the translation 9b1b652e54a547da… (all of the seat's roots in one cut). By AI agents, Wed Nov 11 2026. No macro, syntax, notation, axiom, sorry.
-/
import Derived.Test.YtljimcdppeejfaaChecked
import GoSem.Claim
import GoSem.ClaimJoined
import GoSem.ClaimMapViews
import Derived.JoinedTies
import Derived.KernelRfl
namespace Go.Proofs.Ytljimcdppeejfaa
/- THE CELL 'sum', in the pinned program and in every row, IS THE sha256 OF THE DUMP (.gsa) THAT YtljimcdppeejfaaProg.lean LOADS. Nothing in Lean hashes anything: it is a label: what it is worth is what the hold of that sum in a sandbox is worth. -/
noncomputable def Try.pinned : Pinned := { name := "ytljimcdppeejfaa", sum := "9b1b652e54a547daa2868de6861ba7621c8fdf92f7f7e26ed072e99defe97aad", checked := Try.checked }
namespace Rows
def none {H : Type} : Left H := { results := [], args := [] }

/-- 'bosunlaw23.WaitFair': WHATEVER THE INPUT: true; the input reads as it did. -/
def waitFairSpec : ChangeSpec := { name := "waitFair", fn := fun _ => fun
  | [d1, d2] => { results := [.lit (.bool true)], args := [d1, d2] }
  | _ => none }
def waitFairRow : OpenClaim := { program := "ytljimcdppeejfaa", sum := "9b1b652e54a547daa2868de6861ba7621c8fdf92f7f7e26ed072e99defe97aad", func := "bosun/bosunlaw23.WaitFair", spec := "waitFair", inPlace := ["slices.overlaps[bosun/wait.one]"], unfollowed := true, recurses := true, apart := false }
def WaitFairSaid : Prop := waitFairRow.holds Try.pinned (OpenSpec.ofChange waitFairSpec)

/-- ITS FALSE NEIGHBOUR: 'it returns false'. Refute it at one input. -/
def waitFairWrong : ChangeSpec := { name := "waitFair", fn := fun _ => fun
  | [d1, d2] => { results := [.lit (.bool false)], args := [d1, d2] }
  | _ => none }
def WaitFairWrongFalsely : Prop := waitFairRow.holds Try.pinned (OpenSpec.ofChange waitFairWrong)

/-- 'bosunlaw23.WaitPlays': WHATEVER THE INPUT: true; the input reads as it did. -/
def waitPlaysSpec : ChangeSpec := { name := "waitPlays", fn := fun _ => fun
  | [d1, d2] => { results := [.lit (.bool true)], args := [d1, d2] }
  | _ => none }
def waitPlaysRow : OpenClaim := { program := "ytljimcdppeejfaa", sum := "9b1b652e54a547daa2868de6861ba7621c8fdf92f7f7e26ed072e99defe97aad", func := "bosun/bosunlaw23.WaitPlays", spec := "waitPlays", inPlace := ["slices.overlaps[bosun/wait.one]"], unfollowed := true, recurses := true, apart := false }
def WaitPlaysSaid : Prop := waitPlaysRow.holds Try.pinned (OpenSpec.ofChange waitPlaysSpec)

/-- ITS FALSE NEIGHBOUR: 'it returns false'. Refute it at one input. -/
def waitPlaysWrong : ChangeSpec := { name := "waitPlays", fn := fun _ => fun
  | [d1, d2] => { results := [.lit (.bool false)], args := [d1, d2] }
  | _ => none }
def WaitPlaysWrongFalsely : Prop := waitPlaysRow.holds Try.pinned (OpenSpec.ofChange waitPlaysWrong)

/-- 'bosunlaw23.WaitNil': WHATEVER THE INPUT: true; the input reads as it did. -/
def waitNilSpec : ChangeSpec := { name := "waitNil", fn := fun _ => fun
  | [d1, d2] => { results := [.lit (.bool true)], args := [d1, d2] }
  | _ => none }
def waitNilRow : OpenClaim := { program := "ytljimcdppeejfaa", sum := "9b1b652e54a547daa2868de6861ba7621c8fdf92f7f7e26ed072e99defe97aad", func := "bosun/bosunlaw23.WaitNil", spec := "waitNil", inPlace := ["slices.overlaps[bosun/wait.one]"], unfollowed := true, recurses := true, apart := false }
def WaitNilSaid : Prop := waitNilRow.holds Try.pinned (OpenSpec.ofChange waitNilSpec)

/-- ITS FALSE NEIGHBOUR: 'it returns false'. Refute it at one input. -/
def waitNilWrong : ChangeSpec := { name := "waitNil", fn := fun _ => fun
  | [d1, d2] => { results := [.lit (.bool false)], args := [d1, d2] }
  | _ => none }
def WaitNilWrongFalsely : Prop := waitNilRow.holds Try.pinned (OpenSpec.ofChange waitNilWrong)

/- THE SECOND FORM. 'bulk': how many values and letters a reading holds, each counted each time it is reached (what is shared counts as often as it is met; a slice's spare places count too). A statement '..UptoSaid' is the law's where the arguments, and the package variables that the reading takes, are together of bulk at most 1048576: NARROWER than '..Said'. Prove '..Said' where nothing that the law and all that it calls make is longer than what came in: it says more and counts as full. Else prove '..UptoSaid'. A law counts once. -/
mutual
def uptoBulk {H : Type} : DataW H → Nat
  | .lit (.string bytes) => bytes.length + 1
  | .lit _ => 1
  | .nil => 1
  | .ptr d => uptoBulk d + 1
  | .slice elems spare => uptoBulkAll elems + uptoBulkAll spare + 1
  | .agg parts => uptoBulkAll parts + 1
  | .iface _ d => uptoBulk d + 1
  | .map entries => uptoBulkEntries entries + 1
  | .held _ => 1
def uptoBulkAll {H : Type} : List (DataW H) → Nat
  | [] => 0
  | d :: r => uptoBulk d + uptoBulkAll r
def uptoBulkEntries {H : Type} : List (Lit × DataW H) → Nat
  | [] => 0
  | x :: r => uptoBulkEntry x + uptoBulkEntries r
def uptoBulkEntry {H : Type} : Lit × DataW H → Nat
  | (.string bytes, d) => bytes.length + uptoBulk d + 1
  | (_, d) => uptoBulk d + 1
 end
def uptoSmall : (H : Type) → List (DataW H) → Bool := fun _ ds => decide (uptoBulkAll ds ≤ 1048576)
def OpenSpec.upto (s : _root_.Go.ChangeSpec) : _root_.Go.OpenSpec := { _root_.Go.OpenSpec.ofChange s with cond := some uptoSmall }

/-- 'bosunlaw23.WaitFair', WHERE WHAT IT READS IS OF BULK AT MOST 1048576: true; the input reads as it did. -/
def waitFairUptoRow : OpenClaim := { program := "ytljimcdppeejfaa", sum := "9b1b652e54a547daa2868de6861ba7621c8fdf92f7f7e26ed072e99defe97aad", func := "bosun/bosunlaw23.WaitFair", spec := "waitFair", inPlace := ["slices.overlaps[bosun/wait.one]"], unfollowed := true, recurses := true, apart := false, narrowed := true }
def WaitFairUptoSaid : Prop := waitFairUptoRow.holds Try.pinned (OpenSpec.upto waitFairSpec)

/-- 'bosunlaw23.WaitPlays', WHERE WHAT IT READS IS OF BULK AT MOST 1048576: true; the input reads as it did. -/
def waitPlaysUptoRow : OpenClaim := { program := "ytljimcdppeejfaa", sum := "9b1b652e54a547daa2868de6861ba7621c8fdf92f7f7e26ed072e99defe97aad", func := "bosun/bosunlaw23.WaitPlays", spec := "waitPlays", inPlace := ["slices.overlaps[bosun/wait.one]"], unfollowed := true, recurses := true, apart := false, narrowed := true }
def WaitPlaysUptoSaid : Prop := waitPlaysUptoRow.holds Try.pinned (OpenSpec.upto waitPlaysSpec)

/-- 'bosunlaw23.WaitNil', WHERE WHAT IT READS IS OF BULK AT MOST 1048576: true; the input reads as it did. -/
def waitNilUptoRow : OpenClaim := { program := "ytljimcdppeejfaa", sum := "9b1b652e54a547daa2868de6861ba7621c8fdf92f7f7e26ed072e99defe97aad", func := "bosun/bosunlaw23.WaitNil", spec := "waitNil", inPlace := ["slices.overlaps[bosun/wait.one]"], unfollowed := true, recurses := true, apart := false, narrowed := true }
def WaitNilUptoSaid : Prop := waitNilUptoRow.holds Try.pinned (OpenSpec.upto waitNilSpec)

end Rows
end Go.Proofs.Ytljimcdppeejfaa
