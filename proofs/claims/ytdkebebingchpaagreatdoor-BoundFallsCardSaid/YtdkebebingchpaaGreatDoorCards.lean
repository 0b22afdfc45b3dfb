/-
  DERIVED. GIVEN WITH THE SEED: THE CARDS: each row of YtdkebebingchpaaGreatDoorRows.lean that lists a variable, with what it lists TIED to the program's text (the seventh form; the later family's looks); each row that meets fmt, with fmt's text TOLD by the authors' own Lean function (tested against real Go, not proved from fmt's source: count such statements apart). THE CARD IS WHAT COUNTS. Prove the row's statement (the work); the ties are given (YtdkebebingchpaaGreatDoorTie.lean); close each card by the builder's one call (the guide's Derived/Test/ToyasCard.lean, 'card_holds'). Laid BY PROGRAM, IN A SANDBOX (cutbox-door.mjs). By AI agents, Wed Nov 11 2026. No macro, syntax, notation, axiom, sorry.
-/
import Derived.Test.YtdkebebingchpaaGreatDoorRows
import GoSem.ClaimSeven
namespace Go.Proofs.YtdkebebingchpaaGreatDoor
namespace Rows

/-- THE TIED CARD OF 'bosunlaw36.BoundFalls'. -/
def boundFallsCard : Claim7 := { stood := { row := boundFallsRow, standIns := [], harness := (true, "d3cbd85479127da71c28fb26e4f1eca094d0c427a9eeb1e00b1ad40b14725293"), looks := false }, kinds := [], alts := [], laidByText := true, laidKinds := [.data], laidTests := true, laidLooks := .later }
def BoundFallsCardSaid : Prop := Claim7.holds Tryz.pinned (.plain (OpenSpec.ofChange boundFallsSpec)) boundFallsCard

/-- THE TIED CARD OF 'bosunlaw30.RuleNil'. -/
def ruleNilCard : Claim7 := { stood := { row := ruleNilRow, standIns := [], harness := (true, "d3cbd85479127da71c28fb26e4f1eca094d0c427a9eeb1e00b1ad40b14725293"), looks := false }, kinds := [], alts := [], laidByText := true, laidKinds := [.data], laidTests := true, laidLooks := .later }
def RuleNilCardSaid : Prop := Claim7.holds Tryz.pinned (.plain (OpenSpec.ofChange ruleNilSpec)) ruleNilCard

/-- THE SECOND FORM's CARD OF 'bosunlaw36.BoundFalls'. -/
def boundFallsUptoCard : Claim7 := { stood := { row := boundFallsUptoRow, standIns := [], harness := (true, "d3cbd85479127da71c28fb26e4f1eca094d0c427a9eeb1e00b1ad40b14725293"), looks := false }, kinds := [], alts := [], laidByText := true, laidKinds := [.data], laidTests := true, laidLooks := .later }
def BoundFallsUptoCardSaid : Prop := Claim7.holds Tryz.pinned (.plain (OpenSpec.upto boundFallsSpec)) boundFallsUptoCard

/-- THE SECOND FORM's CARD OF 'bosunlaw30.RuleNil'. -/
def ruleNilUptoCard : Claim7 := { stood := { row := ruleNilUptoRow, standIns := [], harness := (true, "d3cbd85479127da71c28fb26e4f1eca094d0c427a9eeb1e00b1ad40b14725293"), looks := false }, kinds := [], alts := [], laidByText := true, laidKinds := [.data], laidTests := true, laidLooks := .later }
def RuleNilUptoCardSaid : Prop := Claim7.holds Tryz.pinned (.plain (OpenSpec.upto ruleNilSpec)) ruleNilUptoCard
end Rows
end Go.Proofs.YtdkebebingchpaaGreatDoor
