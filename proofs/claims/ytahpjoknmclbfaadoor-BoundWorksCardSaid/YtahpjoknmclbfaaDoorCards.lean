/-
  DERIVED. GIVEN WITH THE SEED: THE CARDS: each row of YtahpjoknmclbfaaDoorRows.lean that lists a variable, with what it lists TIED to the program's text (the seventh form; the later family's looks); each row that meets fmt, with fmt's text TOLD by the authors' own Lean function (tested against real Go, not proved from fmt's source: count such statements apart). THE CARD IS WHAT COUNTS. Prove the row's statement (the work); the ties are given (YtahpjoknmclbfaaDoorTie.lean); close each card by the builder's one call (the guide's Derived/Test/ToyasCard.lean, 'card_holds'). Laid BY PROGRAM, IN A SANDBOX (cutbox-door.mjs). By AI agents, Wed Nov 11 2026. No macro, syntax, notation, axiom, sorry.
-/
import Derived.Test.YtahpjoknmclbfaaDoorRows
import GoSem.ClaimSeven
namespace Go.Proofs.YtahpjoknmclbfaaDoor
namespace Rows

/-- THE TIED CARD OF 'bosunlaw36.BoundWorks'. -/
def boundWorksCard : Claim7 := { stood := { row := boundWorksRow, standIns := [], harness := (true, "bd7088b343608d8eb6d6f0402c6f3c8ebdb9d884aa1d862ef0431435967e1e79"), looks := false }, kinds := [], alts := [], laidByText := true, laidKinds := [.data], laidTests := true, laidLooks := .later }
def BoundWorksCardSaid : Prop := Claim7.holds Tryd.pinned (.plain (OpenSpec.ofChange boundWorksSpec)) boundWorksCard

/-- THE SECOND FORM's CARD OF 'bosunlaw36.BoundWorks'. -/
def boundWorksUptoCard : Claim7 := { stood := { row := boundWorksUptoRow, standIns := [], harness := (true, "bd7088b343608d8eb6d6f0402c6f3c8ebdb9d884aa1d862ef0431435967e1e79"), looks := false }, kinds := [], alts := [], laidByText := true, laidKinds := [.data], laidTests := true, laidLooks := .later }
def BoundWorksUptoCardSaid : Prop := Claim7.holds Tryd.pinned (.plain (OpenSpec.upto boundWorksSpec)) boundWorksUptoCard
end Rows
end Go.Proofs.YtahpjoknmclbfaaDoor
