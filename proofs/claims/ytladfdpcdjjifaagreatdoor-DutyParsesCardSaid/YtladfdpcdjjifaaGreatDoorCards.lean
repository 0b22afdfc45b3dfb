/-
  DERIVED. GIVEN WITH THE SEED: THE CARDS: each row of YtladfdpcdjjifaaGreatDoorRows.lean that lists a variable, with what it lists TIED to the program's text (the seventh form; the later family's looks); each row that meets fmt, with fmt's text TOLD by the authors' own Lean function (tested against real Go, not proved from fmt's source: count such statements apart). THE CARD IS WHAT COUNTS. Prove the row's statement (the work); the ties are given (YtladfdpcdjjifaaGreatDoorTie.lean); close each card by the builder's one call (the guide's Derived/Test/ToyasCard.lean, 'card_holds'). Laid BY PROGRAM, IN A SANDBOX (cutbox-door.mjs). By AI agents, Wed Nov 11 2026. No macro, syntax, notation, axiom, sorry.
-/
import Derived.Test.YtladfdpcdjjifaaGreatDoorRows
import GoSem.ClaimSeven
namespace Go.Proofs.YtladfdpcdjjifaaGreatDoor
namespace Rows

/-- THE TIED CARD OF 'bosunlaw09.DutyParses'. -/
def dutyParsesCard : Claim7 := { stood := { row := dutyParsesRow, standIns := [], harness := (true, "a08d5a3a6091fd64f120b7c1605b5f4728aa961937ccf171973abaa5e01da3ea"), looks := false }, kinds := [], alts := [], laidByText := true, laidKinds := [.data, .data, .data, .data, .pinned], laidTests := true, laidLooks := .later }
def DutyParsesCardSaid : Prop := Claim7.holds Tryz.pinned (.plain (OpenSpec.ofChange dutyParsesSpec)) dutyParsesCard

/-- THE SECOND FORM's CARD OF 'bosunlaw09.DutyParses'. -/
def dutyParsesUptoCard : Claim7 := { stood := { row := dutyParsesUptoRow, standIns := [], harness := (true, "a08d5a3a6091fd64f120b7c1605b5f4728aa961937ccf171973abaa5e01da3ea"), looks := false }, kinds := [], alts := [], laidByText := true, laidKinds := [.data, .data, .data, .data, .pinned], laidTests := true, laidLooks := .later }
def DutyParsesUptoCardSaid : Prop := Claim7.holds Tryz.pinned (.plain (OpenSpec.upto dutyParsesSpec)) dutyParsesUptoCard
end Rows
end Go.Proofs.YtladfdpcdjjifaaGreatDoor
