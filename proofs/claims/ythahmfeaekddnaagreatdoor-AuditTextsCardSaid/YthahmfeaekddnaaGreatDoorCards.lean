/-
  DERIVED. GIVEN WITH THE SEED: THE CARDS: each row of YthahmfeaekddnaaGreatDoorRows.lean that lists a variable, with what it lists TIED to the program's text (the seventh form; the later family's looks); each row that meets fmt, with fmt's text TOLD by the authors' own Lean function (tested against real Go, not proved from fmt's source: count such statements apart). THE CARD IS WHAT COUNTS. Prove the row's statement (the work); the ties are given (YthahmfeaekddnaaGreatDoorTie.lean); close each card by the builder's one call (the guide's Derived/Test/ToyasCard.lean, 'card_holds'). Laid BY PROGRAM, IN A SANDBOX (cutbox-door.mjs). By AI agents, Wed Nov 11 2026. No macro, syntax, notation, axiom, sorry.
-/
import Derived.Test.YthahmfeaekddnaaGreatDoorRows
import GoSem.ClaimSeven
namespace Go.Proofs.YthahmfeaekddnaaGreatDoor
namespace Rows

/-- THE TIED CARD OF 'bosunlaw32.CoreNil'. -/
def coreNilCard : Claim7 := { stood := { row := coreNilRow, standIns := [], harness := (true, "cb5e678a085d8cb82efc9b56b82f123937105b874015b44ea44f50836834b055"), looks := false }, kinds := [], alts := [], laidByText := true, laidKinds := [.data], laidTests := true, laidLooks := .later }
def CoreNilCardSaid : Prop := Claim7.holds Tryz.pinned (.plain (OpenSpec.ofChange coreNilSpec)) coreNilCard

/-- THE TIED CARD OF 'bosunlaw33.CrewNil'. -/
def crewNilCard : Claim7 := { stood := { row := crewNilRow, standIns := [], harness := (true, "cb5e678a085d8cb82efc9b56b82f123937105b874015b44ea44f50836834b055"), looks := false }, kinds := [], alts := [], laidByText := true, laidKinds := [.data], laidTests := true, laidLooks := .later }
def CrewNilCardSaid : Prop := Claim7.holds Tryz.pinned (.plain (OpenSpec.ofChange crewNilSpec)) crewNilCard

/-- THE TIED CARD OF 'bosunlaw34.AuditTexts'. -/
def auditTextsCard : Claim7 := { stood := { row := auditTextsRow, standIns := [], harness := (true, "cb5e678a085d8cb82efc9b56b82f123937105b874015b44ea44f50836834b055"), looks := false }, kinds := [], alts := [], laidByText := true, laidKinds := [.data, .data, .data], laidTests := true, laidLooks := .later }
def AuditTextsCardSaid : Prop := Claim7.holds Tryz.pinned (.plain (OpenSpec.ofChange auditTextsSpec)) auditTextsCard

/-- THE SECOND FORM's CARD OF 'bosunlaw32.CoreNil'. -/
def coreNilUptoCard : Claim7 := { stood := { row := coreNilUptoRow, standIns := [], harness := (true, "cb5e678a085d8cb82efc9b56b82f123937105b874015b44ea44f50836834b055"), looks := false }, kinds := [], alts := [], laidByText := true, laidKinds := [.data], laidTests := true, laidLooks := .later }
def CoreNilUptoCardSaid : Prop := Claim7.holds Tryz.pinned (.plain (OpenSpec.upto coreNilSpec)) coreNilUptoCard

/-- THE SECOND FORM's CARD OF 'bosunlaw33.CrewNil'. -/
def crewNilUptoCard : Claim7 := { stood := { row := crewNilUptoRow, standIns := [], harness := (true, "cb5e678a085d8cb82efc9b56b82f123937105b874015b44ea44f50836834b055"), looks := false }, kinds := [], alts := [], laidByText := true, laidKinds := [.data], laidTests := true, laidLooks := .later }
def CrewNilUptoCardSaid : Prop := Claim7.holds Tryz.pinned (.plain (OpenSpec.upto crewNilSpec)) crewNilUptoCard

/-- THE SECOND FORM's CARD OF 'bosunlaw34.AuditTexts'. -/
def auditTextsUptoCard : Claim7 := { stood := { row := auditTextsUptoRow, standIns := [], harness := (true, "cb5e678a085d8cb82efc9b56b82f123937105b874015b44ea44f50836834b055"), looks := false }, kinds := [], alts := [], laidByText := true, laidKinds := [.data, .data, .data], laidTests := true, laidLooks := .later }
def AuditTextsUptoCardSaid : Prop := Claim7.holds Tryz.pinned (.plain (OpenSpec.upto auditTextsSpec)) auditTextsUptoCard
end Rows
end Go.Proofs.YthahmfeaekddnaaGreatDoor
