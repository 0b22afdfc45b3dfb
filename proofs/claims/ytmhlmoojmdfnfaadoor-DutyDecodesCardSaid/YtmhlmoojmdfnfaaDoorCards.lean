/-
  DERIVED. GIVEN WITH THE SEED: THE CARDS: each row of YtmhlmoojmdfnfaaDoorRows.lean that lists a variable, with what it lists TIED to the program's text (the seventh form; the later family's looks); each row that meets fmt, with fmt's text TOLD by the authors' own Lean function (tested against real Go, not proved from fmt's source: count such statements apart). THE CARD IS WHAT COUNTS. Prove the row's statement (the work); the ties are given (YtmhlmoojmdfnfaaDoorTie.lean); close each card by the builder's one call (the guide's Derived/Test/ToyasCard.lean, 'card_holds'). Laid BY PROGRAM, IN A SANDBOX (cutbox-door.mjs). By AI agents, Wed Nov 11 2026. No macro, syntax, notation, axiom, sorry.
-/
import Derived.Test.YtmhlmoojmdfnfaaDoorRows
import GoSem.ClaimSeven
namespace Go.Proofs.YtmhlmoojmdfnfaaDoor
namespace Rows

/-- THE TIED CARD OF 'bosunlaw08.ProgChecks'. -/
def progChecksCard : Claim7 := { stood := { row := progChecksRow, standIns := [], harness := (true, "9747b9e3eab0e649bc05ab5f252d428d5eab1e205338f4662703918326048351"), looks := false }, kinds := [], alts := [], laidByText := true, laidKinds := [.data, .data, .data], laidTests := true, laidLooks := .later }
def ProgChecksCardSaid : Prop := Claim7.holds Tryd.pinned (.plain (OpenSpec.ofChange progChecksSpec)) progChecksCard

/-- THE TIED CARD OF 'bosunlaw08.ProgBytes'. -/
def progBytesCard : Claim7 := { stood := { row := progBytesRow, standIns := [], harness := (true, "9747b9e3eab0e649bc05ab5f252d428d5eab1e205338f4662703918326048351"), looks := false }, kinds := [], alts := [], laidByText := true, laidKinds := [.data, .data, .data], laidTests := true, laidLooks := .later }
def ProgBytesCardSaid : Prop := Claim7.holds Tryd.pinned (.plain (OpenSpec.ofChange progBytesSpec)) progBytesCard

/-- THE TIED CARD OF 'bosunlaw08.ProgDecodes'. -/
def progDecodesCard : Claim7 := { stood := { row := progDecodesRow, standIns := [], harness := (true, "9747b9e3eab0e649bc05ab5f252d428d5eab1e205338f4662703918326048351"), looks := false }, kinds := [], alts := [], laidByText := true, laidKinds := [.data, .data, .data], laidTests := true, laidLooks := .later }
def ProgDecodesCardSaid : Prop := Claim7.holds Tryd.pinned (.plain (OpenSpec.ofChange progDecodesSpec)) progDecodesCard

/-- THE TIED CARD OF 'bosunlaw07.DeedLines'. -/
def deedLinesCard : Claim7 := { stood := { row := deedLinesRow, standIns := [], harness := (true, "9747b9e3eab0e649bc05ab5f252d428d5eab1e205338f4662703918326048351"), looks := false }, kinds := [], alts := [], laidByText := true, laidKinds := [.data, .data, .data, .data, .pinned], laidTests := true, laidLooks := .later }
def DeedLinesCardSaid : Prop := Claim7.holds Tryd.pinned (.plain (OpenSpec.ofChange deedLinesSpec)) deedLinesCard

/-- THE TIED CARD OF 'bosunlaw07.DeedParses'. -/
def deedParsesCard : Claim7 := { stood := { row := deedParsesRow, standIns := [], harness := (true, "9747b9e3eab0e649bc05ab5f252d428d5eab1e205338f4662703918326048351"), looks := false }, kinds := [], alts := [], laidByText := true, laidKinds := [.data, .data, .data, .data, .pinned], laidTests := true, laidLooks := .later }
def DeedParsesCardSaid : Prop := Claim7.holds Tryd.pinned (.plain (OpenSpec.ofChange deedParsesSpec)) deedParsesCard

/-- THE TIED CARD OF 'bosunlaw07.DeedGood'. -/
def deedGoodCard : Claim7 := { stood := { row := deedGoodRow, standIns := [], harness := (true, "9747b9e3eab0e649bc05ab5f252d428d5eab1e205338f4662703918326048351"), looks := false }, kinds := [], alts := [], laidByText := true, laidKinds := [.data, .data, .data, .data, .pinned], laidTests := true, laidLooks := .later }
def DeedGoodCardSaid : Prop := Claim7.holds Tryd.pinned (.plain (OpenSpec.ofChange deedGoodSpec)) deedGoodCard

/-- THE TIED CARD OF 'bosunlaw09.DutyDecodes'. -/
def dutyDecodesCard : Claim7 := { stood := { row := dutyDecodesRow, standIns := [], harness := (true, "9747b9e3eab0e649bc05ab5f252d428d5eab1e205338f4662703918326048351"), looks := false }, kinds := [], alts := [], laidByText := true, laidKinds := [.data, .data, .data], laidTests := true, laidLooks := .later }
def DutyDecodesCardSaid : Prop := Claim7.holds Tryd.pinned (.plain (OpenSpec.ofChange dutyDecodesSpec)) dutyDecodesCard

/-- THE TIED CARD OF 'bosunlaw07.DeedGets'. -/
def deedGetsCard : Claim7 := { stood := { row := deedGetsRow, standIns := [], harness := (true, "9747b9e3eab0e649bc05ab5f252d428d5eab1e205338f4662703918326048351"), looks := false }, kinds := [], alts := [], laidByText := true, laidKinds := [.data, .data, .data, .data, .pinned], laidTests := true, laidLooks := .later }
def DeedGetsCardSaid : Prop := Claim7.holds Tryd.pinned (.plain (OpenSpec.ofChange deedGetsSpec)) deedGetsCard

/-- THE TIED CARD OF 'bosunlaw08.ProgTexts'. -/
def progTextsCard : Claim7 := { stood := { row := progTextsRow, standIns := [], harness := (true, "9747b9e3eab0e649bc05ab5f252d428d5eab1e205338f4662703918326048351"), looks := false }, kinds := [], alts := [], laidByText := true, laidKinds := [.data, .data, .data, .data, .pinned], laidTests := true, laidLooks := .later }
def ProgTextsCardSaid : Prop := Claim7.holds Tryd.pinned (.plain (OpenSpec.ofChange progTextsSpec)) progTextsCard

/-- THE TIED CARD OF 'bosunlaw08.ProgParses'. -/
def progParsesCard : Claim7 := { stood := { row := progParsesRow, standIns := [], harness := (true, "9747b9e3eab0e649bc05ab5f252d428d5eab1e205338f4662703918326048351"), looks := false }, kinds := [], alts := [], laidByText := true, laidKinds := [.data, .data, .data, .data, .pinned], laidTests := true, laidLooks := .later }
def ProgParsesCardSaid : Prop := Claim7.holds Tryd.pinned (.plain (OpenSpec.ofChange progParsesSpec)) progParsesCard

/-- THE TIED CARD OF 'bosunlaw07.DeedBytes'. -/
def deedBytesCard : Claim7 := { stood := { row := deedBytesRow, standIns := [], harness := (true, "9747b9e3eab0e649bc05ab5f252d428d5eab1e205338f4662703918326048351"), looks := false }, kinds := [], alts := [], laidByText := true, laidKinds := [.data, .data, .data, .data, .pinned], laidTests := true, laidLooks := .later }
def DeedBytesCardSaid : Prop := Claim7.holds Tryd.pinned (.plain (OpenSpec.ofChange deedBytesSpec)) deedBytesCard

/-- THE SECOND FORM's CARD OF 'bosunlaw08.ProgChecks'. -/
def progChecksUptoCard : Claim7 := { stood := { row := progChecksUptoRow, standIns := [], harness := (true, "9747b9e3eab0e649bc05ab5f252d428d5eab1e205338f4662703918326048351"), looks := false }, kinds := [], alts := [], laidByText := true, laidKinds := [.data, .data, .data], laidTests := true, laidLooks := .later }
def ProgChecksUptoCardSaid : Prop := Claim7.holds Tryd.pinned (.plain (OpenSpec.upto progChecksSpec)) progChecksUptoCard

/-- THE SECOND FORM's CARD OF 'bosunlaw08.ProgBytes'. -/
def progBytesUptoCard : Claim7 := { stood := { row := progBytesUptoRow, standIns := [], harness := (true, "9747b9e3eab0e649bc05ab5f252d428d5eab1e205338f4662703918326048351"), looks := false }, kinds := [], alts := [], laidByText := true, laidKinds := [.data, .data, .data], laidTests := true, laidLooks := .later }
def ProgBytesUptoCardSaid : Prop := Claim7.holds Tryd.pinned (.plain (OpenSpec.upto progBytesSpec)) progBytesUptoCard

/-- THE SECOND FORM's CARD OF 'bosunlaw08.ProgDecodes'. -/
def progDecodesUptoCard : Claim7 := { stood := { row := progDecodesUptoRow, standIns := [], harness := (true, "9747b9e3eab0e649bc05ab5f252d428d5eab1e205338f4662703918326048351"), looks := false }, kinds := [], alts := [], laidByText := true, laidKinds := [.data, .data, .data], laidTests := true, laidLooks := .later }
def ProgDecodesUptoCardSaid : Prop := Claim7.holds Tryd.pinned (.plain (OpenSpec.upto progDecodesSpec)) progDecodesUptoCard

/-- THE SECOND FORM's CARD OF 'bosunlaw07.DeedLines'. -/
def deedLinesUptoCard : Claim7 := { stood := { row := deedLinesUptoRow, standIns := [], harness := (true, "9747b9e3eab0e649bc05ab5f252d428d5eab1e205338f4662703918326048351"), looks := false }, kinds := [], alts := [], laidByText := true, laidKinds := [.data, .data, .data, .data, .pinned], laidTests := true, laidLooks := .later }
def DeedLinesUptoCardSaid : Prop := Claim7.holds Tryd.pinned (.plain (OpenSpec.upto deedLinesSpec)) deedLinesUptoCard

/-- THE SECOND FORM's CARD OF 'bosunlaw07.DeedParses'. -/
def deedParsesUptoCard : Claim7 := { stood := { row := deedParsesUptoRow, standIns := [], harness := (true, "9747b9e3eab0e649bc05ab5f252d428d5eab1e205338f4662703918326048351"), looks := false }, kinds := [], alts := [], laidByText := true, laidKinds := [.data, .data, .data, .data, .pinned], laidTests := true, laidLooks := .later }
def DeedParsesUptoCardSaid : Prop := Claim7.holds Tryd.pinned (.plain (OpenSpec.upto deedParsesSpec)) deedParsesUptoCard

/-- THE SECOND FORM's CARD OF 'bosunlaw07.DeedGood'. -/
def deedGoodUptoCard : Claim7 := { stood := { row := deedGoodUptoRow, standIns := [], harness := (true, "9747b9e3eab0e649bc05ab5f252d428d5eab1e205338f4662703918326048351"), looks := false }, kinds := [], alts := [], laidByText := true, laidKinds := [.data, .data, .data, .data, .pinned], laidTests := true, laidLooks := .later }
def DeedGoodUptoCardSaid : Prop := Claim7.holds Tryd.pinned (.plain (OpenSpec.upto deedGoodSpec)) deedGoodUptoCard

/-- THE SECOND FORM's CARD OF 'bosunlaw09.DutyDecodes'. -/
def dutyDecodesUptoCard : Claim7 := { stood := { row := dutyDecodesUptoRow, standIns := [], harness := (true, "9747b9e3eab0e649bc05ab5f252d428d5eab1e205338f4662703918326048351"), looks := false }, kinds := [], alts := [], laidByText := true, laidKinds := [.data, .data, .data], laidTests := true, laidLooks := .later }
def DutyDecodesUptoCardSaid : Prop := Claim7.holds Tryd.pinned (.plain (OpenSpec.upto dutyDecodesSpec)) dutyDecodesUptoCard

/-- THE SECOND FORM's CARD OF 'bosunlaw07.DeedGets'. -/
def deedGetsUptoCard : Claim7 := { stood := { row := deedGetsUptoRow, standIns := [], harness := (true, "9747b9e3eab0e649bc05ab5f252d428d5eab1e205338f4662703918326048351"), looks := false }, kinds := [], alts := [], laidByText := true, laidKinds := [.data, .data, .data, .data, .pinned], laidTests := true, laidLooks := .later }
def DeedGetsUptoCardSaid : Prop := Claim7.holds Tryd.pinned (.plain (OpenSpec.upto deedGetsSpec)) deedGetsUptoCard

/-- THE SECOND FORM's CARD OF 'bosunlaw08.ProgTexts'. -/
def progTextsUptoCard : Claim7 := { stood := { row := progTextsUptoRow, standIns := [], harness := (true, "9747b9e3eab0e649bc05ab5f252d428d5eab1e205338f4662703918326048351"), looks := false }, kinds := [], alts := [], laidByText := true, laidKinds := [.data, .data, .data, .data, .pinned], laidTests := true, laidLooks := .later }
def ProgTextsUptoCardSaid : Prop := Claim7.holds Tryd.pinned (.plain (OpenSpec.upto progTextsSpec)) progTextsUptoCard

/-- THE SECOND FORM's CARD OF 'bosunlaw08.ProgParses'. -/
def progParsesUptoCard : Claim7 := { stood := { row := progParsesUptoRow, standIns := [], harness := (true, "9747b9e3eab0e649bc05ab5f252d428d5eab1e205338f4662703918326048351"), looks := false }, kinds := [], alts := [], laidByText := true, laidKinds := [.data, .data, .data, .data, .pinned], laidTests := true, laidLooks := .later }
def ProgParsesUptoCardSaid : Prop := Claim7.holds Tryd.pinned (.plain (OpenSpec.upto progParsesSpec)) progParsesUptoCard

/-- THE SECOND FORM's CARD OF 'bosunlaw07.DeedBytes'. -/
def deedBytesUptoCard : Claim7 := { stood := { row := deedBytesUptoRow, standIns := [], harness := (true, "9747b9e3eab0e649bc05ab5f252d428d5eab1e205338f4662703918326048351"), looks := false }, kinds := [], alts := [], laidByText := true, laidKinds := [.data, .data, .data, .data, .pinned], laidTests := true, laidLooks := .later }
def DeedBytesUptoCardSaid : Prop := Claim7.holds Tryd.pinned (.plain (OpenSpec.upto deedBytesSpec)) deedBytesUptoCard
end Rows
end Go.Proofs.YtmhlmoojmdfnfaaDoor
