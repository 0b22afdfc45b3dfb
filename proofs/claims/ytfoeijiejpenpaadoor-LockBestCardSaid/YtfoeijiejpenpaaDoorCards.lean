/-
  DERIVED. GIVEN WITH THE SEED: THE CARDS: each row of YtfoeijiejpenpaaDoorRows.lean that lists a variable, with what it lists TIED to the program's text (the seventh form; the later family's looks); each row that meets fmt, with fmt's text TOLD by the authors' own Lean function (tested against real Go, not proved from fmt's source: count such statements apart). THE CARD IS WHAT COUNTS. Prove the row's statement (the work); the ties are given (YtfoeijiejpenpaaDoorTie.lean); close each card by the builder's one call (the guide's Derived/Test/ToyasCard.lean, 'card_holds'). Laid BY PROGRAM, IN A SANDBOX (cutbox-door.mjs). By AI agents, Wed Nov 11 2026. No macro, syntax, notation, axiom, sorry.
-/
import Derived.Test.YtfoeijiejpenpaaDoorRows
import GoSem.ClaimSeven
namespace Go.Proofs.YtfoeijiejpenpaaDoor
namespace Rows

/-- THE TIED CARD OF 'bosunlaw26.LockBest'. -/
def lockBestCard : Claim7 := { stood := { row := lockBestRow, standIns := [], harness := (true, "b65651adefb35192f5ea50d5589b9a4c26cf1eca507f5a1686f5e331d7ff46dd"), looks := false }, kinds := [], alts := [], laidByText := true, laidKinds := [.data], laidTests := true, laidLooks := .later }
def LockBestCardSaid : Prop := Claim7.holds Tryd.pinned (.plain (OpenSpec.ofChange lockBestSpec)) lockBestCard

/-- THE TIED CARD OF 'bosunlaw26.LockOne'. -/
def lockOneCard : Claim7 := { stood := { row := lockOneRow, standIns := [], harness := (true, "b65651adefb35192f5ea50d5589b9a4c26cf1eca507f5a1686f5e331d7ff46dd"), looks := false }, kinds := [], alts := [], laidByText := true, laidKinds := [.data], laidTests := true, laidLooks := .later }
def LockOneCardSaid : Prop := Claim7.holds Tryd.pinned (.plain (OpenSpec.ofChange lockOneSpec)) lockOneCard

/-- THE TIED CARD OF 'bosunlaw26.LockGifts'. -/
def lockGiftsCard : Claim7 := { stood := { row := lockGiftsRow, standIns := [], harness := (true, "b65651adefb35192f5ea50d5589b9a4c26cf1eca507f5a1686f5e331d7ff46dd"), looks := false }, kinds := [], alts := [], laidByText := true, laidKinds := [.data], laidTests := true, laidLooks := .later }
def LockGiftsCardSaid : Prop := Claim7.holds Tryd.pinned (.plain (OpenSpec.ofChange lockGiftsSpec)) lockGiftsCard

/-- THE TIED CARD OF 'bosunlaw26.LockNil'. -/
def lockNilCard : Claim7 := { stood := { row := lockNilRow, standIns := [], harness := (true, "b65651adefb35192f5ea50d5589b9a4c26cf1eca507f5a1686f5e331d7ff46dd"), looks := false }, kinds := [], alts := [], laidByText := true, laidKinds := [.data], laidTests := true, laidLooks := .later }
def LockNilCardSaid : Prop := Claim7.holds Tryd.pinned (.plain (OpenSpec.ofChange lockNilSpec)) lockNilCard

/-- THE SECOND FORM's CARD OF 'bosunlaw26.LockBest'. -/
def lockBestUptoCard : Claim7 := { stood := { row := lockBestUptoRow, standIns := [], harness := (true, "b65651adefb35192f5ea50d5589b9a4c26cf1eca507f5a1686f5e331d7ff46dd"), looks := false }, kinds := [], alts := [], laidByText := true, laidKinds := [.data], laidTests := true, laidLooks := .later }
def LockBestUptoCardSaid : Prop := Claim7.holds Tryd.pinned (.plain (OpenSpec.upto lockBestSpec)) lockBestUptoCard

/-- THE SECOND FORM's CARD OF 'bosunlaw26.LockOne'. -/
def lockOneUptoCard : Claim7 := { stood := { row := lockOneUptoRow, standIns := [], harness := (true, "b65651adefb35192f5ea50d5589b9a4c26cf1eca507f5a1686f5e331d7ff46dd"), looks := false }, kinds := [], alts := [], laidByText := true, laidKinds := [.data], laidTests := true, laidLooks := .later }
def LockOneUptoCardSaid : Prop := Claim7.holds Tryd.pinned (.plain (OpenSpec.upto lockOneSpec)) lockOneUptoCard

/-- THE SECOND FORM's CARD OF 'bosunlaw26.LockGifts'. -/
def lockGiftsUptoCard : Claim7 := { stood := { row := lockGiftsUptoRow, standIns := [], harness := (true, "b65651adefb35192f5ea50d5589b9a4c26cf1eca507f5a1686f5e331d7ff46dd"), looks := false }, kinds := [], alts := [], laidByText := true, laidKinds := [.data], laidTests := true, laidLooks := .later }
def LockGiftsUptoCardSaid : Prop := Claim7.holds Tryd.pinned (.plain (OpenSpec.upto lockGiftsSpec)) lockGiftsUptoCard

/-- THE SECOND FORM's CARD OF 'bosunlaw26.LockNil'. -/
def lockNilUptoCard : Claim7 := { stood := { row := lockNilUptoRow, standIns := [], harness := (true, "b65651adefb35192f5ea50d5589b9a4c26cf1eca507f5a1686f5e331d7ff46dd"), looks := false }, kinds := [], alts := [], laidByText := true, laidKinds := [.data], laidTests := true, laidLooks := .later }
def LockNilUptoCardSaid : Prop := Claim7.holds Tryd.pinned (.plain (OpenSpec.upto lockNilSpec)) lockNilUptoCard
end Rows
end Go.Proofs.YtfoeijiejpenpaaDoor
