/-
  DERIVED. GIVEN WITH THE SEED: THE CARDS: each row of YtdhbhjkfcpglbaaDoorRows.lean that lists a variable, with what it lists TIED to the program's text (the seventh form; the later family's looks); each row that meets fmt, with fmt's text TOLD by the authors' own Lean function (tested against real Go, not proved from fmt's source: count such statements apart). THE CARD IS WHAT COUNTS. Prove the row's statement (the work); the ties are given (YtdhbhjkfcpglbaaDoorTie.lean); close each card by the builder's one call (the guide's Derived/Test/ToyasCard.lean, 'card_holds'). Laid BY PROGRAM, IN A SANDBOX (cutbox-door.mjs). By AI agents, Wed Nov 11 2026. No macro, syntax, notation, axiom, sorry.
-/
import Derived.Test.YtdhbhjkfcpglbaaDoorRows
import GoSem.ClaimSeven
namespace Go.Proofs.YtdhbhjkfcpglbaaDoor
namespace Rows

/-- THE TIED CARD OF 'pinfoldlaw14.StateMays'. -/
def stateMaysCard : Claim7 := { stood := { row := stateMaysRow, standIns := [], harness := (true, "b2b8682f7dfc2be1faeb90ada2a699301d1a89f877749528646e4d4725a3ad51"), looks := false }, kinds := [], alts := [], laidByText := true, laidKinds := [.data, .pinned], laidTests := true, laidLooks := .later }
def StateMaysCardSaid : Prop := Claim7.holds Tryd.pinned (.plain (OpenSpec.ofChange stateMaysSpec)) stateMaysCard

/-- THE TIED CARD OF 'pinfoldlaw14.StateHolds'. -/
def stateHoldsCard : Claim7 := { stood := { row := stateHoldsRow, standIns := [], harness := (true, "b2b8682f7dfc2be1faeb90ada2a699301d1a89f877749528646e4d4725a3ad51"), looks := false }, kinds := [], alts := [], laidByText := true, laidKinds := [.data, .pinned], laidTests := true, laidLooks := .later }
def StateHoldsCardSaid : Prop := Claim7.holds Tryd.pinned (.plain (OpenSpec.ofChange stateHoldsSpec)) stateHoldsCard

/-- THE TIED CARD OF 'pinfoldlaw14.StatePlays'. -/
def statePlaysCard : Claim7 := { stood := { row := statePlaysRow, standIns := [], harness := (true, "b2b8682f7dfc2be1faeb90ada2a699301d1a89f877749528646e4d4725a3ad51"), looks := false }, kinds := [], alts := [], laidByText := true, laidKinds := [.data, .pinned], laidTests := true, laidLooks := .later }
def StatePlaysCardSaid : Prop := Claim7.holds Tryd.pinned (.plain (OpenSpec.ofChange statePlaysSpec)) statePlaysCard

/-- THE TIED CARD OF 'pinfoldlaw14.StateTexts'. -/
def stateTextsCard : Claim7 := { stood := { row := stateTextsRow, standIns := [], harness := (true, "b2b8682f7dfc2be1faeb90ada2a699301d1a89f877749528646e4d4725a3ad51"), looks := false }, kinds := [], alts := [], laidByText := true, laidKinds := [.data, .pinned], laidTests := true, laidLooks := .later }
def StateTextsCardSaid : Prop := Claim7.holds Tryd.pinned (.plain (OpenSpec.ofChange stateTextsSpec)) stateTextsCard

/-- THE SECOND FORM's CARD OF 'pinfoldlaw14.StateMays'. -/
def stateMaysUptoCard : Claim7 := { stood := { row := stateMaysUptoRow, standIns := [], harness := (true, "b2b8682f7dfc2be1faeb90ada2a699301d1a89f877749528646e4d4725a3ad51"), looks := false }, kinds := [], alts := [], laidByText := true, laidKinds := [.data, .pinned], laidTests := true, laidLooks := .later }
def StateMaysUptoCardSaid : Prop := Claim7.holds Tryd.pinned (.plain (OpenSpec.upto stateMaysSpec)) stateMaysUptoCard

/-- THE SECOND FORM's CARD OF 'pinfoldlaw14.StateHolds'. -/
def stateHoldsUptoCard : Claim7 := { stood := { row := stateHoldsUptoRow, standIns := [], harness := (true, "b2b8682f7dfc2be1faeb90ada2a699301d1a89f877749528646e4d4725a3ad51"), looks := false }, kinds := [], alts := [], laidByText := true, laidKinds := [.data, .pinned], laidTests := true, laidLooks := .later }
def StateHoldsUptoCardSaid : Prop := Claim7.holds Tryd.pinned (.plain (OpenSpec.upto stateHoldsSpec)) stateHoldsUptoCard

/-- THE SECOND FORM's CARD OF 'pinfoldlaw14.StatePlays'. -/
def statePlaysUptoCard : Claim7 := { stood := { row := statePlaysUptoRow, standIns := [], harness := (true, "b2b8682f7dfc2be1faeb90ada2a699301d1a89f877749528646e4d4725a3ad51"), looks := false }, kinds := [], alts := [], laidByText := true, laidKinds := [.data, .pinned], laidTests := true, laidLooks := .later }
def StatePlaysUptoCardSaid : Prop := Claim7.holds Tryd.pinned (.plain (OpenSpec.upto statePlaysSpec)) statePlaysUptoCard

/-- THE SECOND FORM's CARD OF 'pinfoldlaw14.StateTexts'. -/
def stateTextsUptoCard : Claim7 := { stood := { row := stateTextsUptoRow, standIns := [], harness := (true, "b2b8682f7dfc2be1faeb90ada2a699301d1a89f877749528646e4d4725a3ad51"), looks := false }, kinds := [], alts := [], laidByText := true, laidKinds := [.data, .pinned], laidTests := true, laidLooks := .later }
def StateTextsUptoCardSaid : Prop := Claim7.holds Tryd.pinned (.plain (OpenSpec.upto stateTextsSpec)) stateTextsUptoCard
end Rows
end Go.Proofs.YtdhbhjkfcpglbaaDoor
