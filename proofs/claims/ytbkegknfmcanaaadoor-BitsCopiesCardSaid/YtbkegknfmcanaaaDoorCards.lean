/-
  DERIVED. GIVEN WITH THE SEED: THE CARDS: each row of YtbkegknfmcanaaaDoorRows.lean that lists a variable, with what it lists TIED to the program's text (the seventh form; the later family's looks); each row that meets fmt, with fmt's text TOLD by the authors' own Lean function (tested against real Go, not proved from fmt's source: count such statements apart). THE CARD IS WHAT COUNTS. Prove the row's statement (the work); the ties are given (YtbkegknfmcanaaaDoorTie.lean); close each card by the builder's one call (the guide's Derived/Test/ToyasCard.lean, 'card_holds'). Laid BY PROGRAM, IN A SANDBOX (cutbox-door.mjs). By AI agents, Wed Nov 11 2026. No macro, syntax, notation, axiom, sorry.
-/
import Derived.Test.YtbkegknfmcanaaaDoorRows
import GoSem.ClaimSeven
namespace Go.Proofs.YtbkegknfmcanaaaDoor
namespace Rows

/-- THE TIED CARD OF 'pinfoldlaw04.BitsBounds'. -/
def bitsBoundsCard : Claim7 := { stood := { row := bitsBoundsRow, standIns := [], harness := (true, "82c39567b4290d96348fdf62c6fc6c820ecddb9eb5e40f15ecc886c411001e8f"), looks := false }, kinds := [], alts := [], laidByText := true, laidKinds := [.data, .pinned], laidTests := true, laidLooks := .later }
def BitsBoundsCardSaid : Prop := Claim7.holds Tryd.pinned (.plain (OpenSpec.ofChange bitsBoundsSpec)) bitsBoundsCard

/-- THE TIED CARD OF 'pinfoldlaw04.BitsFinds'. -/
def bitsFindsCard : Claim7 := { stood := { row := bitsFindsRow, standIns := [], harness := (true, "82c39567b4290d96348fdf62c6fc6c820ecddb9eb5e40f15ecc886c411001e8f"), looks := false }, kinds := [], alts := [], laidByText := true, laidKinds := [.data, .pinned], laidTests := true, laidLooks := .later }
def BitsFindsCardSaid : Prop := Claim7.holds Tryd.pinned (.plain (OpenSpec.ofChange bitsFindsSpec)) bitsFindsCard

/-- THE TIED CARD OF 'pinfoldlaw04.BitsHolds'. -/
def bitsHoldsCard : Claim7 := { stood := { row := bitsHoldsRow, standIns := [], harness := (true, "82c39567b4290d96348fdf62c6fc6c820ecddb9eb5e40f15ecc886c411001e8f"), looks := false }, kinds := [], alts := [], laidByText := true, laidKinds := [.data, .pinned], laidTests := true, laidLooks := .later }
def BitsHoldsCardSaid : Prop := Claim7.holds Tryd.pinned (.plain (OpenSpec.ofChange bitsHoldsSpec)) bitsHoldsCard

/-- THE TIED CARD OF 'pinfoldlaw04.BitsPlays'. -/
def bitsPlaysCard : Claim7 := { stood := { row := bitsPlaysRow, standIns := [], harness := (true, "82c39567b4290d96348fdf62c6fc6c820ecddb9eb5e40f15ecc886c411001e8f"), looks := false }, kinds := [], alts := [], laidByText := true, laidKinds := [.data, .pinned], laidTests := true, laidLooks := .later }
def BitsPlaysCardSaid : Prop := Claim7.holds Tryd.pinned (.plain (OpenSpec.ofChange bitsPlaysSpec)) bitsPlaysCard

/-- THE TIED CARD OF 'pinfoldlaw04.BitsCopies'. -/
def bitsCopiesCard : Claim7 := { stood := { row := bitsCopiesRow, standIns := [], harness := (true, "82c39567b4290d96348fdf62c6fc6c820ecddb9eb5e40f15ecc886c411001e8f"), looks := false }, kinds := [], alts := [], laidByText := true, laidKinds := [.data, .pinned], laidTests := true, laidLooks := .later }
def BitsCopiesCardSaid : Prop := Claim7.holds Tryd.pinned (.plain (OpenSpec.ofChange bitsCopiesSpec)) bitsCopiesCard

/-- THE SECOND FORM's CARD OF 'pinfoldlaw04.BitsBounds'. -/
def bitsBoundsUptoCard : Claim7 := { stood := { row := bitsBoundsUptoRow, standIns := [], harness := (true, "82c39567b4290d96348fdf62c6fc6c820ecddb9eb5e40f15ecc886c411001e8f"), looks := false }, kinds := [], alts := [], laidByText := true, laidKinds := [.data, .pinned], laidTests := true, laidLooks := .later }
def BitsBoundsUptoCardSaid : Prop := Claim7.holds Tryd.pinned (.plain (OpenSpec.upto bitsBoundsSpec)) bitsBoundsUptoCard

/-- THE SECOND FORM's CARD OF 'pinfoldlaw04.BitsFinds'. -/
def bitsFindsUptoCard : Claim7 := { stood := { row := bitsFindsUptoRow, standIns := [], harness := (true, "82c39567b4290d96348fdf62c6fc6c820ecddb9eb5e40f15ecc886c411001e8f"), looks := false }, kinds := [], alts := [], laidByText := true, laidKinds := [.data, .pinned], laidTests := true, laidLooks := .later }
def BitsFindsUptoCardSaid : Prop := Claim7.holds Tryd.pinned (.plain (OpenSpec.upto bitsFindsSpec)) bitsFindsUptoCard

/-- THE SECOND FORM's CARD OF 'pinfoldlaw04.BitsHolds'. -/
def bitsHoldsUptoCard : Claim7 := { stood := { row := bitsHoldsUptoRow, standIns := [], harness := (true, "82c39567b4290d96348fdf62c6fc6c820ecddb9eb5e40f15ecc886c411001e8f"), looks := false }, kinds := [], alts := [], laidByText := true, laidKinds := [.data, .pinned], laidTests := true, laidLooks := .later }
def BitsHoldsUptoCardSaid : Prop := Claim7.holds Tryd.pinned (.plain (OpenSpec.upto bitsHoldsSpec)) bitsHoldsUptoCard

/-- THE SECOND FORM's CARD OF 'pinfoldlaw04.BitsPlays'. -/
def bitsPlaysUptoCard : Claim7 := { stood := { row := bitsPlaysUptoRow, standIns := [], harness := (true, "82c39567b4290d96348fdf62c6fc6c820ecddb9eb5e40f15ecc886c411001e8f"), looks := false }, kinds := [], alts := [], laidByText := true, laidKinds := [.data, .pinned], laidTests := true, laidLooks := .later }
def BitsPlaysUptoCardSaid : Prop := Claim7.holds Tryd.pinned (.plain (OpenSpec.upto bitsPlaysSpec)) bitsPlaysUptoCard

/-- THE SECOND FORM's CARD OF 'pinfoldlaw04.BitsCopies'. -/
def bitsCopiesUptoCard : Claim7 := { stood := { row := bitsCopiesUptoRow, standIns := [], harness := (true, "82c39567b4290d96348fdf62c6fc6c820ecddb9eb5e40f15ecc886c411001e8f"), looks := false }, kinds := [], alts := [], laidByText := true, laidKinds := [.data, .pinned], laidTests := true, laidLooks := .later }
def BitsCopiesUptoCardSaid : Prop := Claim7.holds Tryd.pinned (.plain (OpenSpec.upto bitsCopiesSpec)) bitsCopiesUptoCard
end Rows
end Go.Proofs.YtbkegknfmcanaaaDoor
