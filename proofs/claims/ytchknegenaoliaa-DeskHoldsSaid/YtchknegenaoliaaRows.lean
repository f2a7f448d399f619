/-
  No cell of these rows narrows 'for every input' (looked for: loops, veiled, ifaces, maps, wideKeys, modest, calm, conditions, laid).
  DERIVED. THE GIVEN ROWS OF THIS SEAT. 3 by the template 'for every input the law returns true; each argument reads behind the call as it read before'; 0 by the template 'total and deterministic' (their statements: YtchknegenaoliaaTotals.lean).
  GIVEN WITH THE SEED: the statements are not yours to turn. If you find one false, say at which input.
  Laid BY PROGRAM, IN A SANDBOX (cutbox-rows.mjs): the forced cells as the released guide's own fill.sh prints them over the translation 508dc90ee545845d… (all of the seat's roots in one cut). By AI agents, Wed Nov 11 2026. No macro, syntax, notation, axiom, sorry.
-/
import Derived.Test.YtchknegenaoliaaChecked
import GoSem.Claim
import GoSem.ClaimJoined
import GoSem.ClaimMapViews
import Derived.JoinedTies
import Derived.KernelRfl
namespace Go.Proofs.Ytchknegenaoliaa
/- THE CELL 'sum', in the pinned program and in every row, IS THE sha256 OF THE DUMP (.gsa) THAT YtchknegenaoliaaProg.lean LOADS. Nothing in Lean hashes anything: it is a label: what it is worth is what the hold of that sum in a sandbox is worth. -/
noncomputable def Try.pinned : Pinned := { name := "ytchknegenaoliaa", sum := "508dc90ee545845d7af3e5e63e3b3eff95dc7cb70dab30a43ca8c5291494510d", checked := Try.checked }
namespace Rows
def none {H : Type} : Left H := { results := [], args := [] }

/-- 'pinfoldlaw21.DeskHolds': WHATEVER THE INPUT: true; the input reads as it did. -/
def deskHoldsSpec : ChangeSpec := { name := "deskHolds", fn := fun _ => fun
  | [d] => { results := [.lit (.bool true)], args := [d] }
  | _ => none }
def deskHoldsRow : OpenClaim := { program := "ytchknegenaoliaa", sum := "508dc90ee545845d7af3e5e63e3b3eff95dc7cb70dab30a43ca8c5291494510d", func := "pinfold/pinfoldlaw21.DeskHolds", spec := "deskHolds", unfollowed := true, recurses := true, plainKeys := false, apart := false }
def DeskHoldsSaid : Prop := deskHoldsRow.holds Try.pinned (OpenSpec.ofChange deskHoldsSpec)

/-- ITS FALSE NEIGHBOUR: 'it returns false'. Refute it at one input. -/
def deskHoldsWrong : ChangeSpec := { name := "deskHolds", fn := fun _ => fun
  | [d] => { results := [.lit (.bool false)], args := [d] }
  | _ => none }
def DeskHoldsWrongFalsely : Prop := deskHoldsRow.holds Try.pinned (OpenSpec.ofChange deskHoldsWrong)

/-- 'pinfoldlaw21.DeskPlays': WHATEVER THE INPUT: true; the input reads as it did. -/
def deskPlaysSpec : ChangeSpec := { name := "deskPlays", fn := fun _ => fun
  | [d] => { results := [.lit (.bool true)], args := [d] }
  | _ => none }
def deskPlaysRow : OpenClaim := { program := "ytchknegenaoliaa", sum := "508dc90ee545845d7af3e5e63e3b3eff95dc7cb70dab30a43ca8c5291494510d", func := "pinfold/pinfoldlaw21.DeskPlays", spec := "deskPlays", inPlace := ["maps.clone"], unfollowed := true, recurses := true, plainKeys := false, apart := false }
def DeskPlaysSaid : Prop := deskPlaysRow.holds Try.pinned (OpenSpec.ofChange deskPlaysSpec)

/-- ITS FALSE NEIGHBOUR: 'it returns false'. Refute it at one input. -/
def deskPlaysWrong : ChangeSpec := { name := "deskPlays", fn := fun _ => fun
  | [d] => { results := [.lit (.bool false)], args := [d] }
  | _ => none }
def DeskPlaysWrongFalsely : Prop := deskPlaysRow.holds Try.pinned (OpenSpec.ofChange deskPlaysWrong)

/-- 'pinfoldlaw21.DeskCopies': WHATEVER THE INPUT: true; the input reads as it did. -/
def deskCopiesSpec : ChangeSpec := { name := "deskCopies", fn := fun _ => fun
  | [d1, d2] => { results := [.lit (.bool true)], args := [d1, d2] }
  | _ => none }
def deskCopiesRow : OpenClaim := { program := "ytchknegenaoliaa", sum := "508dc90ee545845d7af3e5e63e3b3eff95dc7cb70dab30a43ca8c5291494510d", func := "pinfold/pinfoldlaw21.DeskCopies", spec := "deskCopies", inPlace := ["maps.clone"], unfollowed := true, recurses := true, plainKeys := false, apart := false }
def DeskCopiesSaid : Prop := deskCopiesRow.holds Try.pinned (OpenSpec.ofChange deskCopiesSpec)

/-- ITS FALSE NEIGHBOUR: 'it returns false'. Refute it at one input. -/
def deskCopiesWrong : ChangeSpec := { name := "deskCopies", fn := fun _ => fun
  | [d1, d2] => { results := [.lit (.bool false)], args := [d1, d2] }
  | _ => none }
def DeskCopiesWrongFalsely : Prop := deskCopiesRow.holds Try.pinned (OpenSpec.ofChange deskCopiesWrong)

/- THE SECOND FORM. 'bulk': how many values and letters a reading holds, each counted each time it is reached (what is shared counts as often as it is met; a slice's spare places count too). A statement '..UptoSaid' is the law's where the arguments, and the package variables that the reading takes, are together of bulk at most 1048576: NARROWER than '..Said'. Prove '..Said' where nothing that the law and all that it calls make is longer than what came in: it says more and counts as full. Else prove '..UptoSaid'. A law counts once. -/
mutual
def uptoBulk {H : Type} : DataW H → Nat
  | .lit (.string bytes) => bytes.length + 1
  | .lit _ => 1
  | .nil => 1
  | .ptr d => uptoBulk d + 1
  | .slice elems spare => uptoBulkAll elems + uptoBulkAll spare + 1
  | .agg parts => uptoBulkAll parts + 1
  | .iface _ d => uptoBulk d + 1
  | .map entries => uptoBulkEntries entries + 1
  | .held _ => 1
def uptoBulkAll {H : Type} : List (DataW H) → Nat
  | [] => 0
  | d :: r => uptoBulk d + uptoBulkAll r
def uptoBulkEntries {H : Type} : List (Lit × DataW H) → Nat
  | [] => 0
  | x :: r => uptoBulkEntry x + uptoBulkEntries r
def uptoBulkEntry {H : Type} : Lit × DataW H → Nat
  | (.string bytes, d) => bytes.length + uptoBulk d + 1
  | (_, d) => uptoBulk d + 1
 end
def uptoSmall : (H : Type) → List (DataW H) → Bool := fun _ ds => decide (uptoBulkAll ds ≤ 1048576)
def OpenSpec.upto (s : _root_.Go.ChangeSpec) : _root_.Go.OpenSpec := { _root_.Go.OpenSpec.ofChange s with cond := some uptoSmall }

/-- 'pinfoldlaw21.DeskHolds', WHERE WHAT IT READS IS OF BULK AT MOST 1048576: true; the input reads as it did. -/
def deskHoldsUptoRow : OpenClaim := { program := "ytchknegenaoliaa", sum := "508dc90ee545845d7af3e5e63e3b3eff95dc7cb70dab30a43ca8c5291494510d", func := "pinfold/pinfoldlaw21.DeskHolds", spec := "deskHolds", unfollowed := true, recurses := true, plainKeys := false, apart := false, narrowed := true }
def DeskHoldsUptoSaid : Prop := deskHoldsUptoRow.holds Try.pinned (OpenSpec.upto deskHoldsSpec)

/-- 'pinfoldlaw21.DeskPlays', WHERE WHAT IT READS IS OF BULK AT MOST 1048576: true; the input reads as it did. -/
def deskPlaysUptoRow : OpenClaim := { program := "ytchknegenaoliaa", sum := "508dc90ee545845d7af3e5e63e3b3eff95dc7cb70dab30a43ca8c5291494510d", func := "pinfold/pinfoldlaw21.DeskPlays", spec := "deskPlays", inPlace := ["maps.clone"], unfollowed := true, recurses := true, plainKeys := false, apart := false, narrowed := true }
def DeskPlaysUptoSaid : Prop := deskPlaysUptoRow.holds Try.pinned (OpenSpec.upto deskPlaysSpec)

/-- 'pinfoldlaw21.DeskCopies', WHERE WHAT IT READS IS OF BULK AT MOST 1048576: true; the input reads as it did. -/
def deskCopiesUptoRow : OpenClaim := { program := "ytchknegenaoliaa", sum := "508dc90ee545845d7af3e5e63e3b3eff95dc7cb70dab30a43ca8c5291494510d", func := "pinfold/pinfoldlaw21.DeskCopies", spec := "deskCopies", inPlace := ["maps.clone"], unfollowed := true, recurses := true, plainKeys := false, apart := false, narrowed := true }
def DeskCopiesUptoSaid : Prop := deskCopiesUptoRow.holds Try.pinned (OpenSpec.upto deskCopiesSpec)

end Rows
end Go.Proofs.Ytchknegenaoliaa
