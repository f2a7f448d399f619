/-
  No cell of these rows narrows 'for every input' (looked for: loops, veiled, ifaces, maps, wideKeys, modest, calm, conditions, laid).
  DERIVED. THE GIVEN ROWS OF THIS SEAT. 4 by the template 'for every input the law returns true; each argument reads behind the call as it read before'; 0 by the template 'total and deterministic' (their statements: YtchepkihlnpfeaaTotals.lean).
  GIVEN WITH THE SEED: the statements are not yours to turn. If you find one false, say at which input.
  Laid BY PROGRAM, IN A SANDBOX (cutbox-rows.mjs): the forced cells as the released guide's own fill.sh prints them over the translation 4580ee5dedaddff7… (all of the seat's roots in one cut). By AI agents, Wed Nov 11 2026. No macro, syntax, notation, axiom, sorry.
-/
import Derived.Test.YtchepkihlnpfeaaChecked
import GoSem.Claim
import GoSem.ClaimJoined
import GoSem.ClaimMapViews
import Derived.JoinedTies
import Derived.KernelRfl
namespace Go.Proofs.Ytchepkihlnpfeaa
/- THE CELL 'sum', in the pinned program and in every row, IS THE sha256 OF THE DUMP (.gsa) THAT YtchepkihlnpfeaaProg.lean LOADS. Nothing in Lean hashes anything: it is a label: what it is worth is what the hold of that sum in a sandbox is worth. -/
noncomputable def Try.pinned : Pinned := { name := "ytchepkihlnpfeaa", sum := "4580ee5dedaddff750cac18290e427aec3c347601fffbc500ca3abca376bf6fc", checked := Try.checked }
namespace Rows
def none {H : Type} : Left H := { results := [], args := [] }

/-- 'pinfoldlaw08.PageRuns': WHATEVER THE INPUT: true; the input reads as it did. -/
def pageRunsSpec : ChangeSpec := { name := "pageRuns", fn := fun _ => fun
  | [d1, d2, d3] => { results := [.lit (.bool true)], args := [d1, d2, d3] }
  | _ => none }
def pageRunsRow : OpenClaim := { program := "ytchepkihlnpfeaa", sum := "4580ee5dedaddff750cac18290e427aec3c347601fffbc500ca3abca376bf6fc", func := "pinfold/pinfoldlaw08.PageRuns", spec := "pageRuns", unfollowed := true, recurses := true, apart := false }
def PageRunsSaid : Prop := pageRunsRow.holds Try.pinned (OpenSpec.ofChange pageRunsSpec)

/-- ITS FALSE NEIGHBOUR: 'it returns false'. Refute it at one input. -/
def pageRunsWrong : ChangeSpec := { name := "pageRuns", fn := fun _ => fun
  | [d1, d2, d3] => { results := [.lit (.bool false)], args := [d1, d2, d3] }
  | _ => none }
def PageRunsWrongFalsely : Prop := pageRunsRow.holds Try.pinned (OpenSpec.ofChange pageRunsWrong)

/-- 'pinfoldlaw08.PagePlays': WHATEVER THE INPUT: true; the input reads as it did. -/
def pagePlaysSpec : ChangeSpec := { name := "pagePlays", fn := fun _ => fun
  | [d] => { results := [.lit (.bool true)], args := [d] }
  | _ => none }
def pagePlaysRow : OpenClaim := { program := "ytchepkihlnpfeaa", sum := "4580ee5dedaddff750cac18290e427aec3c347601fffbc500ca3abca376bf6fc", func := "pinfold/pinfoldlaw08.PagePlays", spec := "pagePlays", inPlace := ["maps.clone"], unfollowed := true, recurses := true, apart := false }
def PagePlaysSaid : Prop := pagePlaysRow.holds Try.pinned (OpenSpec.ofChange pagePlaysSpec)

/-- ITS FALSE NEIGHBOUR: 'it returns false'. Refute it at one input. -/
def pagePlaysWrong : ChangeSpec := { name := "pagePlays", fn := fun _ => fun
  | [d] => { results := [.lit (.bool false)], args := [d] }
  | _ => none }
def PagePlaysWrongFalsely : Prop := pagePlaysRow.holds Try.pinned (OpenSpec.ofChange pagePlaysWrong)

/-- 'pinfoldlaw08.PageCopies': WHATEVER THE INPUT: true; the input reads as it did. -/
def pageCopiesSpec : ChangeSpec := { name := "pageCopies", fn := fun _ => fun
  | [d1, d2, d3] => { results := [.lit (.bool true)], args := [d1, d2, d3] }
  | _ => none }
def pageCopiesRow : OpenClaim := { program := "ytchepkihlnpfeaa", sum := "4580ee5dedaddff750cac18290e427aec3c347601fffbc500ca3abca376bf6fc", func := "pinfold/pinfoldlaw08.PageCopies", spec := "pageCopies", inPlace := ["maps.clone"], unfollowed := true, recurses := true, apart := false }
def PageCopiesSaid : Prop := pageCopiesRow.holds Try.pinned (OpenSpec.ofChange pageCopiesSpec)

/-- ITS FALSE NEIGHBOUR: 'it returns false'. Refute it at one input. -/
def pageCopiesWrong : ChangeSpec := { name := "pageCopies", fn := fun _ => fun
  | [d1, d2, d3] => { results := [.lit (.bool false)], args := [d1, d2, d3] }
  | _ => none }
def PageCopiesWrongFalsely : Prop := pageCopiesRow.holds Try.pinned (OpenSpec.ofChange pageCopiesWrong)

/-- 'pinfoldlaw08.PageHolds': WHATEVER THE INPUT: true; the input reads as it did. -/
def pageHoldsSpec : ChangeSpec := { name := "pageHolds", fn := fun _ => fun
  | [d1, d2, d3] => { results := [.lit (.bool true)], args := [d1, d2, d3] }
  | _ => none }
def pageHoldsRow : OpenClaim := { program := "ytchepkihlnpfeaa", sum := "4580ee5dedaddff750cac18290e427aec3c347601fffbc500ca3abca376bf6fc", func := "pinfold/pinfoldlaw08.PageHolds", spec := "pageHolds", inPlace := ["maps.clone"], unfollowed := true, recurses := true, apart := false }
def PageHoldsSaid : Prop := pageHoldsRow.holds Try.pinned (OpenSpec.ofChange pageHoldsSpec)

/-- ITS FALSE NEIGHBOUR: 'it returns false'. Refute it at one input. -/
def pageHoldsWrong : ChangeSpec := { name := "pageHolds", fn := fun _ => fun
  | [d1, d2, d3] => { results := [.lit (.bool false)], args := [d1, d2, d3] }
  | _ => none }
def PageHoldsWrongFalsely : Prop := pageHoldsRow.holds Try.pinned (OpenSpec.ofChange pageHoldsWrong)

/- THE SECOND FORM. 'bulk': how many values and letters a reading holds, each counted each time it is reached (what is shared counts as often as it is met; a slice's spare places count too). A statement '..UptoSaid' is the law's where the arguments, and the package variables that the reading takes, are together of bulk at most 1048576: NARROWER than '..Said'. Prove '..Said' where nothing that the law and all that it calls make is longer than what came in: it says more and counts as full. Else prove '..UptoSaid'. A law counts once. -/
mutual
def uptoBulk {H : Type} : DataW H → Nat
  | .lit (.string bytes) => bytes.length + 1
  | .lit _ => 1
  | .nil => 1
  | .ptr d => uptoBulk d + 1
  | .slice elems spare => uptoBulkAll elems + uptoBulkAll spare + 1
  | .agg parts => uptoBulkAll parts + 1
  | .iface _ d => uptoBulk d + 1
  | .map entries => uptoBulkEntries entries + 1
  | .held _ => 1
def uptoBulkAll {H : Type} : List (DataW H) → Nat
  | [] => 0
  | d :: r => uptoBulk d + uptoBulkAll r
def uptoBulkEntries {H : Type} : List (Lit × DataW H) → Nat
  | [] => 0
  | x :: r => uptoBulkEntry x + uptoBulkEntries r
def uptoBulkEntry {H : Type} : Lit × DataW H → Nat
  | (.string bytes, d) => bytes.length + uptoBulk d + 1
  | (_, d) => uptoBulk d + 1
 end
def uptoSmall : (H : Type) → List (DataW H) → Bool := fun _ ds => decide (uptoBulkAll ds ≤ 1048576)
def OpenSpec.upto (s : _root_.Go.ChangeSpec) : _root_.Go.OpenSpec := { _root_.Go.OpenSpec.ofChange s with cond := some uptoSmall }

/-- 'pinfoldlaw08.PageRuns', WHERE WHAT IT READS IS OF BULK AT MOST 1048576: true; the input reads as it did. -/
def pageRunsUptoRow : OpenClaim := { program := "ytchepkihlnpfeaa", sum := "4580ee5dedaddff750cac18290e427aec3c347601fffbc500ca3abca376bf6fc", func := "pinfold/pinfoldlaw08.PageRuns", spec := "pageRuns", unfollowed := true, recurses := true, apart := false, narrowed := true }
def PageRunsUptoSaid : Prop := pageRunsUptoRow.holds Try.pinned (OpenSpec.upto pageRunsSpec)

/-- 'pinfoldlaw08.PagePlays', WHERE WHAT IT READS IS OF BULK AT MOST 1048576: true; the input reads as it did. -/
def pagePlaysUptoRow : OpenClaim := { program := "ytchepkihlnpfeaa", sum := "4580ee5dedaddff750cac18290e427aec3c347601fffbc500ca3abca376bf6fc", func := "pinfold/pinfoldlaw08.PagePlays", spec := "pagePlays", inPlace := ["maps.clone"], unfollowed := true, recurses := true, apart := false, narrowed := true }
def PagePlaysUptoSaid : Prop := pagePlaysUptoRow.holds Try.pinned (OpenSpec.upto pagePlaysSpec)

/-- 'pinfoldlaw08.PageCopies', WHERE WHAT IT READS IS OF BULK AT MOST 1048576: true; the input reads as it did. -/
def pageCopiesUptoRow : OpenClaim := { program := "ytchepkihlnpfeaa", sum := "4580ee5dedaddff750cac18290e427aec3c347601fffbc500ca3abca376bf6fc", func := "pinfold/pinfoldlaw08.PageCopies", spec := "pageCopies", inPlace := ["maps.clone"], unfollowed := true, recurses := true, apart := false, narrowed := true }
def PageCopiesUptoSaid : Prop := pageCopiesUptoRow.holds Try.pinned (OpenSpec.upto pageCopiesSpec)

/-- 'pinfoldlaw08.PageHolds', WHERE WHAT IT READS IS OF BULK AT MOST 1048576: true; the input reads as it did. -/
def pageHoldsUptoRow : OpenClaim := { program := "ytchepkihlnpfeaa", sum := "4580ee5dedaddff750cac18290e427aec3c347601fffbc500ca3abca376bf6fc", func := "pinfold/pinfoldlaw08.PageHolds", spec := "pageHolds", inPlace := ["maps.clone"], unfollowed := true, recurses := true, apart := false, narrowed := true }
def PageHoldsUptoSaid : Prop := pageHoldsUptoRow.holds Try.pinned (OpenSpec.upto pageHoldsSpec)

end Rows
end Go.Proofs.Ytchepkihlnpfeaa
