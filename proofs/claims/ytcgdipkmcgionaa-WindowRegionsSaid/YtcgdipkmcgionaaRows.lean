/-
  No cell of these rows narrows 'for every input' (looked for: loops, veiled, ifaces, maps, wideKeys, modest, calm, conditions, laid).
  DERIVED. THE GIVEN ROWS OF THIS SEAT. 5 by the template 'for every input the law returns true; each argument reads behind the call as it read before'; 0 by the template 'total and deterministic' (their statements: YtcgdipkmcgionaaTotals.lean).
  GIVEN WITH THE SEED: the statements are not yours to turn. If you find one false, say at which input.
  Laid BY PROGRAM, IN A SANDBOX (cutbox-rows.mjs): the forced cells as the released guide's own fill.sh prints them over the translation a18ddd693fc2f0a0… (all of the seat's roots in one cut). By AI agents, Wed Nov 11 2026. No macro, syntax, notation, axiom, sorry.
-/
import Derived.Test.YtcgdipkmcgionaaChecked
import GoSem.Claim
import GoSem.ClaimJoined
import GoSem.ClaimMapViews
import Derived.JoinedTies
import Derived.KernelRfl
namespace Go.Proofs.Ytcgdipkmcgionaa
/- THE CELL 'sum', in the pinned program and in every row, IS THE sha256 OF THE DUMP (.gsa) THAT YtcgdipkmcgionaaProg.lean LOADS. Nothing in Lean hashes anything: it is a label: what it is worth is what the hold of that sum in a sandbox is worth. -/
noncomputable def Try.pinned : Pinned := { name := "ytcgdipkmcgionaa", sum := "a18ddd693fc2f0a069d6a126b201a55412874e3cc7e54c1d4416512530d0e785", checked := Try.checked }
namespace Rows
def none {H : Type} : Left H := { results := [], args := [] }

/-- 'pinfoldlaw10.WindowFirsts': WHATEVER THE INPUT: true; the input reads as it did. -/
def windowFirstsSpec : ChangeSpec := { name := "windowFirsts", fn := fun _ => fun
  | [d1, d2] => { results := [.lit (.bool true)], args := [d1, d2] }
  | _ => none }
def windowFirstsRow : OpenClaim := { program := "ytcgdipkmcgionaa", sum := "a18ddd693fc2f0a069d6a126b201a55412874e3cc7e54c1d4416512530d0e785", func := "pinfold/pinfoldlaw10.WindowFirsts", spec := "windowFirsts", unfollowed := true, recurses := true, apart := false }
def WindowFirstsSaid : Prop := windowFirstsRow.holds Try.pinned (OpenSpec.ofChange windowFirstsSpec)

/-- ITS FALSE NEIGHBOUR: 'it returns false'. Refute it at one input. -/
def windowFirstsWrong : ChangeSpec := { name := "windowFirsts", fn := fun _ => fun
  | [d1, d2] => { results := [.lit (.bool false)], args := [d1, d2] }
  | _ => none }
def WindowFirstsWrongFalsely : Prop := windowFirstsRow.holds Try.pinned (OpenSpec.ofChange windowFirstsWrong)

/-- 'pinfoldlaw10.WindowSites': WHATEVER THE INPUT: true; the input reads as it did. -/
def windowSitesSpec : ChangeSpec := { name := "windowSites", fn := fun _ => fun
  | [d] => { results := [.lit (.bool true)], args := [d] }
  | _ => none }
def windowSitesRow : OpenClaim := { program := "ytcgdipkmcgionaa", sum := "a18ddd693fc2f0a069d6a126b201a55412874e3cc7e54c1d4416512530d0e785", func := "pinfold/pinfoldlaw10.WindowSites", spec := "windowSites", unfollowed := true, recurses := true, apart := false }
def WindowSitesSaid : Prop := windowSitesRow.holds Try.pinned (OpenSpec.ofChange windowSitesSpec)

/-- ITS FALSE NEIGHBOUR: 'it returns false'. Refute it at one input. -/
def windowSitesWrong : ChangeSpec := { name := "windowSites", fn := fun _ => fun
  | [d] => { results := [.lit (.bool false)], args := [d] }
  | _ => none }
def WindowSitesWrongFalsely : Prop := windowSitesRow.holds Try.pinned (OpenSpec.ofChange windowSitesWrong)

/-- 'pinfoldlaw10.WindowBytes': WHATEVER THE INPUT: true; the input reads as it did. -/
def windowBytesSpec : ChangeSpec := { name := "windowBytes", fn := fun _ => fun
  | [d1, d2, d3] => { results := [.lit (.bool true)], args := [d1, d2, d3] }
  | _ => none }
def windowBytesRow : OpenClaim := { program := "ytcgdipkmcgionaa", sum := "a18ddd693fc2f0a069d6a126b201a55412874e3cc7e54c1d4416512530d0e785", func := "pinfold/pinfoldlaw10.WindowBytes", spec := "windowBytes", unfollowed := true, recurses := true, apart := false }
def WindowBytesSaid : Prop := windowBytesRow.holds Try.pinned (OpenSpec.ofChange windowBytesSpec)

/-- ITS FALSE NEIGHBOUR: 'it returns false'. Refute it at one input. -/
def windowBytesWrong : ChangeSpec := { name := "windowBytes", fn := fun _ => fun
  | [d1, d2, d3] => { results := [.lit (.bool false)], args := [d1, d2, d3] }
  | _ => none }
def WindowBytesWrongFalsely : Prop := windowBytesRow.holds Try.pinned (OpenSpec.ofChange windowBytesWrong)

/-- 'pinfoldlaw10.WindowHolds': WHATEVER THE INPUT: true; the input reads as it did. -/
def windowHoldsSpec : ChangeSpec := { name := "windowHolds", fn := fun _ => fun
  | [d1, d2] => { results := [.lit (.bool true)], args := [d1, d2] }
  | _ => none }
def windowHoldsRow : OpenClaim := { program := "ytcgdipkmcgionaa", sum := "a18ddd693fc2f0a069d6a126b201a55412874e3cc7e54c1d4416512530d0e785", func := "pinfold/pinfoldlaw10.WindowHolds", spec := "windowHolds", unfollowed := true, recurses := true, apart := false }
def WindowHoldsSaid : Prop := windowHoldsRow.holds Try.pinned (OpenSpec.ofChange windowHoldsSpec)

/-- ITS FALSE NEIGHBOUR: 'it returns false'. Refute it at one input. -/
def windowHoldsWrong : ChangeSpec := { name := "windowHolds", fn := fun _ => fun
  | [d1, d2] => { results := [.lit (.bool false)], args := [d1, d2] }
  | _ => none }
def WindowHoldsWrongFalsely : Prop := windowHoldsRow.holds Try.pinned (OpenSpec.ofChange windowHoldsWrong)

/-- 'pinfoldlaw10.WindowRegions': WHATEVER THE INPUT: true; the input reads as it did. -/
def windowRegionsSpec : ChangeSpec := { name := "windowRegions", fn := fun _ => fun
  | [d1, d2] => { results := [.lit (.bool true)], args := [d1, d2] }
  | _ => none }
def windowRegionsRow : OpenClaim := { program := "ytcgdipkmcgionaa", sum := "a18ddd693fc2f0a069d6a126b201a55412874e3cc7e54c1d4416512530d0e785", func := "pinfold/pinfoldlaw10.WindowRegions", spec := "windowRegions", unfollowed := true, recurses := true, apart := false }
def WindowRegionsSaid : Prop := windowRegionsRow.holds Try.pinned (OpenSpec.ofChange windowRegionsSpec)

/-- ITS FALSE NEIGHBOUR: 'it returns false'. Refute it at one input. -/
def windowRegionsWrong : ChangeSpec := { name := "windowRegions", fn := fun _ => fun
  | [d1, d2] => { results := [.lit (.bool false)], args := [d1, d2] }
  | _ => none }
def WindowRegionsWrongFalsely : Prop := windowRegionsRow.holds Try.pinned (OpenSpec.ofChange windowRegionsWrong)

/- THE SECOND FORM. 'bulk': how many values and letters a reading holds, each counted each time it is reached (what is shared counts as often as it is met; a slice's spare places count too). A statement '..UptoSaid' is the law's where the arguments, and the package variables that the reading takes, are together of bulk at most 1048576: NARROWER than '..Said'. Prove '..Said' where nothing that the law and all that it calls make is longer than what came in: it says more and counts as full. Else prove '..UptoSaid'. A law counts once. -/
mutual
def uptoBulk {H : Type} : DataW H → Nat
  | .lit (.string bytes) => bytes.length + 1
  | .lit _ => 1
  | .nil => 1
  | .ptr d => uptoBulk d + 1
  | .slice elems spare => uptoBulkAll elems + uptoBulkAll spare + 1
  | .agg parts => uptoBulkAll parts + 1
  | .iface _ d => uptoBulk d + 1
  | .map entries => uptoBulkEntries entries + 1
  | .held _ => 1
def uptoBulkAll {H : Type} : List (DataW H) → Nat
  | [] => 0
  | d :: r => uptoBulk d + uptoBulkAll r
def uptoBulkEntries {H : Type} : List (Lit × DataW H) → Nat
  | [] => 0
  | x :: r => uptoBulkEntry x + uptoBulkEntries r
def uptoBulkEntry {H : Type} : Lit × DataW H → Nat
  | (.string bytes, d) => bytes.length + uptoBulk d + 1
  | (_, d) => uptoBulk d + 1
 end
def uptoSmall : (H : Type) → List (DataW H) → Bool := fun _ ds => decide (uptoBulkAll ds ≤ 1048576)
def OpenSpec.upto (s : _root_.Go.ChangeSpec) : _root_.Go.OpenSpec := { _root_.Go.OpenSpec.ofChange s with cond := some uptoSmall }

/-- 'pinfoldlaw10.WindowFirsts', WHERE WHAT IT READS IS OF BULK AT MOST 1048576: true; the input reads as it did. -/
def windowFirstsUptoRow : OpenClaim := { program := "ytcgdipkmcgionaa", sum := "a18ddd693fc2f0a069d6a126b201a55412874e3cc7e54c1d4416512530d0e785", func := "pinfold/pinfoldlaw10.WindowFirsts", spec := "windowFirsts", unfollowed := true, recurses := true, apart := false, narrowed := true }
def WindowFirstsUptoSaid : Prop := windowFirstsUptoRow.holds Try.pinned (OpenSpec.upto windowFirstsSpec)

/-- 'pinfoldlaw10.WindowSites', WHERE WHAT IT READS IS OF BULK AT MOST 1048576: true; the input reads as it did. -/
def windowSitesUptoRow : OpenClaim := { program := "ytcgdipkmcgionaa", sum := "a18ddd693fc2f0a069d6a126b201a55412874e3cc7e54c1d4416512530d0e785", func := "pinfold/pinfoldlaw10.WindowSites", spec := "windowSites", unfollowed := true, recurses := true, apart := false, narrowed := true }
def WindowSitesUptoSaid : Prop := windowSitesUptoRow.holds Try.pinned (OpenSpec.upto windowSitesSpec)

/-- 'pinfoldlaw10.WindowBytes', WHERE WHAT IT READS IS OF BULK AT MOST 1048576: true; the input reads as it did. -/
def windowBytesUptoRow : OpenClaim := { program := "ytcgdipkmcgionaa", sum := "a18ddd693fc2f0a069d6a126b201a55412874e3cc7e54c1d4416512530d0e785", func := "pinfold/pinfoldlaw10.WindowBytes", spec := "windowBytes", unfollowed := true, recurses := true, apart := false, narrowed := true }
def WindowBytesUptoSaid : Prop := windowBytesUptoRow.holds Try.pinned (OpenSpec.upto windowBytesSpec)

/-- 'pinfoldlaw10.WindowHolds', WHERE WHAT IT READS IS OF BULK AT MOST 1048576: true; the input reads as it did. -/
def windowHoldsUptoRow : OpenClaim := { program := "ytcgdipkmcgionaa", sum := "a18ddd693fc2f0a069d6a126b201a55412874e3cc7e54c1d4416512530d0e785", func := "pinfold/pinfoldlaw10.WindowHolds", spec := "windowHolds", unfollowed := true, recurses := true, apart := false, narrowed := true }
def WindowHoldsUptoSaid : Prop := windowHoldsUptoRow.holds Try.pinned (OpenSpec.upto windowHoldsSpec)

/-- 'pinfoldlaw10.WindowRegions', WHERE WHAT IT READS IS OF BULK AT MOST 1048576: true; the input reads as it did. -/
def windowRegionsUptoRow : OpenClaim := { program := "ytcgdipkmcgionaa", sum := "a18ddd693fc2f0a069d6a126b201a55412874e3cc7e54c1d4416512530d0e785", func := "pinfold/pinfoldlaw10.WindowRegions", spec := "windowRegions", unfollowed := true, recurses := true, apart := false, narrowed := true }
def WindowRegionsUptoSaid : Prop := windowRegionsUptoRow.holds Try.pinned (OpenSpec.upto windowRegionsSpec)

end Rows
end Go.Proofs.Ytcgdipkmcgionaa
