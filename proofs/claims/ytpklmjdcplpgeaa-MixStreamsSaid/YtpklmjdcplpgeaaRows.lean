/-
  No cell of these rows narrows 'for every input' (looked for: loops, veiled, ifaces, maps, wideKeys, modest, calm, conditions, laid).
  DERIVED. THE GIVEN ROWS OF THIS SEAT. 5 by the template 'for every input the law returns true; each argument reads behind the call as it read before'; 0 by the template 'total and deterministic' (their statements: YtpklmjdcplpgeaaTotals.lean).
  GIVEN WITH THE SEED: the statements are not yours to turn. If you find one false, say at which input.
  Laid BY PROGRAM, IN A SANDBOX (cutbox-rows.mjs): the forced cells as the released guide's own fill.sh prints them over the translation e0d8cc04d6fc03d1… (all of the seat's roots in one cut). By AI agents, Wed Nov 11 2026. No macro, syntax, notation, axiom, sorry.
-/
import Derived.Test.YtpklmjdcplpgeaaChecked
import GoSem.Claim
import GoSem.ClaimJoined
import GoSem.ClaimMapViews
import Derived.JoinedTies
import Derived.KernelRfl
namespace Go.Proofs.Ytpklmjdcplpgeaa
/- THE CELL 'sum', in the pinned program and in every row, IS THE sha256 OF THE DUMP (.gsa) THAT YtpklmjdcplpgeaaProg.lean LOADS. Nothing in Lean hashes anything: it is a label: what it is worth is what the hold of that sum in a sandbox is worth. -/
noncomputable def Try.pinned : Pinned := { name := "ytpklmjdcplpgeaa", sum := "e0d8cc04d6fc03d137e03b99baf017998c5b0351b9375d3146d1cdfdae6c6567", checked := Try.checked }
namespace Rows
def none {H : Type} : Left H := { results := [], args := [] }

/-- 'pinfoldlaw05.MixStirs': WHATEVER THE INPUT: true; the input reads as it did. -/
def mixStirsSpec : ChangeSpec := { name := "mixStirs", fn := fun _ => fun
  | [d1, d2, d3] => { results := [.lit (.bool true)], args := [d1, d2, d3] }
  | _ => none }
def mixStirsRow : OpenClaim := { program := "ytpklmjdcplpgeaa", sum := "e0d8cc04d6fc03d137e03b99baf017998c5b0351b9375d3146d1cdfdae6c6567", func := "pinfold/pinfoldlaw05.MixStirs", spec := "mixStirs", unfollowed := true, recurses := true, apart := false }
def MixStirsSaid : Prop := mixStirsRow.holds Try.pinned (OpenSpec.ofChange mixStirsSpec)

/-- ITS FALSE NEIGHBOUR: 'it returns false'. Refute it at one input. -/
def mixStirsWrong : ChangeSpec := { name := "mixStirs", fn := fun _ => fun
  | [d1, d2, d3] => { results := [.lit (.bool false)], args := [d1, d2, d3] }
  | _ => none }
def MixStirsWrongFalsely : Prop := mixStirsRow.holds Try.pinned (OpenSpec.ofChange mixStirsWrong)

/-- 'pinfoldlaw05.MixMixes': WHATEVER THE INPUT: true; the input reads as it did. -/
def mixMixesSpec : ChangeSpec := { name := "mixMixes", fn := fun _ => fun
  | [d1, d2] => { results := [.lit (.bool true)], args := [d1, d2] }
  | _ => none }
def mixMixesRow : OpenClaim := { program := "ytpklmjdcplpgeaa", sum := "e0d8cc04d6fc03d137e03b99baf017998c5b0351b9375d3146d1cdfdae6c6567", func := "pinfold/pinfoldlaw05.MixMixes", spec := "mixMixes", unfollowed := true, recurses := true, apart := false }
def MixMixesSaid : Prop := mixMixesRow.holds Try.pinned (OpenSpec.ofChange mixMixesSpec)

/-- ITS FALSE NEIGHBOUR: 'it returns false'. Refute it at one input. -/
def mixMixesWrong : ChangeSpec := { name := "mixMixes", fn := fun _ => fun
  | [d1, d2] => { results := [.lit (.bool false)], args := [d1, d2] }
  | _ => none }
def MixMixesWrongFalsely : Prop := mixMixesRow.holds Try.pinned (OpenSpec.ofChange mixMixesWrong)

/-- 'pinfoldlaw05.MixFolds': WHATEVER THE INPUT: true; the input reads as it did. -/
def mixFoldsSpec : ChangeSpec := { name := "mixFolds", fn := fun _ => fun
  | [d] => { results := [.lit (.bool true)], args := [d] }
  | _ => none }
def mixFoldsRow : OpenClaim := { program := "ytpklmjdcplpgeaa", sum := "e0d8cc04d6fc03d137e03b99baf017998c5b0351b9375d3146d1cdfdae6c6567", func := "pinfold/pinfoldlaw05.MixFolds", spec := "mixFolds", unfollowed := true, recurses := true, apart := false }
def MixFoldsSaid : Prop := mixFoldsRow.holds Try.pinned (OpenSpec.ofChange mixFoldsSpec)

/-- ITS FALSE NEIGHBOUR: 'it returns false'. Refute it at one input. -/
def mixFoldsWrong : ChangeSpec := { name := "mixFolds", fn := fun _ => fun
  | [d] => { results := [.lit (.bool false)], args := [d] }
  | _ => none }
def MixFoldsWrongFalsely : Prop := mixFoldsRow.holds Try.pinned (OpenSpec.ofChange mixFoldsWrong)

/-- 'pinfoldlaw05.MixBack': WHATEVER THE INPUT: true; the input reads as it did. -/
def mixBackSpec : ChangeSpec := { name := "mixBack", fn := fun _ => fun
  | [d1, d2, d3] => { results := [.lit (.bool true)], args := [d1, d2, d3] }
  | _ => none }
def mixBackRow : OpenClaim := { program := "ytpklmjdcplpgeaa", sum := "e0d8cc04d6fc03d137e03b99baf017998c5b0351b9375d3146d1cdfdae6c6567", func := "pinfold/pinfoldlaw05.MixBack", spec := "mixBack", unfollowed := true, recurses := true, apart := false }
def MixBackSaid : Prop := mixBackRow.holds Try.pinned (OpenSpec.ofChange mixBackSpec)

/-- ITS FALSE NEIGHBOUR: 'it returns false'. Refute it at one input. -/
def mixBackWrong : ChangeSpec := { name := "mixBack", fn := fun _ => fun
  | [d1, d2, d3] => { results := [.lit (.bool false)], args := [d1, d2, d3] }
  | _ => none }
def MixBackWrongFalsely : Prop := mixBackRow.holds Try.pinned (OpenSpec.ofChange mixBackWrong)

/-- 'pinfoldlaw05.MixStreams': WHATEVER THE INPUT: true; the input reads as it did. -/
def mixStreamsSpec : ChangeSpec := { name := "mixStreams", fn := fun _ => fun
  | [d1, d2, d3] => { results := [.lit (.bool true)], args := [d1, d2, d3] }
  | _ => none }
def mixStreamsRow : OpenClaim := { program := "ytpklmjdcplpgeaa", sum := "e0d8cc04d6fc03d137e03b99baf017998c5b0351b9375d3146d1cdfdae6c6567", func := "pinfold/pinfoldlaw05.MixStreams", spec := "mixStreams", unfollowed := true, recurses := true, apart := false }
def MixStreamsSaid : Prop := mixStreamsRow.holds Try.pinned (OpenSpec.ofChange mixStreamsSpec)

/-- ITS FALSE NEIGHBOUR: 'it returns false'. Refute it at one input. -/
def mixStreamsWrong : ChangeSpec := { name := "mixStreams", fn := fun _ => fun
  | [d1, d2, d3] => { results := [.lit (.bool false)], args := [d1, d2, d3] }
  | _ => none }
def MixStreamsWrongFalsely : Prop := mixStreamsRow.holds Try.pinned (OpenSpec.ofChange mixStreamsWrong)

/- THE SECOND FORM. 'bulk': how many values and letters a reading holds, each counted each time it is reached (what is shared counts as often as it is met; a slice's spare places count too). A statement '..UptoSaid' is the law's where the arguments, and the package variables that the reading takes, are together of bulk at most 1048576: NARROWER than '..Said'. Prove '..Said' where nothing that the law and all that it calls make is longer than what came in: it says more and counts as full. Else prove '..UptoSaid'. A law counts once. -/
mutual
def uptoBulk {H : Type} : DataW H → Nat
  | .lit (.string bytes) => bytes.length + 1
  | .lit _ => 1
  | .nil => 1
  | .ptr d => uptoBulk d + 1
  | .slice elems spare => uptoBulkAll elems + uptoBulkAll spare + 1
  | .agg parts => uptoBulkAll parts + 1
  | .iface _ d => uptoBulk d + 1
  | .map entries => uptoBulkEntries entries + 1
  | .held _ => 1
def uptoBulkAll {H : Type} : List (DataW H) → Nat
  | [] => 0
  | d :: r => uptoBulk d + uptoBulkAll r
def uptoBulkEntries {H : Type} : List (Lit × DataW H) → Nat
  | [] => 0
  | x :: r => uptoBulkEntry x + uptoBulkEntries r
def uptoBulkEntry {H : Type} : Lit × DataW H → Nat
  | (.string bytes, d) => bytes.length + uptoBulk d + 1
  | (_, d) => uptoBulk d + 1
 end
def uptoSmall : (H : Type) → List (DataW H) → Bool := fun _ ds => decide (uptoBulkAll ds ≤ 1048576)
def OpenSpec.upto (s : _root_.Go.ChangeSpec) : _root_.Go.OpenSpec := { _root_.Go.OpenSpec.ofChange s with cond := some uptoSmall }

/-- 'pinfoldlaw05.MixStirs', WHERE WHAT IT READS IS OF BULK AT MOST 1048576: true; the input reads as it did. -/
def mixStirsUptoRow : OpenClaim := { program := "ytpklmjdcplpgeaa", sum := "e0d8cc04d6fc03d137e03b99baf017998c5b0351b9375d3146d1cdfdae6c6567", func := "pinfold/pinfoldlaw05.MixStirs", spec := "mixStirs", unfollowed := true, recurses := true, apart := false, narrowed := true }
def MixStirsUptoSaid : Prop := mixStirsUptoRow.holds Try.pinned (OpenSpec.upto mixStirsSpec)

/-- 'pinfoldlaw05.MixMixes', WHERE WHAT IT READS IS OF BULK AT MOST 1048576: true; the input reads as it did. -/
def mixMixesUptoRow : OpenClaim := { program := "ytpklmjdcplpgeaa", sum := "e0d8cc04d6fc03d137e03b99baf017998c5b0351b9375d3146d1cdfdae6c6567", func := "pinfold/pinfoldlaw05.MixMixes", spec := "mixMixes", unfollowed := true, recurses := true, apart := false, narrowed := true }
def MixMixesUptoSaid : Prop := mixMixesUptoRow.holds Try.pinned (OpenSpec.upto mixMixesSpec)

/-- 'pinfoldlaw05.MixFolds', WHERE WHAT IT READS IS OF BULK AT MOST 1048576: true; the input reads as it did. -/
def mixFoldsUptoRow : OpenClaim := { program := "ytpklmjdcplpgeaa", sum := "e0d8cc04d6fc03d137e03b99baf017998c5b0351b9375d3146d1cdfdae6c6567", func := "pinfold/pinfoldlaw05.MixFolds", spec := "mixFolds", unfollowed := true, recurses := true, apart := false, narrowed := true }
def MixFoldsUptoSaid : Prop := mixFoldsUptoRow.holds Try.pinned (OpenSpec.upto mixFoldsSpec)

/-- 'pinfoldlaw05.MixBack', WHERE WHAT IT READS IS OF BULK AT MOST 1048576: true; the input reads as it did. -/
def mixBackUptoRow : OpenClaim := { program := "ytpklmjdcplpgeaa", sum := "e0d8cc04d6fc03d137e03b99baf017998c5b0351b9375d3146d1cdfdae6c6567", func := "pinfold/pinfoldlaw05.MixBack", spec := "mixBack", unfollowed := true, recurses := true, apart := false, narrowed := true }
def MixBackUptoSaid : Prop := mixBackUptoRow.holds Try.pinned (OpenSpec.upto mixBackSpec)

/-- 'pinfoldlaw05.MixStreams', WHERE WHAT IT READS IS OF BULK AT MOST 1048576: true; the input reads as it did. -/
def mixStreamsUptoRow : OpenClaim := { program := "ytpklmjdcplpgeaa", sum := "e0d8cc04d6fc03d137e03b99baf017998c5b0351b9375d3146d1cdfdae6c6567", func := "pinfold/pinfoldlaw05.MixStreams", spec := "mixStreams", unfollowed := true, recurses := true, apart := false, narrowed := true }
def MixStreamsUptoSaid : Prop := mixStreamsUptoRow.holds Try.pinned (OpenSpec.upto mixStreamsSpec)

end Rows
end Go.Proofs.Ytpklmjdcplpgeaa
