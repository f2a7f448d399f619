/-
  No cell of these rows narrows 'for every input' (looked for: loops, veiled, ifaces, maps, wideKeys, modest, calm, conditions, laid).
  DERIVED. THE GIVEN ROWS OF THIS SEAT. 4 by the template 'for every input the law returns true; each argument reads behind the call as it read before'; 0 by the template 'total and deterministic' (their statements: YtlpchcdalfkfcaaGreatTotals.lean).
  GIVEN WITH THE SEED: the statements are not yours to turn. If you find one false, say at which input.
  Laid BY PROGRAM, IN A SANDBOX (cutbox-rows.mjs): the forced cells as the released guide's own fill.sh prints them over the translation b55fd8b7ce592c1a… (all of the seat's roots in one cut). By AI agents, Wed Nov 11 2026. No macro, syntax, notation, axiom, sorry.
-/
import Derived.Test.YtlpchcdalfkfcaaGreatChecked
import GoSem.Claim
import GoSem.ClaimJoined
import GoSem.ClaimMapViews
import Derived.JoinedTies
import Derived.KernelRfl
namespace Go.Proofs.YtlpchcdalfkfcaaGreat
/- THE CELL 'sum', in the pinned program and in every row, IS THE sha256 OF THE DUMP (.gsa) THAT YtlpchcdalfkfcaaGreatProg.lean LOADS. Nothing in Lean hashes anything: it is a label: what it is worth is what the hold of that sum in a sandbox is worth. -/
noncomputable def Tryz.pinned : Pinned := { name := "ytlpchcdalfkfcaagreat", sum := "b55fd8b7ce592c1aa162da9a590331861842f391d922bac72e427655b8618981", checked := Tryz.checked }
namespace Rows
def none {H : Type} : Left H := { results := [], args := [] }

/-- 'pinfoldlaw15.MetaFinds': WHATEVER THE INPUT: true; the input reads as it did. -/
def metaFindsSpec : ChangeSpec := { name := "metaFinds", fn := fun _ => fun
  | [d1, d2] => { results := [.lit (.bool true)], args := [d1, d2] }
  | _ => none }
def metaFindsRow : OpenClaim := { program := "ytlpchcdalfkfcaagreat", sum := "b55fd8b7ce592c1aa162da9a590331861842f391d922bac72e427655b8618981", func := "pinfold/pinfoldlaw15.MetaFinds", spec := "metaFinds", unfollowed := true, recurses := true, apart := false }
def MetaFindsSaid : Prop := metaFindsRow.holds Tryz.pinned (OpenSpec.ofChange metaFindsSpec)

/-- ITS FALSE NEIGHBOUR: 'it returns false'. Refute it at one input. -/
def metaFindsWrong : ChangeSpec := { name := "metaFinds", fn := fun _ => fun
  | [d1, d2] => { results := [.lit (.bool false)], args := [d1, d2] }
  | _ => none }
def MetaFindsWrongFalsely : Prop := metaFindsRow.holds Tryz.pinned (OpenSpec.ofChange metaFindsWrong)

/-- 'pinfoldlaw15.MetaSpoils': WHATEVER THE INPUT: true; the input reads as it did. -/
def metaSpoilsSpec : ChangeSpec := { name := "metaSpoils", fn := fun _ => fun
  | [d1, d2] => { results := [.lit (.bool true)], args := [d1, d2] }
  | _ => none }
def metaSpoilsRow : OpenClaim := { program := "ytlpchcdalfkfcaagreat", sum := "b55fd8b7ce592c1aa162da9a590331861842f391d922bac72e427655b8618981", func := "pinfold/pinfoldlaw15.MetaSpoils", spec := "metaSpoils", unfollowed := true, recurses := true, apart := false }
def MetaSpoilsSaid : Prop := metaSpoilsRow.holds Tryz.pinned (OpenSpec.ofChange metaSpoilsSpec)

/-- ITS FALSE NEIGHBOUR: 'it returns false'. Refute it at one input. -/
def metaSpoilsWrong : ChangeSpec := { name := "metaSpoils", fn := fun _ => fun
  | [d1, d2] => { results := [.lit (.bool false)], args := [d1, d2] }
  | _ => none }
def MetaSpoilsWrongFalsely : Prop := metaSpoilsRow.holds Tryz.pinned (OpenSpec.ofChange metaSpoilsWrong)

/-- 'pinfoldlaw15.MetaGreatly': WHATEVER THE INPUT: true; the input reads as it did. -/
def metaGreatlySpec : ChangeSpec := { name := "metaGreatly", fn := fun _ => fun
  | [d1, d2] => { results := [.lit (.bool true)], args := [d1, d2] }
  | _ => none }
def metaGreatlyRow : OpenClaim := { program := "ytlpchcdalfkfcaagreat", sum := "b55fd8b7ce592c1aa162da9a590331861842f391d922bac72e427655b8618981", func := "pinfold/pinfoldlaw15.MetaGreatly", spec := "metaGreatly", unfollowed := true, recurses := true, apart := false }
def MetaGreatlySaid : Prop := metaGreatlyRow.holds Tryz.pinned (OpenSpec.ofChange metaGreatlySpec)

/-- ITS FALSE NEIGHBOUR: 'it returns false'. Refute it at one input. -/
def metaGreatlyWrong : ChangeSpec := { name := "metaGreatly", fn := fun _ => fun
  | [d1, d2] => { results := [.lit (.bool false)], args := [d1, d2] }
  | _ => none }
def MetaGreatlyWrongFalsely : Prop := metaGreatlyRow.holds Tryz.pinned (OpenSpec.ofChange metaGreatlyWrong)

/-- 'pinfoldlaw15.MetaHolds': WHATEVER THE INPUT: true; the input reads as it did. -/
def metaHoldsSpec : ChangeSpec := { name := "metaHolds", fn := fun _ => fun
  | [d1, d2, d3] => { results := [.lit (.bool true)], args := [d1, d2, d3] }
  | _ => none }
def metaHoldsRow : OpenClaim := { program := "ytlpchcdalfkfcaagreat", sum := "b55fd8b7ce592c1aa162da9a590331861842f391d922bac72e427655b8618981", func := "pinfold/pinfoldlaw15.MetaHolds", spec := "metaHolds", unfollowed := true, recurses := true, apart := false }
def MetaHoldsSaid : Prop := metaHoldsRow.holds Tryz.pinned (OpenSpec.ofChange metaHoldsSpec)

/-- ITS FALSE NEIGHBOUR: 'it returns false'. Refute it at one input. -/
def metaHoldsWrong : ChangeSpec := { name := "metaHolds", fn := fun _ => fun
  | [d1, d2, d3] => { results := [.lit (.bool false)], args := [d1, d2, d3] }
  | _ => none }
def MetaHoldsWrongFalsely : Prop := metaHoldsRow.holds Tryz.pinned (OpenSpec.ofChange metaHoldsWrong)

/- THE SECOND FORM. 'bulk': how many values and letters a reading holds, each counted each time it is reached (what is shared counts as often as it is met; a slice's spare places count too). A statement '..UptoSaid' is the law's where the arguments, and the package variables that the reading takes, are together of bulk at most 1048576: NARROWER than '..Said'. Prove '..Said' where nothing that the law and all that it calls make is longer than what came in: it says more and counts as full. Else prove '..UptoSaid'. A law counts once. -/
mutual
def uptoBulk {H : Type} : DataW H → Nat
  | .lit (.string bytes) => bytes.length + 1
  | .lit _ => 1
  | .nil => 1
  | .ptr d => uptoBulk d + 1
  | .slice elems spare => uptoBulkAll elems + uptoBulkAll spare + 1
  | .agg parts => uptoBulkAll parts + 1
  | .iface _ d => uptoBulk d + 1
  | .map entries => uptoBulkEntries entries + 1
  | .held _ => 1
def uptoBulkAll {H : Type} : List (DataW H) → Nat
  | [] => 0
  | d :: r => uptoBulk d + uptoBulkAll r
def uptoBulkEntries {H : Type} : List (Lit × DataW H) → Nat
  | [] => 0
  | x :: r => uptoBulkEntry x + uptoBulkEntries r
def uptoBulkEntry {H : Type} : Lit × DataW H → Nat
  | (.string bytes, d) => bytes.length + uptoBulk d + 1
  | (_, d) => uptoBulk d + 1
 end
def uptoSmall : (H : Type) → List (DataW H) → Bool := fun _ ds => decide (uptoBulkAll ds ≤ 1048576)
def OpenSpec.upto (s : _root_.Go.ChangeSpec) : _root_.Go.OpenSpec := { _root_.Go.OpenSpec.ofChange s with cond := some uptoSmall }

/-- 'pinfoldlaw15.MetaFinds', WHERE WHAT IT READS IS OF BULK AT MOST 1048576: true; the input reads as it did. -/
def metaFindsUptoRow : OpenClaim := { program := "ytlpchcdalfkfcaagreat", sum := "b55fd8b7ce592c1aa162da9a590331861842f391d922bac72e427655b8618981", func := "pinfold/pinfoldlaw15.MetaFinds", spec := "metaFinds", unfollowed := true, recurses := true, apart := false, narrowed := true }
def MetaFindsUptoSaid : Prop := metaFindsUptoRow.holds Tryz.pinned (OpenSpec.upto metaFindsSpec)

/-- 'pinfoldlaw15.MetaSpoils', WHERE WHAT IT READS IS OF BULK AT MOST 1048576: true; the input reads as it did. -/
def metaSpoilsUptoRow : OpenClaim := { program := "ytlpchcdalfkfcaagreat", sum := "b55fd8b7ce592c1aa162da9a590331861842f391d922bac72e427655b8618981", func := "pinfold/pinfoldlaw15.MetaSpoils", spec := "metaSpoils", unfollowed := true, recurses := true, apart := false, narrowed := true }
def MetaSpoilsUptoSaid : Prop := metaSpoilsUptoRow.holds Tryz.pinned (OpenSpec.upto metaSpoilsSpec)

/-- 'pinfoldlaw15.MetaGreatly', WHERE WHAT IT READS IS OF BULK AT MOST 1048576: true; the input reads as it did. -/
def metaGreatlyUptoRow : OpenClaim := { program := "ytlpchcdalfkfcaagreat", sum := "b55fd8b7ce592c1aa162da9a590331861842f391d922bac72e427655b8618981", func := "pinfold/pinfoldlaw15.MetaGreatly", spec := "metaGreatly", unfollowed := true, recurses := true, apart := false, narrowed := true }
def MetaGreatlyUptoSaid : Prop := metaGreatlyUptoRow.holds Tryz.pinned (OpenSpec.upto metaGreatlySpec)

/-- 'pinfoldlaw15.MetaHolds', WHERE WHAT IT READS IS OF BULK AT MOST 1048576: true; the input reads as it did. -/
def metaHoldsUptoRow : OpenClaim := { program := "ytlpchcdalfkfcaagreat", sum := "b55fd8b7ce592c1aa162da9a590331861842f391d922bac72e427655b8618981", func := "pinfold/pinfoldlaw15.MetaHolds", spec := "metaHolds", unfollowed := true, recurses := true, apart := false, narrowed := true }
def MetaHoldsUptoSaid : Prop := metaHoldsUptoRow.holds Tryz.pinned (OpenSpec.upto metaHoldsSpec)

end Rows
end Go.Proofs.YtlpchcdalfkfcaaGreat
