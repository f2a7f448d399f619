/-
  No cell of these rows narrows 'for every input' (looked for: loops, veiled, ifaces, maps, wideKeys, modest, calm, conditions, laid).
  DERIVED. THE GIVEN ROWS OF THIS SEAT. 6 by the template 'for every input the law returns true; each argument reads behind the call as it read before'; 0 by the template 'total and deterministic' (their statements: YtalaaembfgapfaaTotals.lean).
  GIVEN WITH THE SEED: the statements are not yours to turn. If you find one false, say at which input.
  Laid BY PROGRAM, IN A SANDBOX (cutbox-rows.mjs): the forced cells as the released guide's own fill.sh prints them over the translation b4787899af1ff199… (all of the seat's roots in one cut). By AI agents, Wed Nov 11 2026. No macro, syntax, notation, axiom, sorry.
-/
import Derived.Test.YtalaaembfgapfaaChecked
import GoSem.Claim
import GoSem.ClaimJoined
import GoSem.ClaimMapViews
import Derived.JoinedTies
import Derived.KernelRfl
namespace Go.Proofs.Ytalaaembfgapfaa
/- THE CELL 'sum', in the pinned program and in every row, IS THE sha256 OF THE DUMP (.gsa) THAT YtalaaembfgapfaaProg.lean LOADS. Nothing in Lean hashes anything: it is a label: what it is worth is what the hold of that sum in a sandbox is worth. -/
noncomputable def Try.pinned : Pinned := { name := "ytalaaembfgapfaa", sum := "b4787899af1ff19982217967f7436b21e1a3a3193bab53ed4b9a3255870ff6e4", checked := Try.checked }
namespace Rows
def none {H : Type} : Left H := { results := [], args := [] }

/-- 'pinfoldlaw01.WordPuts': WHATEVER THE INPUT: true; the input reads as it did. -/
def wordPutsSpec : ChangeSpec := { name := "wordPuts", fn := fun _ => fun
  | [d1, d2] => { results := [.lit (.bool true)], args := [d1, d2] }
  | _ => none }
def wordPutsRow : OpenClaim := { program := "ytalaaembfgapfaa", sum := "b4787899af1ff19982217967f7436b21e1a3a3193bab53ed4b9a3255870ff6e4", func := "pinfold/pinfoldlaw01.WordPuts", spec := "wordPuts", unfollowed := true, recurses := true, apart := false }
def WordPutsSaid : Prop := wordPutsRow.holds Try.pinned (OpenSpec.ofChange wordPutsSpec)

/-- ITS FALSE NEIGHBOUR: 'it returns false'. Refute it at one input. -/
def wordPutsWrong : ChangeSpec := { name := "wordPuts", fn := fun _ => fun
  | [d1, d2] => { results := [.lit (.bool false)], args := [d1, d2] }
  | _ => none }
def WordPutsWrongFalsely : Prop := wordPutsRow.holds Try.pinned (OpenSpec.ofChange wordPutsWrong)

/-- 'pinfoldlaw01.WordGets': WHATEVER THE INPUT: true; the input reads as it did. -/
def wordGetsSpec : ChangeSpec := { name := "wordGets", fn := fun _ => fun
  | [d] => { results := [.lit (.bool true)], args := [d] }
  | _ => none }
def wordGetsRow : OpenClaim := { program := "ytalaaembfgapfaa", sum := "b4787899af1ff19982217967f7436b21e1a3a3193bab53ed4b9a3255870ff6e4", func := "pinfold/pinfoldlaw01.WordGets", spec := "wordGets", unfollowed := true, recurses := true, apart := false }
def WordGetsSaid : Prop := wordGetsRow.holds Try.pinned (OpenSpec.ofChange wordGetsSpec)

/-- ITS FALSE NEIGHBOUR: 'it returns false'. Refute it at one input. -/
def wordGetsWrong : ChangeSpec := { name := "wordGets", fn := fun _ => fun
  | [d] => { results := [.lit (.bool false)], args := [d] }
  | _ => none }
def WordGetsWrongFalsely : Prop := wordGetsRow.holds Try.pinned (OpenSpec.ofChange wordGetsWrong)

/-- 'pinfoldlaw01.WordZeros': WHATEVER THE INPUT: true; the input reads as it did. -/
def wordZerosSpec : ChangeSpec := { name := "wordZeros", fn := fun _ => fun
  | [d] => { results := [.lit (.bool true)], args := [d] }
  | _ => none }
def wordZerosRow : OpenClaim := { program := "ytalaaembfgapfaa", sum := "b4787899af1ff19982217967f7436b21e1a3a3193bab53ed4b9a3255870ff6e4", func := "pinfold/pinfoldlaw01.WordZeros", spec := "wordZeros", unfollowed := true, recurses := true, apart := false }
def WordZerosSaid : Prop := wordZerosRow.holds Try.pinned (OpenSpec.ofChange wordZerosSpec)

/-- ITS FALSE NEIGHBOUR: 'it returns false'. Refute it at one input. -/
def wordZerosWrong : ChangeSpec := { name := "wordZeros", fn := fun _ => fun
  | [d] => { results := [.lit (.bool false)], args := [d] }
  | _ => none }
def WordZerosWrongFalsely : Prop := wordZerosRow.holds Try.pinned (OpenSpec.ofChange wordZerosWrong)

/-- 'pinfoldlaw01.WordDiffers': WHATEVER THE INPUT: true; the input reads as it did. -/
def wordDiffersSpec : ChangeSpec := { name := "wordDiffers", fn := fun _ => fun
  | [d1, d2] => { results := [.lit (.bool true)], args := [d1, d2] }
  | _ => none }
def wordDiffersRow : OpenClaim := { program := "ytalaaembfgapfaa", sum := "b4787899af1ff19982217967f7436b21e1a3a3193bab53ed4b9a3255870ff6e4", func := "pinfold/pinfoldlaw01.WordDiffers", spec := "wordDiffers", unfollowed := true, recurses := true, apart := false }
def WordDiffersSaid : Prop := wordDiffersRow.holds Try.pinned (OpenSpec.ofChange wordDiffersSpec)

/-- ITS FALSE NEIGHBOUR: 'it returns false'. Refute it at one input. -/
def wordDiffersWrong : ChangeSpec := { name := "wordDiffers", fn := fun _ => fun
  | [d1, d2] => { results := [.lit (.bool false)], args := [d1, d2] }
  | _ => none }
def WordDiffersWrongFalsely : Prop := wordDiffersRow.holds Try.pinned (OpenSpec.ofChange wordDiffersWrong)

/-- 'pinfoldlaw01.WordJoins': WHATEVER THE INPUT: true; the input reads as it did. -/
def wordJoinsSpec : ChangeSpec := { name := "wordJoins", fn := fun _ => fun
  | [d] => { results := [.lit (.bool true)], args := [d] }
  | _ => none }
def wordJoinsRow : OpenClaim := { program := "ytalaaembfgapfaa", sum := "b4787899af1ff19982217967f7436b21e1a3a3193bab53ed4b9a3255870ff6e4", func := "pinfold/pinfoldlaw01.WordJoins", spec := "wordJoins", unfollowed := true, recurses := true, apart := false }
def WordJoinsSaid : Prop := wordJoinsRow.holds Try.pinned (OpenSpec.ofChange wordJoinsSpec)

/-- ITS FALSE NEIGHBOUR: 'it returns false'. Refute it at one input. -/
def wordJoinsWrong : ChangeSpec := { name := "wordJoins", fn := fun _ => fun
  | [d] => { results := [.lit (.bool false)], args := [d] }
  | _ => none }
def WordJoinsWrongFalsely : Prop := wordJoinsRow.holds Try.pinned (OpenSpec.ofChange wordJoinsWrong)

/-- 'pinfoldlaw01.WordParts': WHATEVER THE INPUT: true; the input reads as it did. -/
def wordPartsSpec : ChangeSpec := { name := "wordParts", fn := fun _ => fun
  | [d1, d2, d3] => { results := [.lit (.bool true)], args := [d1, d2, d3] }
  | _ => none }
def wordPartsRow : OpenClaim := { program := "ytalaaembfgapfaa", sum := "b4787899af1ff19982217967f7436b21e1a3a3193bab53ed4b9a3255870ff6e4", func := "pinfold/pinfoldlaw01.WordParts", spec := "wordParts", unfollowed := true, recurses := true, apart := false }
def WordPartsSaid : Prop := wordPartsRow.holds Try.pinned (OpenSpec.ofChange wordPartsSpec)

/-- ITS FALSE NEIGHBOUR: 'it returns false'. Refute it at one input. -/
def wordPartsWrong : ChangeSpec := { name := "wordParts", fn := fun _ => fun
  | [d1, d2, d3] => { results := [.lit (.bool false)], args := [d1, d2, d3] }
  | _ => none }
def WordPartsWrongFalsely : Prop := wordPartsRow.holds Try.pinned (OpenSpec.ofChange wordPartsWrong)

/- THE SECOND FORM. 'bulk': how many values and letters a reading holds, each counted each time it is reached (what is shared counts as often as it is met; a slice's spare places count too). A statement '..UptoSaid' is the law's where the arguments, and the package variables that the reading takes, are together of bulk at most 1048576: NARROWER than '..Said'. Prove '..Said' where nothing that the law and all that it calls make is longer than what came in: it says more and counts as full. Else prove '..UptoSaid'. A law counts once. -/
mutual
def uptoBulk {H : Type} : DataW H → Nat
  | .lit (.string bytes) => bytes.length + 1
  | .lit _ => 1
  | .nil => 1
  | .ptr d => uptoBulk d + 1
  | .slice elems spare => uptoBulkAll elems + uptoBulkAll spare + 1
  | .agg parts => uptoBulkAll parts + 1
  | .iface _ d => uptoBulk d + 1
  | .map entries => uptoBulkEntries entries + 1
  | .held _ => 1
def uptoBulkAll {H : Type} : List (DataW H) → Nat
  | [] => 0
  | d :: r => uptoBulk d + uptoBulkAll r
def uptoBulkEntries {H : Type} : List (Lit × DataW H) → Nat
  | [] => 0
  | x :: r => uptoBulkEntry x + uptoBulkEntries r
def uptoBulkEntry {H : Type} : Lit × DataW H → Nat
  | (.string bytes, d) => bytes.length + uptoBulk d + 1
  | (_, d) => uptoBulk d + 1
 end
def uptoSmall : (H : Type) → List (DataW H) → Bool := fun _ ds => decide (uptoBulkAll ds ≤ 1048576)
def OpenSpec.upto (s : _root_.Go.ChangeSpec) : _root_.Go.OpenSpec := { _root_.Go.OpenSpec.ofChange s with cond := some uptoSmall }

/-- 'pinfoldlaw01.WordPuts', WHERE WHAT IT READS IS OF BULK AT MOST 1048576: true; the input reads as it did. -/
def wordPutsUptoRow : OpenClaim := { program := "ytalaaembfgapfaa", sum := "b4787899af1ff19982217967f7436b21e1a3a3193bab53ed4b9a3255870ff6e4", func := "pinfold/pinfoldlaw01.WordPuts", spec := "wordPuts", unfollowed := true, recurses := true, apart := false, narrowed := true }
def WordPutsUptoSaid : Prop := wordPutsUptoRow.holds Try.pinned (OpenSpec.upto wordPutsSpec)

/-- 'pinfoldlaw01.WordGets', WHERE WHAT IT READS IS OF BULK AT MOST 1048576: true; the input reads as it did. -/
def wordGetsUptoRow : OpenClaim := { program := "ytalaaembfgapfaa", sum := "b4787899af1ff19982217967f7436b21e1a3a3193bab53ed4b9a3255870ff6e4", func := "pinfold/pinfoldlaw01.WordGets", spec := "wordGets", unfollowed := true, recurses := true, apart := false, narrowed := true }
def WordGetsUptoSaid : Prop := wordGetsUptoRow.holds Try.pinned (OpenSpec.upto wordGetsSpec)

/-- 'pinfoldlaw01.WordZeros', WHERE WHAT IT READS IS OF BULK AT MOST 1048576: true; the input reads as it did. -/
def wordZerosUptoRow : OpenClaim := { program := "ytalaaembfgapfaa", sum := "b4787899af1ff19982217967f7436b21e1a3a3193bab53ed4b9a3255870ff6e4", func := "pinfold/pinfoldlaw01.WordZeros", spec := "wordZeros", unfollowed := true, recurses := true, apart := false, narrowed := true }
def WordZerosUptoSaid : Prop := wordZerosUptoRow.holds Try.pinned (OpenSpec.upto wordZerosSpec)

/-- 'pinfoldlaw01.WordDiffers', WHERE WHAT IT READS IS OF BULK AT MOST 1048576: true; the input reads as it did. -/
def wordDiffersUptoRow : OpenClaim := { program := "ytalaaembfgapfaa", sum := "b4787899af1ff19982217967f7436b21e1a3a3193bab53ed4b9a3255870ff6e4", func := "pinfold/pinfoldlaw01.WordDiffers", spec := "wordDiffers", unfollowed := true, recurses := true, apart := false, narrowed := true }
def WordDiffersUptoSaid : Prop := wordDiffersUptoRow.holds Try.pinned (OpenSpec.upto wordDiffersSpec)

/-- 'pinfoldlaw01.WordJoins', WHERE WHAT IT READS IS OF BULK AT MOST 1048576: true; the input reads as it did. -/
def wordJoinsUptoRow : OpenClaim := { program := "ytalaaembfgapfaa", sum := "b4787899af1ff19982217967f7436b21e1a3a3193bab53ed4b9a3255870ff6e4", func := "pinfold/pinfoldlaw01.WordJoins", spec := "wordJoins", unfollowed := true, recurses := true, apart := false, narrowed := true }
def WordJoinsUptoSaid : Prop := wordJoinsUptoRow.holds Try.pinned (OpenSpec.upto wordJoinsSpec)

/-- 'pinfoldlaw01.WordParts', WHERE WHAT IT READS IS OF BULK AT MOST 1048576: true; the input reads as it did. -/
def wordPartsUptoRow : OpenClaim := { program := "ytalaaembfgapfaa", sum := "b4787899af1ff19982217967f7436b21e1a3a3193bab53ed4b9a3255870ff6e4", func := "pinfold/pinfoldlaw01.WordParts", spec := "wordParts", unfollowed := true, recurses := true, apart := false, narrowed := true }
def WordPartsUptoSaid : Prop := wordPartsUptoRow.holds Try.pinned (OpenSpec.upto wordPartsSpec)

end Rows
end Go.Proofs.Ytalaaembfgapfaa
