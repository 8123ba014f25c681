/-
  No cell of these rows narrows 'for every input' (looked for: loops, veiled, ifaces, maps, wideKeys, modest, calm, conditions, laid).
  DERIVED. THE GIVEN ROWS OF THIS SEAT. 4 by the template 'for every input the law returns true; each argument reads behind the call as it read before'; 0 by the template 'total and deterministic' (their statements: YthcogpecnmhhlaaTotals.lean).
  GIVEN WITH THE SEED: the statements are not yours to turn. If you find one false, say at which input.
  Laid BY PROGRAM, IN A SANDBOX (cutbox-rows.mjs): the forced cells as the released guide's own fill.sh prints them over the translation 40acb19319048c09… (all of the seat's roots in one cut). By AI agents, Wed Nov 11 2026. No macro, syntax, notation, axiom, sorry.
-/
import Derived.Test.YthcogpecnmhhlaaChecked
import GoSem.Claim
import GoSem.ClaimJoined
import GoSem.ClaimMapViews
import Derived.JoinedTies
import Derived.KernelRfl
namespace Go.Proofs.Ythcogpecnmhhlaa
/- THE CELL 'sum', in the pinned program and in every row, IS THE sha256 OF THE DUMP (.gsa) THAT YthcogpecnmhhlaaProg.lean LOADS. Nothing in Lean hashes anything: it is a label: what it is worth is what the hold of that sum in a sandbox is worth. -/
noncomputable def Try.pinned : Pinned := { name := "ythcogpecnmhhlaa", sum := "40acb19319048c090f9c641f33a11dcc2eaa0ae7a14b5a470b40a64ef3ec40b3", checked := Try.checked }
namespace Rows
def none {H : Type} : Left H := { results := [], args := [] }

/-- 'gramaryelaw26.CodeNorms': WHATEVER THE INPUT: true; the input reads as it did. -/
def codeNormsSpec : ChangeSpec := { name := "codeNorms", fn := fun _ => fun
  | [d1, d2] => { results := [.lit (.bool true)], args := [d1, d2] }
  | _ => none }
def codeNormsRow : OpenClaim := { program := "ythcogpecnmhhlaa", sum := "40acb19319048c090f9c641f33a11dcc2eaa0ae7a14b5a470b40a64ef3ec40b3", func := "gramarye/gramaryelaw26.CodeNorms", spec := "codeNorms", unfollowed := true, recurses := true, apart := false }
def CodeNormsSaid : Prop := codeNormsRow.holds Try.pinned (OpenSpec.ofChange codeNormsSpec)

/-- ITS FALSE NEIGHBOUR: 'it returns false'. Refute it at one input. -/
def codeNormsWrong : ChangeSpec := { name := "codeNorms", fn := fun _ => fun
  | [d1, d2] => { results := [.lit (.bool false)], args := [d1, d2] }
  | _ => none }
def CodeNormsWrongFalsely : Prop := codeNormsRow.holds Try.pinned (OpenSpec.ofChange codeNormsWrong)

/-- 'gramaryelaw26.CodeStays': WHATEVER THE INPUT: true; the input reads as it did. -/
def codeStaysSpec : ChangeSpec := { name := "codeStays", fn := fun _ => fun
  | [d] => { results := [.lit (.bool true)], args := [d] }
  | _ => none }
def codeStaysRow : OpenClaim := { program := "ythcogpecnmhhlaa", sum := "40acb19319048c090f9c641f33a11dcc2eaa0ae7a14b5a470b40a64ef3ec40b3", func := "gramarye/gramaryelaw26.CodeStays", spec := "codeStays", unfollowed := true, recurses := true, apart := false }
def CodeStaysSaid : Prop := codeStaysRow.holds Try.pinned (OpenSpec.ofChange codeStaysSpec)

/-- ITS FALSE NEIGHBOUR: 'it returns false'. Refute it at one input. -/
def codeStaysWrong : ChangeSpec := { name := "codeStays", fn := fun _ => fun
  | [d] => { results := [.lit (.bool false)], args := [d] }
  | _ => none }
def CodeStaysWrongFalsely : Prop := codeStaysRow.holds Try.pinned (OpenSpec.ofChange codeStaysWrong)

/-- 'gramaryelaw29.PrintPrints': WHATEVER THE INPUT: true; the input reads as it did. -/
def printPrintsSpec : ChangeSpec := { name := "printPrints", fn := fun _ => fun
  | [d] => { results := [.lit (.bool true)], args := [d] }
  | _ => none }
def printPrintsRow : OpenClaim := { program := "ythcogpecnmhhlaa", sum := "40acb19319048c090f9c641f33a11dcc2eaa0ae7a14b5a470b40a64ef3ec40b3", func := "gramarye/gramaryelaw29.PrintPrints", spec := "printPrints", inPlace := ["internal/abi.NoEscape", "internal/bytealg.MakeNoZero"], unfollowed := true, recurses := true, apart := false }
def PrintPrintsSaid : Prop := printPrintsRow.holds Try.pinned (OpenSpec.ofChange printPrintsSpec)

/-- ITS FALSE NEIGHBOUR: 'it returns false'. Refute it at one input. -/
def printPrintsWrong : ChangeSpec := { name := "printPrints", fn := fun _ => fun
  | [d] => { results := [.lit (.bool false)], args := [d] }
  | _ => none }
def PrintPrintsWrongFalsely : Prop := printPrintsRow.holds Try.pinned (OpenSpec.ofChange printPrintsWrong)

/-- 'gramaryelaw29.PrintSame': WHATEVER THE INPUT: true; the input reads as it did. -/
def printSameSpec : ChangeSpec := { name := "printSame", fn := fun _ => fun
  | [d] => { results := [.lit (.bool true)], args := [d] }
  | _ => none }
def printSameRow : OpenClaim := { program := "ythcogpecnmhhlaa", sum := "40acb19319048c090f9c641f33a11dcc2eaa0ae7a14b5a470b40a64ef3ec40b3", func := "gramarye/gramaryelaw29.PrintSame", spec := "printSame", inPlace := ["internal/abi.NoEscape", "internal/bytealg.MakeNoZero"], unfollowed := true, recurses := true, apart := false }
def PrintSameSaid : Prop := printSameRow.holds Try.pinned (OpenSpec.ofChange printSameSpec)

/-- ITS FALSE NEIGHBOUR: 'it returns false'. Refute it at one input. -/
def printSameWrong : ChangeSpec := { name := "printSame", fn := fun _ => fun
  | [d] => { results := [.lit (.bool false)], args := [d] }
  | _ => none }
def PrintSameWrongFalsely : Prop := printSameRow.holds Try.pinned (OpenSpec.ofChange printSameWrong)

/- THE SECOND FORM. 'bulk': how many values and letters a reading holds, each counted each time it is reached (what is shared counts as often as it is met; a slice's spare places count too). A statement '..UptoSaid' is the law's where the arguments, and the package variables that the reading takes, are together of bulk at most 1048576: NARROWER than '..Said'. Prove '..Said' where nothing that the law and all that it calls make is longer than what came in: it says more and counts as full. Else prove '..UptoSaid'. A law counts once. -/
mutual
def uptoBulk {H : Type} : DataW H → Nat
  | .lit (.string bytes) => bytes.length + 1
  | .lit _ => 1
  | .nil => 1
  | .ptr d => uptoBulk d + 1
  | .slice elems spare => uptoBulkAll elems + uptoBulkAll spare + 1
  | .agg parts => uptoBulkAll parts + 1
  | .iface _ d => uptoBulk d + 1
  | .map entries => uptoBulkEntries entries + 1
  | .held _ => 1
def uptoBulkAll {H : Type} : List (DataW H) → Nat
  | [] => 0
  | d :: r => uptoBulk d + uptoBulkAll r
def uptoBulkEntries {H : Type} : List (Lit × DataW H) → Nat
  | [] => 0
  | x :: r => uptoBulkEntry x + uptoBulkEntries r
def uptoBulkEntry {H : Type} : Lit × DataW H → Nat
  | (.string bytes, d) => bytes.length + uptoBulk d + 1
  | (_, d) => uptoBulk d + 1
 end
def uptoSmall : (H : Type) → List (DataW H) → Bool := fun _ ds => decide (uptoBulkAll ds ≤ 1048576)
def OpenSpec.upto (s : _root_.Go.ChangeSpec) : _root_.Go.OpenSpec := { _root_.Go.OpenSpec.ofChange s with cond := some uptoSmall }

/-- 'gramaryelaw26.CodeNorms', WHERE WHAT IT READS IS OF BULK AT MOST 1048576: true; the input reads as it did. -/
def codeNormsUptoRow : OpenClaim := { program := "ythcogpecnmhhlaa", sum := "40acb19319048c090f9c641f33a11dcc2eaa0ae7a14b5a470b40a64ef3ec40b3", func := "gramarye/gramaryelaw26.CodeNorms", spec := "codeNorms", unfollowed := true, recurses := true, apart := false, narrowed := true }
def CodeNormsUptoSaid : Prop := codeNormsUptoRow.holds Try.pinned (OpenSpec.upto codeNormsSpec)

/-- 'gramaryelaw26.CodeStays', WHERE WHAT IT READS IS OF BULK AT MOST 1048576: true; the input reads as it did. -/
def codeStaysUptoRow : OpenClaim := { program := "ythcogpecnmhhlaa", sum := "40acb19319048c090f9c641f33a11dcc2eaa0ae7a14b5a470b40a64ef3ec40b3", func := "gramarye/gramaryelaw26.CodeStays", spec := "codeStays", unfollowed := true, recurses := true, apart := false, narrowed := true }
def CodeStaysUptoSaid : Prop := codeStaysUptoRow.holds Try.pinned (OpenSpec.upto codeStaysSpec)

/-- 'gramaryelaw29.PrintPrints', WHERE WHAT IT READS IS OF BULK AT MOST 1048576: true; the input reads as it did. -/
def printPrintsUptoRow : OpenClaim := { program := "ythcogpecnmhhlaa", sum := "40acb19319048c090f9c641f33a11dcc2eaa0ae7a14b5a470b40a64ef3ec40b3", func := "gramarye/gramaryelaw29.PrintPrints", spec := "printPrints", inPlace := ["internal/abi.NoEscape", "internal/bytealg.MakeNoZero"], unfollowed := true, recurses := true, apart := false, narrowed := true }
def PrintPrintsUptoSaid : Prop := printPrintsUptoRow.holds Try.pinned (OpenSpec.upto printPrintsSpec)

/-- 'gramaryelaw29.PrintSame', WHERE WHAT IT READS IS OF BULK AT MOST 1048576: true; the input reads as it did. -/
def printSameUptoRow : OpenClaim := { program := "ythcogpecnmhhlaa", sum := "40acb19319048c090f9c641f33a11dcc2eaa0ae7a14b5a470b40a64ef3ec40b3", func := "gramarye/gramaryelaw29.PrintSame", spec := "printSame", inPlace := ["internal/abi.NoEscape", "internal/bytealg.MakeNoZero"], unfollowed := true, recurses := true, apart := false, narrowed := true }
def PrintSameUptoSaid : Prop := printSameUptoRow.holds Try.pinned (OpenSpec.upto printSameSpec)

end Rows
end Go.Proofs.Ythcogpecnmhhlaa
