/-
  No cell of these rows narrows 'for every input' (looked for: loops, veiled, ifaces, maps, wideKeys, modest, calm, conditions, laid).
  DERIVED. THE GIVEN ROWS OF THIS SEAT. 8 by the template 'for every input the law returns true; each argument reads behind the call as it read before'; 0 by the template 'total and deterministic' (their statements: YthpiofcjckmifaaTotals.lean).
  GIVEN WITH THE SEED: the statements are not yours to turn. If you find one false, say at which input.
  Laid BY PROGRAM, IN A SANDBOX (cutbox-rows.mjs): the forced cells as the released guide's own fill.sh prints them over the translation 0ad9a47adb072441… (all of the seat's roots in one cut). By AI agents, Wed Nov 11 2026. No macro, syntax, notation, axiom, sorry.
-/
import Derived.Test.YthpiofcjckmifaaChecked
import GoSem.Claim
import GoSem.ClaimJoined
import GoSem.ClaimMapViews
import Derived.JoinedTies
import Derived.KernelRfl
namespace Go.Proofs.Ythpiofcjckmifaa
/- THE CELL 'sum', in the pinned program and in every row, IS THE sha256 OF THE DUMP (.gsa) THAT YthpiofcjckmifaaProg.lean LOADS. Nothing in Lean hashes anything: it is a label: what it is worth is what the hold of that sum in a sandbox is worth. -/
noncomputable def Try.pinned : Pinned := { name := "ythpiofcjckmifaa", sum := "0ad9a47adb0724413bc4c6dade74f4da8aaf66c8c97576ea4b5b67acadfa0e95", checked := Try.checked }
namespace Rows
def none {H : Type} : Left H := { results := [], args := [] }

/-- 'gramaryelaw03.DigitParses': WHATEVER THE INPUT: true; the input reads as it did. -/
def digitParsesSpec : ChangeSpec := { name := "digitParses", fn := fun _ => fun
  | [d] => { results := [.lit (.bool true)], args := [d] }
  | _ => none }
def digitParsesRow : OpenClaim := { program := "ythpiofcjckmifaa", sum := "0ad9a47adb0724413bc4c6dade74f4da8aaf66c8c97576ea4b5b67acadfa0e95", func := "gramarye/gramaryelaw03.DigitParses", spec := "digitParses", apart := false }
def DigitParsesSaid : Prop := digitParsesRow.holds Try.pinned (OpenSpec.ofChange digitParsesSpec)

/-- ITS FALSE NEIGHBOUR: 'it returns false'. Refute it at one input. -/
def digitParsesWrong : ChangeSpec := { name := "digitParses", fn := fun _ => fun
  | [d] => { results := [.lit (.bool false)], args := [d] }
  | _ => none }
def DigitParsesWrongFalsely : Prop := digitParsesRow.holds Try.pinned (OpenSpec.ofChange digitParsesWrong)

/-- 'gramaryelaw03.DigitBack': WHATEVER THE INPUT: true; the input reads as it did. -/
def digitBackSpec : ChangeSpec := { name := "digitBack", fn := fun _ => fun
  | [d1, d2] => { results := [.lit (.bool true)], args := [d1, d2] }
  | _ => none }
def digitBackRow : OpenClaim := { program := "ythpiofcjckmifaa", sum := "0ad9a47adb0724413bc4c6dade74f4da8aaf66c8c97576ea4b5b67acadfa0e95", func := "gramarye/gramaryelaw03.DigitBack", spec := "digitBack", apart := false }
def DigitBackSaid : Prop := digitBackRow.holds Try.pinned (OpenSpec.ofChange digitBackSpec)

/-- ITS FALSE NEIGHBOUR: 'it returns false'. Refute it at one input. -/
def digitBackWrong : ChangeSpec := { name := "digitBack", fn := fun _ => fun
  | [d1, d2] => { results := [.lit (.bool false)], args := [d1, d2] }
  | _ => none }
def DigitBackWrongFalsely : Prop := digitBackRow.holds Try.pinned (OpenSpec.ofChange digitBackWrong)

/-- 'gramaryelaw12.TupleWhole': WHATEVER THE INPUT: true; the input reads as it did. -/
def tupleWholeSpec : ChangeSpec := { name := "tupleWhole", fn := fun _ => fun
  | [d1, d2, d3, d4, d5] => { results := [.lit (.bool true)], args := [d1, d2, d3, d4, d5] }
  | _ => none }
def tupleWholeRow : OpenClaim := { program := "ythpiofcjckmifaa", sum := "0ad9a47adb0724413bc4c6dade74f4da8aaf66c8c97576ea4b5b67acadfa0e95", func := "gramarye/gramaryelaw12.TupleWhole", spec := "tupleWhole", apart := false }
def TupleWholeSaid : Prop := tupleWholeRow.holds Try.pinned (OpenSpec.ofChange tupleWholeSpec)

/-- ITS FALSE NEIGHBOUR: 'it returns false'. Refute it at one input. -/
def tupleWholeWrong : ChangeSpec := { name := "tupleWhole", fn := fun _ => fun
  | [d1, d2, d3, d4, d5] => { results := [.lit (.bool false)], args := [d1, d2, d3, d4, d5] }
  | _ => none }
def TupleWholeWrongFalsely : Prop := tupleWholeRow.holds Try.pinned (OpenSpec.ofChange tupleWholeWrong)

/-- 'gramaryelaw12.TupleTells': WHATEVER THE INPUT: true; the input reads as it did. -/
def tupleTellsSpec : ChangeSpec := { name := "tupleTells", fn := fun _ => fun
  | [d1, d2, d3, d4] => { results := [.lit (.bool true)], args := [d1, d2, d3, d4] }
  | _ => none }
def tupleTellsRow : OpenClaim := { program := "ythpiofcjckmifaa", sum := "0ad9a47adb0724413bc4c6dade74f4da8aaf66c8c97576ea4b5b67acadfa0e95", func := "gramarye/gramaryelaw12.TupleTells", spec := "tupleTells", apart := false }
def TupleTellsSaid : Prop := tupleTellsRow.holds Try.pinned (OpenSpec.ofChange tupleTellsSpec)

/-- ITS FALSE NEIGHBOUR: 'it returns false'. Refute it at one input. -/
def tupleTellsWrong : ChangeSpec := { name := "tupleTells", fn := fun _ => fun
  | [d1, d2, d3, d4] => { results := [.lit (.bool false)], args := [d1, d2, d3, d4] }
  | _ => none }
def TupleTellsWrongFalsely : Prop := tupleTellsRow.holds Try.pinned (OpenSpec.ofChange tupleTellsWrong)

/-- 'gramaryelaw33.StoreSets': WHATEVER THE INPUT: true; the input reads as it did. -/
def storeSetsSpec : ChangeSpec := { name := "storeSets", fn := fun _ => fun
  | [d1, d2, d3, d4, d5] => { results := [.lit (.bool true)], args := [d1, d2, d3, d4, d5] }
  | _ => none }
def storeSetsRow : OpenClaim := { program := "ythpiofcjckmifaa", sum := "0ad9a47adb0724413bc4c6dade74f4da8aaf66c8c97576ea4b5b67acadfa0e95", func := "gramarye/gramaryelaw33.StoreSets", spec := "storeSets", apart := false }
def StoreSetsSaid : Prop := storeSetsRow.holds Try.pinned (OpenSpec.ofChange storeSetsSpec)

/-- ITS FALSE NEIGHBOUR: 'it returns false'. Refute it at one input. -/
def storeSetsWrong : ChangeSpec := { name := "storeSets", fn := fun _ => fun
  | [d1, d2, d3, d4, d5] => { results := [.lit (.bool false)], args := [d1, d2, d3, d4, d5] }
  | _ => none }
def StoreSetsWrongFalsely : Prop := storeSetsRow.holds Try.pinned (OpenSpec.ofChange storeSetsWrong)

/-- 'gramaryelaw33.StorePlays': WHATEVER THE INPUT: true; the input reads as it did. -/
def storePlaysSpec : ChangeSpec := { name := "storePlays", fn := fun _ => fun
  | [d] => { results := [.lit (.bool true)], args := [d] }
  | _ => none }
def storePlaysRow : OpenClaim := { program := "ythpiofcjckmifaa", sum := "0ad9a47adb0724413bc4c6dade74f4da8aaf66c8c97576ea4b5b67acadfa0e95", func := "gramarye/gramaryelaw33.StorePlays", spec := "storePlays", apart := false }
def StorePlaysSaid : Prop := storePlaysRow.holds Try.pinned (OpenSpec.ofChange storePlaysSpec)

/-- ITS FALSE NEIGHBOUR: 'it returns false'. Refute it at one input. -/
def storePlaysWrong : ChangeSpec := { name := "storePlays", fn := fun _ => fun
  | [d] => { results := [.lit (.bool false)], args := [d] }
  | _ => none }
def StorePlaysWrongFalsely : Prop := storePlaysRow.holds Try.pinned (OpenSpec.ofChange storePlaysWrong)

/-- 'gramaryelaw33.StoreFull': WHATEVER THE INPUT: true; the input reads as it did. -/
def storeFullSpec : ChangeSpec := { name := "storeFull", fn := fun _ => fun
  | [d] => { results := [.lit (.bool true)], args := [d] }
  | _ => none }
def storeFullRow : OpenClaim := { program := "ythpiofcjckmifaa", sum := "0ad9a47adb0724413bc4c6dade74f4da8aaf66c8c97576ea4b5b67acadfa0e95", func := "gramarye/gramaryelaw33.StoreFull", spec := "storeFull", apart := false }
def StoreFullSaid : Prop := storeFullRow.holds Try.pinned (OpenSpec.ofChange storeFullSpec)

/-- ITS FALSE NEIGHBOUR: 'it returns false'. Refute it at one input. -/
def storeFullWrong : ChangeSpec := { name := "storeFull", fn := fun _ => fun
  | [d] => { results := [.lit (.bool false)], args := [d] }
  | _ => none }
def StoreFullWrongFalsely : Prop := storeFullRow.holds Try.pinned (OpenSpec.ofChange storeFullWrong)

/-- 'gramaryelaw12.TupleAt': WHATEVER THE INPUT: true; the input reads as it did. -/
def tupleAtSpec : ChangeSpec := { name := "tupleAt", fn := fun _ => fun
  | [d1, d2, d3, d4, d5] => { results := [.lit (.bool true)], args := [d1, d2, d3, d4, d5] }
  | _ => none }
def tupleAtRow : OpenClaim := { program := "ythpiofcjckmifaa", sum := "0ad9a47adb0724413bc4c6dade74f4da8aaf66c8c97576ea4b5b67acadfa0e95", func := "gramarye/gramaryelaw12.TupleAt", spec := "tupleAt", inPlace := ["internal/abi.NoEscape", "internal/bytealg.MakeNoZero"], apart := false }
def TupleAtSaid : Prop := tupleAtRow.holds Try.pinned (OpenSpec.ofChange tupleAtSpec)

/-- ITS FALSE NEIGHBOUR: 'it returns false'. Refute it at one input. -/
def tupleAtWrong : ChangeSpec := { name := "tupleAt", fn := fun _ => fun
  | [d1, d2, d3, d4, d5] => { results := [.lit (.bool false)], args := [d1, d2, d3, d4, d5] }
  | _ => none }
def TupleAtWrongFalsely : Prop := tupleAtRow.holds Try.pinned (OpenSpec.ofChange tupleAtWrong)

/- THE SECOND FORM. 'bulk': how many values and letters a reading holds, each counted each time it is reached (what is shared counts as often as it is met; a slice's spare places count too). A statement '..UptoSaid' is the law's where the arguments, and the package variables that the reading takes, are together of bulk at most 1048576: NARROWER than '..Said'. Prove '..Said' where nothing that the law and all that it calls make is longer than what came in: it says more and counts as full. Else prove '..UptoSaid'. A law counts once. -/
mutual
def uptoBulk {H : Type} : DataW H → Nat
  | .lit (.string bytes) => bytes.length + 1
  | .lit _ => 1
  | .nil => 1
  | .ptr d => uptoBulk d + 1
  | .slice elems spare => uptoBulkAll elems + uptoBulkAll spare + 1
  | .agg parts => uptoBulkAll parts + 1
  | .iface _ d => uptoBulk d + 1
  | .map entries => uptoBulkEntries entries + 1
  | .held _ => 1
def uptoBulkAll {H : Type} : List (DataW H) → Nat
  | [] => 0
  | d :: r => uptoBulk d + uptoBulkAll r
def uptoBulkEntries {H : Type} : List (Lit × DataW H) → Nat
  | [] => 0
  | x :: r => uptoBulkEntry x + uptoBulkEntries r
def uptoBulkEntry {H : Type} : Lit × DataW H → Nat
  | (.string bytes, d) => bytes.length + uptoBulk d + 1
  | (_, d) => uptoBulk d + 1
 end
def uptoSmall : (H : Type) → List (DataW H) → Bool := fun _ ds => decide (uptoBulkAll ds ≤ 1048576)
def OpenSpec.upto (s : _root_.Go.ChangeSpec) : _root_.Go.OpenSpec := { _root_.Go.OpenSpec.ofChange s with cond := some uptoSmall }

/-- 'gramaryelaw03.DigitParses', WHERE WHAT IT READS IS OF BULK AT MOST 1048576: true; the input reads as it did. -/
def digitParsesUptoRow : OpenClaim := { program := "ythpiofcjckmifaa", sum := "0ad9a47adb0724413bc4c6dade74f4da8aaf66c8c97576ea4b5b67acadfa0e95", func := "gramarye/gramaryelaw03.DigitParses", spec := "digitParses", apart := false, narrowed := true }
def DigitParsesUptoSaid : Prop := digitParsesUptoRow.holds Try.pinned (OpenSpec.upto digitParsesSpec)

/-- 'gramaryelaw03.DigitBack', WHERE WHAT IT READS IS OF BULK AT MOST 1048576: true; the input reads as it did. -/
def digitBackUptoRow : OpenClaim := { program := "ythpiofcjckmifaa", sum := "0ad9a47adb0724413bc4c6dade74f4da8aaf66c8c97576ea4b5b67acadfa0e95", func := "gramarye/gramaryelaw03.DigitBack", spec := "digitBack", apart := false, narrowed := true }
def DigitBackUptoSaid : Prop := digitBackUptoRow.holds Try.pinned (OpenSpec.upto digitBackSpec)

/-- 'gramaryelaw12.TupleWhole', WHERE WHAT IT READS IS OF BULK AT MOST 1048576: true; the input reads as it did. -/
def tupleWholeUptoRow : OpenClaim := { program := "ythpiofcjckmifaa", sum := "0ad9a47adb0724413bc4c6dade74f4da8aaf66c8c97576ea4b5b67acadfa0e95", func := "gramarye/gramaryelaw12.TupleWhole", spec := "tupleWhole", apart := false, narrowed := true }
def TupleWholeUptoSaid : Prop := tupleWholeUptoRow.holds Try.pinned (OpenSpec.upto tupleWholeSpec)

/-- 'gramaryelaw12.TupleTells', WHERE WHAT IT READS IS OF BULK AT MOST 1048576: true; the input reads as it did. -/
def tupleTellsUptoRow : OpenClaim := { program := "ythpiofcjckmifaa", sum := "0ad9a47adb0724413bc4c6dade74f4da8aaf66c8c97576ea4b5b67acadfa0e95", func := "gramarye/gramaryelaw12.TupleTells", spec := "tupleTells", apart := false, narrowed := true }
def TupleTellsUptoSaid : Prop := tupleTellsUptoRow.holds Try.pinned (OpenSpec.upto tupleTellsSpec)

/-- 'gramaryelaw33.StoreSets', WHERE WHAT IT READS IS OF BULK AT MOST 1048576: true; the input reads as it did. -/
def storeSetsUptoRow : OpenClaim := { program := "ythpiofcjckmifaa", sum := "0ad9a47adb0724413bc4c6dade74f4da8aaf66c8c97576ea4b5b67acadfa0e95", func := "gramarye/gramaryelaw33.StoreSets", spec := "storeSets", apart := false, narrowed := true }
def StoreSetsUptoSaid : Prop := storeSetsUptoRow.holds Try.pinned (OpenSpec.upto storeSetsSpec)

/-- 'gramaryelaw33.StorePlays', WHERE WHAT IT READS IS OF BULK AT MOST 1048576: true; the input reads as it did. -/
def storePlaysUptoRow : OpenClaim := { program := "ythpiofcjckmifaa", sum := "0ad9a47adb0724413bc4c6dade74f4da8aaf66c8c97576ea4b5b67acadfa0e95", func := "gramarye/gramaryelaw33.StorePlays", spec := "storePlays", apart := false, narrowed := true }
def StorePlaysUptoSaid : Prop := storePlaysUptoRow.holds Try.pinned (OpenSpec.upto storePlaysSpec)

/-- 'gramaryelaw33.StoreFull', WHERE WHAT IT READS IS OF BULK AT MOST 1048576: true; the input reads as it did. -/
def storeFullUptoRow : OpenClaim := { program := "ythpiofcjckmifaa", sum := "0ad9a47adb0724413bc4c6dade74f4da8aaf66c8c97576ea4b5b67acadfa0e95", func := "gramarye/gramaryelaw33.StoreFull", spec := "storeFull", apart := false, narrowed := true }
def StoreFullUptoSaid : Prop := storeFullUptoRow.holds Try.pinned (OpenSpec.upto storeFullSpec)

/-- 'gramaryelaw12.TupleAt', WHERE WHAT IT READS IS OF BULK AT MOST 1048576: true; the input reads as it did. -/
def tupleAtUptoRow : OpenClaim := { program := "ythpiofcjckmifaa", sum := "0ad9a47adb0724413bc4c6dade74f4da8aaf66c8c97576ea4b5b67acadfa0e95", func := "gramarye/gramaryelaw12.TupleAt", spec := "tupleAt", inPlace := ["internal/abi.NoEscape", "internal/bytealg.MakeNoZero"], apart := false, narrowed := true }
def TupleAtUptoSaid : Prop := tupleAtUptoRow.holds Try.pinned (OpenSpec.upto tupleAtSpec)

end Rows
end Go.Proofs.Ythpiofcjckmifaa
