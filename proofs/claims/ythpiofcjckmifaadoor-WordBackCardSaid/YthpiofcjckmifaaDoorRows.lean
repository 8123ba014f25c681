/-
  NARROWER THAN 'FOR EVERY INPUT', by the rows' own cells (each row's printed sentence says how): WordTells: laid · WordRules: laid · WordBack: laid.
  DERIVED. THE GIVEN ROWS OF THIS SEAT. 3 by the template 'for every input the law returns true; each argument reads behind the call as it read before'; 0 by the template 'total and deterministic' (their statements: YthpiofcjckmifaaDoorTotals.lean).
  GIVEN WITH THE SEED: the statements are not yours to turn. If you find one false, say at which input.
  Laid BY PROGRAM, IN A SANDBOX (cutbox-rows.mjs): the forced cells as the released guide's own fill.sh prints them over the translation 5372ef04a0ed9bae… (all of the seat's roots in one cut). By AI agents, Wed Nov 11 2026. No macro, syntax, notation, axiom, sorry.
-/
import Derived.Test.YthpiofcjckmifaaDoorChecked
import GoSem.Claim
import GoSem.ClaimJoined
import GoSem.ClaimMapViews
import Derived.JoinedTies
import Derived.KernelRfl
namespace Go.Proofs.YthpiofcjckmifaaDoor
/- THE CELL 'sum', in the pinned program and in every row, IS THE sha256 OF THE DUMP (.gsa) THAT YthpiofcjckmifaaDoorProg.lean LOADS. Nothing in Lean hashes anything: it is a label: what it is worth is what the hold of that sum in a sandbox is worth. -/
noncomputable def Tryd.pinned : Pinned := { name := "ythpiofcjckmifaadoor", sum := "5372ef04a0ed9baefe198c9bb7edb5c0a85739e7552938cca239103915662603", checked := Tryd.checked }
namespace Rows
def none {H : Type} : Left H := { results := [], args := [] }

/- WHAT THE LISTED PACKAGE-LEVEL VARIABLES READ AS WHEN THE CALL BEGINS. Each datum BY PROGRAM (the guide's laid-datum.mjs) off the statement by which the dump's own 'gosem.cut.vars' lays the variable. In a bare row this is a premise. The card (YthpiofcjckmifaaDoorCards.lean) ties it to the program's text. -/
def laid_gramarye_name_keywords {H : Type} : DataW H := .agg [.lit (.string [103, 114, 97, 109, 109, 97, 114]), .lit (.string [108, 111, 111, 107]), .lit (.string [115, 121, 110, 99]), .lit (.string [116, 111, 107, 101, 110])]
def laid_gramarye_word_reserved {H : Type} : DataW H := .agg [.lit (.string [98, 111, 111, 108]), .lit (.string [99, 97, 115, 101]), .lit (.string [100, 101, 102, 97, 117, 108, 116]), .lit (.string [101, 108, 115, 101]), .lit (.string [102, 97, 108, 115, 101]), .lit (.string [102, 111, 114]), .lit (.string [102, 117, 110, 99]), .lit (.string [105, 102]), .lit (.string [105, 110, 116]), .lit (.string [108, 111, 111, 107]), .lit (.string [110, 101, 119]), .lit (.string [110, 105, 108]), .lit (.string [112, 97, 99, 107, 97, 103, 101]), .lit (.string [114, 101, 116, 117, 114, 110]), .lit (.string [115, 116, 114, 117, 99, 116]), .lit (.string [115, 119, 105, 116, 99, 104]), .lit (.string [116, 114, 117, 101]), .lit (.string [116, 121, 112, 101])]

/-- 'gramaryelaw27.WordTells': WHATEVER THE INPUT: true; the input reads as it did. -/
def wordTellsSpec : ChangeSpec := { name := "wordTells", fn := fun _ => fun
  | [d] => { results := [.lit (.bool true)], args := [d] }
  | _ => none }
def wordTellsRow : OpenClaim := { program := "ythpiofcjckmifaadoor", sum := "5372ef04a0ed9baefe198c9bb7edb5c0a85739e7552938cca239103915662603", func := "gramarye/gramaryelaw27.WordTells", spec := "wordTells", unfollowed := true, recurses := true, named := ["gramarye/word.reserved", "gramarye/name.keywords"], apart := false, laid := [("gramarye/name.keywords", laid_gramarye_name_keywords), ("gramarye/word.reserved", laid_gramarye_word_reserved)] }
def WordTellsSaid : Prop := wordTellsRow.holds Tryd.pinned (OpenSpec.ofChange wordTellsSpec)

/-- ITS FALSE NEIGHBOUR: 'it returns false'. Refute it at one input. -/
def wordTellsWrong : ChangeSpec := { name := "wordTells", fn := fun _ => fun
  | [d] => { results := [.lit (.bool false)], args := [d] }
  | _ => none }
def WordTellsWrongFalsely : Prop := wordTellsRow.holds Tryd.pinned (OpenSpec.ofChange wordTellsWrong)

/-- 'gramaryelaw27.WordRules': WHATEVER THE INPUT: true; the input reads as it did. -/
def wordRulesSpec : ChangeSpec := { name := "wordRules", fn := fun _ => fun
  | [d] => { results := [.lit (.bool true)], args := [d] }
  | _ => none }
def wordRulesRow : OpenClaim := { program := "ythpiofcjckmifaadoor", sum := "5372ef04a0ed9baefe198c9bb7edb5c0a85739e7552938cca239103915662603", func := "gramarye/gramaryelaw27.WordRules", spec := "wordRules", unfollowed := true, recurses := true, named := ["gramarye/name.keywords", "gramarye/word.reserved"], apart := false, laid := [("gramarye/name.keywords", laid_gramarye_name_keywords), ("gramarye/word.reserved", laid_gramarye_word_reserved)] }
def WordRulesSaid : Prop := wordRulesRow.holds Tryd.pinned (OpenSpec.ofChange wordRulesSpec)

/-- ITS FALSE NEIGHBOUR: 'it returns false'. Refute it at one input. -/
def wordRulesWrong : ChangeSpec := { name := "wordRules", fn := fun _ => fun
  | [d] => { results := [.lit (.bool false)], args := [d] }
  | _ => none }
def WordRulesWrongFalsely : Prop := wordRulesRow.holds Tryd.pinned (OpenSpec.ofChange wordRulesWrong)

/-- 'gramaryelaw27.WordBack': WHATEVER THE INPUT: true; the input reads as it did. -/
def wordBackSpec : ChangeSpec := { name := "wordBack", fn := fun _ => fun
  | [d] => { results := [.lit (.bool true)], args := [d] }
  | _ => none }
def wordBackRow : OpenClaim := { program := "ythpiofcjckmifaadoor", sum := "5372ef04a0ed9baefe198c9bb7edb5c0a85739e7552938cca239103915662603", func := "gramarye/gramaryelaw27.WordBack", spec := "wordBack", unfollowed := true, recurses := true, named := ["gramarye/name.keywords", "gramarye/word.reserved"], apart := false, laid := [("gramarye/name.keywords", laid_gramarye_name_keywords), ("gramarye/word.reserved", laid_gramarye_word_reserved)] }
def WordBackSaid : Prop := wordBackRow.holds Tryd.pinned (OpenSpec.ofChange wordBackSpec)

/-- ITS FALSE NEIGHBOUR: 'it returns false'. Refute it at one input. -/
def wordBackWrong : ChangeSpec := { name := "wordBack", fn := fun _ => fun
  | [d] => { results := [.lit (.bool false)], args := [d] }
  | _ => none }
def WordBackWrongFalsely : Prop := wordBackRow.holds Tryd.pinned (OpenSpec.ofChange wordBackWrong)

/- THE SECOND FORM. 'bulk': how many values and letters a reading holds, each counted each time it is reached (what is shared counts as often as it is met; a slice's spare places count too). A statement '..UptoSaid' is the law's where the arguments, and the package variables that the reading takes, are together of bulk at most 1048576: NARROWER than '..Said'. Prove '..Said' where nothing that the law and all that it calls make is longer than what came in: it says more and counts as full. Else prove '..UptoSaid'. A law counts once. -/
mutual
def uptoBulk {H : Type} : DataW H → Nat
  | .lit (.string bytes) => bytes.length + 1
  | .lit _ => 1
  | .nil => 1
  | .ptr d => uptoBulk d + 1
  | .slice elems spare => uptoBulkAll elems + uptoBulkAll spare + 1
  | .agg parts => uptoBulkAll parts + 1
  | .iface _ d => uptoBulk d + 1
  | .map entries => uptoBulkEntries entries + 1
  | .held _ => 1
def uptoBulkAll {H : Type} : List (DataW H) → Nat
  | [] => 0
  | d :: r => uptoBulk d + uptoBulkAll r
def uptoBulkEntries {H : Type} : List (Lit × DataW H) → Nat
  | [] => 0
  | x :: r => uptoBulkEntry x + uptoBulkEntries r
def uptoBulkEntry {H : Type} : Lit × DataW H → Nat
  | (.string bytes, d) => bytes.length + uptoBulk d + 1
  | (_, d) => uptoBulk d + 1
 end
def uptoSmall : (H : Type) → List (DataW H) → Bool := fun _ ds => decide (uptoBulkAll ds ≤ 1048576)
def OpenSpec.upto (s : _root_.Go.ChangeSpec) : _root_.Go.OpenSpec := { _root_.Go.OpenSpec.ofChange s with cond := some uptoSmall }

/-- 'gramaryelaw27.WordTells', WHERE WHAT IT READS IS OF BULK AT MOST 1048576: true; the input reads as it did. -/
def wordTellsUptoRow : OpenClaim := { program := "ythpiofcjckmifaadoor", sum := "5372ef04a0ed9baefe198c9bb7edb5c0a85739e7552938cca239103915662603", func := "gramarye/gramaryelaw27.WordTells", spec := "wordTells", unfollowed := true, recurses := true, named := ["gramarye/word.reserved", "gramarye/name.keywords"], apart := false, laid := [("gramarye/name.keywords", laid_gramarye_name_keywords), ("gramarye/word.reserved", laid_gramarye_word_reserved)], narrowed := true }
def WordTellsUptoSaid : Prop := wordTellsUptoRow.holds Tryd.pinned (OpenSpec.upto wordTellsSpec)

/-- 'gramaryelaw27.WordRules', WHERE WHAT IT READS IS OF BULK AT MOST 1048576: true; the input reads as it did. -/
def wordRulesUptoRow : OpenClaim := { program := "ythpiofcjckmifaadoor", sum := "5372ef04a0ed9baefe198c9bb7edb5c0a85739e7552938cca239103915662603", func := "gramarye/gramaryelaw27.WordRules", spec := "wordRules", unfollowed := true, recurses := true, named := ["gramarye/name.keywords", "gramarye/word.reserved"], apart := false, laid := [("gramarye/name.keywords", laid_gramarye_name_keywords), ("gramarye/word.reserved", laid_gramarye_word_reserved)], narrowed := true }
def WordRulesUptoSaid : Prop := wordRulesUptoRow.holds Tryd.pinned (OpenSpec.upto wordRulesSpec)

/-- 'gramaryelaw27.WordBack', WHERE WHAT IT READS IS OF BULK AT MOST 1048576: true; the input reads as it did. -/
def wordBackUptoRow : OpenClaim := { program := "ythpiofcjckmifaadoor", sum := "5372ef04a0ed9baefe198c9bb7edb5c0a85739e7552938cca239103915662603", func := "gramarye/gramaryelaw27.WordBack", spec := "wordBack", unfollowed := true, recurses := true, named := ["gramarye/name.keywords", "gramarye/word.reserved"], apart := false, laid := [("gramarye/name.keywords", laid_gramarye_name_keywords), ("gramarye/word.reserved", laid_gramarye_word_reserved)], narrowed := true }
def WordBackUptoSaid : Prop := wordBackUptoRow.holds Tryd.pinned (OpenSpec.upto wordBackSpec)

end Rows
end Go.Proofs.YthpiofcjckmifaaDoor
