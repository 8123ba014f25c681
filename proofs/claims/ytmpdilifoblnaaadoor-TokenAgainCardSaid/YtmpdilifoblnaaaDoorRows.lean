/-
  NARROWER THAN 'FOR EVERY INPUT', by the rows' own cells (each row's printed sentence says how): TokenAll: laid · TokenTexts: laid · TokenAgain: laid.
  DERIVED. THE GIVEN ROWS OF THIS SEAT. 3 by the template 'for every input the law returns true; each argument reads behind the call as it read before'; 0 by the template 'total and deterministic' (their statements: YtmpdilifoblnaaaDoorTotals.lean).
  GIVEN WITH THE SEED: the statements are not yours to turn. If you find one false, say at which input.
  Laid BY PROGRAM, IN A SANDBOX (cutbox-rows.mjs): the forced cells as the released guide's own fill.sh prints them over the translation b35259dbcffb0d5e… (all of the seat's roots in one cut). By AI agents, Wed Nov 11 2026. No macro, syntax, notation, axiom, sorry.
-/
import Derived.Test.YtmpdilifoblnaaaDoorChecked
import GoSem.Claim
import GoSem.ClaimJoined
import GoSem.ClaimMapViews
import Derived.JoinedTies
import Derived.KernelRfl
namespace Go.Proofs.YtmpdilifoblnaaaDoor
/- THE CELL 'sum', in the pinned program and in every row, IS THE sha256 OF THE DUMP (.gsa) THAT YtmpdilifoblnaaaDoorProg.lean LOADS. Nothing in Lean hashes anything: it is a label: what it is worth is what the hold of that sum in a sandbox is worth. -/
noncomputable def Tryd.pinned : Pinned := { name := "ytmpdilifoblnaaadoor", sum := "b35259dbcffb0d5ed7505c9798b582b1e9ebf4b5366afcd272c2f074786e921a", checked := Tryd.checked }
namespace Rows
def none {H : Type} : Left H := { results := [], args := [] }

/- WHAT THE LISTED PACKAGE-LEVEL VARIABLES READ AS WHEN THE CALL BEGINS. Each datum BY PROGRAM (the guide's laid-datum.mjs) off the statement by which the dump's own 'gosem.cut.vars' lays the variable. In a bare row this is a premise. The card (YtmpdilifoblnaaaDoorCards.lean) ties it to the program's text. -/
def laid_gramarye_word_reserved {H : Type} : DataW H := .agg [.lit (.string [98, 111, 111, 108]), .lit (.string [99, 97, 115, 101]), .lit (.string [100, 101, 102, 97, 117, 108, 116]), .lit (.string [101, 108, 115, 101]), .lit (.string [102, 97, 108, 115, 101]), .lit (.string [102, 111, 114]), .lit (.string [102, 117, 110, 99]), .lit (.string [105, 102]), .lit (.string [105, 110, 116]), .lit (.string [108, 111, 111, 107]), .lit (.string [110, 101, 119]), .lit (.string [110, 105, 108]), .lit (.string [112, 97, 99, 107, 97, 103, 101]), .lit (.string [114, 101, 116, 117, 114, 110]), .lit (.string [115, 116, 114, 117, 99, 116]), .lit (.string [115, 119, 105, 116, 99, 104]), .lit (.string [116, 114, 117, 101]), .lit (.string [116, 121, 112, 101])]

/-- 'gramaryelaw28.TokenAll': WHATEVER THE INPUT: true; the input reads as it did. -/
def tokenAllSpec : ChangeSpec := { name := "tokenAll", fn := fun _ => fun
  | [d] => { results := [.lit (.bool true)], args := [d] }
  | _ => none }
def tokenAllRow : OpenClaim := { program := "ytmpdilifoblnaaadoor", sum := "b35259dbcffb0d5ed7505c9798b582b1e9ebf4b5366afcd272c2f074786e921a", func := "gramarye/gramaryelaw28.TokenAll", spec := "tokenAll", inPlace := ["internal/bytealg.IndexByteString"], named := ["gramarye/word.reserved"], apart := false, laid := [("gramarye/word.reserved", laid_gramarye_word_reserved)] }
def TokenAllSaid : Prop := tokenAllRow.holds Tryd.pinned (OpenSpec.ofChange tokenAllSpec)

/-- ITS FALSE NEIGHBOUR: 'it returns false'. Refute it at one input. -/
def tokenAllWrong : ChangeSpec := { name := "tokenAll", fn := fun _ => fun
  | [d] => { results := [.lit (.bool false)], args := [d] }
  | _ => none }
def TokenAllWrongFalsely : Prop := tokenAllRow.holds Tryd.pinned (OpenSpec.ofChange tokenAllWrong)

/-- 'gramaryelaw28.TokenTexts': WHATEVER THE INPUT: true; the input reads as it did. -/
def tokenTextsSpec : ChangeSpec := { name := "tokenTexts", fn := fun _ => fun
  | [d] => { results := [.lit (.bool true)], args := [d] }
  | _ => none }
def tokenTextsRow : OpenClaim := { program := "ytmpdilifoblnaaadoor", sum := "b35259dbcffb0d5ed7505c9798b582b1e9ebf4b5366afcd272c2f074786e921a", func := "gramarye/gramaryelaw28.TokenTexts", spec := "tokenTexts", inPlace := ["internal/bytealg.IndexByteString"], named := ["gramarye/word.reserved"], apart := false, laid := [("gramarye/word.reserved", laid_gramarye_word_reserved)] }
def TokenTextsSaid : Prop := tokenTextsRow.holds Tryd.pinned (OpenSpec.ofChange tokenTextsSpec)

/-- ITS FALSE NEIGHBOUR: 'it returns false'. Refute it at one input. -/
def tokenTextsWrong : ChangeSpec := { name := "tokenTexts", fn := fun _ => fun
  | [d] => { results := [.lit (.bool false)], args := [d] }
  | _ => none }
def TokenTextsWrongFalsely : Prop := tokenTextsRow.holds Tryd.pinned (OpenSpec.ofChange tokenTextsWrong)

/-- 'gramaryelaw28.TokenAgain': WHATEVER THE INPUT: true; the input reads as it did. -/
def tokenAgainSpec : ChangeSpec := { name := "tokenAgain", fn := fun _ => fun
  | [d] => { results := [.lit (.bool true)], args := [d] }
  | _ => none }
def tokenAgainRow : OpenClaim := { program := "ytmpdilifoblnaaadoor", sum := "b35259dbcffb0d5ed7505c9798b582b1e9ebf4b5366afcd272c2f074786e921a", func := "gramarye/gramaryelaw28.TokenAgain", spec := "tokenAgain", inPlace := ["internal/bytealg.IndexByteString"], named := ["gramarye/word.reserved"], apart := false, laid := [("gramarye/word.reserved", laid_gramarye_word_reserved)] }
def TokenAgainSaid : Prop := tokenAgainRow.holds Tryd.pinned (OpenSpec.ofChange tokenAgainSpec)

/-- ITS FALSE NEIGHBOUR: 'it returns false'. Refute it at one input. -/
def tokenAgainWrong : ChangeSpec := { name := "tokenAgain", fn := fun _ => fun
  | [d] => { results := [.lit (.bool false)], args := [d] }
  | _ => none }
def TokenAgainWrongFalsely : Prop := tokenAgainRow.holds Tryd.pinned (OpenSpec.ofChange tokenAgainWrong)

/- THE SECOND FORM. 'bulk': how many values and letters a reading holds, each counted each time it is reached (what is shared counts as often as it is met; a slice's spare places count too). A statement '..UptoSaid' is the law's where the arguments, and the package variables that the reading takes, are together of bulk at most 1048576: NARROWER than '..Said'. Prove '..Said' where nothing that the law and all that it calls make is longer than what came in: it says more and counts as full. Else prove '..UptoSaid'. A law counts once. -/
mutual
def uptoBulk {H : Type} : DataW H → Nat
  | .lit (.string bytes) => bytes.length + 1
  | .lit _ => 1
  | .nil => 1
  | .ptr d => uptoBulk d + 1
  | .slice elems spare => uptoBulkAll elems + uptoBulkAll spare + 1
  | .agg parts => uptoBulkAll parts + 1
  | .iface _ d => uptoBulk d + 1
  | .map entries => uptoBulkEntries entries + 1
  | .held _ => 1
def uptoBulkAll {H : Type} : List (DataW H) → Nat
  | [] => 0
  | d :: r => uptoBulk d + uptoBulkAll r
def uptoBulkEntries {H : Type} : List (Lit × DataW H) → Nat
  | [] => 0
  | x :: r => uptoBulkEntry x + uptoBulkEntries r
def uptoBulkEntry {H : Type} : Lit × DataW H → Nat
  | (.string bytes, d) => bytes.length + uptoBulk d + 1
  | (_, d) => uptoBulk d + 1
 end
def uptoSmall : (H : Type) → List (DataW H) → Bool := fun _ ds => decide (uptoBulkAll ds ≤ 1048576)
def OpenSpec.upto (s : _root_.Go.ChangeSpec) : _root_.Go.OpenSpec := { _root_.Go.OpenSpec.ofChange s with cond := some uptoSmall }

/-- 'gramaryelaw28.TokenAll', WHERE WHAT IT READS IS OF BULK AT MOST 1048576: true; the input reads as it did. -/
def tokenAllUptoRow : OpenClaim := { program := "ytmpdilifoblnaaadoor", sum := "b35259dbcffb0d5ed7505c9798b582b1e9ebf4b5366afcd272c2f074786e921a", func := "gramarye/gramaryelaw28.TokenAll", spec := "tokenAll", inPlace := ["internal/bytealg.IndexByteString"], named := ["gramarye/word.reserved"], apart := false, laid := [("gramarye/word.reserved", laid_gramarye_word_reserved)], narrowed := true }
def TokenAllUptoSaid : Prop := tokenAllUptoRow.holds Tryd.pinned (OpenSpec.upto tokenAllSpec)

/-- 'gramaryelaw28.TokenTexts', WHERE WHAT IT READS IS OF BULK AT MOST 1048576: true; the input reads as it did. -/
def tokenTextsUptoRow : OpenClaim := { program := "ytmpdilifoblnaaadoor", sum := "b35259dbcffb0d5ed7505c9798b582b1e9ebf4b5366afcd272c2f074786e921a", func := "gramarye/gramaryelaw28.TokenTexts", spec := "tokenTexts", inPlace := ["internal/bytealg.IndexByteString"], named := ["gramarye/word.reserved"], apart := false, laid := [("gramarye/word.reserved", laid_gramarye_word_reserved)], narrowed := true }
def TokenTextsUptoSaid : Prop := tokenTextsUptoRow.holds Tryd.pinned (OpenSpec.upto tokenTextsSpec)

/-- 'gramaryelaw28.TokenAgain', WHERE WHAT IT READS IS OF BULK AT MOST 1048576: true; the input reads as it did. -/
def tokenAgainUptoRow : OpenClaim := { program := "ytmpdilifoblnaaadoor", sum := "b35259dbcffb0d5ed7505c9798b582b1e9ebf4b5366afcd272c2f074786e921a", func := "gramarye/gramaryelaw28.TokenAgain", spec := "tokenAgain", inPlace := ["internal/bytealg.IndexByteString"], named := ["gramarye/word.reserved"], apart := false, laid := [("gramarye/word.reserved", laid_gramarye_word_reserved)], narrowed := true }
def TokenAgainUptoSaid : Prop := tokenAgainUptoRow.holds Tryd.pinned (OpenSpec.upto tokenAgainSpec)

end Rows
end Go.Proofs.YtmpdilifoblnaaaDoor
