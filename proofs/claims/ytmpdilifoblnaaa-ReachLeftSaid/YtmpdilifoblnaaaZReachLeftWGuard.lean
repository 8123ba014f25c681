/- For any plain rules, what begins with itself, and whether any begins with any other one, is as the document says, or refused. It holds for all rules that are cut to ten nonterminals and twenty productions. -/
import Derived.Test.YtmpdilifoblnaaaZReachLeftWWords
namespace Go.Proofs.YtmpdilifoblnaaaW.PrintWords
open Go.RowKit
section
variable {P : Program} {ops : Array Oper} {rest : List Oper} {o : Oper} {a : Act} {Q : Exit → Act → World → Prop} {W : World}
theorem gate_guard (hw : Region.wanted o (yielded ops a.tmps) = true) (h : wpList P ops Q ({ o with guard := none } :: rest) a W) : wpList P ops Q (o :: rest) a W := by
  have h1 : Region.wanted { o with guard := none } (yielded ops a.tmps) = true := rfl
  unfold wpList at h ⊢
  rw [if_pos h1] at h
  rw [if_pos hw]
  exact h
end
end Go.Proofs.YtmpdilifoblnaaaW.PrintWords
