/- What the program's functions 48 compute (numbers of this seat): contracts, walked by the engine. -/
import Derived.Test.YthcogpecnmhhlaaEngU
import Derived.Test.YthcogpecnmhhlaaCodD
import Derived.Test.YthcogpecnmhhlaaProg
namespace Go.Eng
open Go Go.Proofs
set_option maxRecDepth 100000
set_option linter.all false
def c48 : Cd := (.seq (.reg [o1 4 (.box true 4 (.t 0)), o1 8 (.mv (.c (.bool false)))] false) (.seq (.reg [o1 9 (.mv (.t 2)), o1 10 (.mv (.t 1)), o1 11 (.bin .gtr (.t 9) (.t 10)), o1 12 (.mv (.t 11)), og 13 12 true (.mv (.t 2)), og 14 12 true (.fa 0 (.t 4)), og 15 12 true (.fa 3 (.t 14)), og 16 12 true (.ld false 1 (.t 15)), og 17 12 true (.len (.t 16)), og 18 12 true (.bin .lss (.t 13) (.t 17)), o1 19 (.pick (.t 12) (.t 18) (.c (.bool false))), o1 20 (.mv (.t 19)), og 21 20 true (.mv (.t 3)), og 22 20 true (.fa 0 (.t 4)), og 23 20 true (.fa 3 (.t 22)), og 24 20 true (.ld false 1 (.t 23)), og 25 20 true (.mv (.t 2)), og 26 20 true (.ia 8 (.t 24) (.t 25)), og 27 20 true (.fa 0 (.t 26)), og 28 20 true (.ld false 1 (.t 27)), og 29 20 true (.callv (.t 21) [(.t 28)]), o1 30 (.pick (.t 20) (.t 29) (.c (.bool false))), o1 8 (.mv (.t 30))] false) .ret))
theorem tr48 : tr Try.prog (Try.f48.body.getD .skip) = some c48 := by kernel_rfl
set_option maxHeartbeats 1000000
structure Fld where
  Name : ByteArray
  Ty : ByteArray
structure Str where
  Name : ByteArray
  L : List Fld
structure Fun where
  Name : ByteArray
  Params : List Fld
  Result : ByteArray
  Body : Int
structure Cod where
  Name : ByteArray
  Structs : List Str
  Funcs : List Fun
  L : List Nod
def Fld.enc (f : Fld) : List T := [.str f.Name, .str f.Ty]
def Str.enc (s : Str) : List T := [.str s.Name, .lst 2 (s.L.map Fld.enc)]
def Fun.enc (f : Fun) : List T := [.str f.Name, .lst 2 (f.Params.map Fld.enc), .str f.Result, i64 f.Body]
def Cod.enc (c : Cod) : List T := [.str c.Name, .lst 2 (c.Structs.map Str.enc), .lst 4 (c.Funcs.map Fun.enc), .lst 8 (c.L.map Nod.enc)]
def Cod.child (c : Cod) (pl i : Int) (p : Int → Bool) : Bool := decide (pl < i) && (match c.L[i.toNat]? with | some n => p n.Kind | none => false)
theorem child_pure (c : Cod) (pl i : Int) (f : Nat) (caps : List T) (p : Int → Bool) (hc : caps.length < 30) (h : ∀ k, Pure Try.prog f (i64 k :: caps) (.bool (p k))) (hpl : -1 ≤ pl) (_hL : c.L.length ≤ 1000000000) :
    Pure Try.prog 48 [.agg c.enc, i64 pl, i64 i, .fn f caps] (.bool (c.child pl i p)) := by
  refine walk_of mo Try.func48 tr48 (rs := [.tmp 8]) (by rfl) (by rfl) ?_
  unfold c48 Cod.child
  by_cases h1 : pl < i
  · obtain ⟨k, rfl⟩ : ∃ k : Nat, i = k := ⟨i.toNat, by omega⟩
    by_cases h2 : k < c.L.length
    · simp [Cod.enc, h1, h2, Nod.enc]
      refine call_t (ts := i64 c.L[k].Kind :: caps) (.bool (p c.L[k].Kind)) (h _) (by simp; omega) ?_
      simp
    · simp [Cod.enc, h1, h2, List.getElem?_eq_none (show c.L.length ≤ k by omega)]
  · simp [Cod.enc, h1]

end Go.Eng
