/-
An engine for proofs about Go functions, part A: values, memory, instructions and what they do, in plain Lean. No program in sight.
-/
import Derived.Orders
import Derived.Laws.AppendOwn
import Derived.Laws.OwnMore
import Derived.Laws.MakeOwn
import Derived.Laws.NewFold
import Derived.Laws.StructEq
import Derived.WalkSpells
import Derived.KernelRfl
set_option linter.all false
namespace Go.Eng

/-- A value without a reference to memory that may still be written. -/
inductive T where
  | bool (b : Bool)
  | int (k : IntKind) (n : Int)
  | str (s : ByteArray)
  | nils
  | emp
  | lst (z : Nat) (es : List (List T))
  | ref (z : Nat) (es : List (List T)) (i j : Nat)
  | nilp
  | fn (f : Nat) (caps : List T)
  | nilf
  | agg (cs : List T)
  | tup (cs : List T)

/-- A slot's or a cell's value; names stand for objects of the call's own. -/
inductive V where
  | und
  | t (x : T)
  | ptr (n : Nat) (i j : Nat)
  | slc (n z : Nat) (i len : Nat)
  | fnv (f : Nat) (caps : List V)
  | agg (cs : List V)
  | tup (cs : List V)

inductive Ob where
  | box (cs : List V)
  | row (ty z : Nat) (es : List (List T))

abbrev Tm := List (Nat × V)
abbrev Hp := List (Nat × Ob)
structure St where
  tm : Tm
  hp : Hp

def look {α : Type} : List (Nat × α) → Nat → Option α
  | [], _ => none
  | (k, x) :: r, n => match Nat.beq k n with | true => some x | false => look r n

def drop {α : Type} : List (Nat × α) → Nat → List (Nat × α)
  | [], _ => []
  | (k, x) :: r, n => match Nat.beq k n with | true => drop r n | false => (k, x) :: drop r n

def get (tm : Tm) (n : Nat) : V := match look tm n with | some v => v | none => .und
def put (tm : Tm) (d : Option Nat) (v : V) : Tm := match d with | some n => (n, v) :: tm | none => tm

inductive O where
  | t (i : Nat)
  | c (x : T)

def opd (tm : Tm) : O → V
  | .t i => get tm i
  | .c x => .t x

/-- Cells of a value. -/
def V.cells : V → List V
  | .agg cs => cs
  | .t (.agg cs) => cs.map .t
  | v => [v]

def allT : List V → Option (List T)
  | [] => some []
  | .t x :: r => (allT r).map (x :: ·)
  | _ :: _ => none

def mkAgg (vs : List V) : V := match allT vs with | some ts => .t (.agg ts) | none => .agg vs
def mkFn (f : Nat) (vs : List V) : V := match allT vs with | some ts => .t (.fn f ts) | none => .fnv f vs

mutual
/-- A value without the name n. -/
def V.wo (n : Nat) : V → V
  | .und => .und
  | .t x => .t x
  | .ptr m i j => match Nat.beq m n with | true => .und | false => .ptr m i j
  | .slc m z i l => match Nat.beq m n with | true => .und | false => .slc m z i l
  | .fnv f cs => .fnv f (V.woL n cs)
  | .agg cs => .agg (V.woL n cs)
  | .tup cs => .tup (V.woL n cs)
def V.woL (n : Nat) : List V → List V
  | [] => []
  | v :: r => V.wo n v :: V.woL n r
end

def woTm (n : Nat) : Tm → Tm
  | [] => []
  | (k, v) :: r => (k, v.wo n) :: woTm n r

def Ob.wo (n : Nat) : Ob → Ob
  | .box cs => .box (V.woL n cs)
  | .row ty z es => .row ty z es

def woHp (n : Nat) : Hp → Hp
  | [] => []
  | (k, o) :: r => match Nat.beq k n with | true => woHp n r | false => (k, o.wo n) :: woHp n r

inductive Ins where
  | mv (x : O)
  | pick (c a b : O)
  | new (zero : List T)
  | box (agg : Bool) (n : Nat) (x : O)
  | ld (agg : Bool) (n : Nat) (x : O)
  | st (n : Nat) (x v : O)
  | fa (off : Nat) (x : O)
  | ia (z : Nat) (x i : O)
  | ixs (x i : O)
  | len (x : O)
  | lens (x : O)
  | bin (op : BinOp) (x y : O)
  | beq (neg : Bool) (x y : O)
  | eqs (neg : Bool) (ks : List Nat) (x y : O)
  | isnil (neg : Bool) (k : Nat) (x : O)
  | not (x : O)
  | neg (x : O)
  | cvt (k : IntKind) (x : O)
  | bs (ty z n : Nat) (parts : List O)
  | bld (zero : List T) (parts : List (Nat × Nat × O))
  | ext (i : Nat) (x : O)
  | fld (agg : Bool) (n off : Nat) (x : O)
  | sl (z : Nat) (x : O) (lo hi : Option O)
  | sls (x : O) (lo hi : Option O)
  | app (ty z by_ : Nat) (x y : O)
  | mk (ty z by_ : Nat) (zero : List T) (len cap : O)
  | mkf (f : Nat) (caps : List O)
  | mn (x y : O)
  | mx (x y : O)
  | nck (x : O)
  | clr (z : Nat) (zero : List T) (x : O)
  | ldf (F : List Nat) (agg : Bool) (n : Nat) (x : O)
  | ldc (agg : Bool) (n : Nat) (x : O)
  | call (f : Nat) (args : List O)
  | callv (f : O) (args : List O)
  | callw (f : Nat) (args : List O)
  | appc (ty z by_ : Nat) (x y : O)

structure OpI where
  ins : Ins
  dst : Option Nat
  gd : Option (Nat × Bool)
  aft : List Nat

inductive Cd where
  | skip
  | reg (ops : List OpI) (draw : Bool)
  | seq (a b : Cd)
  | cond (c : O) (a b : Cd)
  | blk (id : Nat) (b : Cd)
  | loop (b : Cd)
  | exit (id : Nat)
  | ret

def intCmp (op : BinOp) (a b : Int) : Option Bool :=
  match op with
  | .eql => some (a == b)
  | .neq => some (a != b)
  | .lss => some (decide (a < b))
  | .leq => some (decide (a ≤ b))
  | .gtr => some (decide (a > b))
  | .geq => some (decide (a ≥ b))
  | _ => none

def wr (k : IntKind) (n : Int) : Int := k.wrap n

/-- Two operands that hold no reference. -/
def binT (op : BinOp) (x y : T) : Option T :=
  match x, y with
  | .int k a, .int k' b =>
    match decide (k = k') with
    | false => none
    | true =>
      match op with
      | .add => some (.int k (wr k (a + b)))
      | .sub => some (.int k (wr k (a - b)))
      | .mul => some (.int k (wr k (a * b)))
      | op => (intCmp op a b).map .bool
  | .str a, .str b =>
    match op with
    | .eql => some (.bool (a.toList == b.toList))
    | .neq => some (.bool (!(a.toList == b.toList)))
    | _ => none
  | _, _ => none

/-- Equality of two rows of cells of bools (0), ints (1) and texts (2). -/
def eqCells : List Nat → List T → List T → Option Bool
  | [], [], [] => some true
  | 0 :: q, .bool a :: r, .bool b :: s => (eqCells q r s).map ((a == b) && ·)
  | 1 :: q, .int k a :: r, .int k' b :: s => match decide (k = k') with | true => (eqCells q r s).map ((a == b) && ·) | false => none
  | 2 :: q, .str a :: r, .str b :: s => (eqCells q r s).map ((a.toList == b.toList) && ·)
  | _, _, _ => none

def cut {α : Type} (l : List α) (i n : Nat) : List α := (l.drop i).take n

/-- n cells from place j of an element on. -/
def part (agg : Bool) (n j : Nat) (e : List V) : Option V :=
  match agg with
  | true => match decide (j + n ≤ e.length) with | true => some (mkAgg (cut e j n)) | false => none
  | false => e[j]?

def partT (agg : Bool) (n j : Nat) (e : List T) : Option T :=
  match agg with
  | true => match decide (j + n ≤ e.length) with | true => some (.agg (cut e j n)) | false => none
  | false => e[j]?

def spl {α : Type} (e : List α) (j : Nat) (xs : List α) : List α := e.take j ++ xs ++ e.drop (j + xs.length)

/-- The whole number behind a value. -/
def V.num? : V → Option Int
  | .t (.int _ n) => some n
  | _ => none

def one : V → Bool
  | .agg _ | .tup _ | .und | .t (.agg _) | .t (.tup _) => false
  | _ => true

def fillT : List V → List (Nat × Nat × V) → Option (List V)
  | cs, [] => some cs
  | cs, (off, n, v) :: r => match decide (v.cells.length = n ∧ off + n ≤ cs.length) && v.cells.all one with
    | true => fillT (spl cs off v.cells) r
    | false => none

/-- What an instruction does to memory. -/
inductive Ef where
  | non
  | add (o : Ob)
  | set (m : Nat) (o : Ob)
  | mov (m : Nat) (o : Ob)
  | del (m : Nat)

abbrev Lk := Nat → Option Ob

/-- The closed elements behind a slice that is only read. -/
def rows (h : Lk) (z : Nat) : V → Option (List (List T))
  | .t .nils => some []
  | .t .emp => some []
  | .t (.lst z' es) => match Nat.beq z' z with | true => some es | false => none
  | .slc m z0 i len => match h m with
    | some (.row _ z' es) => (match Nat.beq z' z && Nat.beq z0 z with | true => (match decide (i + len ≤ es.length) with | true => some (cut es i len) | false => none) | false => none)
    | _ => none
  | _ => none

def evLd (h : Lk) (agg : Bool) (n : Nat) : V → Option V
  | .ptr m i j => match h m with
    | some (.box cs) => (match i with | 0 => part agg n j cs | _ => none)
    | some (.row _ _ es) => (match es[i]? with | some e => (partT agg n j e).map .t | none => none)
    | none => none
  | .t (.ref _ es i j) => (match es[i]? with | some e => (partT agg n j e).map .t | none => none)
  | _ => none

def evIa (z : Nat) (k : Int) : V → Option V
  | .slc m z' b len => match Nat.beq z' z with
    | true => if 0 ≤ k ∧ k < len then some (.ptr m (b + k.toNat) 0) else none
    | false => none
  | .t (.lst z' es) => match Nat.beq z' z with
    | true => if 0 ≤ k ∧ k < es.length then some (.t (.ref z' es k.toNat 0)) else none
    | false => none
  | _ => none

def evLen : V → Option T
  | .slc _ _ _ len => some (.int .i64 len)
  | .t (.lst _ es) => some (.int .i64 es.length)
  | .t .nils => some (.int .i64 0)
  | .t .emp => some (.int .i64 0)
  | _ => none

/-- Is it nil? Pointers (0), slices (1), functions (2). -/
def evNil : Nat → V → Option Bool
  | 0, .t .nilp => some true
  | 0, .ptr _ _ _ => some false
  | 0, .t (.ref _ _ _ _) => some false
  | 1, .t .nils => some true
  | 1, .t .emp => some false
  | 1, .t (.lst _ (_ :: _)) => some false
  | 1, .slc _ _ _ _ => some false
  | 2, .t .nilf => some true
  | 2, .t (.fn _ _) => some false
  | 2, .fnv _ _ => some false
  | _, _ => none

def evExt (i : Nat) : V → Option V
  | .t (.tup cs) => cs[i]?.map .t
  | .tup cs => cs[i]?
  | _ => none

def evFld (agg : Bool) (n off : Nat) : V → Option V
  | .t (.agg cs) => (partT agg n off cs).map .t
  | .agg cs => part agg n off cs
  | _ => none

def evNck : V → Option V
  | .ptr m i j => some (.ptr m i j)
  | .t (.ref z es i j) => some (.t (.ref z es i j))
  | .t (.fn f cs) => some (.t (.fn f cs))
  | .fnv f cs => some (.fnv f cs)
  | _ => none

def evSl (z : Nat) (l : Int) (h : Option Int) : V → Option V
  | .slc m z' b len => match Nat.beq z' z with
    | true => if 0 ≤ l ∧ l ≤ h.getD len ∧ h.getD len ≤ len then some (.slc m z' (b + l.toNat) ((h.getD len).toNat - l.toNat)) else none
    | false => none
  | .t (.lst z' es) => match Nat.beq z' z with
    | true => if 0 ≤ l ∧ l ≤ h.getD es.length ∧ h.getD es.length ≤ es.length then some (.t (.lst z' (cut es l.toNat ((h.getD es.length).toNat - l.toNat)))) else none
    | false => none
  | .t .nils => if l = 0 ∧ h.getD 0 = 0 then some (.t .nils) else none
  | _ => none

def evSls (l : Int) (h : Option Int) : V → Option V
  | .t (.str s) => if 0 ≤ l ∧ l ≤ h.getD s.size ∧ h.getD s.size ≤ s.size then some (.t (.str (s.extract l.toNat (h.getD s.size).toNat))) else none
  | _ => none

/-- A bound: none where there is none, or where it is no number. -/
def bound (tm : Tm) : Option O → Option (Option Int)
  | none => some none
  | some o => (opd tm o).num?.map some

def evBox (d : Nat) (agg : Bool) (n : Nat) : V → Option Ob
  | .t (.agg cs) => match agg && decide (cs.length = n) with | true => some (.box (cs.map .t)) | false => none
  | .agg cs => match agg && decide (cs.length = n) with | true => some (.box (V.woL d cs)) | false => none
  | v => match !agg && one v with | true => some (.box [v.wo d]) | false => none

def evApp (d ty z by_ : Nat) (h : Lk) (ys : List (List T)) : V → Option (V × Ef)
  | .t .nils => match ys with
    | [] => some (.t .nils, .non)
    | ys => if ys.length * by_ ≤ 140737488355328 then some (.slc d z 0 ys.length, .add (.row ty z ys)) else none
  | .slc m z0 0 len => match h m with
    | some (.row ty' z' es) => (match Nat.beq z' z && Nat.beq ty' ty && Nat.beq z0 z with
      | true => if len ≤ es.length ∧ (len + ys.length) * by_ ≤ 140737488355328 then some (.slc d z 0 (len + ys.length), .mov m (.row ty z (es.take len ++ ys))) else none
      | false => none)
    | _ => none
  | .t (.lst z' es) => match ys with | [] => some (.t (.lst z' es), .non) | _ => none
  | _ => none

/-- What an append gives, closed. -/
def evCls : Option (V × Ef) → Option (V × Ef)
  | some (.slc _ z _ _, .add (.row _ _ es)) => some (.t (.lst z es), .non)
  | some (.slc _ z _ _, .mov m (.row _ _ es)) => some (.t (.lst z es), .del m)
  | some (v, .non) => some (v, .non)
  | _ => none

def evSt (h : Lk) (n : Nat) (v : V) : V → Option Ef
  | .ptr m i j => match h m with
    | some (.box cs) => (match i with
      | 0 => (match decide (v.cells.length = n ∧ j + n ≤ cs.length) && v.cells.all one with
        | true => some (.set m (.box (spl cs j v.cells)))
        | false => none)
      | _ => none)
    | some (.row ty z es) => (match allT v.cells, es[i]? with
      | some ts, some e => (match decide (ts.length = n ∧ j + n ≤ e.length) && v.cells.all one with
        | true => some (.set m (.row ty z (es.set i (spl e j ts))))
        | false => none)
      | _, _ => none)
    | none => none
  | _ => none

def evClr (h : Lk) (z : Nat) (zero : List T) : V → Option Ef
  | .t .nils => some .non
  | .slc m z0 b len => match len with
    | 0 => some .non
    | len + 1 => match h m with
      | some (.row ty z' es) => (match Nat.beq z' z && Nat.beq z0 z && decide (b + (len + 1) ≤ es.length) with
        | true => some (.set m (.row ty z (es.take b ++ List.replicate (len + 1) zero ++ es.drop (b + (len + 1)))))
        | false => none)
      | _ => none
  | _ => none

def noTup : T → Bool
  | .tup _ => false
  | _ => true

def elem (t : T) : List T := match t with | .agg cs => cs | t => [t]

/-- Memory without some names; no memory. -/
def lessH (F : List Nat) (h : Lk) : Lk := fun m => match F.contains m with | true => none | false => h m
def noH : Lk := fun _ => none

/-- What an instruction gives: its value, and what becomes of memory. -/
def ev (i : Ins) (d : Nat) (tm : Tm) (h : Lk) : Option (V × Ef) :=
  match i with
  | .mv x => some (opd tm x, .non)
  | .pick c a b => match opd tm c with
    | .t (.bool t) => some ((match t with | true => opd tm a | false => opd tm b), .non)
    | _ => none
  | .fa off x => match opd tm x with
    | .ptr m i j => some (.ptr m i (j + off), .non)
    | .t (.ref z es i j) => some (.t (.ref z es i (j + off)), .non)
    | _ => none
  | .ld agg n x => (evLd h agg n (opd tm x)).map (·, .non)
  | .ia z x i => match (opd tm i).num? with
    | some k => (evIa z k (opd tm x)).map (·, .non)
    | none => none
  | .ixs x i => match opd tm x, (opd tm i).num? with
    | .t (.str s), some k => if 0 ≤ k then (match s[k.toNat]? with | some b => some (.t (.int .u8 b.toNat), .non) | none => none) else none
    | _, _ => none
  | .len x => (evLen (opd tm x)).map (.t ·, .non)
  | .lens x => match opd tm x with | .t (.str s) => some (.t (.int .i64 s.size), .non) | _ => none
  | .bin op x y => match opd tm x, opd tm y with
    | .t a, .t b => (binT op a b).map (.t ·, .non)
    | _, _ => none
  | .beq neg x y => match opd tm x, opd tm y with
    | .t (.bool a), .t (.bool b) => some (.t (.bool (if neg then !(a == b) else (a == b))), .non)
    | _, _ => none
  | .eqs neg ks x y => match opd tm x, opd tm y with
    | .t (.agg a), .t (.agg b) => (eqCells ks a b).map fun t => (.t (.bool (if neg then !t else t)), .non)
    | _, _ => none
  | .isnil neg k x => (evNil k (opd tm x)).map fun t => (.t (.bool (if neg then !t else t)), .non)
  | .not x => match opd tm x with | .t (.bool t) => some (.t (.bool (!t)), .non) | _ => none
  | .neg x => match opd tm x with | .t (.int k n) => some (.t (.int k (wr k (0 - n))), .non) | _ => none
  | .cvt k x => match opd tm x with | .t (.int _ n) => some (.t (.int k (wr k n)), .non) | _ => none
  | .ext i x => (evExt i (opd tm x)).map (·, .non)
  | .fld agg n off x => (evFld agg n off (opd tm x)).map (·, .non)
  | .bld zero parts => (fillT (zero.map .t) (parts.map fun p => (p.1, p.2.1, opd tm p.2.2))).map fun cs => (mkAgg cs, .non)
  | .mkf f caps => some (mkFn f (caps.map (opd tm)), .non)
  | .mn x y => match opd tm x, opd tm y with
    | .t (.int k a), .t (.int k' b) => (match decide (k = k') with | true => some (.t (.int k (if b < a then b else a)), .non) | false => none)
    | _, _ => none
  | .mx x y => match opd tm x, opd tm y with
    | .t (.int k a), .t (.int k' b) => (match decide (k = k') with | true => some (.t (.int k (if b > a then b else a)), .non) | false => none)
    | _, _ => none
  | .nck x => (evNck (opd tm x)).map (·, .non)
  | .sl z x lo hi => match bound tm lo, bound tm hi with
    | some l, some h => (evSl z (l.getD 0) h (opd tm x)).map (·, .non)
    | _, _ => none
  | .sls x lo hi => match bound tm lo, bound tm hi with
    | some l, some h => (evSls (l.getD 0) h (opd tm x)).map (·, .non)
    | _, _ => none
  | .new zero => some (.ptr d 0 0, .add (.box (zero.map .t)))
  | .box agg n x => (evBox d agg n (opd tm x)).map fun o => (.ptr d 0 0, .add o)
  | .bs ty z n parts =>
    match allT (parts.map (opd tm)) with
    | none => none
    | some ts =>
      match decide (ts.length = n) && (ts.map fun t => (elem t).length).all (Nat.beq z) && ts.all noTup with
      | false => none
      | true => some (.slc d z 0 n, .add (.row ty z (ts.map elem)))
  | .mk ty z by_ zero len cap =>
    match (opd tm len).num?, (opd tm cap).num? with
    | some l, some c => if l = c ∧ 0 ≤ l ∧ l * by_ ≤ 140737488355328 then some (.slc d z 0 l.toNat, .add (.row ty z (List.replicate l.toNat zero))) else none
    | _, _ => none
  | .app ty z by_ x y => match rows h z (opd tm y) with
    | none => none
    | some ys => evApp d ty z by_ h ys (opd tm x)
  | .st n x v => (evSt h n (opd tm v) (opd tm x)).map (.und, ·)
  | .ldf F agg n x => (evLd (lessH F h) agg n (opd tm x)).map (·, .non)
  | .ldc agg n x => (evLd noH agg n (opd tm x)).map (·, .non)
  | .clr z zero x => (evClr h z zero (opd tm x)).map (.t (.tup []), ·)
  | .call _ _ => none
  | .callv _ _ => none
  | .callw _ _ => none
  | .appc ty z by_ x y => match rows h z (opd tm y) with
    | none => none
    | some ys => evCls (evApp d ty z by_ h ys (opd tm x))

/-- Memory and slots behind an effect; a new name's place is cleared of what had it. -/
def Ef.tm (d : Nat) (tm : Tm) : Ef → Tm
  | .add _ | .mov _ _ => woTm d tm
  | _ => tm
def Ef.hp (d : Nat) (hp : Hp) : Ef → Hp
  | .non => hp
  | .add o => (d, o) :: woHp d hp
  | .set m o => (m, o) :: drop hp m
  | .mov m o => (d, o) :: woHp d (drop hp m)
  | .del m => drop hp m

def Ins.nodst : Ins → Bool
  | .st .. | .clr .. => true
  | _ => false

mutual
/-- A value as one without references, memory standing as it stands. -/
def clo : Nat → Lk → V → Option T
  | 0, _, _ => none
  | k + 1, h, v => match v with
    | .und => none
    | .t x => some x
    | .ptr m i j => match h m with
      | some (.box cs) => (match i with | 0 => (cloL k h cs).map fun ts => .ref ts.length [ts] 0 j | _ => none)
      | some (.row _ z es) => some (.ref z es i j)
      | none => none
    | .slc m z0 i len => match h m with
      | some (.row _ z es) => (match Nat.beq z0 z && decide (i + len ≤ es.length) with | true => some (.lst z (cut es i len)) | false => none)
      | _ => none
    | .fnv f cs => (cloL k h cs).map (.fn f ·)
    | .agg cs => (cloL k h cs).map .agg
    | .tup cs => (cloL k h cs).map .tup
def cloL : Nat → Lk → List V → Option (List T)
  | 0, _, _ => none
  | _ + 1, _, [] => some []
  | k + 1, h, v :: r => match clo k h v, cloL k h r with
    | some x, some xs => some (x :: xs)
    | _, _ => none
end

def flat1 : T → Bool
  | .bool _ | .int .. | .str _ | .nils | .nilp | .nilf => true
  | _ => false
def flat : T → Bool
  | .agg cs | .tup cs => cs.all flat1
  | .fn _ [] => true
  | t => flat1 t

inductive Ex where
  | nrm
  | exit (id : Nat)
  | ret

section
variable (C : Nat → List T → T → Prop)

def callW (f : Nat) (args : List V) (h : Lk) (K : T → Prop) : Prop :=
  match cloL 40 h args with
  | none => False
  | some ts => ∃ r, C f ts r ∧ (match allT args with | some _ => True | none => flat r = true) ∧ K r

/-- Whom a call calls, and with what. -/
def callee (tm : Tm) : Ins → Option (Nat × List V)
  | .call f args => some (f, args.map (opd tm))
  | .callv x args => match opd tm x with
    | .t (.fn f caps) => some (f, args.map (opd tm) ++ caps.map .t)
    | .fnv f caps => some (f, args.map (opd tm) ++ caps)
    | _ => none
  | .callw f args => some (f, args.map (opd tm))
  | _ => none

end

end Go.Eng
