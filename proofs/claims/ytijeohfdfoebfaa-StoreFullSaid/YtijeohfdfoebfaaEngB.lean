/-
An engine for proofs about Go functions, part B: the program's own code told as instructions of part A, and what a piece of code owes.
-/
import Derived.Test.YtijeohfdfoebfaaEngA
set_option linter.all false
namespace Go.Eng

def vT1 : Value → Option T
  | .bool b => some (.bool b)
  | .int k n => some (.int k n)
  | .string s => some (.str s)
  | .slice none 0 0 => some .nils
  | .pointer none => some .nilp
  | .nilFunc => some .nilf
  | _ => none

def vTs : List Value → Option (List T)
  | [] => some []
  | v :: r => match vT1 v, vTs r with | some x, some xs => some (x :: xs) | _, _ => none

def vT : Value → Option T
  | .agg cs => (vTs cs.toList).map .agg
  | v => vT1 v

def trO : Operand → Option O
  | .tmp t => some (.t t)
  | .const v => (vT v).map .c
  | .func f => some (.c (.fn f []))
  | .global _ => none

def trOs : List Operand → Option (List O)
  | [] => some []
  | x :: r => match trO x, trOs r with | some y, some ys => some (y :: ys) | _, _ => none

def aggT (P : Program) (t : TypeId) : Option Bool :=
  match P.underlying t with
  | some (.struct _) | some (.array _ _) => some true
  | some _ => some false
  | none => none

def sizeT (P : Program) (t : TypeId) : Option Nat := (P.info? t).map (·.size)
def bytesT (P : Program) (t : TypeId) : Option Nat := (P.info? t).map (·.bytes)
def zeroT (P : Program) (t : TypeId) : Option (List T) := ((P.info? t).bind (·.zero)).bind fun z => vTs z.cells.toList

def places (P : Program) (fs : Array Field) : Option (List (Nat × Nat)) := fs.toList.mapM (fun f => (P.info? f.type).map fun i => (f.offset, i.size))

def trParts (pl : List (Nat × Nat)) : List (Nat × Operand) → Option (List (Nat × Nat × O))
  | [] => some []
  | (i, x) :: r => match pl[i]?, trO x, trParts pl r with
    | some p, some y, some ys => some ((p.1, p.2, y) :: ys)
    | _, _, _ => none

def basic (P : Program) (t : TypeId) : Option Nat :=
  match P.underlying t with
  | some .bool => some 0
  | some (.int _) => some 1
  | some .string => some 2
  | _ => none

/-- The kinds of a struct's fields, from place i on: bools, ints and texts, one behind the other. -/
def kinds (P : Program) (i : Nat) : List Field → Option (List Nat)
  | [] => some []
  | f :: r => match basic P f.type, (f.offset == i && f.name != "_"), kinds P (i + 1) r with
    | some k, true, some ks => some (k :: ks)
    | _, _, _ => none

def trOp (P : Program) (o : Op) : Option Ins :=
  match o with
  | .move x | .assign x => (trO x).map .mv
  | .pick c a b => match trO c, trO a, trO b with | some c, some a, some b => some (.pick c a b) | _, _, _ => none
  | .alloc t => (zeroT P t).map .new
  | .box t x => match aggT P t, sizeT P t, trO x with | some g, some n, some x => some (.box g n x) | _, _, _ => none
  | .load t x => match aggT P t, sizeT P t, trO x with | some g, some n, some x => some (.ld g n x) | _, _, _ => none
  | .store t x v => match sizeT P t, trO x, trO v with | some n, some x, some v => some (.st n x v) | _, _, _ => none
  | .fieldAddr s x f => match P.underlying s with
    | some (.struct fs) => match fs[f]?, trO x with
      | some fl, some x => match sizeT P fl.type with
        | some (_ + 1) => some (.fa fl.offset x)
        | _ => none
      | _, _ => none
    | _ => none
  | .indexAddr t x i => match P.underlying t with
    | some (.slice e) => match sizeT P e, trO x, trO i with
      | some (z + 1), some x, some i => some (.ia (z + 1) x i)
      | _, _, _ => none
    | _ => none
  | .index t x i => match P.underlying t with
    | some .string => match trO x, trO i with | some x, some i => some (.ixs x i) | _, _ => none
    | _ => none
  | .binOp op t x y _ => match P.underlying t, trO x, trO y with
    | some (.int _), some x, some y | some .string, some x, some y => some (.bin op x y)
    | some .bool, some x, some y => match op with | .eql => some (.beq false x y) | .neq => some (.beq true x y) | _ => none
    | some (.struct fs), some x, some y => match kinds P 0 fs.toList with
      | some ks => match !P.stoodInHeld t && !P.eqGuardType P.depth t with
        | true => match op with | .eql => some (.eqs false ks x y) | .neq => some (.eqs true ks x y) | _ => none
        | false => none
      | none => none
    | some (.pointer _), some x, some (.c .nilp) => match op with | .eql => some (.isnil false 0 x) | .neq => some (.isnil true 0 x) | _ => none
    | some (.slice _), some x, some (.c .nils) => match op with | .eql => some (.isnil false 1 x) | .neq => some (.isnil true 1 x) | _ => none
    | some (.func _ _ _), some x, some (.c .nilf) => match op with | .eql => some (.isnil false 2 x) | .neq => some (.isnil true 2 x) | _ => none
    | _, _, _ => none
  | .unOp op _ x => match op, trO x with | .not, some x => some (.not x) | .neg, some x => some (.neg x) | _, _ => none
  | .convert s d x => match P.underlying s, P.underlying d, trO x with
    | some (.int _), some (.int k), some x => some (.cvt k x)
    | _, _, _ => none
  | .build t parts => match P.underlying t with
    | some (.struct fs) => match zeroT P t, (places P fs).bind (trParts · parts.toList) with | some z, some ps => some (.bld z ps) | _, _ => none
    | _ => none
  | .buildSlice t n parts => match P.underlying t with
    | some (.slice e) => match sizeT P e, trOs (parts.toList.map (·.2)) with
      | some (z + 1), some ps => match (parts.toList.map (·.1) == List.range n) && decide (n * (z + 1) ≤ 16777216) && (zeroT P e).isSome with
        | true => some (.bs e (z + 1) n ps)
        | false => none
      | _, _ => none
    | _ => none
  | .extract x i => (trO x).map (.ext i)
  | .field t x f => match P.underlying t with
    | some (.struct fs) => match fs[f]?, trO x with
      | some fl, some x => match aggT P fl.type, sizeT P fl.type with | some g, some n => some (.fld g n fl.offset x) | _, _ => none
      | _, _ => none
    | _ => none
  | .slice t x lo hi none =>
    match (match lo with | none => some none | some o => (trO o).map some), (match hi with | none => some none | some o => (trO o).map some), trO x with
    | some lo, some hi, some x => match P.underlying t with
      | some .string => some (.sls x lo hi)
      | some (.slice e) => match sizeT P e with | some (z + 1) => some (.sl (z + 1) x lo hi) | _ => none
      | _ => none
    | _, _, _ => none
  | .makeSlice t l c => match P.underlying t with
    | some (.slice e) => match sizeT P e, bytesT P e, zeroT P e, trO l, trO c with
      | some (z + 1), some (b + 1), some zs, some l, some c => match decide (zs.length = z + 1) with | true => some (.mk e (z + 1) (b + 1) zs l c) | false => none
      | _, _, _, _, _ => none
    | _ => none
  | .makeFunc g fs caps => match g, fs.toList with
    | .func f, [] => (trOs caps.toList).map (.mkf f)
    | _, _ => none
  | .nilCheck x => (trO x).map .nck
  | .call c => match c.callee with
   | .builtin b => match b, c.args.toList, c.argTypes.toList with
    | .len, [x], [t] => match P.underlying t with | some (.slice _) => (trO x).map .len | some .string => (trO x).map .lens | _ => none
    | .append, [x, y], [t, u] => match P.underlying t with
      | some (.slice e) => match sizeT P e, bytesT P e, zeroT P e, trO x, trO y with
        | some (z + 1), some (b + 1), some zs, some x, some y => match Nat.beq t u && decide (zs.length = z + 1) with | true => some (.app e (z + 1) (b + 1) x y) | false => none
        | _, _, _, _, _ => none
      | _ => none
    | .clear, [x], [t] => match P.underlying t with
      | some (.slice e) => match sizeT P e, zeroT P e, trO x with
        | some (z + 1), some zs, some x => match decide (zs.length = z + 1) with | true => some (.clr (z + 1) zs x) | false => none
        | _, _, _ => none
      | _ => none
    | .min, [x, y], _ => match trO x, trO y with | some x, some y => some (.mn x y) | _, _ => none
    | .max, [x, y], _ => match trO x, trO y with | some x, some y => some (.mx x y) | _, _ => none
    | _, _, _ => none
   | .value f => match trO f, trOs c.args.toList with
    | some (.c (.fn k [])), some as => some (.call k as)
    | some (.t i), some as => some (.callv (.t i) as)
    | _, _ => none
   | _ => none
  | _ => none

/-- It turns memory that is there. -/
def Ins.isW : Ins → Bool
  | .st .. | .app .. | .appc .. | .clr .. | .callw .. => true
  | _ => false
/-- It looks at memory that is there, and turns nothing. -/
def Ins.looks : Ins → Bool
  | .ld .. | .ldf .. | .call .. | .callv .. => true
  | _ => false

/-- Who must have been done before whom, as bits. -/
def ups : List OpI → List Nat → List Nat
  | [], acc => acc
  | o :: r, acc => ups r (acc ++ [o.aft.foldl (fun s q => s ||| 2 ^ q ||| acc.getD q 0) 0])

def Ins.makes : Ins → Bool
  | .new _ | .box .. | .bs .. | .mk .. | .app .. | .appc .. | .call .. | .callv .. | .callw .. => true
  | _ => false

/-- i before j. -/
def befor (u : List Nat) (j i : Nat) : Bool := (u.getD j 0).testBit i

/-- A new object stands in slot k ahead of j. -/
def newAt (ops : List OpI) (k j : Nat) : Bool := (ops.take j).any fun o => match o.ins, o.dst with | .new _, some d => Nat.beq d k | .bs .., some d => Nat.beq d k | _, _ => false

/-- The names that a write may touch, where the text tells. -/
def tch (ops : List OpI) (o : OpI) (j : Nat) : Option (List Nat) := match o.ins, o.dst with
  | .st _ (.t k) _, _ => (match newAt ops k j with | true => some [k] | false => none)
  | .app _ _ _ (.t k) _, some d => (match newAt ops k j with | true => some [k, d] | false => none)
  | .appc _ _ _ (.t k) _, some d => (match newAt ops k j with | true => some [k, d] | false => none)
  | .app _ _ _ (.c _) _, some d => some [d]
  | _, _ => none

/-- As tch; of an append ahead of a load in the text: what it takes away can't be there any more, so its new name alone counts. -/
def tch2 (ops : List OpI) (o : OpI) (j i : Nat) : Option (List Nat) := match tch ops o j with
  | some L => some L
  | none => match Nat.blt j i, o.ins, o.dst with
    | true, .app .., some d => some [d]
    | _, _, _ => none

/-- A slot's value goes into what is built here. -/
def partOf (ops : List OpI) (d : Nat) : Bool := ops.any fun o => match o.ins with
  | .bld _ ps => ps.any fun p => match p.2.2 with | .t k => Nat.beq k d | .c _ => false
  | _ => false

def tchs (ops : List OpI) (i : Nat) : List (OpI × Nat) → Option (List Nat)
  | [] => some []
  | (o, j) :: r => match tch2 ops o j i, tchs ops i r with
    | some L, some F => some (L ++ F)
    | _, _ => none

/-- A load that is not ahead of all writes: it must look at none of the objects that those write, where the text tells them, or at nothing that is written. -/
def loose2 (u : List Nat) (ops : List OpI) (o : OpI) (i : Nat) : Ins := match o.ins with
  | .ld agg n x => (match ops.zipIdx.filter fun (o', j) => o'.ins.isW && !Nat.beq i j && !befor u j i with
    | [] => o.ins
    | bad => match tchs ops i bad with
      | some F => .ldf F agg n x
      | none => .ldc agg n x)
  | .app ty z b x y => (match o.dst with
    | some d => (match x, partOf ops d with
      | .t k, true => (match newAt ops k i with | true => .appc ty z b x y | false => o.ins)
      | _, _ => o.ins)
    | none => o.ins)
  | .call f as => (match o.dst.isSome && ops.zipIdx.all fun (o', j) => Nat.beq i j || ((!o'.ins.looks || befor u i j) && (!o'.ins.isW || befor u i j || befor u j i)) with
    | true => .callw f as
    | false => o.ins)
  | _ => o.ins

def loosen (ops : List OpI) : List OpI :=
  let u := ups ops []
  ops.zipIdx.map fun (o, i) => { o with ins := loose2 u ops o i }

def trOper (P : Program) (ops : Array Oper) (draw : Bool) (o : Oper) : Option OpI :=
  match trOp P o.op with
  | none => none
  | some i =>
    match o.guard with
    | none => some ⟨i, o.dst, none, match draw with | true => (o.after.toList.filter (Region.binds .any)).map (·.on) | false => []⟩
    | some (j, w) => match (ops[j]?).bind (·.dst) with
      | some g => some ⟨i, o.dst, some (g, w), match draw with | true => (o.after.toList.filter (Region.binds .any)).map (·.on) | false => []⟩
      | none => none

def trOpers (P : Program) (ops : Array Oper) (draw : Bool) : List Oper → Option (List OpI)
  | [] => some []
  | o :: r => match trOper P ops draw o, trOpers P ops draw r with | some x, some xs => some (x :: xs) | _, _ => none

def tr (P : Program) : Code → Option Cd
  | .skip => some .skip
  | .region _ ops d => (trOpers P ops d ops.toList).map fun l => .reg (match d with | true => loosen l | false => l) d
  | .seq a b => match tr P a, tr P b with | some x, some y => some (.seq x y) | _, _ => none
  | .cond c a b => match trO c, tr P a, tr P b with | some c, some x, some y => some (.cond c x y) | _, _, _ => none
  | .block id b => (tr P b).map (.blk id)
  | .loop b => (tr P b).map .loop
  | .exit id => some (.exit id)
  | .ret => some .ret
  | _ => none

def o1 (d : Nat) (i : Ins) : OpI := ⟨i, some d, none, []⟩
def o0 (i : Ins) : OpI := ⟨i, none, none, []⟩
def og (d : Nat) (g : Nat) (w : Bool) (i : Ins) : OpI := ⟨i, some d, some (g, w), []⟩
def oa (d : Nat) (a : List Nat) (i : Ins) : OpI := ⟨i, some d, none, a⟩
def ob (a : List Nat) (i : Ins) : OpI := ⟨i, none, none, a⟩
def oga (d : Nat) (g : Nat) (w : Bool) (a : List Nat) (i : Ins) : OpI := ⟨i, some d, some (g, w), a⟩
def cI (n : Int) : O := .c (.int .i64 n)

/- From a state to one that says less: slots and objects left out, names told anew (p: the elder name). -/
mutual
def V.ren (p : Nat → Nat) : V → V
  | .und => .und
  | .t x => .t x
  | .ptr m i j => .ptr (p m) i j
  | .slc m z i l => .slc (p m) z i l
  | .fnv f cs => .fnv f (V.renL p cs)
  | .agg cs => .agg (V.renL p cs)
  | .tup cs => .tup (V.renL p cs)
def V.renL (p : Nat → Nat) : List V → List V
  | [] => []
  | v :: r => V.ren p v :: V.renL p r
end

inductive leT : T → T → Prop where
  | refl (x : T) : leT x x
  | nil (z : Nat) : leT .nils (.lst z [])
  | agg (cs ds : List T) (hl : cs.length = ds.length) (h : ∀ (i : Nat) (x y : T), cs[i]? = some x → ds[i]? = some y → leT x y) : leT (.agg cs) (.agg ds)
  | tup (cs ds : List T) (hl : cs.length = ds.length) (h : ∀ (i : Nat) (x y : T), cs[i]? = some x → ds[i]? = some y → leT x y) : leT (.tup cs) (.tup ds)
  | lst (z : Nat) (es fs : List (List T)) (hl : es.length = fs.length) (hz : ∀ (i : Nat) (e f : List T), es[i]? = some e → fs[i]? = some f → e.length = f.length)
      (h : ∀ (i j : Nat) (e f : List T) (x y : T), es[i]? = some e → fs[i]? = some f → e[j]? = some x → f[j]? = some y → leT x y) : leT (.lst z es) (.lst z fs)

inductive leV : V → V → Prop where
  | refl (v : V) : leV v v
  | und (v : V) : leV v .und
  | t (x y : T) (h : leT x y) : leV (.t x) (.t y)

inductive leO : Ob → Ob → Prop where
  | refl (o : Ob) : leO o o
  | box (cs ds : List V) (hl : cs.length = ds.length) (h : ∀ (i : Nat) (v u : V), cs[i]? = some v → ds[i]? = some u → leV v u) : leO (.box cs) (.box ds)
  | row (ty z : Nat) (es fs : List (List T)) (hl : es.length = fs.length) (hz : ∀ (i : Nat) (e f : List T), es[i]? = some e → fs[i]? = some f → e.length = f.length)
      (h : ∀ (i j : Nat) (e f : List T) (x y : T), es[i]? = some e → fs[i]? = some f → e[j]? = some x → f[j]? = some y → leT x y) : leO (.row ty z es) (.row ty z fs)

def Ob.ren (p : Nat → Nat) : Ob → Ob
  | .box cs => .box (V.renL p cs)
  | .row ty z es => .row ty z es

/-- Names from here on are not a function's own: they name what it was given. -/
def far : Nat := 1000

/-- The objects that a weaker state no longer names. -/
def left (p : Nat → Nat) (s s' : St) : Lk := fun n => match (s'.hp.map fun x => p x.1).contains n with | true => none | false => look s.hp n

/-- A value says less: as it is, or closed over what is no longer named. -/
def leC (p : Nat → Nat) (h : Lk) (v v' : V) : Prop := leV v (v'.ren p) ∨ ∃ x y, v' = .t y ∧ clo 40 h v = some x ∧ leT x y

def leCs (p : Nat → Nat) (h : Lk) : List V → List V → Prop
  | [], [] => True
  | v :: r, u :: s => leC p h v u ∧ leCs p h r s
  | _, _ => False

/-- An object says less: a box, cell by cell. -/
def leOC (p : Nat → Nat) (h : Lk) : Ob → Ob → Prop
  | .box cs, .box ds => leCs p h cs ds
  | o, o' => leO o (o'.ren p)

def leS (p : Nat → Nat) (s s' : St) : Prop :=
  (∀ x ∈ s'.tm, leC p (left p s s') (get s.tm x.1) x.2) ∧ (∀ x ∈ s'.hp, ∃ o, look s.hp (p x.1) = some o ∧ leOC p (left p s s') o x.2) ∧ (s'.hp.map fun x => p x.1).Nodup ∧ ∀ n, far ≤ n → p n = n

/-- What the contracts of a program's functions say: of closed values (pu), and of memory that is handed over (ef: what it gets, with the memory, and what it gives, with the memory then). -/
structure Ctr where
  pu : Nat → List T → T → Prop
  ef : Nat → List V → Hp → V → Hp → Prop

def clean (ns : List Nat) (st : St) : St := ns.foldl (fun s n => ⟨woTm n s.tm, woHp n s.hp⟩) st

def renHp (q : Nat → Nat) (h : Hp) : Hp := h.map fun x => (q x.1, x.2.ren q)
def dropL : List Nat → Hp → Hp
  | [], h => h
  | n :: r, h => dropL r (drop h n)

/-- A call that is handed memory: p leads to a weaker state, ns are the names of what comes new, q tells the contract's names for what was given. -/
def effW (E : Nat → List V → Hp → V → Hp → Prop) (o : OpI) (st : St) (K : St → Prop) : Prop :=
  ∃ (p : Nat → Nat) (st1 : St) (ns : List Nat) (q : Nat → Nat) (f : Nat) (args args0 : List V) (hp0 : Hp) (r : V) (hp1 : Hp),
    (st1 = st ∨ leS p st st1) ∧ (∀ n ∈ ns, n < far) ∧ callee (clean ns st1).tm o.ins = some (f, args) ∧ E f args0 hp0 r hp1 ∧
    args.length = args0.length ∧ (∀ (i : Nat) (x y : V), args[i]? = some x → args0[i]? = some y → leV x (y.ren q)) ∧
    (∀ x ∈ hp0, ∃ c, look (clean ns st1).hp (q x.1) = some c ∧ leO c (x.2.ren q)) ∧ (hp0.map fun x => q x.1).Nodup ∧
    (hp1.map fun x => q x.1).Nodup ∧ (∀ x ∈ hp1, x.1 < far → x.1 ∈ ns) ∧ (∀ n, n < far → q n = n) ∧
    K ⟨put (clean ns st1).tm o.dst (r.ren q), renHp q hp1 ++ dropL (hp0.map fun x => q x.1) (clean ns st1).hp⟩

section
variable (C : Ctr)

def stepW (o : OpI) (st : St) (K : St → Prop) : Prop :=
  match callee st.tm o.ins with
  | some (f, args) => callW C.pu f args (look st.hp) (fun r => K ⟨put st.tm o.dst (.t r), st.hp⟩) ∨ effW C.ef o st K
  | none => match o.dst with
    | some d => match ev o.ins d st.tm (look st.hp) with
      | some (v, e) => K ⟨put (e.tm d st.tm) o.dst v, e.hp d st.hp⟩
      | none => match o.ins with
        | .bs _ _ _ parts => allT (parts.map (opd st.tm)) = none ∧ ∃ p st1 v e, leS p st st1 ∧ ev o.ins d st1.tm (look st1.hp) = some (v, e) ∧ K ⟨put (e.tm d st1.tm) o.dst v, e.hp d st1.hp⟩
        | _ => False
    | none => match o.ins.nodst with
      | false => False
      | true => match ev o.ins 0 st.tm (look st.hp) with
        | some (_, e) => K ⟨st.tm, e.hp 0 st.hp⟩
        | none => False

def gdW (o : OpI) (st : St) (K : St → Prop) : Prop :=
  match o.gd with
  | none => stepW C o st K
  | some (g, want) => match get st.tm g with
    | .t (.bool b) => (match b == want with
      | true => stepW C o st K
      | false => K ⟨put st.tm o.dst (.t (.tup [])), st.hp⟩)
    | .t (.tup []) => K ⟨put st.tm o.dst (.t (.tup [])), st.hp⟩
    | _ => False

def opsW : List OpI → St → (St → Prop) → Prop
  | [], st, Q => Q st
  | o :: r, st, Q => gdW C o st fun st' => opsW r st' Q
end

def seqW (K : St → Prop) (Q : Ex → St → Prop) : Ex → St → Prop
  | .nrm, s => K s
  | e, s => Q e s

def blkW (id : Nat) (Q : Ex → St → Prop) : Ex → St → Prop
  | .exit i, s => match Nat.beq i id with | true => Q .nrm s | false => Q (.exit i) s
  | e, s => Q e s

/-- A loop: a family of states that falls. -/
def loopW (B : St → (Ex → St → Prop) → Prop) (st : St) (Q : Ex → St → Prop) : Prop :=
  ∃ Inv : Nat → St → Prop, (∃ p m s, leS p st s ∧ Inv m s) ∧
    ∀ m s, Inv m s → B s (seqW (fun s' => ∃ p m' s'', m' < m ∧ leS p s' s'' ∧ Inv m' s'') Q)

section
variable (C : Ctr) (D : List OpI → St → (St → Prop) → Prop)

def W : Cd → St → (Ex → St → Prop) → Prop
  | .skip, st, Q => Q .nrm st
  | .reg ops false, st, Q => opsW C ops st (Q .nrm)
  | .reg ops true, st, Q => D ops st (Q .nrm)
  | .seq a b, st, Q => W a st (seqW (fun s => W b s Q) Q)
  | .cond c a b, st, Q => match opd st.tm c with
    | .t (.bool t) => (match t with | true => W a st Q | false => W b st Q)
    | _ => False
  | .blk id b, st, Q => W b st (blkW id Q)
  | .loop b, st, Q => loopW (fun s K => W b s K) st Q
  | .exit id, st, Q => Q (.exit id) st
  | .ret, st, Q => Q .ret st
end

/-- Where a result stands. -/
inductive RV where
  | tmp (t : Nat)
  | cell (t : Nat) (agg : Bool) (n : Nat)

def trRes (P : Program) : List ResultVar → Option (List RV)
  | [] => some []
  | .tmp t :: r => (trRes P r).map (.tmp t :: ·)
  | .cell a t :: r => match aggT P t, sizeT P t, trRes P r with
    | some g, some n, some rs => some (.cell a g n :: rs)
    | _, _, _ => none

def rvV (st : St) : RV → Option V
  | .tmp t => some (get st.tm t)
  | .cell a g n => evLd (look st.hp) g n (get st.tm a)

def rvVs (st : St) : List RV → Option (List V)
  | [] => some []
  | r :: rs => match rvV st r, rvVs st rs with | some v, some vs => some (v :: vs) | _, _ => none

def retV (rs : List RV) (st : St) : Option V :=
  match rvVs st rs with
  | some [v] => some v
  | some vs => some (.tup vs)
  | none => none

/-- The slots of parameters. -/
def par : Nat → List T → Tm
  | _, [] => []
  | k, x :: r => (k, .t x) :: par (k + 1) r

/-- What a function's end owes: its result, as a closed value. -/
def Ret (rs : List RV) (r : T) (ex : Ex) (st : St) : Prop :=
  (match ex with | .exit _ => False | _ => True) ∧ ∃ v x, retV rs st = some v ∧ clo 40 (look st.hp) v = some x ∧ leT x r

mutual
/-- Are all names such? -/
def V.all (ok : Nat → Bool) : V → Bool
  | .ptr m _ _ => ok m
  | .slc m _ _ _ => ok m
  | .fnv _ cs => V.allL ok cs
  | .agg cs => V.allL ok cs
  | .tup cs => V.allL ok cs
  | _ => true
def V.allL (ok : Nat → Bool) : List V → Bool
  | [] => true
  | v :: r => V.all ok v && V.allL ok r
end
def Ob.all (ok : Nat → Bool) : Ob → Bool
  | .box cs => V.allL ok cs
  | _ => true

def parV : Nat → List V → Tm
  | _, [] => []
  | k, x :: r => (k, x) :: parV (k + 1) r

def okN (hp : Hp) (n : Nat) : Bool := Nat.ble far n || hp.any fun x => Nat.beq x.1 n

/-- What a function's end owes: its result, and memory. -/
def RetE (rs : List RV) (r : V) (hp : Hp) (ex : Ex) (st : St) : Prop :=
  (match ex with | .exit _ => False | _ => True) ∧ ∃ v p, retV rs st = some v ∧ leS p ⟨[(0, v)], st.hp⟩ ⟨[(0, r)], hp⟩ ∧ r.all (okN hp) = true ∧ ∀ x ∈ hp, x.2.all (okN hp) = true

end Go.Eng
