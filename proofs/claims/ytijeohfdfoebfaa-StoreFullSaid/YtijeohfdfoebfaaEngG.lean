/-
An engine for proofs about Go functions, part G: regions that draw their order.
-/
import Derived.Test.YtijeohfdfoebfaaEngF
set_option linter.all false
namespace Go.Eng
open Go.RowKit
set_option linter.unusedSimpArgs false

def O.slots : O → List Nat
  | .t i => [i]
  | .c _ => []
def slotsL : List O → List Nat
  | [] => []
  | x :: r => x.slots ++ slotsL r
def slotsP : List (Nat × Nat × O) → List Nat
  | [] => []
  | x :: r => x.2.2.slots ++ slotsP r
def slotsB : Option O → List Nat
  | none => []
  | some x => x.slots

def Ins.slots : Ins → List Nat
  | .mv x | .box _ _ x | .ld _ _ x | .ldf _ _ _ x | .ldc _ _ x | .fa _ x | .len x | .lens x | .isnil _ _ x | .not x | .neg x | .cvt _ x | .ext _ x | .fld _ _ _ x | .nck x | .clr _ _ x => x.slots
  | .new _ => []
  | .pick c a b => c.slots ++ a.slots ++ b.slots
  | .st _ x v => x.slots ++ v.slots
  | .ia _ x i => x.slots ++ i.slots
  | .ixs x i | .bin _ x i | .beq _ x i | .eqs _ _ x i | .app _ _ _ x i | .appc _ _ _ x i | .mn x i | .mx x i => x.slots ++ i.slots
  | .mk _ _ _ _ x i => x.slots ++ i.slots
  | .bs _ _ _ ps => slotsL ps
  | .bld _ ps => slotsP ps
  | .sl _ x lo hi | .sls x lo hi => x.slots ++ slotsB lo ++ slotsB hi
  | .mkf _ cs => slotsL cs
  | .call _ as | .callw _ as => slotsL as
  | .callv f as => f.slots ++ slotsL as

def gSlots : Option (Nat × Bool) → List Nat
  | some (g, _) => [g]
  | none => []
def OpI.looksAt (o : OpI) : List Nat := o.ins.slots ++ gSlots o.gd

section
variable {tm tm' : Tm} {h h' : Lk}

theorem opd_congr {x : O} (hs : ∀ t ∈ x.slots, get tm t = get tm' t) : opd tm x = opd tm' x := by
  cases x with
  | t i => exact hs i (by simp [O.slots])
  | c x => rfl

theorem opdL_congr : ∀ {xs : List O}, (∀ t ∈ slotsL xs, get tm t = get tm' t) → xs.map (opd tm) = xs.map (opd tm')
  | [], _ => rfl
  | x :: r, hs => by
    simp only [slotsL, List.mem_append] at hs
    rw [List.map_cons, List.map_cons, opd_congr (fun t ht => hs t (.inl ht)), opdL_congr (xs := r) (fun t ht => hs t (.inr ht))]

theorem opdP_congr : ∀ {xs : List (Nat × Nat × O)}, (∀ t ∈ slotsP xs, get tm t = get tm' t) → xs.map (fun p => (p.1, p.2.1, opd tm p.2.2)) = xs.map (fun p => (p.1, p.2.1, opd tm' p.2.2))
  | [], _ => rfl
  | x :: r, hs => by
    simp only [slotsP, List.mem_append] at hs
    rw [List.map_cons, List.map_cons, opd_congr (fun t ht => hs t (.inl ht)), opdP_congr (xs := r) (fun t ht => hs t (.inr ht))]

theorem bound_congr {x : Option O} (hs : ∀ t ∈ slotsB x, get tm t = get tm' t) : bound tm x = bound tm' x := by
  cases x with
  | none => rfl
  | some y => simp only [bound]; rw [opd_congr hs]

theorem ev_congr {i : Ins} {d : Nat} (hs : ∀ t ∈ i.slots, get tm t = get tm' t) : ev i d tm h = ev i d tm' h := by
  cases i <;> simp only [Ins.slots, List.mem_append] at hs <;> simp only [ev]
  case mv x => rw [opd_congr hs]
  case pick c a b => rw [opd_congr (x := c) (fun t ht => hs t (.inl (.inl ht))), opd_congr (x := a) (fun t ht => hs t (.inl (.inr ht))), opd_congr (x := b) (fun t ht => hs t (.inr ht))]
  case bs => rw [opdL_congr hs]
  case bld => rw [opdP_congr hs]
  case mkf => rw [opdL_congr hs]
  case sl x lo hi => rw [opd_congr (x := x) (fun t ht => hs t (.inl (.inl ht))), bound_congr (x := lo) (fun t ht => hs t (.inl (.inr ht))), bound_congr (x := hi) (fun t ht => hs t (.inr ht))]
  case sls x lo hi => rw [opd_congr (x := x) (fun t ht => hs t (.inl (.inl ht))), bound_congr (x := lo) (fun t ht => hs t (.inl (.inr ht))), bound_congr (x := hi) (fun t ht => hs t (.inr ht))]
  all_goals first
    | rfl
    | rw [opd_congr hs]
    | rw [opd_congr (fun t ht => hs t (.inl ht)), opd_congr (fun t ht => hs t (.inr ht))]

theorem callee_congr {i : Ins} (hs : ∀ t ∈ i.slots, get tm t = get tm' t) : callee tm i = callee tm' i := by
  cases i <;> simp only [Ins.slots, List.mem_append] at hs <;> simp only [callee]
  case call f as => rw [opdL_congr hs]
  case callw f as => rw [opdL_congr hs]
  case callv f as => rw [opd_congr (x := f) (fun t ht => hs t (.inl ht)), opdL_congr (xs := as) (fun t ht => hs t (.inr ht))]

/-- What is there is there, too. -/
def Sub (h h' : Lk) : Prop := ∀ m o, h m = some o → h' m = some o

theorem rows_sub (hh : Sub h h') {z : Nat} {v : V} {ys : List (List T)} (he : rows h z v = some ys) : rows h' z v = some ys := by
  cases v with
  | slc m z0 i len =>
    simp only [rows] at he ⊢
    cases hm : h m with
    | none => simp [hm] at he
    | some o => rw [hm] at he; rw [hh m o hm]; exact he
  | t x => cases x <;> exact he
  | _ => exact he

theorem lessH_sub (F : List Nat) (hh : ∀ m o, F.contains m = false → h m = some o → h' m = some o) : Sub (lessH F h) (lessH F h') := by
  intro m o hm
  unfold lessH at hm ⊢
  cases hc : F.contains m with
  | true => rw [hc] at hm; cases hm
  | false => rw [hc] at hm; exact hh m o hc hm

theorem evLd_sub (hh : Sub h h') {g : Bool} {n : Nat} {y v : V} (hv : evLd h g n y = some v) : evLd h' g n y = some v := by
  cases y with
  | ptr m i j =>
    simp only [evLd] at hv ⊢
    cases hm : h m with
    | none => simp [hm] at hv
    | some o => rw [hm] at hv; rw [hh m o hm]; exact hv
  | t q => cases q <;> exact hv
  | _ => exact hv

theorem evApp_sub (hh : Sub h h') {d ty z b : Nat} {ys : List (List T)} {y : V} {r : V × Ef} (he : evApp d ty z b h ys y = some r) : evApp d ty z b h' ys y = some r := by
  cases y with
  | slc m z0 i len =>
    cases i with
    | succ i => simp [evApp] at he
    | zero =>
      simp only [evApp] at he ⊢
      cases hm : h m with
      | none => simp [hm] at he
      | some o => rw [hm] at he; rw [hh m o hm]; exact he
  | t q => cases q <;> exact he
  | _ => exact he

theorem ev_sub (hh : Sub h h') {i : Ins} {d : Nat} {x : V × Ef} (he : ev i d tm h = some x) : ev i d tm h' = some x := by
  cases i
  case ld g n y =>
    simp only [ev, Option.map_eq_some_iff] at he ⊢
    obtain ⟨v, hv, rfl⟩ := he
    refine ⟨v, ?_, rfl⟩
    cases hX : opd tm y with
    | ptr m i j =>
      rw [hX] at hv
      simp only [evLd] at hv ⊢
      cases hm : h m with
      | none => simp [hm] at hv
      | some o => rw [hm] at hv; rw [hh m o hm]; exact hv
    | t q => rw [hX] at hv; cases q <;> exact hv
    | _ => rw [hX] at hv; exact hv
  case ldf F g n y =>
    simp only [ev, Option.map_eq_some_iff] at he ⊢
    obtain ⟨v, hv, rfl⟩ := he
    exact ⟨v, evLd_sub (lessH_sub F fun m o _ hm => hh m o hm) hv, rfl⟩
  case st n y v =>
    simp only [ev, Option.map_eq_some_iff] at he ⊢
    obtain ⟨e, hv, rfl⟩ := he
    refine ⟨e, ?_, rfl⟩
    cases hX : opd tm y with
    | ptr m i j =>
      rw [hX] at hv
      simp only [evSt] at hv ⊢
      cases hm : h m with
      | none => simp [hm] at hv
      | some o => rw [hm] at hv; rw [hh m o hm]; exact hv
    | _ => rw [hX] at hv; exact hv
  case clr z zs y =>
    simp only [ev, Option.map_eq_some_iff] at he ⊢
    obtain ⟨e, hv, rfl⟩ := he
    refine ⟨e, ?_, rfl⟩
    cases hX : opd tm y with
    | slc m z0 b len =>
      rw [hX] at hv
      cases len with
      | zero => exact hv
      | succ len =>
        simp only [evClr] at hv ⊢
        cases hm : h m with
        | none => simp [hm] at hv
        | some o => rw [hm] at hv; rw [hh m o hm]; exact hv
    | t q => rw [hX] at hv; cases q <;> exact hv
    | _ => rw [hX] at hv; exact hv
  case app ty z b y v =>
    simp only [ev] at he ⊢
    cases hr : rows h z (opd tm v) with
    | none => simp [hr] at he
    | some ys =>
      rw [hr] at he
      rw [rows_sub hh hr]
      simp only at he ⊢
      cases hX : opd tm y with
      | slc m z0 i len =>
        rw [hX] at he
        cases i with
        | succ i => simp [evApp] at he
        | zero =>
          simp only [evApp] at he ⊢
          cases hm : h m with
          | none => simp [hm] at he
          | some o => rw [hm] at he; rw [hh m o hm]; exact he
      | t q => rw [hX] at he; cases q <;> exact he
      | _ => rw [hX] at he; exact he
  case appc ty z b y v =>
    simp only [ev] at he ⊢
    cases hr : rows h z (opd tm v) with
    | none => simp [hr] at he
    | some ys =>
      rw [hr] at he
      rw [rows_sub hh hr]
      simp only at he ⊢
      cases hX : evApp d ty z b h ys (opd tm y) with
      | none => rw [hX] at he; cases he
      | some r0 => rw [evApp_sub hh hX]; rw [hX] at he; exact he
  all_goals exact he

theorem ev_free {i : Ins} {d : Nat} (hw : i.isW = false) (hl : i.looks = false) : ev i d tm h = ev i d tm h' := by
  cases i <;> first | rfl | (simp [Ins.isW] at hw; done) | (simp [Ins.looks] at hl; done)

theorem clo_sub (hh : Sub h h') : ∀ k, (∀ v x, clo k h v = some x → clo k h' v = some x) ∧ (∀ vs xs, cloL k h vs = some xs → cloL k h' vs = some xs) := by
  intro k
  induction k with
  | zero => exact ⟨fun v x hc => by simp [clo] at hc, fun vs xs hc => by cases vs <;> simp [cloL] at hc⟩
  | succ k ih =>
    obtain ⟨ih1, ih2⟩ := ih
    refine ⟨fun v x hc => ?_, fun vs xs hc => ?_⟩
    · cases v with
      | ptr m i j =>
        simp only [clo] at hc ⊢
        cases hm : h m with
        | none => simp [hm] at hc
        | some o =>
          rw [hm] at hc; rw [hh m o hm]
          cases o with
          | box cs =>
            cases i with
            | zero =>
              simp only [Option.map_eq_some_iff] at hc ⊢
              obtain ⟨ts, h1, h2⟩ := hc
              exact ⟨ts, ih2 _ _ h1, h2⟩
            | succ i => simp at hc
          | row ty z es => exact hc
      | slc m z0 i len =>
        simp only [clo] at hc ⊢
        cases hm : h m with
        | none => simp [hm] at hc
        | some o => rw [hm] at hc; rw [hh m o hm]; exact hc
      | fnv f cs =>
        simp only [clo, Option.map_eq_some_iff] at hc ⊢
        obtain ⟨ts, h1, h2⟩ := hc
        exact ⟨ts, ih2 _ _ h1, h2⟩
      | agg cs =>
        simp only [clo, Option.map_eq_some_iff] at hc ⊢
        obtain ⟨ts, h1, h2⟩ := hc
        exact ⟨ts, ih2 _ _ h1, h2⟩
      | tup cs =>
        simp only [clo, Option.map_eq_some_iff] at hc ⊢
        obtain ⟨ts, h1, h2⟩ := hc
        exact ⟨ts, ih2 _ _ h1, h2⟩
      | _ => exact hc
    · cases vs with
      | nil => exact hc
      | cons v r =>
        simp only [cloL] at hc ⊢
        split at hc
        · rename_i x xs h1 h2
          rw [ih1 v x h1, ih2 r xs h2]; exact hc
        · cases hc

end

/-- An effect, where the new name stands nowhere yet. -/
def Ef.ap (d : Nat) (h : Lk) : Ef → Lk
  | .non => h
  | .add o => fun n => if n = d then some o else h n
  | .set m o => fun n => if n = m then some o else h n
  | .mov m o => fun n => if n = d then some o else if n = m then none else h n
  | .del m => fun n => if n = m then none else h n

def Ef.hp' (d : Nat) (hp : Hp) : Ef → Hp
  | .non => hp
  | .add o => (d, o) :: hp
  | .set m o => (m, o) :: drop hp m
  | .mov m o => (d, o) :: drop hp m
  | .del m => drop hp m

theorem Ef.look_hp' (d : Nat) (hp : Hp) (e : Ef) : look (e.hp' d hp) = e.ap d (look hp) := by
  funext n
  cases e with
  | non => rfl
  | add o => simp only [Ef.hp', Ef.ap, look_cons]
  | set m o => simp only [Ef.hp', Ef.ap, look_cons, look_drop]; by_cases e1 : n = m <;> simp [e1]
  | mov m o => simp only [Ef.hp', Ef.ap, look_cons, look_drop]
  | del m => simp only [Ef.hp', Ef.ap, look_drop]

def Ef.fresh (dst : Option Nat) (hp : Hp) : Ef → Bool
  | .add _ | .mov _ _ => (match dst with | some d => (look hp d).isNone | none => false)
  | _ => true

section
variable (C : Ctr)

/-- A callee's name for the one object that it is handed. -/
def qf (m : Nat) : Nat → Nat := fun n => match Nat.beq n far with | true => m | false => n

def nmFar : List V → Bool
  | [] => false
  | .slc n _ _ _ :: r => Nat.beq n far || nmFar r
  | .ptr n _ _ :: r => Nat.beq n far || nmFar r
  | _ :: r => nmFar r

def dstepW (o : OpI) (st : St) (K : St → Prop) : Prop :=
  match callee st.tm o.ins with
  | some (f, args) => callW C.pu f args (look st.hp) (fun r => K ⟨put st.tm o.dst (.t r), st.hp⟩) ∨
      (∃ ts d v ob, allT args = some ts ∧ o.dst = some d ∧ C.ef f (ts.map .t) [] v [(d, ob)] ∧ (look st.hp d).isNone = true ∧ K ⟨put st.tm o.dst v, (d, ob) :: st.hp⟩) ∨
      (o.ins.isW = true ∧ ∃ args0 d m ob0 ob1 v, o.dst = some d ∧ C.ef f args0 [(far, ob0)] v [(d, ob1)] ∧ args = V.renL (qf m) args0 ∧ nmFar args0 = true ∧ look st.hp m = some (ob0.ren (qf m)) ∧ (look st.hp d).isNone = true ∧
        K ⟨put st.tm o.dst (v.ren (qf m)), (d, ob1.ren (qf m)) :: drop st.hp m⟩)
  | none => match ev o.ins (o.dst.getD 0) st.tm (look st.hp) with
    | some (v, e) => (match e.fresh o.dst st.hp with
      | true => K ⟨put st.tm o.dst v, e.hp' (o.dst.getD 0) st.hp⟩
      | false => False)
    | none => False

def dgdW (o : OpI) (st : St) (K : St → Prop) : Prop :=
  match o.gd with
  | none => dstepW C o st K
  | some (g, want) => match get st.tm g with
    | .t (.bool b) => (match b == want with
      | true => dstepW C o st K
      | false => K ⟨put st.tm o.dst (.t (.tup [])), st.hp⟩)
    | .t (.tup []) => K ⟨put st.tm o.dst (.t (.tup [])), st.hp⟩
    | _ => False

def dopsW : List OpI → St → (St → Prop) → Prop
  | [], st, Q => Q st
  | o :: r, st, Q => dgdW C o st fun st' => dopsW r st' Q
end

/-- A write, and a load that leaves out what it touches. -/
def freeOf (ops : List OpI) (o o' : OpI) (j i : Nat) : Bool := match o'.ins, tch2 ops o j i with
  | .ldf F _ _ _, some L => L.all F.contains
  | _, _ => false

def okPair (ops : List OpI) (u : List Nat) (o o' : OpI) (j i : Nat) : Bool :=
  Nat.beq i j ||
    ((match o'.dst with
      | some t => !(o.looksAt.contains t) || (Nat.blt i j && (u.getD j 0).testBit i) || (Nat.blt j i && (u.getD i 0).testBit j)
      | none => true) &&
     (!(o.ins.isW && o'.ins.isW && Nat.blt i j) || (u.getD j 0).testBit i) &&
     (!(o.ins.isW && o'.ins.looks) || (u.getD j 0).testBit i || freeOf ops o o' j i) &&
     (match o.dst, o'.dst with | some a, some b => !(Nat.beq a b) | _, _ => true))

def okD (ops : List OpI) : Bool :=
  let u := ups ops []
  ops.zipIdx.all fun (o, j) => o.aft.all (Nat.blt · j) && ops.zipIdx.all fun (o', i) => okPair ops u o o' j i

def news (ops : List OpI) : List Nat := ops.filterMap fun o => match o.ins.makes with | true => o.dst | false => none

/-- What a region that draws its order owes. -/
def drawW (C : Ctr) (ops : List OpI) (st : St) (Q : St → Prop) : Prop :=
  dopsW C ops (clean (news ops) st) Q

/-- One step of a run in the text's order. -/
def DStep (C : Ctr) (o : OpI) (st : St) (v : V) (e : Ef) : Prop :=
  ((match o.gd with | none => True | some (g, want) => get st.tm g = .t (.bool want)) ∧
    ((∃ f args r, callee st.tm o.ins = some (f, args) ∧ e = .non ∧ v = .t r ∧ callW C.pu f args (look st.hp) (fun r' => r' = r)) ∨
     (∃ f args ts d ob, callee st.tm o.ins = some (f, args) ∧ allT args = some ts ∧ o.dst = some d ∧ e = .add ob ∧ C.ef f (ts.map .t) [] v [(d, ob)] ∧ (look st.hp d).isNone = true) ∨
     (∃ f args args0 d m ob0 ob1 v0, callee st.tm o.ins = some (f, args) ∧ o.ins.isW = true ∧ o.dst = some d ∧ e = .mov m (ob1.ren (qf m)) ∧ v = v0.ren (qf m) ∧ C.ef f args0 [(far, ob0)] v0 [(d, ob1)] ∧ args = V.renL (qf m) args0 ∧ nmFar args0 = true ∧
       look st.hp m = some (ob0.ren (qf m)) ∧ (look st.hp d).isNone = true) ∨
     (callee st.tm o.ins = none ∧ ev o.ins (o.dst.getD 0) st.tm (look st.hp) = some (v, e) ∧ e.fresh o.dst st.hp = true))) ∨
  (∃ g want, o.gd = some (g, want) ∧ (get st.tm g = .t (.bool (!want)) ∨ get st.tm g = .t (.tup [])) ∧ v = .t (.tup []) ∧ e = .non)

def nextSt (o : OpI) (st : St) (v : V) (e : Ef) : St := ⟨put st.tm o.dst v, e.hp' (o.dst.getD 0) st.hp⟩

def DRun (C : Ctr) : List OpI → St → List (V × Ef) → St → Prop
  | [], st, [], st' => st' = st
  | o :: r, st, (v, e) :: l, st' => DStep C o st v e ∧ DRun C r (nextSt o st v e) l st'
  | _, _, _, _ => False

theorem dgd_step {C : Ctr} {o : OpI} {st : St} {K : St → Prop} (h : dgdW C o st K) : ∃ v e, DStep C o st v e ∧ K (nextSt o st v e) := by
  have main : dstepW C o st K → (match o.gd with | none => True | some (g, want) => get st.tm g = .t (.bool want)) → ∃ v e, DStep C o st v e ∧ K (nextSt o st v e) := by
    intro h hg
    unfold dstepW at h
    split at h
    · rename_i f args hc
      rcases h with h | ⟨ts, d, v, ob, h1, h2, h3, h4, h5⟩ | ⟨hw, args0, d, m, ob0, ob1, v, h1, h2, h3, h3', h4, h5, h6⟩
      · unfold callW at h
        split at h
        · exact h.elim
        · rename_i ts hts
          obtain ⟨r, h1, h2, h3⟩ := h
          refine ⟨.t r, .non, .inl ⟨hg, .inl ⟨f, args, r, hc, rfl, rfl, ?_⟩⟩, h3⟩
          unfold callW
          rw [hts]
          exact ⟨r, h1, h2, rfl⟩
      · refine ⟨v, .add ob, .inl ⟨hg, .inr (.inl ⟨f, args, ts, d, ob, hc, h1, h2, rfl, h3, h4⟩)⟩, ?_⟩
        unfold nextSt
        rw [h2] at h5 ⊢
        exact h5
      · refine ⟨v.ren (qf m), .mov m (ob1.ren (qf m)), .inl ⟨hg, .inr (.inr (.inl ⟨f, args, args0, d, m, ob0, ob1, v, hc, hw, h1, rfl, rfl, h2, h3, h3', h4, h5⟩))⟩, ?_⟩
        unfold nextSt
        rw [h1] at h6 ⊢
        exact h6
    · rename_i hc
      split at h
      · rename_i v e hev
        split at h
        · rename_i hf
          exact ⟨v, e, .inl ⟨hg, .inr (.inr (.inr ⟨hc, hev, hf⟩))⟩, h⟩
        · exact h.elim
      · exact h.elim
  unfold dgdW at h
  split at h
  · rename_i hg; exact main h (by rw [hg]; trivial)
  · rename_i g want hg
    split at h
    · rename_i b hb
      split at h
      · rename_i he
        have : b = want := by simpa using he
        exact main h (by rw [hg]; simp only; rw [hb, this])
      · rename_i he
        have : b = !want := by cases b <;> cases want <;> simp_all
        exact ⟨_, .non, .inr ⟨g, want, hg, .inl (by rw [hb, this]), rfl, rfl⟩, h⟩
    · rename_i hb
      exact ⟨_, .non, .inr ⟨g, want, hg, .inr hb, rfl, rfl⟩, h⟩
    · exact h.elim

theorem dops_run {C : Ctr} : ∀ {ops : List OpI} {st : St} {Q : St → Prop}, dopsW C ops st Q → ∃ l st', DRun C ops st l st' ∧ Q st'
  | [], st, Q, h => ⟨[], st, rfl, h⟩
  | o :: r, st, Q, h => by
    obtain ⟨v, e, h1, h2⟩ := dgd_step h
    obtain ⟨l, st', h3, h4⟩ := dops_run h2
    exact ⟨(v, e) :: l, st', ⟨h1, h3⟩, h4⟩

/-- A chain of waits. -/
inductive Reach (aft : Nat → List Nat) : Nat → Nat → Prop where
  | one {i j : Nat} (h : i ∈ aft j) : Reach aft i j
  | more {i q j : Nat} (h : q ∈ aft j) (r : Reach aft i q) : Reach aft i j

theorem Reach.closed {aft : Nat → List Nat} {S : Nat → Prop} (hS : ∀ j, S j → ∀ i ∈ aft j, S i) {i j : Nat} (r : Reach aft i j) : S j → S i := by
  induction r with
  | one h => exact fun hj => hS _ hj _ h
  | more h _ ih => exact fun hj => ih (hS _ hj _ h)

def aftOf (ops : List OpI) (j : Nat) : List Nat := match ops[j]? with | some o => o.aft | none => []

theorem bits_fold (acc : List Nat) : ∀ (l : List Nat) (s i : Nat), (l.foldl (fun s q => s ||| 2 ^ q ||| acc.getD q 0) s).testBit i = true → s.testBit i = true ∨ i ∈ l ∨ ∃ q ∈ l, (acc.getD q 0).testBit i = true
  | [], s, i, h => .inl h
  | q :: r, s, i, h => by
    simp only [List.foldl_cons] at h
    rcases bits_fold acc r _ i h with h | h | ⟨q', h1, h2⟩
    · rw [Nat.testBit_or, Nat.testBit_or, Bool.or_eq_true, Bool.or_eq_true] at h
      rcases h with (h | h) | h
      · exact .inl h
      · rw [Nat.testBit_two_pow] at h
        simp at h; subst h; exact .inr (.inl List.mem_cons_self)
      · exact .inr (.inr ⟨q, List.mem_cons_self, h⟩)
    · exact .inr (.inl (List.mem_cons_of_mem _ h))
    · exact .inr (.inr ⟨q', List.mem_cons_of_mem _ h1, h2⟩)

theorem ups_reach (all : List OpI) : ∀ (r : List OpI) (acc : List Nat), (∀ i, r[i]? = all[acc.length + i]?) → (∀ j i, (acc.getD j 0).testBit i = true → Reach (aftOf all) i j) → ∀ j i, ((ups r acc).getD j 0).testBit i = true → Reach (aftOf all) i j
  | [], acc, _, h, j, i, hb => h j i hb
  | o :: r, acc, hr, h, j, i, hb => by
    simp only [ups] at hb
    refine ups_reach all r _ (fun k => ?_) (fun j i hb => ?_) j i hb
    · have := hr (k + 1)
      simp only [List.length_append, List.length_singleton]
      rw [show acc.length + 1 + k = acc.length + (k + 1) by omega, ← this]; rfl
    · by_cases hlt : j < acc.length
      · refine h j i ?_
        simpa [List.getD, List.getElem?_append_left hlt] using hb
      · by_cases he : j = acc.length
        · subst he
          have ho : aftOf all acc.length = o.aft := by
            have := hr 0
            simp only [Nat.add_zero] at this
            simp [aftOf, ← this]
          have hb' : (o.aft.foldl (fun s q => s ||| 2 ^ q ||| acc.getD q 0) 0).testBit i = true := by
            simpa [List.getD] using hb
          rcases bits_fold acc o.aft 0 i hb' with h0 | h0 | ⟨q, h1, h2⟩
          · simp at h0
          · exact .one (by rw [ho]; exact h0)
          · exact .more (by rw [ho]; exact h1) (h q i h2)
        · have : (acc ++ [o.aft.foldl (fun s q => s ||| 2 ^ q ||| acc.getD q 0) 0]).getD j 0 = 0 := by
            rw [List.getD, List.getElem?_eq_none (by simp; omega)]; rfl
          rw [this] at hb; simp at hb

/-- What the check of a region tells. -/
structure OkD (ops : List OpI) : Prop where
  lt : ∀ (j : Nat) (o : OpI), ops[j]? = some o → ∀ i ∈ o.aft, i < j
  dst : ∀ (i j : Nat) (o o' : OpI) (d : Nat), ops[i]? = some o → ops[j]? = some o' → o.dst = some d → o'.dst = some d → i = j
  slot : ∀ (i j : Nat) (o o' : OpI) (t : Nat), ops[j]? = some o → ops[i]? = some o' → i ≠ j → o'.dst = some t → t ∈ o.looksAt → (i < j ∧ Reach (aftOf ops) i j) ∨ (j < i ∧ Reach (aftOf ops) j i)
  ww : ∀ (i j : Nat) (o o' : OpI), ops[j]? = some o → ops[i]? = some o' → i < j → o.ins.isW = true → o'.ins.isW = true → Reach (aftOf ops) i j
  lw : ∀ (i j : Nat) (o o' : OpI), ops[j]? = some o → ops[i]? = some o' → i ≠ j → o.ins.isW = true → o'.ins.looks = true → Reach (aftOf ops) i j ∨
    ∃ F agg m x L, o'.ins = .ldf F agg m x ∧ tch2 ops o j i = some L ∧ ∀ k ∈ L, k ∈ F

theorem okD_spec {ops : List OpI} (h : okD ops = true) : OkD ops := by
  have hu := ups_reach ops ops [] (fun i => by simp) (fun j i hb => by simp at hb)
  unfold okD at h
  simp only [List.all_eq_true] at h
  have mem : ∀ (j : Nat) (o : OpI), ops[j]? = some o → (o, j) ∈ ops.zipIdx := fun j o hj => by
    rw [List.mem_iff_getElem?]; exact ⟨j, by simp [hj]⟩
  have h1 : ∀ (j : Nat) (o : OpI), ops[j]? = some o → ∀ i ∈ o.aft, i < j := by
    intro j o hj i hi
    have := h (o, j) (mem j o hj)
    simp only [Bool.and_eq_true, List.all_eq_true] at this
    exact Nat.le_of_ble_eq_true (this.1 i hi)
  have h2 : ∀ (i j : Nat) (o o' : OpI), ops[j]? = some o → ops[i]? = some o' → okPair ops (ups ops []) o o' j i = true := by
    intro i j o o' hj hi
    have := h (o, j) (mem j o hj)
    simp only [Bool.and_eq_true, List.all_eq_true] at this
    exact this.2 (o', i) (mem i o' hi)
  have h3 : ∀ (i j : Nat) (o o' : OpI), ops[j]? = some o → ops[i]? = some o' → i ≠ j →
      ((match o'.dst with | some t => !(o.looksAt.contains t) || (Nat.blt i j && ((ups ops []).getD j 0).testBit i) || (Nat.blt j i && ((ups ops []).getD i 0).testBit j) | none => true) = true ∧
       (!(o.ins.isW && o'.ins.isW && Nat.blt i j) || ((ups ops []).getD j 0).testBit i) = true) ∧
      ((!(o.ins.isW && o'.ins.looks) || ((ups ops []).getD j 0).testBit i) || freeOf ops o o' j i) = true ∧ (match o.dst, o'.dst with | some a, some b => !(Nat.beq a b) | _, _ => true) = true := by
    intro i j o o' hj hi hne
    have := h2 i j o o' hj hi
    unfold okPair at this
    rw [beq_no hne, Bool.false_or, Bool.and_eq_true, Bool.and_eq_true, Bool.and_eq_true] at this
    exact ⟨⟨this.1.1.1, this.1.1.2⟩, this.1.2, this.2⟩
  refine ⟨h1, fun i j o o' d hi hj hd hd' => ?_, fun i j o o' t hj hi hne hd ht => ?_, fun i j o o' hj hi hlt hw hw' => ?_, fun i j o o' hj hi hne hw hl => ?_⟩
  · rcases Nat.decEq i j with hne | he
    · have := (h3 i j o' o hj hi hne).2.2
      rw [hd, hd'] at this
      simp at this
    · exact he
  · have := (h3 i j o o' hj hi hne).1.1
    rw [hd] at this
    simp only [Bool.or_eq_true, Bool.and_eq_true, Bool.not_eq_true'] at this
    rcases this with (q | ⟨q1, q2⟩) | ⟨q1, q2⟩
    · have hc : o.looksAt.contains t = true := by simpa using ht
      rw [hc] at q; cases q
    · exact .inl ⟨Nat.le_of_ble_eq_true q1, hu j i q2⟩
    · exact .inr ⟨Nat.le_of_ble_eq_true q1, hu i j q2⟩
  · have := (h3 i j o o' hj hi (by omega)).1.2
    have hb : Nat.blt i j = true := Nat.ble_eq_true_of_le hlt
    rw [hw, hw', hb] at this
    exact hu j i (by simpa using this)
  · have := (h3 i j o o' hj hi hne).2.1
    rw [hw, hl] at this
    simp only [Bool.and_self, Bool.not_true, Bool.false_or, Bool.or_eq_true] at this
    rcases this with q | q
    · exact .inl (hu j i q)
    · right
      unfold freeOf at q
      split at q
      · rename_i F agg m x L e1 e2
        exact ⟨F, agg, m, x, L, e1, e2, fun k hk => by simpa using List.all_eq_true.1 q k hk⟩
      · cases q

theorem newAt_spec {ops : List OpI} {k j : Nat} (h : newAt ops k j = true) : ∃ k' o, k' < j ∧ ops[k']? = some o ∧ o.dst = some k ∧ ((∃ z, o.ins = .new z) ∨ ∃ ty z n ps, o.ins = .bs ty z n ps) := by
  unfold newAt at h
  obtain ⟨o, ho, hq⟩ := List.any_eq_true.1 h
  obtain ⟨k', hk'⟩ := List.mem_iff_getElem?.1 ho
  have hlt : k' < j := by have := (List.getElem?_eq_some_iff.1 hk').1; simp at this; omega
  rw [List.getElem?_take_of_lt hlt] at hk'
  refine ⟨k', o, hlt, hk', ?_⟩
  split at hq
  · rename_i e3 e4; exact ⟨by rw [e4, Nat.eq_of_beq_eq_true hq], .inl ⟨_, e3⟩⟩
  · rename_i e3 e4; exact ⟨by rw [e4, Nat.eq_of_beq_eq_true hq], .inr ⟨_, _, _, _, e3⟩⟩
  · cases hq

/-- An instruction that asks for more. -/
def InsLe (a b : Ins) : Prop := (∀ tm, callee tm b = callee tm a) ∧ ((∀ d tm h r, ev b d tm h = some r → ev a d tm h = some r) ∨ ∃ ty z by_ x y, a = .app ty z by_ x y ∧ b = .appc ty z by_ x y)

theorem loose2_le (u : List Nat) (ops : List OpI) (o : OpI) (i : Nat) : InsLe o.ins (loose2 u ops o i) := by
  unfold loose2
  split
  · rename_i agg n x e
    rw [e]
    split
    · exact ⟨fun _ => rfl, .inl fun _ _ _ _ h => h⟩
    · split
      · rename_i F _
        refine ⟨fun _ => rfl, .inl fun d tm h r hr => ?_⟩
        exact ev_sub (i := .ld agg n x) (h := lessH F h) (fun m o hm => by unfold lessH at hm; cases hc : F.contains m <;> rw [hc] at hm <;> first | exact hm | cases hm) hr
      · refine ⟨fun _ => rfl, .inl fun d tm h r hr => ?_⟩
        exact ev_sub (i := .ld agg n x) (h := noH) (fun m o hm => by cases hm) hr
  · rename_i ty z b x y e
    rw [e]
    have keep : InsLe (.app ty z b x y) (.app ty z b x y) := ⟨fun _ => rfl, .inl fun _ _ _ _ h => h⟩
    split
    · split
      · split
        · exact ⟨fun _ => rfl, .inr ⟨_, _, _, _, _, rfl, rfl⟩⟩
        · exact keep
      · exact keep
    · exact keep
  · rename_i f as e
    rw [e]
    split
    · exact ⟨fun _ => rfl, .inl fun _ _ _ _ h => by cases h⟩
    · exact ⟨fun _ => rfl, .inl fun _ _ _ _ h => h⟩
  · exact ⟨fun _ => rfl, .inl fun _ _ _ _ h => h⟩

theorem loosen_get {ops0 : List OpI} : (loosen ops0).length = ops0.length ∧ ∀ (j : Nat) (oi : OpI), (loosen ops0)[j]? = some oi → ∃ o0, ops0[j]? = some o0 ∧ oi.dst = o0.dst ∧ oi.gd = o0.gd ∧ oi.aft = o0.aft ∧ InsLe o0.ins oi.ins := by
  unfold loosen
  refine ⟨by simp, fun j oi hj => ?_⟩
  simp only [List.getElem?_map, List.getElem?_zipIdx, Option.map_map, Option.map_eq_some_iff] at hj
  obtain ⟨o0, h0, rfl⟩ := hj
  exact ⟨o0, h0, rfl, rfl, rfl, loose2_le ..⟩

/-- The state ahead of the j-th operation. -/
def stAt : List OpI → St → List (V × Ef) → Nat → St
  | _, st, _, 0 => st
  | o :: r, st, (v, e) :: l, j + 1 => stAt r (nextSt o st v e) l j
  | _, st, _, _ + 1 => st

theorem drun_at {C : Ctr} : ∀ {ops : List OpI} {st : St} {l : List (V × Ef)} {st' : St}, DRun C ops st l st' → l.length = ops.length ∧ stAt ops st l ops.length = st' ∧
    ∀ (j : Nat) (o : OpI), ops[j]? = some o → ∃ v e, l[j]? = some (v, e) ∧ DStep C o (stAt ops st l j) v e ∧ stAt ops st l (j + 1) = nextSt o (stAt ops st l j) v e
  | [], st, [], st', h => ⟨rfl, h.symm, fun j o hj => by simp at hj⟩
  | [], st, _ :: _, st', h => h.elim
  | o :: r, st, [], st', h => h.elim
  | o :: r, st, (v, e) :: l, st', h => by
    obtain ⟨h1, h2⟩ := h
    obtain ⟨k1, k2, k3⟩ := drun_at h2
    refine ⟨by simp [k1], by simpa [stAt] using k2, fun j o' hj => ?_⟩
    cases j with
    | zero => simp at hj; subst hj; exact ⟨v, e, rfl, h1, by simp [stAt]⟩
    | succ j =>
      obtain ⟨v', e', q1, q2, q3⟩ := k3 j o' (by simpa using hj)
      exact ⟨v', e', by simpa using q1, by simpa [stAt] using q2, by simpa [stAt] using q3⟩

/-- Slots behind the operations of S. -/
def tmK (S : Nat → Bool) : Nat → List OpI → List (V × Ef) → Tm → Tm
  | k, o :: r, (v, _) :: l, tm => match S k, o.dst with
    | true, some d => (d, v) :: tmK S (k + 1) r l tm
    | _, _ => tmK S (k + 1) r l tm
  | _, _, _, tm => tm

/-- Memory behind the operations of S that turn it, all new objects being there. -/
def xK (S : Nat → Bool) : Nat → List OpI → List (V × Ef) → Lk → Lk
  | k, o :: r, (_, e) :: l, h => xK S (k + 1) r l (match S k && o.ins.isW with | true => e.ap (o.dst.getD 0) h | false => h)
  | _, _, _, h => h

def preK : List OpI → List (V × Ef) → Lk → Lk
  | o :: r, (_, e) :: l, h => preK r l (match e with | .add c => (fun n => if n = o.dst.getD 0 then some c else h n) | _ => h)
  | _, _, h => h

def Dist (ops : List OpI) : Prop := ∀ (i j : Nat) (o o' : OpI) (d : Nat), ops[i]? = some o → ops[j]? = some o' → o.dst = some d → o'.dst = some d → i = j

theorem Dist.tail {o : OpI} {r : List OpI} (h : Dist (o :: r)) : Dist r := fun i j a b d hi hj ha hb => by
  have := h (i + 1) (j + 1) a b d (by simpa using hi) (by simpa using hj) ha hb
  omega

theorem tmK_out (S : Nat → Bool) (t : Nat) : ∀ (k : Nat) (ops : List OpI) (l : List (V × Ef)) (tm : Tm), (∀ (i : Nat) (o : OpI), ops[i]? = some o → S (k + i) = true → o.dst ≠ some t) → look (tmK S k ops l tm) t = look tm t
  | k, [], l, tm, _ => by cases l <;> rfl
  | k, o :: r, [], tm, _ => rfl
  | k, o :: r, (v, e) :: l, tm, h => by
    have ih := tmK_out S t (k + 1) r l tm (fun i o' hi hs => h (i + 1) o' (by simpa using hi) (by rwa [show k + (i + 1) = k + 1 + i by omega]))
    simp only [tmK]
    split
    · rename_i d hS hd
      rw [look_cons, if_neg, ih]
      intro e
      exact h 0 o rfl (by simpa using hS) (by rw [hd, e])
    · exact ih

theorem tmK_in (S : Nat → Bool) : ∀ (k : Nat) (ops : List OpI) (l : List (V × Ef)) (tm : Tm) (i : Nat) (o : OpI) (v : V) (e : Ef) (d : Nat), Dist ops → ops[i]? = some o → l[i]? = some (v, e) → S (k + i) = true → o.dst = some d → look (tmK S k ops l tm) d = some v
  | k, [], l, tm, i, o, v, e, d, _, ho, _, _, _ => by simp at ho
  | k, o0 :: r, [], tm, i, o, v, e, d, _, _, hl, _, _ => by simp at hl
  | k, o0 :: r, (v0, e0) :: l, tm, 0, o, v, e, d, hD, ho, hl, hS, hd => by
    simp at ho hl; obtain ⟨rfl, rfl⟩ := hl; subst ho
    simp only [Nat.add_zero] at hS
    simp only [tmK, hS, hd, look_cons, if_true]
  | k, o0 :: r, (v0, e0) :: l, tm, i + 1, o, v, e, d, hD, ho, hl, hS, hd => by
    have ih := tmK_in S (k + 1) r l tm i o v e d hD.tail (by simpa using ho) (by simpa using hl) (by rwa [show k + 1 + i = k + (i + 1) by omega]) hd
    simp only [tmK]
    split
    · rename_i d' hS' hd'
      rw [look_cons, if_neg, ih]
      intro e'
      subst e'
      have := hD (i + 1) 0 o o0 d ho rfl hd hd'
      omega
    · exact ih

theorem xK_none (S : Nat → Bool) : ∀ (k : Nat) (ops : List OpI) (l : List (V × Ef)) (h : Lk), (∀ (i : Nat) (o : OpI), ops[i]? = some o → o.ins.isW = true → S (k + i) = false) → xK S k ops l h = h
  | k, [], l, h, _ => by cases l <;> rfl
  | k, o :: r, [], h, _ => rfl
  | k, o :: r, (v, e) :: l, h, hn => by
    simp only [xK]
    have hz : (S k && o.ins.isW) = false := by
      cases hw : o.ins.isW
      · simp
      · have := hn 0 o rfl hw; simp at this; simp [this]
    rw [hz]
    exact xK_none S (k + 1) r l h (fun i o' hi hw => by have := hn (i + 1) o' (by simpa using hi) hw; rwa [show k + (i + 1) = k + 1 + i by omega] at this)

theorem xK_congr (S S' : Nat → Bool) : ∀ (k : Nat) (ops : List OpI) (l : List (V × Ef)) (h : Lk), (∀ (i : Nat) (o : OpI), ops[i]? = some o → o.ins.isW = true → S (k + i) = S' (k + i)) → xK S k ops l h = xK S' k ops l h
  | k, [], l, h, _ => by cases l <;> rfl
  | k, o :: r, [], h, _ => rfl
  | k, o :: r, (v, e) :: l, h, hn => by
    simp only [xK]
    have hz : (S k && o.ins.isW) = (S' k && o.ins.isW) := by
      cases hw : o.ins.isW
      · simp
      · have := hn 0 o rfl hw; simp at this; rw [this]
    rw [hz]
    exact xK_congr S S' (k + 1) r l _ (fun i o' hi hw => by have := hn (i + 1) o' (by simpa using hi) hw; rwa [show k + (i + 1) = k + 1 + i by omega] at this)

theorem xK_last (S S' : Nat → Bool) : ∀ (j k : Nat) (ops : List OpI) (l : List (V × Ef)) (h : Lk) (o : OpI) (v : V) (e : Ef), ops[j]? = some o → l[j]? = some (v, e) → o.ins.isW = true → S (k + j) = false → S' (k + j) = true →
    (∀ i, i ≠ j → S' (k + i) = S (k + i)) → (∀ (i : Nat) (o' : OpI), ops[i]? = some o' → j < i → o'.ins.isW = true → S (k + i) = false) → xK S' k ops l h = e.ap (o.dst.getD 0) (xK S k ops l h)
  | j, k, [], l, h, o, v, e, ho, _, _, _, _, _, _ => by simp at ho
  | j, k, o0 :: r, [], h, o, v, e, _, hl, _, _, _, _, _ => by simp at hl
  | 0, k, o0 :: r, (v0, e0) :: l, h, o, v, e, ho, hl, hw, hS, hS', heq, hlast => by
    simp at ho hl; obtain ⟨rfl, rfl⟩ := hl; subst ho
    simp only [Nat.add_zero] at hS hS'
    simp only [xK, hS, hS', hw, Bool.and_self, Bool.false_and]
    have hn : ∀ (i : Nat) (o' : OpI), r[i]? = some o' → o'.ins.isW = true → S (k + 1 + i) = false := fun i o' hi hw => by
      have := hlast (i + 1) o' (by simpa using hi) (by omega) hw; rwa [show k + (i + 1) = k + 1 + i by omega] at this
    rw [xK_none S (k + 1) r l h hn, xK_none S' (k + 1) r l _ (fun i o' hi hw => by
      have := heq (i + 1) (by omega); rw [show k + (i + 1) = k + 1 + i by omega] at this; rw [this]; exact hn i o' hi hw)]
  | j + 1, k, o0 :: r, (v0, e0) :: l, h, o, v, e, ho, hl, hw, hS, hS', heq, hlast => by
    simp only [xK]
    have h0 : S' k = S k := by have := heq 0 (by omega); simpa using this
    rw [h0]
    exact xK_last S S' j (k + 1) r l _ o v e (by simpa using ho) (by simpa using hl) hw (by rwa [show k + 1 + j = k + (j + 1) by omega]) (by rwa [show k + 1 + j = k + (j + 1) by omega])
      (fun i hi => by have := heq (i + 1) (by omega); rwa [show k + (i + 1) = k + 1 + i by omega] at this) (fun i o' hi hlt hw => by have := hlast (i + 1) o' (by simpa using hi) (by omega) hw; rwa [show k + (i + 1) = k + 1 + i by omega] at this)

theorem preK_out (n : Nat) : ∀ (ops : List OpI) (l : List (V × Ef)) (h : Lk), (∀ (i : Nat) (o : OpI) (v : V) (c : Ob), ops[i]? = some o → l[i]? = some (v, .add c) → o.dst.getD 0 ≠ n) → preK ops l h n = h n
  | [], l, h, _ => by cases l <;> rfl
  | o :: r, [], h, _ => rfl
  | o :: r, (v, e) :: l, h, hn => by
    simp only [preK]
    rw [preK_out n r l _ (fun i o' v' c hi hl => hn (i + 1) o' v' c (by simpa using hi) (by simpa using hl))]
    split
    · rename_i c
      have := hn 0 o v c rfl rfl
      simp [Ne.symm this]
    · rfl

theorem preK_in : ∀ (ops : List OpI) (l : List (V × Ef)) (h : Lk) (i : Nat) (o : OpI) (v : V) (c : Ob) (d : Nat), Dist ops → (∀ (i : Nat) (o : OpI) (v : V) (c : Ob), ops[i]? = some o → l[i]? = some (v, .add c) → ∃ d, o.dst = some d) → ops[i]? = some o → l[i]? = some (v, .add c) → o.dst = some d → preK ops l h d = some c
  | [], l, h, i, o, v, c, d, _, _, ho, _, _ => by simp at ho
  | o0 :: r, [], h, i, o, v, c, d, _, _, _, hl, _ => by simp at hl
  | o0 :: r, (v0, e0) :: l, h, 0, o, v, c, d, hD, hsome, ho, hl, hd => by
    simp at ho hl; obtain ⟨rfl, rfl⟩ := hl; subst ho
    simp only [preK]
    rw [preK_out d r l _ (fun i o' v' c' hi hl he => ?_)]
    · simp [hd]
    · obtain ⟨d', hd'⟩ := hsome (i + 1) o' v' c' (by simpa using hi) (by simpa using hl)
      rw [hd'] at he; simp at he; subst he
      have := hD (i + 1) 0 o' o0 d' (by simpa using hi) rfl hd' hd
      omega
  | o0 :: r, (v0, e0) :: l, h, i + 1, o, v, c, d, hD, hsome, ho, hl, hd => by
    simp only [preK]
    exact preK_in r l _ i o v c d hD.tail (fun i o v c hi hl => hsome (i + 1) o v c (by simpa using hi) (by simpa using hl)) (by simpa using ho) (by simpa using hl) hd

theorem ev_kind {i : Ins} {d : Nat} {tm : Tm} {h : Lk} {v : V} {e : Ef} (he : ev i d tm h = some (v, e)) : (i.isW = false → e = .non ∨ ∃ o, e = .add o) ∧ (∀ o, e = .add o → i.makes = true) ∧ (∀ m o, e = .mov m o → i.makes = true ∧ h m ≠ none) ∧ (∀ m o, e = .set m o → h m ≠ none) ∧ (∀ m, e = .del m → h m ≠ none) := by
  have non : e = .non → (i.isW = false → e = .non ∨ ∃ o, e = .add o) ∧ (∀ o, e = .add o → i.makes = true) ∧ (∀ m o, e = .mov m o → i.makes = true ∧ h m ≠ none) ∧ (∀ m o, e = .set m o → h m ≠ none) ∧ (∀ m, e = .del m → h m ≠ none) := by
    rintro rfl; exact ⟨fun _ => .inl rfl, (fun o q => by cases q), (fun m o q => by cases q), (fun m o q => by cases q), (fun m q => by cases q)⟩
  have add : ∀ ob, e = .add ob → i.makes = true → (i.isW = false → e = .non ∨ ∃ o, e = .add o) ∧ (∀ o, e = .add o → i.makes = true) ∧ (∀ m o, e = .mov m o → i.makes = true ∧ h m ≠ none) ∧ (∀ m o, e = .set m o → h m ≠ none) ∧ (∀ m, e = .del m → h m ≠ none) := by
    rintro ob rfl hm; exact ⟨fun _ => .inr ⟨_, rfl⟩, fun o q => hm, (fun m o q => by cases q), (fun m o q => by cases q), (fun m q => by cases q)⟩
  cases i
  case st n x y =>
    simp only [ev, Option.map_eq_some_iff] at he
    obtain ⟨e', he', heq⟩ := he
    cases heq
    unfold evSt at he'
    split at he'
    · rename_i m i j _
      have hne : h m ≠ none := by intro q; simp [q] at he'
      have : ∃ o, e = .set m o := by
        repeat' (split at he')
        all_goals first | (cases he'; done) | (cases he'; exact ⟨_, rfl⟩)
      obtain ⟨o, rfl⟩ := this
      exact ⟨(fun q => by simp [Ins.isW] at q), (fun o q => by cases q), (fun m o q => by cases q), (fun m o q => by cases q; exact hne), (fun m q => by cases q)⟩
    · cases he'
  case clr z zs x =>
    simp only [ev, Option.map_eq_some_iff] at he
    obtain ⟨e', he', heq⟩ := he
    cases heq
    unfold evClr at he'
    split at he'
    · cases he'; exact non rfl
    · rename_i m z0 b len _
      split at he'
      · cases he'; exact non rfl
      · have hne : h m ≠ none := by intro q; simp [q] at he'
        have : ∃ o, e = .set m o := by
          repeat' (split at he')
          all_goals first | (cases he'; done) | (cases he'; exact ⟨_, rfl⟩)
        obtain ⟨o, rfl⟩ := this
        exact ⟨(fun q => by simp [Ins.isW] at q), (fun o q => by cases q), (fun m o q => by cases q), (fun m o q => by cases q; exact hne), (fun m q => by cases q)⟩
    · cases he'
  case app ty z b x y =>
    simp only [ev] at he
    split at he
    · cases he
    · rename_i ys _
      unfold evApp at he
      split at he
      · split at he
        · cases he; exact non rfl
        · split at he
          · cases he; exact add _ rfl rfl
          · cases he
      · rename_i m z0 len _
        have hne : h m ≠ none := by intro q; simp [q] at he
        have : ∃ o, e = .mov m o := by
          repeat' (split at he)
          all_goals first | (cases he; done) | (cases he; exact ⟨_, rfl⟩)
        obtain ⟨o, rfl⟩ := this
        exact ⟨(fun q => by simp [Ins.isW] at q), (fun o q => by cases q), (fun m o q => by cases q; exact ⟨rfl, hne⟩), (fun m o q => by cases q), (fun m q => by cases q)⟩
      · split at he
        · cases he; exact non rfl
        · cases he
      · cases he
  case appc ty z b x y =>
    simp only [ev] at he
    split at he
    · cases he
    · rename_i ys _
      have hw : ((Ins.appc ty z b x y).isW = false → e = .non ∨ ∃ o, e = .add o) := fun q => by cases q
      cases hX : evApp d ty z b h ys (opd tm x) with
      | none => rw [hX] at he; cases he
      | some r0 =>
        rw [hX] at he
        unfold evCls at he
        split at he
        · cases he; exact non rfl
        · rename_i m ty' z' es hq
          cases he
          cases hq
          refine ⟨hw, (fun o q => by cases q), (fun m o q => by cases q), (fun m o q => by cases q), (fun m' q => ?_)⟩
          cases q
          unfold evApp at hX
          split at hX
          · repeat' (split at hX)
            all_goals cases hX
          · rename_i m2 z0 len _
            intro hn
            repeat' (split at hX)
            all_goals first | (cases hX; done) | (cases hX; simp_all; done)
          · repeat' (split at hX)
            all_goals cases hX
          · cases hX
        · cases he; exact non rfl
        · cases he
  case new z => simp only [ev, Option.some.injEq, Prod.mk.injEq] at he; exact add _ he.2.symm rfl
  case box g n x => simp only [ev, Option.map_eq_some_iff] at he; obtain ⟨o, _, q⟩ := he; cases q; exact add _ rfl rfl
  case bs ty z n ps =>
    simp only [ev] at he
    split at he
    · cases he
    · split at he
      · cases he
      · cases he; exact add _ rfl rfl
  case mk ty z b zs l c =>
    simp only [ev] at he
    split at he
    · split at he
      · cases he; exact add _ rfl rfl
      · cases he
    · cases he
  all_goals
    refine non ?_
    simp only [ev] at he
    first
      | exact (map_non he).2
      | exact (map_nonT he).choose_spec.2.2
      | (cases he; rfl)
      | (simp only [Option.map_eq_some_iff] at he; obtain ⟨_, _, q⟩ := he; cases q; rfl)
      | (repeat' (split at he)
         all_goals first | (cases he; done) | (cases he; rfl) | exact (map_non he).2 | exact (map_nonT he).choose_spec.2.2 | (simp only [Option.map_eq_some_iff] at he; obtain ⟨_, _, q⟩ := he; cases q; rfl))

end Go.Eng
