/-
An engine for proofs about Go functions, part U: how its user walks: what a piece of code owes, step by step, as rules for simp, with nothing but data behind what is next.
-/
import Derived.Test.YtijeohfdfoebfaaEngH
set_option linter.all false
namespace Go.Eng
set_option linter.unusedSimpArgs false

/-- What is still to be done behind a piece of code. -/
inductive Fr where
  | seq (b : Cd)
  | blk (id : Nat)

section
variable (C : Ctr) (D : List OpI → St → (St → Prop) → Prop)

/-- The rest, and what stands behind it. -/
def bk : List Fr → (Ex → St → Prop) → Ex → St → Prop
  | [], Q => Q
  | .seq b :: k, Q => seqW (fun s => W C D b s (bk k Q)) (bk k Q)
  | .blk id :: k, Q => blkW id (bk k Q)

def opsR (r : List OpI) (st : St) (k : List Fr) (Q : Ex → St → Prop) : Prop := opsW C r st (bk C D k Q .nrm)
def dopsR (r : List OpI) (st : St) (k : List Fr) (Q : Ex → St → Prop) : Prop := dopsW C r st (bk C D k Q .nrm)
def loopR (b : Cd) (st : St) (k : List Fr) (Q : Ex → St → Prop) : Prop := loopW (fun s K => W C D b s K) st (bk C D k Q)

def nextS (x : V × Ef) (d : Nat) (st : St) : St := ⟨(d, x.1) :: x.2.tm d st.tm, x.2.hp d st.hp⟩
def nextD (x : V × Ef) (d : Nat) (st : St) : St := ⟨(d, x.1) :: st.tm, x.2.hp' d st.hp⟩

def optR (x : Option (V × Ef)) (d : Nat) (r : List OpI) (st : St) (k : List Fr) (Q : Ex → St → Prop) : Prop :=
  match x with | some p => opsR C D r (nextS p d st) k Q | none => False
/-- What does not close is closed in a weaker state. -/
def weakR (i : Ins) (d : Nat) (r : List OpI) (st : St) (k : List Fr) (Q : Ex → St → Prop) : Prop := ∃ p st1, leS p st st1 ∧ optR C D (ev i d st1.tm (look st1.hp)) d r st1 k Q
def bsR (x : Option (List T)) (i : Ins) (d : Nat) (r : List OpI) (st : St) (k : List Fr) (Q : Ex → St → Prop) : Prop :=
  match x with | some _ => optR C D (ev i d st.tm (look st.hp)) d r st k Q | none => weakR C D i d r st k Q
def reqR (c : Prop) (p : V × Ef) (d : Nat) (r : List OpI) (st : St) (k : List Fr) (Q : Ex → St → Prop) : Prop := c ∧ opsR C D r (nextS p d st) k Q
def stR (x : Option Ef) (r : List OpI) (st : St) (k : List Fr) (Q : Ex → St → Prop) : Prop :=
  match x with | some e => opsR C D r ⟨st.tm, e.hp 0 st.hp⟩ k Q | none => False
def guardR (v : V) (w : Bool) (d : Nat) (i : Ins) (r : List OpI) (st : St) (k : List Fr) (Q : Ex → St → Prop) : Prop :=
  match v with
  | .t (.bool b) => (match b == w with | true => opsR C D (o1 d i :: r) st k Q | false => opsR C D r ⟨(d, .t (.tup [])) :: st.tm, st.hp⟩ k Q)
  | .t (.tup []) => opsR C D r ⟨(d, .t (.tup [])) :: st.tm, st.hp⟩ k Q
  | _ => False
/-- A call: x tells whom, with what. -/
def callR (x : Option (Nat × List V)) (d : Nat) (i : Ins) (r : List OpI) (st : St) (k : List Fr) (Q : Ex → St → Prop) : Prop :=
  match x with
  | none => False
  | some (f, args) => callW C.pu f args (look st.hp) (fun y => opsR C D r ⟨(d, .t y) :: st.tm, st.hp⟩ k Q) ∨ effW C.ef (o1 d i) st (fun st' => opsR C D r st' k Q)

def optD (x : Option (V × Ef)) (d : Nat) (r : List OpI) (st : St) (k : List Fr) (Q : Ex → St → Prop) : Prop :=
  match x with | some p => p.2.fresh (some d) st.hp = true ∧ dopsR C D r (nextD p d st) k Q | none => False
def reqD (c : Prop) (p : V × Ef) (d : Nat) (r : List OpI) (st : St) (k : List Fr) (Q : Ex → St → Prop) : Prop := c ∧ dopsR C D r (nextD p d st) k Q
def stD (x : Option Ef) (r : List OpI) (st : St) (k : List Fr) (Q : Ex → St → Prop) : Prop :=
  match x with | some e => e.fresh none st.hp = true ∧ dopsR C D r ⟨st.tm, e.hp' 0 st.hp⟩ k Q | none => False
def guardD (v : V) (w : Bool) (d : Nat) (i : Ins) (r : List OpI) (st : St) (k : List Fr) (Q : Ex → St → Prop) : Prop :=
  match v with
  | .t (.bool b) => (match b == w with | true => dopsR C D (o1 d i :: r) st k Q | false => dopsR C D r ⟨(d, .t (.tup [])) :: st.tm, st.hp⟩ k Q)
  | .t (.tup []) => dopsR C D r ⟨(d, .t (.tup [])) :: st.tm, st.hp⟩ k Q
  | _ => False
def callD (w : Bool) (x : Option (Nat × List V)) (d : Nat) (r : List OpI) (st : St) (k : List Fr) (Q : Ex → St → Prop) : Prop :=
  match x with
  | none => False
  | some (f, args) => callW C.pu f args (look st.hp) (fun y => dopsR C D r ⟨(d, .t y) :: st.tm, st.hp⟩ k Q) ∨
      (∃ ts d' v ob, allT args = some ts ∧ some d = some d' ∧ C.ef f (ts.map .t) [] v [(d', ob)] ∧ (look st.hp d').isNone = true ∧ dopsR C D r ⟨(d, v) :: st.tm, (d', ob) :: st.hp⟩ k Q) ∨
      (w = true ∧ ∃ args0 d' m ob0 ob1 v, some d = some d' ∧ C.ef f args0 [(far, ob0)] v [(d', ob1)] ∧ args = V.renL (qf m) args0 ∧ nmFar args0 = true ∧ look st.hp m = some (ob0.ren (qf m)) ∧ (look st.hp d').isNone = true ∧
        dopsR C D r ⟨(d, v.ren (qf m)) :: st.tm, (d', ob1.ren (qf m)) :: drop st.hp m⟩ k Q)

def condR (v : V) (a b : Cd) (st : St) (k : List Fr) (Q : Ex → St → Prop) : Prop :=
  match v with
  | .t (.bool t) => (match t with | true => W C D a st (bk C D k Q) | false => W C D b st (bk C D k Q))
  | _ => False

/-- A loop's round ends: the next one is handed on, or the loop is left. -/
def rndQ (U : St → Prop) (k : List Fr) (Q : Ex → St → Prop) : Ex → St → Prop := seqW U (bk C D k Q)
end

/-- What the round at i of a counted loop hands on. -/
def upK (n : Nat) (S : Nat → St) (R : Nat → Prop) (i : Nat) (s' : St) : Prop := ∃ p m' s'', m' < n - i ∧ leS p s' s'' ∧ ∃ i', i' ≤ n ∧ m' = n - i' ∧ R i' ∧ s'' = S i'

theorem up_next {n : Nat} {S : Nat → St} {R : Nat → Prop} {i : Nat} {s' : St} (p : Nat → Nat) (hi : i < n) (hR : R (i + 1)) (hl : leS p s' (S (i + 1))) : upK n S R i s' :=
  ⟨p, n - (i + 1), S (i + 1), by omega, hl, i + 1, by omega, rfl, hR, rfl⟩

/-- What a round at x of a loop over a family of states hands on. -/
def upX {X : Type} (S : X → St) (m : X → Nat) (R : X → Prop) (x : X) (s' : St) : Prop := ∃ p x', m x' < m x ∧ leS p s' (S x') ∧ R x'

section
variable {C : Ctr} {D : List OpI → St → (St → Prop) → Prop} {st : St} {k : List Fr} {Q : Ex → St → Prop} {r : List OpI} {d : Nat}

theorem loop_up {b : Cd} (n : Nat) (S : Nat → St) (R : Nat → Prop) (p : Nat → Nat) (h0 : leS p st (S 0)) (hR : R 0)
    (round : ∀ i, i ≤ n → R i → W C D b (S i) (bk C D [] (rndQ C D (upK n S R i) k Q))) : loopR C D b st k Q := by
  refine ⟨fun m s => ∃ i, i ≤ n ∧ m = n - i ∧ R i ∧ s = S i, ⟨p, n, S 0, h0, 0, Nat.zero_le _, rfl, hR, rfl⟩, ?_⟩
  rintro m s ⟨i, hi, rfl, hr, rfl⟩
  exact round i hi hr

theorem loop_x {b : Cd} {X : Type} (S : X → St) (m : X → Nat) (R : X → Prop) (p : Nat → Nat) (x0 : X) (h0 : leS p st (S x0)) (hR : R x0)
    (round : ∀ x, R x → W C D b (S x) (bk C D [] (rndQ C D (upX S m R x) k Q))) : loopR C D b st k Q := by
  refine ⟨fun n s => ∃ x, n = m x ∧ R x ∧ s = S x, ⟨p, m x0, S x0, h0, x0, rfl, hR, rfl⟩, ?_⟩
  rintro n s ⟨x, rfl, hr, rfl⟩
  have e : (fun s' => ∃ p m' s'', m' < m x ∧ leS p s' s'' ∧ ∃ x', m' = m x' ∧ R x' ∧ s'' = S x') = upX S m R x := by
    funext s'
    refine propext ⟨?_, ?_⟩
    · rintro ⟨p, m', s'', h1, h2, x', rfl, h3, rfl⟩; exact ⟨p, x', h1, h2, h3⟩
    · rintro ⟨p, x', h1, h2, h3⟩; exact ⟨p, m x', S x', h1, h2, x', rfl, h3, rfl⟩
  rw [e]
  exact round x hr

@[simp] theorem W_skip : W C D .skip st (bk C D k Q) = bk C D k Q .nrm st := (rfl)
@[simp] theorem W_exit (i : Nat) : W C D (.exit i) st (bk C D k Q) = bk C D k Q (.exit i) st := (rfl)
@[simp] theorem W_ret : W C D .ret st (bk C D k Q) = bk C D k Q .ret st := (rfl)
@[simp] theorem W_reg (ops : List OpI) : W C D (.reg ops false) st (bk C D k Q) = opsR C D ops st k Q := (rfl)
@[simp] theorem W_draw (ops : List OpI) : W C (drawW C) (.reg ops true) st (bk C (drawW C) k Q) = dopsR C (drawW C) ops (clean (news ops) st) k Q := (rfl)
@[simp] theorem W_seq (a b : Cd) : W C D (.seq a b) st (bk C D k Q) = W C D a st (bk C D (.seq b :: k) Q) := (rfl)
@[simp] theorem W_blk (i : Nat) (b : Cd) : W C D (.blk i b) st (bk C D k Q) = W C D b st (bk C D (.blk i :: k) Q) := (rfl)
@[simp] theorem W_loop (b : Cd) : W C D (.loop b) st (bk C D k Q) = loopR C D b st k Q := (rfl)
@[simp] theorem W_cond (c : O) (a b : Cd) : W C D (.cond c a b) st (bk C D k Q) = condR C D (opd st.tm c) a b st k Q := (rfl)

@[simp] theorem bk_seq (b : Cd) : bk C D (.seq b :: k) Q .nrm st = W C D b st (bk C D k Q) := (rfl)
@[simp] theorem bk_seq_exit (b : Cd) (i : Nat) : bk C D (.seq b :: k) Q (.exit i) st = bk C D k Q (.exit i) st := (rfl)
@[simp] theorem bk_seq_ret (b : Cd) : bk C D (.seq b :: k) Q .ret st = bk C D k Q .ret st := (rfl)
@[simp] theorem bk_blk (j : Nat) : bk C D (.blk j :: k) Q .nrm st = bk C D k Q .nrm st := (rfl)
@[simp] theorem bk_blk_ret (j : Nat) : bk C D (.blk j :: k) Q .ret st = bk C D k Q .ret st := (rfl)
@[simp] theorem bk_blk_exit (i j : Nat) : bk C D (.blk j :: k) Q (.exit i) st = if i = j then bk C D k Q .nrm st else bk C D k Q (.exit i) st := by
  by_cases h : i = j
  · subst h; simp [bk, blkW]
  · simp [bk, blkW, beq_no h, h]
@[simp] theorem bk_rnd (U : St → Prop) : bk C D [] (rndQ C D U k Q) .nrm st = U st := (rfl)
@[simp] theorem bk_rnd_exit (U : St → Prop) (i : Nat) : bk C D [] (rndQ C D U k Q) (.exit i) st = bk C D k Q (.exit i) st := (rfl)
@[simp] theorem bk_rnd_ret (U : St → Prop) : bk C D [] (rndQ C D U k Q) .ret st = bk C D k Q .ret st := (rfl)

@[simp] theorem condR_true (a b : Cd) : condR C D (.t (.bool true)) a b st k Q = W C D a st (bk C D k Q) := (rfl)
@[simp] theorem condR_false (a b : Cd) : condR C D (.t (.bool false)) a b st k Q = W C D b st (bk C D k Q) := (rfl)
theorem condR_split {t : Bool} {a b : Cd} (h1 : t = true → W C D a st (bk C D k Q)) (h2 : t = false → W C D b st (bk C D k Q)) : condR C D (.t (.bool t)) a b st k Q := by cases t <;> simp_all

@[simp] theorem opsR_nil : opsR C D [] st k Q = bk C D k Q .nrm st := (rfl)
@[simp] theorem optR_some (p : V × Ef) : optR C D (some p) d r st k Q = opsR C D r (nextS p d st) k Q := (rfl)
@[simp] theorem optR_none : optR C D none d r st k Q = False := (rfl)
@[simp] theorem optR_ite (c : Prop) [Decidable c] (p : V × Ef) : optR C D (if c then some p else none) d r st k Q = reqR C D c p d r st k Q := by
  by_cases h : c <;> simp [h, reqR]
@[simp] theorem reqR_true (p : V × Ef) : reqR C D True p d r st k Q = opsR C D r (nextS p d st) k Q := by simp [reqR]
theorem req_intro {c : Prop} {p : V × Ef} (h : c) (h2 : opsR C D r (nextS p d st) k Q) : reqR C D c p d r st k Q := ⟨h, h2⟩
@[simp] theorem stR_some (e : Ef) : stR C D (some e) r st k Q = opsR C D r ⟨st.tm, e.hp 0 st.hp⟩ k Q := (rfl)
@[simp] theorem guardR_tt (i : Ins) : guardR C D (.t (.bool true)) true d i r st k Q = opsR C D (o1 d i :: r) st k Q := (rfl)
@[simp] theorem guardR_ft (i : Ins) : guardR C D (.t (.bool false)) true d i r st k Q = opsR C D r ⟨(d, .t (.tup [])) :: st.tm, st.hp⟩ k Q := (rfl)
@[simp] theorem guardR_tf (i : Ins) : guardR C D (.t (.bool true)) false d i r st k Q = opsR C D r ⟨(d, .t (.tup [])) :: st.tm, st.hp⟩ k Q := (rfl)
@[simp] theorem guardR_ff (i : Ins) : guardR C D (.t (.bool false)) false d i r st k Q = opsR C D (o1 d i :: r) st k Q := (rfl)
@[simp] theorem guardR_tup (w : Bool) (i : Ins) : guardR C D (.t (.tup [])) w d i r st k Q = opsR C D r ⟨(d, .t (.tup [])) :: st.tm, st.hp⟩ k Q := (rfl)

@[simp] theorem dopsR_nil : dopsR C D [] st k Q = bk C D k Q .nrm st := (rfl)
@[simp] theorem optD_some (p : V × Ef) : optD C D (some p) d r st k Q = reqD C D (p.2.fresh (some d) st.hp = true) p d r st k Q := (rfl)
@[simp] theorem optD_none : optD C D none d r st k Q = False := (rfl)
@[simp] theorem optD_ite (c : Prop) [Decidable c] (p : V × Ef) : optD C D (if c then some p else none) d r st k Q = reqD C D (c ∧ p.2.fresh (some d) st.hp = true) p d r st k Q := by
  by_cases h : c <;> simp [h, reqD]
@[simp] theorem reqD_true (p : V × Ef) : reqD C D True p d r st k Q = dopsR C D r (nextD p d st) k Q := by simp [reqD]
theorem reqD_intro {c : Prop} {p : V × Ef} (h : c) (h2 : dopsR C D r (nextD p d st) k Q) : reqD C D c p d r st k Q := ⟨h, h2⟩
@[simp] theorem stD_set (m : Nat) (o : Ob) : stD C D (some (.set m o)) r st k Q = dopsR C D r ⟨st.tm, (m, o) :: drop st.hp m⟩ k Q := by simp [stD, Ef.fresh, Ef.hp']
@[simp] theorem guardD_tt (i : Ins) : guardD C D (.t (.bool true)) true d i r st k Q = dopsR C D (o1 d i :: r) st k Q := (rfl)
@[simp] theorem guardD_ft (i : Ins) : guardD C D (.t (.bool false)) true d i r st k Q = dopsR C D r ⟨(d, .t (.tup [])) :: st.tm, st.hp⟩ k Q := (rfl)
@[simp] theorem guardD_tf (i : Ins) : guardD C D (.t (.bool true)) false d i r st k Q = dopsR C D r ⟨(d, .t (.tup [])) :: st.tm, st.hp⟩ k Q := (rfl)
@[simp] theorem guardD_ff (i : Ins) : guardD C D (.t (.bool false)) false d i r st k Q = dopsR C D (o1 d i :: r) st k Q := (rfl)
@[simp] theorem guardD_tup (w : Bool) (i : Ins) : guardD C D (.t (.tup [])) w d i r st k Q = dopsR C D r ⟨(d, .t (.tup [])) :: st.tm, st.hp⟩ k Q := (rfl)

theorem opsR_cons (o : OpI) : opsR C D (o :: r) st k Q = gdW C o st (fun st' => opsR C D r st' k Q) := rfl
theorem dopsR_cons (o : OpI) : dopsR C D (o :: r) st k Q = dgdW C o st (fun st' => dopsR C D r st' k Q) := rfl
theorem opsR_o1 (i : Ins) : opsR C D (o1 d i :: r) st k Q = stepW C (o1 d i) st (fun st' => opsR C D r st' k Q) := rfl
theorem opsR_o0 (i : Ins) : opsR C D (o0 i :: r) st k Q = stepW C (o0 i) st (fun st' => opsR C D r st' k Q) := rfl
theorem dopsR_o1 (i : Ins) : dopsR C D (o1 d i :: r) st k Q = dstepW C (o1 d i) st (fun st' => dopsR C D r st' k Q) := rfl
theorem dopsR_o0 (i : Ins) : dopsR C D (o0 i :: r) st k Q = dstepW C (o0 i) st (fun st' => dopsR C D r st' k Q) := rfl

@[simp] theorem opsR_og (d g : Nat) (w : Bool) (i : Ins) : opsR C D (og d g w i :: r) st k Q = guardR C D (get st.tm g) w d i r st k Q := by
  rw [opsR_cons]
  unfold gdW guardR og
  simp only
  generalize get st.tm g = v
  cases v with
  | t y => cases y with
    | tup cs => cases cs <;> rfl
    | _ => rfl
  | _ => rfl
@[simp] theorem dopsR_oga (d g : Nat) (w : Bool) (a : List Nat) (i : Ins) : dopsR C D (oga d g w a i :: r) st k Q = guardD C D (get st.tm g) w d i r st k Q := by
  rw [dopsR_cons]
  unfold dgdW guardD oga
  simp only
  generalize get st.tm g = v
  cases v with
  | t y => cases y with
    | tup cs => cases cs <;> rfl
    | _ => rfl
  | _ => rfl
@[simp] theorem dopsR_oa (d : Nat) (a : List Nat) (i : Ins) : dopsR C D (oa d a i :: r) st k Q = dopsR C D (o1 d i :: r) st k Q := (rfl)
@[simp] theorem dopsR_ob (a : List Nat) (i : Ins) : dopsR C D (ob a i :: r) st k Q = dopsR C D (o0 i :: r) st k Q := (rfl)

/-- Is it no call? -/
def Ins.plain : Ins → Bool
  | .call .. | .callv .. | .callw .. => false
  | _ => true

theorem callee_plain {tm : Tm} {i : Ins} (h : i.plain = true) : callee tm i = none := by cases i <;> first | rfl | (simp [Ins.plain] at h; done)

def Ins.noBs : Ins → Bool
  | .bs .. => false
  | _ => true
theorem opsR_plain {i : Ins} (h : i.plain = true) (hb : i.noBs = true := by rfl) : opsR C D (o1 d i :: r) st k Q = optR C D (ev i d st.tm (look st.hp)) d r st k Q := by
  rw [opsR_o1]
  unfold stepW o1
  rw [callee_plain h]
  simp only [optR]
  cases ev i d st.tm (look st.hp) with
  | none => cases i <;> first | rfl | (simp [Ins.noBs] at hb; done)
  | some p => cases p; rfl
@[simp] theorem opsR_bs (ty z n : Nat) (parts : List O) : opsR C D (o1 d (.bs ty z n parts) :: r) st k Q = bsR C D (allT (parts.map (opd st.tm))) (.bs ty z n parts) d r st k Q := by
  rw [opsR_o1]
  unfold stepW o1
  rw [callee_plain (by rfl)]
  unfold bsR
  cases ha : allT (parts.map (opd st.tm)) with
  | some ts =>
    simp only [optR]
    cases hev : ev (.bs ty z n parts) d st.tm (look st.hp) with
    | none => simp [ha]
    | some p => cases p; rfl
  | none =>
    have hev : ev (.bs ty z n parts) d st.tm (look st.hp) = none := by simp only [ev, ha]
    simp only [hev, ha, weakR, optR, true_and]
    refine propext ⟨?_, ?_⟩
    · rintro ⟨p, st1, v, e, hle, hv, hk⟩
      exact ⟨p, st1, hle, by rw [hv]; exact hk⟩
    · rintro ⟨p, st1, hle, hk⟩
      cases hv : ev (.bs ty z n parts) d st1.tm (look st1.hp) with
      | none => rw [hv] at hk; exact hk.elim
      | some q => rw [hv] at hk; exact ⟨p, st1, q.1, q.2, hle, hv, hk⟩
@[simp] theorem bsR_some (ts : List T) (i : Ins) : bsR C D (some ts) i d r st k Q = optR C D (ev i d st.tm (look st.hp)) d r st k Q := (rfl)
theorem weak_intro {i : Ins} (p : Nat → Nat) (st1 : St) (h : leS p st st1) (hk : optR C D (ev i d st1.tm (look st1.hp)) d r st1 k Q) : bsR C D none i d r st k Q := ⟨p, st1, h, hk⟩

theorem dopsR_plain {i : Ins} (h : i.plain = true) : dopsR C D (o1 d i :: r) st k Q = optD C D (ev i d st.tm (look st.hp)) d r st k Q := by
  rw [dopsR_o1]
  unfold dstepW o1
  rw [callee_plain h]
  simp only [optD, Option.getD_some]
  cases ev i d st.tm (look st.hp) with
  | none => rfl
  | some p =>
    obtain ⟨v, e⟩ := p
    cases hq : e.fresh (some d) st.hp <;> simp [hq, nextD, put]

@[simp] theorem opsR_st (n : Nat) (x v : O) : opsR C D (o0 (.st n x v) :: r) st k Q = stR C D (evSt (look st.hp) n (opd st.tm v) (opd st.tm x)) r st k Q := by
  rw [opsR_o0]
  unfold stepW o0
  simp only [callee, Ins.nodst, ev, stR]
  cases evSt (look st.hp) n (opd st.tm v) (opd st.tm x) <;> rfl
@[simp] theorem opsR_clr (z : Nat) (zs : List T) (x : O) : opsR C D (o0 (.clr z zs x) :: r) st k Q = stR C D (evClr (look st.hp) z zs (opd st.tm x)) r st k Q := by
  rw [opsR_o0]
  unfold stepW o0
  simp only [callee, Ins.nodst, ev, stR]
  cases evClr (look st.hp) z zs (opd st.tm x) <;> rfl
@[simp] theorem dopsR_st (n : Nat) (x v : O) : dopsR C D (o0 (.st n x v) :: r) st k Q = stD C D (evSt (look st.hp) n (opd st.tm v) (opd st.tm x)) r st k Q := by
  rw [dopsR_o0]
  unfold dstepW o0
  simp only [callee, ev, stD, Option.getD_none]
  cases evSt (look st.hp) n (opd st.tm v) (opd st.tm x) with
  | none => rfl
  | some e =>
    simp only [Option.map_some]
    cases hq : e.fresh none st.hp <;> simp [hq, put]

theorem opsR_callish {i : Ins} (h : callee st.tm i ≠ none) : opsR C D (o1 d i :: r) st k Q = callR C D (callee st.tm i) d i r st k Q := by
  rw [opsR_o1]
  unfold stepW callR
  show (match callee st.tm i with | some (f, args) => _ | none => _) = _
  cases hq : callee st.tm i with
  | none => exact (h hq).elim
  | some x => rfl
theorem dopsR_callish {i : Ins} (h : callee st.tm i ≠ none) : dopsR C D (o1 d i :: r) st k Q = callD C D i.isW (callee st.tm i) d r st k Q := by
  rw [dopsR_o1]
  unfold dstepW callD
  show (match callee st.tm i with | some (f, args) => _ | none => _) = _
  cases hq : callee st.tm i with
  | none => exact (h hq).elim
  | some x => rfl

@[simp] theorem opsR_call (f : Nat) (args : List O) : opsR C D (o1 d (.call f args) :: r) st k Q = callR C D (some (f, args.map (opd st.tm))) d (.call f args) r st k Q := opsR_callish (i := .call f args) (fun e => by cases e)
@[simp] theorem dopsR_call (f : Nat) (args : List O) : dopsR C D (o1 d (.call f args) :: r) st k Q = callD C D false (some (f, args.map (opd st.tm))) d r st k Q := dopsR_callish (i := .call f args) (fun e => by cases e)
@[simp] theorem opsR_callw (f : Nat) (args : List O) : opsR C D (o1 d (.callw f args) :: r) st k Q = callR C D (some (f, args.map (opd st.tm))) d (.callw f args) r st k Q := opsR_callish (i := .callw f args) (fun e => by cases e)
@[simp] theorem dopsR_callw (f : Nat) (args : List O) : dopsR C D (o1 d (.callw f args) :: r) st k Q = callD C D true (some (f, args.map (opd st.tm))) d r st k Q := dopsR_callish (i := .callw f args) (fun e => by cases e)
@[simp] theorem opsR_callv (x : O) (args : List O) : opsR C D (o1 d (.callv x args) :: r) st k Q = callR C D (callee st.tm (.callv x args)) d (.callv x args) r st k Q := by
  by_cases h : callee st.tm (.callv x args) = none
  · rw [h, opsR_o1]
    unfold stepW
    show (match callee st.tm (.callv x args) with | some (f, args) => _ | none => _) = _
    rw [h]; rfl
  · exact opsR_callish h
@[simp] theorem dopsR_callv (x : O) (args : List O) : dopsR C D (o1 d (.callv x args) :: r) st k Q = callD C D false (callee st.tm (.callv x args)) d r st k Q := by
  by_cases h : callee st.tm (.callv x args) = none
  · rw [h, dopsR_o1]
    unfold dstepW
    show (match callee st.tm (.callv x args) with | some (f, args) => _ | none => _) = _
    rw [h]; rfl
  · exact dopsR_callish h

theorem callW_intro {C : Nat → List T → T → Prop} {f : Nat} {args : List V} {h : Lk} {K : T → Prop} {ts : List T} (hc : cloL 40 h args = some ts) (y : T) (hy : C f ts y) (hf : (allT args).isSome = true ∨ flat y = true) (hk : K y) : callW C f args h K := by
  unfold callW
  rw [hc]
  refine ⟨y, hy, ?_, hk⟩
  cases ha : allT args with
  | some _ => trivial
  | none => rw [ha] at hf; exact hf.resolve_left (by simp)

/-- A call, by the callee's contract of closed values. -/
theorem call_intro {f : Nat} {args : List V} {i : Ins} {ts : List T} (hc : cloL 40 (look st.hp) args = some ts) (y : T) (hy : C.pu f ts y) (hf : (allT args).isSome = true ∨ flat y = true) (hk : opsR C D r ⟨(d, .t y) :: st.tm, st.hp⟩ k Q) : callR C D (some (f, args)) d i r st k Q :=
  .inl (callW_intro hc y hy hf hk)
theorem cloL_t {h : Lk} : ∀ (ts : List T) (k : Nat), ts.length < k → cloL k h (ts.map .t) = some ts
  | [], k + 1, _ => rfl
  | t :: r, k + 1, hk => by
    obtain ⟨m, rfl⟩ : ∃ m, k = m + 1 := ⟨k - 1, by simp at hk; omega⟩
    have := cloL_t (h := h) r (m + 1) (by simpa using hk)
    simp only [List.map_cons, cloL, clo, this]
theorem allT_t : ∀ (ts : List T), allT (ts.map .t) = some ts
  | [] => rfl
  | t :: r => by simp [allT, allT_t r]
/-- A call of closed values. -/
theorem call_t {f : Nat} {i : Ins} {ts : List T} (y : T) (hy : C.pu f ts y) (hl : ts.length < 40) (hk : opsR C D r ⟨(d, .t y) :: st.tm, st.hp⟩ k Q) : callR C D (some (f, ts.map .t)) d i r st k Q :=
  call_intro (cloL_t ts 40 hl) y hy (.inl (by rw [allT_t]; rfl)) hk
theorem callD_intro {w : Bool} {f : Nat} {args : List V} {ts : List T} (hc : cloL 40 (look st.hp) args = some ts) (y : T) (hy : C.pu f ts y) (hf : (allT args).isSome = true ∨ flat y = true) (hk : dopsR C D r ⟨(d, .t y) :: st.tm, st.hp⟩ k Q) : callD C D w (some (f, args)) d r st k Q :=
  .inl (callW_intro hc y hy hf hk)
/-- A call that makes an object, in a region that draws its order. -/
theorem maker_intro {w : Bool} {f : Nat} {args : List V} {ts : List T} {v : V} {ob : Ob} (hc : allT args = some ts) (hE : C.ef f (ts.map .t) [] v [(d, ob)]) (hn : (look st.hp d).isNone = true) (hk : dopsR C D r ⟨(d, v) :: st.tm, (d, ob) :: st.hp⟩ k Q) : callD C D w (some (f, args)) d r st k Q :=
  .inr (.inl ⟨ts, d, v, ob, hc, rfl, hE, hn, hk⟩)
/-- A call that is handed one object and gives one in its place, in a region that draws its order. -/
theorem mover_intro (m : Nat) {f : Nat} {args args0 : List V} {v : V} {ob0 ob1 : Ob} (hE : C.ef f args0 [(far, ob0)] v [(d, ob1)]) (ha : args = V.renL (qf m) args0) (hf : nmFar args0 = true) (hm : look st.hp m = some (ob0.ren (qf m))) (hn : (look st.hp d).isNone = true)
    (hk : dopsR C D r ⟨(d, v.ren (qf m)) :: st.tm, (d, ob1.ren (qf m)) :: drop st.hp m⟩ k Q) : callD C D true (some (f, args)) d r st k Q :=
  .inr (.inr ⟨rfl, args0, d, m, ob0, ob1, v, rfl, hE, ha, hf, hm, hn, hk⟩)

/-- A call, by the callee's contract of memory: ns are the names of what comes new, q tells the contract's names. -/
theorem eff_intro {x : Option (Nat × List V)} {i : Ins} (ns : List Nat) (q : Nat → Nat) {f : Nat} {args args0 : List V} {hp0 hp1 : Hp} {y : V} (hE : C.ef f args0 hp0 y hp1) (hx : x ≠ none) (hc : callee (clean ns st).tm i = some (f, args)) (hns : ∀ n ∈ ns, n < far) (hq : ∀ n, n < far → q n = n)
    (ha : args = V.renL q args0) (h0 : ∀ x ∈ hp0, look (clean ns st).hp (q x.1) = some (x.2.ren q)) (hn0 : (hp0.map fun x => q x.1).Nodup) (hn1 : (hp1.map fun x => q x.1).Nodup) (hnew : ∀ x ∈ hp1, x.1 < far → x.1 ∈ ns)
    (hk : opsR C D r ⟨(d, y.ren q) :: (clean ns st).tm, renHp q hp1 ++ dropL (hp0.map fun x => q x.1) (clean ns st).hp⟩ k Q) : callR C D x d i r st k Q := by
  unfold callR
  cases x with
  | none => exact (hx rfl).elim
  | some x =>
    refine .inr ⟨id, st, ns, q, f, args, args0, hp0, y, hp1, .inl rfl, hns, hc, hE, by rw [ha, renL_length], fun j v u hv hu => ?_, fun x hx => ⟨_, h0 x hx, .refl _⟩, hn0, hn1, hnew, hq, hk⟩
    rw [ha, renL_get, hu] at hv; cases hv; exact .refl _

@[simp] theorem s_mv (d : Nat) (x : O) : opsR C D (o1 d (.mv x) :: r) st k Q = optR C D (ev (.mv x) d st.tm (look st.hp)) d r st k Q := opsR_plain (by rfl)
@[simp] theorem d_mv (d : Nat) (x : O) : dopsR C D (o1 d (.mv x) :: r) st k Q = optD C D (ev (.mv x) d st.tm (look st.hp)) d r st k Q := dopsR_plain (by rfl)
@[simp] theorem s_pick (d : Nat) (c a b : O) : opsR C D (o1 d (.pick c a b) :: r) st k Q = optR C D (ev (.pick c a b) d st.tm (look st.hp)) d r st k Q := opsR_plain (by rfl)
@[simp] theorem d_pick (d : Nat) (c a b : O) : dopsR C D (o1 d (.pick c a b) :: r) st k Q = optD C D (ev (.pick c a b) d st.tm (look st.hp)) d r st k Q := dopsR_plain (by rfl)
@[simp] theorem s_new (d : Nat) (zero : List T) : opsR C D (o1 d (.new zero) :: r) st k Q = optR C D (ev (.new zero) d st.tm (look st.hp)) d r st k Q := opsR_plain (by rfl)
@[simp] theorem d_new (d : Nat) (zero : List T) : dopsR C D (o1 d (.new zero) :: r) st k Q = optD C D (ev (.new zero) d st.tm (look st.hp)) d r st k Q := dopsR_plain (by rfl)
@[simp] theorem s_box (d : Nat) (agg : Bool) (n : Nat) (x : O) : opsR C D (o1 d (.box agg n x) :: r) st k Q = optR C D (ev (.box agg n x) d st.tm (look st.hp)) d r st k Q := opsR_plain (by rfl)
@[simp] theorem d_box (d : Nat) (agg : Bool) (n : Nat) (x : O) : dopsR C D (o1 d (.box agg n x) :: r) st k Q = optD C D (ev (.box agg n x) d st.tm (look st.hp)) d r st k Q := dopsR_plain (by rfl)
@[simp] theorem s_ld (d : Nat) (agg : Bool) (n : Nat) (x : O) : opsR C D (o1 d (.ld agg n x) :: r) st k Q = optR C D (ev (.ld agg n x) d st.tm (look st.hp)) d r st k Q := opsR_plain (by rfl)
@[simp] theorem d_ld (d : Nat) (agg : Bool) (n : Nat) (x : O) : dopsR C D (o1 d (.ld agg n x) :: r) st k Q = optD C D (ev (.ld agg n x) d st.tm (look st.hp)) d r st k Q := dopsR_plain (by rfl)
@[simp] theorem s_fa (d : Nat) (off : Nat) (x : O) : opsR C D (o1 d (.fa off x) :: r) st k Q = optR C D (ev (.fa off x) d st.tm (look st.hp)) d r st k Q := opsR_plain (by rfl)
@[simp] theorem d_fa (d : Nat) (off : Nat) (x : O) : dopsR C D (o1 d (.fa off x) :: r) st k Q = optD C D (ev (.fa off x) d st.tm (look st.hp)) d r st k Q := dopsR_plain (by rfl)
@[simp] theorem s_ia (d : Nat) (z : Nat) (x i : O) : opsR C D (o1 d (.ia z x i) :: r) st k Q = optR C D (ev (.ia z x i) d st.tm (look st.hp)) d r st k Q := opsR_plain (by rfl)
@[simp] theorem d_ia (d : Nat) (z : Nat) (x i : O) : dopsR C D (o1 d (.ia z x i) :: r) st k Q = optD C D (ev (.ia z x i) d st.tm (look st.hp)) d r st k Q := dopsR_plain (by rfl)
@[simp] theorem s_ixs (d : Nat) (x i : O) : opsR C D (o1 d (.ixs x i) :: r) st k Q = optR C D (ev (.ixs x i) d st.tm (look st.hp)) d r st k Q := opsR_plain (by rfl)
@[simp] theorem d_ixs (d : Nat) (x i : O) : dopsR C D (o1 d (.ixs x i) :: r) st k Q = optD C D (ev (.ixs x i) d st.tm (look st.hp)) d r st k Q := dopsR_plain (by rfl)
@[simp] theorem s_len (d : Nat) (x : O) : opsR C D (o1 d (.len x) :: r) st k Q = optR C D (ev (.len x) d st.tm (look st.hp)) d r st k Q := opsR_plain (by rfl)
@[simp] theorem d_len (d : Nat) (x : O) : dopsR C D (o1 d (.len x) :: r) st k Q = optD C D (ev (.len x) d st.tm (look st.hp)) d r st k Q := dopsR_plain (by rfl)
@[simp] theorem s_lens (d : Nat) (x : O) : opsR C D (o1 d (.lens x) :: r) st k Q = optR C D (ev (.lens x) d st.tm (look st.hp)) d r st k Q := opsR_plain (by rfl)
@[simp] theorem d_lens (d : Nat) (x : O) : dopsR C D (o1 d (.lens x) :: r) st k Q = optD C D (ev (.lens x) d st.tm (look st.hp)) d r st k Q := dopsR_plain (by rfl)
@[simp] theorem s_bin (d : Nat) (op : BinOp) (x y : O) : opsR C D (o1 d (.bin op x y) :: r) st k Q = optR C D (ev (.bin op x y) d st.tm (look st.hp)) d r st k Q := opsR_plain (by rfl)
@[simp] theorem d_bin (d : Nat) (op : BinOp) (x y : O) : dopsR C D (o1 d (.bin op x y) :: r) st k Q = optD C D (ev (.bin op x y) d st.tm (look st.hp)) d r st k Q := dopsR_plain (by rfl)
@[simp] theorem s_beq (d : Nat) (neg : Bool) (x y : O) : opsR C D (o1 d (.beq neg x y) :: r) st k Q = optR C D (ev (.beq neg x y) d st.tm (look st.hp)) d r st k Q := opsR_plain (by rfl)
@[simp] theorem d_beq (d : Nat) (neg : Bool) (x y : O) : dopsR C D (o1 d (.beq neg x y) :: r) st k Q = optD C D (ev (.beq neg x y) d st.tm (look st.hp)) d r st k Q := dopsR_plain (by rfl)
@[simp] theorem s_eqs (d : Nat) (neg : Bool) (ks : List Nat) (x y : O) : opsR C D (o1 d (.eqs neg ks x y) :: r) st k Q = optR C D (ev (.eqs neg ks x y) d st.tm (look st.hp)) d r st k Q := opsR_plain (by rfl)
@[simp] theorem d_eqs (d : Nat) (neg : Bool) (ks : List Nat) (x y : O) : dopsR C D (o1 d (.eqs neg ks x y) :: r) st k Q = optD C D (ev (.eqs neg ks x y) d st.tm (look st.hp)) d r st k Q := dopsR_plain (by rfl)
@[simp] theorem s_isnil (d : Nat) (neg : Bool) (q : Nat) (x : O) : opsR C D (o1 d (.isnil neg q x) :: r) st k Q = optR C D (ev (.isnil neg q x) d st.tm (look st.hp)) d r st k Q := opsR_plain (by rfl)
@[simp] theorem d_isnil (d : Nat) (neg : Bool) (q : Nat) (x : O) : dopsR C D (o1 d (.isnil neg q x) :: r) st k Q = optD C D (ev (.isnil neg q x) d st.tm (look st.hp)) d r st k Q := dopsR_plain (by rfl)
@[simp] theorem s_not (d : Nat) (x : O) : opsR C D (o1 d (.not x) :: r) st k Q = optR C D (ev (.not x) d st.tm (look st.hp)) d r st k Q := opsR_plain (by rfl)
@[simp] theorem d_not (d : Nat) (x : O) : dopsR C D (o1 d (.not x) :: r) st k Q = optD C D (ev (.not x) d st.tm (look st.hp)) d r st k Q := dopsR_plain (by rfl)
@[simp] theorem s_neg (d : Nat) (x : O) : opsR C D (o1 d (.neg x) :: r) st k Q = optR C D (ev (.neg x) d st.tm (look st.hp)) d r st k Q := opsR_plain (by rfl)
@[simp] theorem d_neg (d : Nat) (x : O) : dopsR C D (o1 d (.neg x) :: r) st k Q = optD C D (ev (.neg x) d st.tm (look st.hp)) d r st k Q := dopsR_plain (by rfl)
@[simp] theorem s_cvt (d : Nat) (q : IntKind) (x : O) : opsR C D (o1 d (.cvt q x) :: r) st k Q = optR C D (ev (.cvt q x) d st.tm (look st.hp)) d r st k Q := opsR_plain (by rfl)
@[simp] theorem d_cvt (d : Nat) (q : IntKind) (x : O) : dopsR C D (o1 d (.cvt q x) :: r) st k Q = optD C D (ev (.cvt q x) d st.tm (look st.hp)) d r st k Q := dopsR_plain (by rfl)
@[simp] theorem d_bs (d : Nat) (ty z n : Nat) (parts : List O) : dopsR C D (o1 d (.bs ty z n parts) :: r) st k Q = optD C D (ev (.bs ty z n parts) d st.tm (look st.hp)) d r st k Q := dopsR_plain (by rfl)
@[simp] theorem s_bld (d : Nat) (zero : List T) (parts : List (Nat × Nat × O)) : opsR C D (o1 d (.bld zero parts) :: r) st k Q = optR C D (ev (.bld zero parts) d st.tm (look st.hp)) d r st k Q := opsR_plain (by rfl)
@[simp] theorem d_bld (d : Nat) (zero : List T) (parts : List (Nat × Nat × O)) : dopsR C D (o1 d (.bld zero parts) :: r) st k Q = optD C D (ev (.bld zero parts) d st.tm (look st.hp)) d r st k Q := dopsR_plain (by rfl)
@[simp] theorem s_ext (d : Nat) (i : Nat) (x : O) : opsR C D (o1 d (.ext i x) :: r) st k Q = optR C D (ev (.ext i x) d st.tm (look st.hp)) d r st k Q := opsR_plain (by rfl)
@[simp] theorem d_ext (d : Nat) (i : Nat) (x : O) : dopsR C D (o1 d (.ext i x) :: r) st k Q = optD C D (ev (.ext i x) d st.tm (look st.hp)) d r st k Q := dopsR_plain (by rfl)
@[simp] theorem s_fld (d : Nat) (agg : Bool) (n off : Nat) (x : O) : opsR C D (o1 d (.fld agg n off x) :: r) st k Q = optR C D (ev (.fld agg n off x) d st.tm (look st.hp)) d r st k Q := opsR_plain (by rfl)
@[simp] theorem d_fld (d : Nat) (agg : Bool) (n off : Nat) (x : O) : dopsR C D (o1 d (.fld agg n off x) :: r) st k Q = optD C D (ev (.fld agg n off x) d st.tm (look st.hp)) d r st k Q := dopsR_plain (by rfl)
@[simp] theorem s_sl (d : Nat) (z : Nat) (x : O) (lo hi : Option O) : opsR C D (o1 d (.sl z x lo hi) :: r) st k Q = optR C D (ev (.sl z x lo hi) d st.tm (look st.hp)) d r st k Q := opsR_plain (by rfl)
@[simp] theorem d_sl (d : Nat) (z : Nat) (x : O) (lo hi : Option O) : dopsR C D (o1 d (.sl z x lo hi) :: r) st k Q = optD C D (ev (.sl z x lo hi) d st.tm (look st.hp)) d r st k Q := dopsR_plain (by rfl)
@[simp] theorem s_sls (d : Nat) (x : O) (lo hi : Option O) : opsR C D (o1 d (.sls x lo hi) :: r) st k Q = optR C D (ev (.sls x lo hi) d st.tm (look st.hp)) d r st k Q := opsR_plain (by rfl)
@[simp] theorem d_sls (d : Nat) (x : O) (lo hi : Option O) : dopsR C D (o1 d (.sls x lo hi) :: r) st k Q = optD C D (ev (.sls x lo hi) d st.tm (look st.hp)) d r st k Q := dopsR_plain (by rfl)
@[simp] theorem s_app (d : Nat) (ty z by_ : Nat) (x y : O) : opsR C D (o1 d (.app ty z by_ x y) :: r) st k Q = optR C D (ev (.app ty z by_ x y) d st.tm (look st.hp)) d r st k Q := opsR_plain (by rfl)
@[simp] theorem d_app (d : Nat) (ty z by_ : Nat) (x y : O) : dopsR C D (o1 d (.app ty z by_ x y) :: r) st k Q = optD C D (ev (.app ty z by_ x y) d st.tm (look st.hp)) d r st k Q := dopsR_plain (by rfl)
@[simp] theorem s_mk (d : Nat) (ty z by_ : Nat) (zero : List T) (len cap : O) : opsR C D (o1 d (.mk ty z by_ zero len cap) :: r) st k Q = optR C D (ev (.mk ty z by_ zero len cap) d st.tm (look st.hp)) d r st k Q := opsR_plain (by rfl)
@[simp] theorem d_mk (d : Nat) (ty z by_ : Nat) (zero : List T) (len cap : O) : dopsR C D (o1 d (.mk ty z by_ zero len cap) :: r) st k Q = optD C D (ev (.mk ty z by_ zero len cap) d st.tm (look st.hp)) d r st k Q := dopsR_plain (by rfl)
@[simp] theorem s_mkf (d : Nat) (f : Nat) (caps : List O) : opsR C D (o1 d (.mkf f caps) :: r) st k Q = optR C D (ev (.mkf f caps) d st.tm (look st.hp)) d r st k Q := opsR_plain (by rfl)
@[simp] theorem d_mkf (d : Nat) (f : Nat) (caps : List O) : dopsR C D (o1 d (.mkf f caps) :: r) st k Q = optD C D (ev (.mkf f caps) d st.tm (look st.hp)) d r st k Q := dopsR_plain (by rfl)
@[simp] theorem s_mn (d : Nat) (x y : O) : opsR C D (o1 d (.mn x y) :: r) st k Q = optR C D (ev (.mn x y) d st.tm (look st.hp)) d r st k Q := opsR_plain (by rfl)
@[simp] theorem d_mn (d : Nat) (x y : O) : dopsR C D (o1 d (.mn x y) :: r) st k Q = optD C D (ev (.mn x y) d st.tm (look st.hp)) d r st k Q := dopsR_plain (by rfl)
@[simp] theorem s_mx (d : Nat) (x y : O) : opsR C D (o1 d (.mx x y) :: r) st k Q = optR C D (ev (.mx x y) d st.tm (look st.hp)) d r st k Q := opsR_plain (by rfl)
@[simp] theorem d_mx (d : Nat) (x y : O) : dopsR C D (o1 d (.mx x y) :: r) st k Q = optD C D (ev (.mx x y) d st.tm (look st.hp)) d r st k Q := dopsR_plain (by rfl)
@[simp] theorem s_nck (d : Nat) (x : O) : opsR C D (o1 d (.nck x) :: r) st k Q = optR C D (ev (.nck x) d st.tm (look st.hp)) d r st k Q := opsR_plain (by rfl)
@[simp] theorem d_nck (d : Nat) (x : O) : dopsR C D (o1 d (.nck x) :: r) st k Q = optD C D (ev (.nck x) d st.tm (look st.hp)) d r st k Q := dopsR_plain (by rfl)
@[simp] theorem s_clr (d : Nat) (z : Nat) (zero : List T) (x : O) : opsR C D (o1 d (.clr z zero x) :: r) st k Q = optR C D (ev (.clr z zero x) d st.tm (look st.hp)) d r st k Q := opsR_plain (by rfl)
@[simp] theorem d_clr (d : Nat) (z : Nat) (zero : List T) (x : O) : dopsR C D (o1 d (.clr z zero x) :: r) st k Q = optD C D (ev (.clr z zero x) d st.tm (look st.hp)) d r st k Q := dopsR_plain (by rfl)
@[simp] theorem s_ldf (d : Nat) (F : List Nat) (agg : Bool) (n : Nat) (x : O) : opsR C D (o1 d (.ldf F agg n x) :: r) st k Q = optR C D (ev (.ldf F agg n x) d st.tm (look st.hp)) d r st k Q := opsR_plain (by rfl)
@[simp] theorem d_ldf (d : Nat) (F : List Nat) (agg : Bool) (n : Nat) (x : O) : dopsR C D (o1 d (.ldf F agg n x) :: r) st k Q = optD C D (ev (.ldf F agg n x) d st.tm (look st.hp)) d r st k Q := dopsR_plain (by rfl)
@[simp] theorem s_ldc (d : Nat) (agg : Bool) (n : Nat) (x : O) : opsR C D (o1 d (.ldc agg n x) :: r) st k Q = optR C D (ev (.ldc agg n x) d st.tm (look st.hp)) d r st k Q := opsR_plain (by rfl)
@[simp] theorem d_ldc (d : Nat) (agg : Bool) (n : Nat) (x : O) : dopsR C D (o1 d (.ldc agg n x) :: r) st k Q = optD C D (ev (.ldc agg n x) d st.tm (look st.hp)) d r st k Q := dopsR_plain (by rfl)
@[simp] theorem s_appc (d : Nat) (ty z by_ : Nat) (x y : O) : opsR C D (o1 d (.appc ty z by_ x y) :: r) st k Q = optR C D (ev (.appc ty z by_ x y) d st.tm (look st.hp)) d r st k Q := opsR_plain (by rfl)
@[simp] theorem d_appc (d : Nat) (ty z by_ : Nat) (x y : O) : dopsR C D (o1 d (.appc ty z by_ x y) :: r) st k Q = optD C D (ev (.appc ty z by_ x y) d st.tm (look st.hp)) d r st k Q := dopsR_plain (by rfl)

/-- The function's end: its result closed. -/
def retR (v : Option V) (h : Hp) (r : T) : Prop := ∃ x y, v = some x ∧ clo 40 (look h) x = some y ∧ leT y r

@[simp] theorem Ret_ret (rs : List RV) (y : T) : bk C D [] (Ret rs y) .ret st = retR (retV rs st) st.hp y := by
  show Ret rs y .ret st = _
  simp [Ret, retR]
@[simp] theorem Ret_nrm (rs : List RV) (y : T) : bk C D [] (Ret rs y) .nrm st = retR (retV rs st) st.hp y := by
  show Ret rs y .nrm st = _
  simp [Ret, retR]
@[simp] theorem retR_t (x y : T) (h : Hp) : retR (some (.t x)) h y = leT x y := by simp [retR, clo]
theorem retR_v (v : V) (h : Hp) (y : T) : retR (some v) h y = ∃ x, clo 40 (look h) v = some x ∧ leT x y := by
  simp [retR]
theorem retR_of {v : V} {h : Hp} {r y : T} (hc : clo 40 (look h) v = some y) (hl : leT y r) : retR (some v) h r := ⟨v, y, rfl, hc, hl⟩
end

theorem wr_id {n : Int} (h1 : -9223372036854775808 ≤ n) (h2 : n ≤ 9223372036854775807) : wr .i64 n = n := by
  unfold wr; rw [IntKind.wrap_i64]; omega

def same : Nat → Nat := fun n => n

mutual
theorem ren_same : ∀ v : V, v.ren same = v
  | .und => rfl
  | .t _ => rfl
  | .ptr _ _ _ => rfl
  | .slc _ _ _ _ => rfl
  | .fnv f cs => by simp [V.ren, renL_same cs]
  | .agg cs => by simp [V.ren, renL_same cs]
  | .tup cs => by simp [V.ren, renL_same cs]
theorem renL_same : ∀ vs : List V, V.renL same vs = vs
  | [] => rfl
  | v :: r => by simp [V.renL, ren_same v, renL_same r]
end

/-! Lookups. -/
@[simp] theorem get_cons (k n : Nat) (x : V) (r : Tm) : get ((k, x) :: r) n = if n = k then x else get r n := by
  unfold get; rw [look_cons]; by_cases h : n = k <;> simp [h]
@[simp] theorem get_nil (n : Nat) : get [] n = .und := (rfl)
@[simp] theorem lookH_cons (k n : Nat) (x : Ob) (r : Hp) : look ((k, x) :: r) n = if n = k then some x else look r n := look_cons k n x r
@[simp] theorem lookH_nil (n : Nat) : look ([] : Hp) n = none := (rfl)
@[simp] theorem opd_t (tm : Tm) (i : Nat) : opd tm (.t i) = get tm i := (rfl)
@[simp] theorem opd_c (tm : Tm) (x : T) : opd tm (.c x) = .t x := (rfl)
@[simp] theorem opd_cI (tm : Tm) (n : Int) : opd tm (cI n) = .t (.int .i64 n) := (rfl)
@[simp] theorem nextS_non (v : V) (d : Nat) (st : St) : nextS (v, .non) d st = ⟨(d, v) :: st.tm, st.hp⟩ := (rfl)
@[simp] theorem nextD_non (v : V) (d : Nat) (st : St) : nextD (v, .non) d st = ⟨(d, v) :: st.tm, st.hp⟩ := (rfl)
@[simp] theorem nextS_add (v : V) (o : Ob) (d : Nat) (st : St) : nextS (v, .add o) d st = ⟨(d, v) :: woTm d st.tm, (d, o) :: woHp d st.hp⟩ := (rfl)
@[simp] theorem nextD_add (v : V) (o : Ob) (d : Nat) (st : St) : nextD (v, .add o) d st = ⟨(d, v) :: st.tm, (d, o) :: st.hp⟩ := (rfl)
@[simp] theorem nextS_mov (v : V) (m : Nat) (o : Ob) (d : Nat) (st : St) : nextS (v, .mov m o) d st = ⟨(d, v) :: woTm d st.tm, (d, o) :: woHp d (drop st.hp m)⟩ := (rfl)
@[simp] theorem nextS_del (v : V) (m d : Nat) (st : St) : nextS (v, .del m) d st = ⟨(d, v) :: st.tm, drop st.hp m⟩ := (rfl)
@[simp] theorem nextD_del (v : V) (m d : Nat) (st : St) : nextD (v, .del m) d st = ⟨(d, v) :: st.tm, drop st.hp m⟩ := (rfl)
@[simp] theorem fresh_del (m : Nat) (d : Option Nat) (h : Hp) : (Ef.del m).fresh d h = true := (rfl)
@[simp] theorem nextD_mov (v : V) (m : Nat) (o : Ob) (d : Nat) (st : St) : nextD (v, .mov m o) d st = ⟨(d, v) :: st.tm, (d, o) :: drop st.hp m⟩ := (rfl)
@[simp] theorem fresh_non (d : Option Nat) (h : Hp) : Ef.non.fresh d h = true := (rfl)
@[simp] theorem fresh_add (o : Ob) (d : Nat) (h : Hp) : (Ef.add o).fresh (some d) h = (look h d).isNone := (rfl)
@[simp] theorem fresh_mov (m : Nat) (o : Ob) (d : Nat) (h : Hp) : (Ef.mov m o).fresh (some d) h = (look h d).isNone := (rfl)
@[simp] theorem hp_non (d : Nat) (h : Hp) : Ef.non.hp d h = h := (rfl)
@[simp] theorem hp_set (m : Nat) (o : Ob) (d : Nat) (h : Hp) : (Ef.set m o).hp d h = (m, o) :: drop h m := (rfl)
@[simp] theorem woTm_nil (n : Nat) : woTm n [] = [] := (rfl)
@[simp] theorem woTm_cons (n k : Nat) (v : V) (r : Tm) : woTm n ((k, v) :: r) = (k, v.wo n) :: woTm n r := (rfl)
@[simp] theorem woHp_nil (n : Nat) : woHp n [] = [] := (rfl)
@[simp] theorem woHp_cons (n k : Nat) (o : Ob) (r : Hp) : woHp n ((k, o) :: r) = if k = n then woHp n r else (k, o.wo n) :: woHp n r := by
  by_cases h : k = n
  · subst h; simp [woHp]
  · simp [woHp, beq_no h, h]
@[simp] theorem dropH_nil (n : Nat) : drop ([] : Hp) n = [] := (rfl)
@[simp] theorem dropH_cons (n k : Nat) (o : Ob) (r : Hp) : drop ((k, o) :: r) n = if k = n then drop r n else (k, o) :: drop r n := by
  by_cases h : k = n
  · subst h; simp [drop]
  · simp [drop, beq_no h, h]
@[simp] theorem wo_t (n : Nat) (x : T) : (V.t x).wo n = .t x := (rfl)
@[simp] theorem wo_und (n : Nat) : V.und.wo n = .und := (rfl)
@[simp] theorem wo_ptr (n m i j : Nat) : (V.ptr m i j).wo n = if m = n then .und else .ptr m i j := by
  by_cases h : m = n
  · subst h; simp [V.wo]
  · simp [V.wo, beq_no h, h]
@[simp] theorem wo_slc (n m z i j : Nat) : (V.slc m z i j).wo n = if m = n then .und else .slc m z i j := by
  by_cases h : m = n
  · subst h; simp [V.wo]
  · simp [V.wo, beq_no h, h]
@[simp] theorem wo_fnv (n f : Nat) (cs : List V) : (V.fnv f cs).wo n = .fnv f (V.woL n cs) := (rfl)
@[simp] theorem wo_agg (n : Nat) (cs : List V) : (V.agg cs).wo n = .agg (V.woL n cs) := (rfl)
@[simp] theorem wo_tup (n : Nat) (cs : List V) : (V.tup cs).wo n = .tup (V.woL n cs) := (rfl)
@[simp] theorem woL_nil (n : Nat) : V.woL n [] = [] := (rfl)
@[simp] theorem woL_cons (n : Nat) (v : V) (r : List V) : V.woL n (v :: r) = v.wo n :: V.woL n r := (rfl)
@[simp] theorem woO_box (n : Nat) (cs : List V) : (Ob.box cs).wo n = .box (V.woL n cs) := (rfl)
@[simp] theorem woO_row (n ty z : Nat) (es : List (List T)) : (Ob.row ty z es).wo n = .row ty z es := (rfl)

@[simp] theorem news_nil : news [] = [] := (rfl)
def newOf (d : Nat) (b : Bool) (ns : List Nat) : List Nat := match b with | true => d :: ns | false => ns
@[simp] theorem newOf_t (d : Nat) (ns : List Nat) : newOf d true ns = d :: ns := (rfl)
@[simp] theorem newOf_f (d : Nat) (ns : List Nat) : newOf d false ns = ns := (rfl)
theorem news_cons (d : Nat) (i : Ins) (g : Option (Nat × Bool)) (a : List Nat) (r : List OpI) : news (⟨i, some d, g, a⟩ :: r) = newOf d i.makes (news r) := by
  unfold news; rw [List.filterMap_cons]; cases i.makes <;> rfl
@[simp] theorem news_oa (d : Nat) (a : List Nat) (i : Ins) (r : List OpI) : news (oa d a i :: r) = newOf d i.makes (news r) := news_cons ..
@[simp] theorem news_o1 (d : Nat) (i : Ins) (r : List OpI) : news (o1 d i :: r) = newOf d i.makes (news r) := news_cons ..
@[simp] theorem news_oga (d g : Nat) (w : Bool) (a : List Nat) (i : Ins) (r : List OpI) : news (oga d g w a i :: r) = newOf d i.makes (news r) := news_cons ..
@[simp] theorem news_og (d g : Nat) (w : Bool) (i : Ins) (r : List OpI) : news (og d g w i :: r) = newOf d i.makes (news r) := news_cons ..
@[simp] theorem news_ob (a : List Nat) (i : Ins) (r : List OpI) : news (ob a i :: r) = news r := by
  unfold news ob; rw [List.filterMap_cons]; cases i.makes <;> rfl
@[simp] theorem news_o0 (i : Ins) (r : List OpI) : news (o0 i :: r) = news r := by
  unfold news o0; rw [List.filterMap_cons]; cases i.makes <;> rfl
@[simp] theorem clean_nil (st : St) : clean [] st = st := (rfl)
@[simp] theorem clean_cons (n : Nat) (ns : List Nat) (st : St) : clean (n :: ns) st = clean ns ⟨woTm n st.tm, woHp n st.hp⟩ := (rfl)
@[simp] theorem cmp_eql (a b : Int) : intCmp .eql a b = some (decide (a = b)) := by
  simp only [intCmp]; by_cases h : a = b <;> simp [h]
@[simp] theorem cmp_neq (a b : Int) : intCmp .neq a b = some (!decide (a = b)) := by
  simp only [intCmp]; by_cases h : a = b <;> simp [h, bne]
@[simp] theorem cmp_lss (a b : Int) : intCmp .lss a b = some (decide (a < b)) := (rfl)
@[simp] theorem cmp_leq (a b : Int) : intCmp .leq a b = some (decide (a ≤ b)) := (rfl)
@[simp] theorem cmp_gtr (a b : Int) : intCmp .gtr a b = some (decide (b < a)) := (rfl)
@[simp] theorem cmp_geq (a b : Int) : intCmp .geq a b = some (decide (b ≤ a)) := (rfl)
@[simp] theorem leV_self (v : V) : leV v v = True := eq_true (.refl v)
@[simp] theorem leT_self (x : T) : leT x x = True := eq_true (.refl x)
theorem leV_iff_t (x y : T) : leV (.t x) (.t y) ↔ leT x y := ⟨fun h => by cases h with | refl => exact .refl _ | t _ _ h => exact h, fun h => .t x y h⟩
@[simp] theorem leC_t (p : Nat → Nat) (h : Lk) (x y : T) : leC p h (.t x) (.t y) ↔ leT x y := by
  unfold leC
  rw [show V.ren p (.t y) = .t y from rfl, leV_iff_t]
  refine ⟨fun q => ?_, .inl⟩
  rcases q with q | ⟨a, b, e1, e2, q⟩
  · exact q
  · cases e1; simp [clo] at e2; subst e2; exact q
@[simp] theorem leC_und (p : Nat → Nat) (h : Lk) (v : V) : leC p h v .und = True := eq_true (.inl (.und v))
@[simp] theorem leC_ptr (p : Nat → Nat) (h : Lk) (k i j m i' j' : Nat) : leC p h (.ptr k i j) (.ptr m i' j') ↔ k = p m ∧ i = i' ∧ j = j' := by
  refine ⟨fun q => ?_, fun ⟨h1, h2, h3⟩ => by subst h1 h2 h3; exact .inl (.refl _)⟩
  rcases q with q | ⟨a, b, e1, _⟩
  · rw [show V.ren p (.ptr m i' j') = .ptr (p m) i' j' from rfl] at q; cases q; exact ⟨rfl, rfl, rfl⟩
  · cases e1
@[simp] theorem leC_slc (p : Nat → Nat) (h : Lk) (k z i l m z' i' l' : Nat) : leC p h (.slc k z i l) (.slc m z' i' l') ↔ k = p m ∧ z = z' ∧ i = i' ∧ l = l' := by
  refine ⟨fun q => ?_, fun ⟨h1, h2, h3, h4⟩ => by subst h1 h2 h3 h4; exact .inl (.refl _)⟩
  rcases q with q | ⟨a, b, e1, _⟩
  · rw [show V.ren p (.slc m z' i' l') = .slc (p m) z' i' l' from rfl] at q; cases q; exact ⟨rfl, rfl, rfl, rfl⟩
  · cases e1
theorem leC_self (p : Nat → Nat) (h : Lk) (v : V) (hr : v.ren p = v) : leC p h v v := .inl (by rw [hr]; exact .refl v)
theorem leC_clo {p : Nat → Nat} {h : Lk} {v : V} {x y : T} (hc : clo 40 h v = some x) (hl : leT x y) : leC p h v (.t y) := .inr ⟨x, y, rfl, hc, hl⟩
theorem leC_iff_t (p : Nat → Nat) (h : Lk) (v : V) (y : T) (hv : ∀ x, v ≠ .t x) : leC p h v (.t y) ↔ ∃ x, clo 40 h v = some x ∧ leT x y := by
  unfold leC
  refine ⟨fun q => ?_, fun ⟨x, a, b⟩ => .inr ⟨x, y, rfl, a, b⟩⟩
  rcases q with q | ⟨a, b, e1, e2, q⟩
  · rw [show V.ren p (.t y) = .t y from rfl] at q
    cases q with
    | refl => exact (hv _ rfl).elim
    | t a b h => exact (hv _ rfl).elim
  · cases e1; exact ⟨a, e2, q⟩
@[simp] theorem leC_slc_t (p : Nat → Nat) (h : Lk) (k z i l : Nat) (y : T) : leC p h (.slc k z i l) (.t y) ↔ ∃ x, clo 40 h (.slc k z i l) = some x ∧ leT x y := leC_iff_t p h _ y (fun _ e => by cases e)
@[simp] theorem leC_ptr_t (p : Nat → Nat) (h : Lk) (k i j : Nat) (y : T) : leC p h (.ptr k i j) (.t y) ↔ ∃ x, clo 40 h (.ptr k i j) = some x ∧ leT x y := leC_iff_t p h _ y (fun _ e => by cases e)
@[simp] theorem leC_fnv_t (p : Nat → Nat) (h : Lk) (f : Nat) (cs : List V) (y : T) : leC p h (.fnv f cs) (.t y) ↔ ∃ x, clo 40 h (.fnv f cs) = some x ∧ leT x y := leC_iff_t p h _ y (fun _ e => by cases e)
@[simp] theorem leC_agg_t (p : Nat → Nat) (h : Lk) (cs : List V) (y : T) : leC p h (.agg cs) (.t y) ↔ ∃ x, clo 40 h (.agg cs) = some x ∧ leT x y := leC_iff_t p h _ y (fun _ e => by cases e)
theorem leC_ren (p : Nat → Nat) (h : Lk) (v u : V) (hu : ∀ x, u ≠ .t x) (hu2 : u ≠ .und) : leC p h v u ↔ v = u.ren p := by
  unfold leC
  refine ⟨fun q => ?_, fun e => by rw [e]; exact .inl (.refl _)⟩
  rcases q with q | ⟨a, b, e1, _⟩
  · generalize hr : u.ren p = r at q
    cases q with
    | refl => exact rfl
    | und => cases u <;> simp [V.ren] at hr; exact (hu2 rfl).elim
    | t a b h => cases u <;> simp [V.ren] at hr; exact (hu _ rfl).elim
  · exact (hu _ e1).elim
@[simp] theorem leC_fnv (p : Nat → Nat) (h : Lk) (v : V) (g : Nat) (ds : List V) : leC p h v (.fnv g ds) ↔ v = .fnv g (V.renL p ds) := leC_ren p h v _ (fun _ e => by cases e) (fun e => by cases e)
@[simp] theorem leC_agg (p : Nat → Nat) (h : Lk) (v : V) (ds : List V) : leC p h v (.agg ds) ↔ v = .agg (V.renL p ds) := leC_ren p h v _ (fun _ e => by cases e) (fun e => by cases e)
@[simp] theorem leC_tup (p : Nat → Nat) (h : Lk) (v : V) (ds : List V) : leC p h v (.tup ds) ↔ v = .tup (V.renL p ds) := leC_ren p h v _ (fun _ e => by cases e) (fun e => by cases e)
@[simp] theorem leC_same (h : Lk) (v : V) : leC same h v v = True := eq_true (leC_self same h v (ren_same v))
@[simp] theorem leCs_nil (p : Nat → Nat) (h : Lk) : leCs p h [] [] = True := (rfl)
@[simp] theorem leCs_cons (p : Nat → Nat) (h : Lk) (v u : V) (r s : List V) : leCs p h (v :: r) (u :: s) ↔ leC p h v u ∧ leCs p h r s := Iff.rfl
@[simp] theorem leOC_box (p : Nat → Nat) (h : Lk) (cs ds : List V) : leOC p h (.box cs) (.box ds) = leCs p h cs ds := (rfl)
@[simp] theorem leOC_row (p : Nat → Nat) (h : Lk) (ty z : Nat) (es : List (List T)) (o : Ob) : leOC p h o (.row ty z es) ↔ leO o (.row ty z es) := by
  cases o <;> exact Iff.rfl
@[simp] theorem leCs_t (p : Nat → Nat) (h : Lk) : ∀ l : List T, leCs p h (l.map .t) (l.map .t) = True
  | [] => rfl
  | x :: r => by simp [leCs_t p h r]
theorem leCs_same (h : Lk) : ∀ l : List V, leCs same h l l
  | [] => trivial
  | x :: r => ⟨leC_self same h x (ren_same x), leCs_same h r⟩
@[simp] theorem leOC_same (h : Lk) (o : Ob) : leOC same h o o = True := by
  cases o with
  | box cs => exact eq_true (leCs_same h cs)
  | row ty z es => exact eq_true (.refl _)
@[simp] theorem renL_map_t (q : Nat → Nat) : ∀ l : List T, V.renL q (l.map .t) = l.map .t
  | [] => rfl
  | x :: r => by simp [V.renL, V.ren, renL_map_t q r]
@[simp] theorem leO_self (o : Ob) : leO o o = True := eq_true (.refl o)
@[simp] theorem same_id (n : Nat) : same n = n := (rfl)
@[simp] theorem left_def (p : Nat → Nat) (s s' : St) (n : Nat) : left p s s' n = if n ∈ s'.hp.map (fun x => p x.1) then none else look s.hp n := by
  unfold left
  by_cases h : n ∈ s'.hp.map (fun x => p x.1)
  · rw [contains_iff.2 h, if_pos h]
  · rw [if_neg h]; cases hq : (s'.hp.map fun x => p x.1).contains n with
    | true => exact (h (contains_iff.1 hq)).elim
    | false => rfl
@[simp] theorem qf_def (m n : Nat) : qf m n = if n = far then m else n := by
  by_cases e : n = far
  · rw [e, qf_far, if_pos rfl]
  · rw [qf_ne m e, if_neg e]
@[simp] theorem far_ne {n : Nat} (h : n < 1000) : (far = n) = False := eq_false (by unfold far; omega)
@[simp] theorem ne_far {n : Nat} (h : n < 1000) : (n = far) = False := eq_false (by unfold far; omega)
@[simp] theorem lessH_def (F : List Nat) (h : Lk) (m : Nat) : lessH F h m = if m ∈ F then none else h m := by
  unfold lessH
  by_cases e : m ∈ F
  · rw [if_pos e, show F.contains m = true by simpa using e]
  · rw [if_neg e, show F.contains m = false by simpa using e]
@[simp] theorem noH_def (m : Nat) : noH m = none := (rfl)
@[simp] theorem evCls_none : evCls none = none := (rfl)
@[simp] theorem evCls_add (n z i l ty k : Nat) (es : List (List T)) : evCls (some (.slc n z i l, .add (.row ty k es))) = some (.t (.lst z es), .non) := (rfl)
@[simp] theorem evCls_mov (n z i l m ty k : Nat) (es : List (List T)) : evCls (some (.slc n z i l, .mov m (.row ty k es))) = some (.t (.lst z es), .del m) := (rfl)
@[simp] theorem evCls_non (v : V) : evCls (some (v, .non)) = some (v, .non) := by cases v <;> rfl
@[simp] theorem evCls_ite (c : Prop) [Decidable c] (p : V × Ef) : evCls (if c then some p else none) = if c then evCls (some p) else none := by by_cases h : c <;> simp [h]
attribute [simp] ev par binT evLen evIa evLd evSl evSls evExt evFld evNck evNil evBox evApp evSt evClr part partT rows Ins.makes retV rvVs rvV mkAgg mkFn allT clo cloL elem noTup one V.cells callee bound V.num?
attribute [simp] leS ren_same renL_same woL_map_t V.ren Ob.ren V.renL

@[simp] def i64 (n : Int) : T := .int .i64 n
def ints (l : List Int) : T := .lst 1 (l.map fun n => [i64 n])

/-- Where a slice without elements may be nil or not: by both. -/
theorem pure_lst0 {P : Program} {f : FuncId} {r : T} (z : Nat) (xs ys : List T) (h1 : Pure P f (xs ++ .nils :: ys) r) (h2 : Pure P f (xs ++ .emp :: ys) r) : Pure P f (xs ++ .lst z [] :: ys) r := by
  refine ⟨h1.1, fun I w us hI hrel => ?_⟩
  obtain ⟨hs, hc⟩ := hrel
  obtain ⟨u, hu, hr⟩ := hc xs.length (.lst z []) (by simp)
  have go : ∀ x : T, RelT I w x u → RelTs I w (xs ++ x :: ys) us := by
    intro x hx
    refine ⟨by rw [hs]; simp, fun i y hy => ?_⟩
    by_cases e : i = xs.length
    · subst e
      simp at hy; subst hy
      exact ⟨u, hu, hx⟩
    · refine hc i y ?_
      rw [List.getElem?_append] at hy ⊢
      split
      · rename_i h; rw [if_pos h] at hy; exact hy
      · rename_i h
        rw [if_neg h] at hy
        obtain ⟨k, hk⟩ : ∃ k, i - xs.length = k + 1 := ⟨i - xs.length - 1, by omega⟩
        rw [hk] at hy ⊢
        simpa using hy
  cases hr with
  | lst0 _ a cap ha =>
    cases a with
    | none => rw [ha rfl] at hu go; exact h1.2 I w us hI (go _ .nils)
    | some a => exact h2.2 I w us hI (go _ (.emp a cap))
  | lst _ _ b o cap us' hl hm hb => exact h2.2 I w us hI (go _ (.emp _ _))

theorem Pure.le {P : Program} {f : FuncId} {args : List T} {r r' : T} (h : Pure P f args r) (l : leT r r') : Pure P f args r' :=
  ⟨h.1, fun I w us hI hrel => (h.2 I w us hI hrel).mono (by rintro e w' ⟨v, h1, h2, h3⟩; exact ⟨v, h1, h2, h3.le l⟩)⟩

/-- One name told anew. -/
def to (a b : Nat) : Nat → Nat := fun n => if n = a then b else n
@[simp] theorem to_self (a b : Nat) : to a b a = b := by simp [to]
theorem to_ne {a b n : Nat} (h : n ≠ a) : to a b n = n := by simp [to, h]
theorem to_far {a b : Nat} (ha : a < far) : ∀ n, far ≤ n → to a b n = n := fun n hn => to_ne (by omega)
@[simp] theorem beqN_self (n : Nat) : Nat.beq n n = true := Nat.beq_refl n

theorem retE_ret {C : Ctr} {D : List OpI → St → (St → Prop) → Prop} {st : St} {rs : List RV} {r v : V} {hp : Hp} (p : Nat → Nat) (hv : retV rs st = some v) (hf : ∀ n, far ≤ n → p n = n) (h1 : leC p (left p ⟨[(0, v)], st.hp⟩ ⟨[(0, r)], hp⟩) v r)
    (h2 : ∀ x ∈ hp, ∃ o, look st.hp (p x.1) = some o ∧ leOC p (left p ⟨[(0, v)], st.hp⟩ ⟨[(0, r)], hp⟩) o x.2) (h3 : (hp.map fun x => p x.1).Nodup) (h4 : r.all (okN hp) = true) (h5 : ∀ x ∈ hp, x.2.all (okN hp) = true) : bk C D [] (RetE rs r hp) .ret st ∧ bk C D [] (RetE rs r hp) .nrm st := by
  have : leS p ⟨[(0, v)], st.hp⟩ ⟨[(0, r)], hp⟩ := by
    refine ⟨fun x hx => ?_, h2, h3, hf⟩
    simp only [List.mem_singleton] at hx
    subst hx
    exact h1
  exact ⟨⟨trivial, v, p, hv, this, h4, h5⟩, ⟨trivial, v, p, hv, this, h4, h5⟩⟩

theorem pu_has (P : Program) : (Has P).pu = Pure P := rfl
theorem ef_has (P : Program) : (Has P).ef = Eff P := rfl

/-- A function's contract, its code walked. -/
theorem walk_of {P : Program} (hm : P.follows .mixedOrders = true) {f : FuncId} {fn : Func} {cd : Cd} {rs : List RV} {args : List T} {r : T} (hf : P.funcs[f]? = some fn) (htr : tr P (fn.body.getD .skip) = some cd)
    (hok : (!(fn.name == "runtime.NumGoroutine") && fn.body.isSome && bndC okD fn.ntmps cd && Nat.ble args.length fn.ntmps) = true) (hrs : trRes P fn.results.toList = some rs)
    (hw : W (Has P) (drawW (Has P)) cd ⟨par 0 args, []⟩ (bk (Has P) (drawW (Has P)) [] (Ret rs r))) : Pure P f args r :=
  pure_of hm hf htr hok hrs hw

/-- The same of a function that is handed memory. -/
theorem walk_eff {P : Program} (hm : P.follows .mixedOrders = true) {f : FuncId} {fn : Func} {cd : Cd} {rs : List RV} {args : List V} {hp hp' : Hp} {r : V} (hf : P.funcs[f]? = some fn) (htr : tr P (fn.body.getD .skip) = some cd)
    (hok : (!(fn.name == "runtime.NumGoroutine") && fn.body.isSome && bndC okD fn.ntmps cd && Nat.ble args.length fn.ntmps) = true) (hrs : trRes P fn.results.toList = some rs)
    (hw : W (Has P) (drawW (Has P)) cd ⟨parV 0 args, hp⟩ (bk (Has P) (drawW (Has P)) [] (RetE rs r hp'))) : Eff P f args hp r hp' :=
  eff_of hm hf htr hok hrs hw

end Go.Eng
