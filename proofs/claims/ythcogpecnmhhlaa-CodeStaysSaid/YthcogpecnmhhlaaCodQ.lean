/- What the program's functions 21,8 compute (numbers of this seat): contracts, walked by the engine. -/
import Derived.Test.YthcogpecnmhhlaaEngU
import Derived.Test.YthcogpecnmhhlaaCodP
import Derived.Test.YthcogpecnmhhlaaProg
namespace Go.Eng
open Go Go.Proofs
set_option maxRecDepth 100000
set_option linter.all false
def c8 : Cd := (.seq (.reg [o1 1 (.box true 4 (.t 0)), o1 2 (.new [.str ByteArray.empty, .nils, .nils, .nils]), o1 3 (.mv (cI 0))] false) (.seq (.seq (.reg [o1 13 (.ld true 4 (.t 1)), o1 14 (.call 19 [(.t 13)]), o1 4 (.mv (.t 14))] false) (.seq (.reg [o1 15 (.mv (.t 4)), o1 16 (.bin .neq (.t 15) (cI 0))] false) (.cond (.t 16) (.seq (.reg [o1 17 (.bld [.str ByteArray.empty, .nils, .nils, .nils] []), o1 18 (.mv (.t 4)), o0 (.st 4 (.t 2) (.t 17)), o1 3 (.mv (.t 18))] false) .ret) .skip))) (.seq (.reg [o1 19 (.ld true 4 (.t 1)), o1 20 (.call 20 [(.t 19)]), o1 5 (.mv (.t 20))] false) (.seq (.reg [oa 21 [] (.fa 0 (.t 1)), oa 22 [0] (.ld false 1 (.t 21)), oa 23 [] (.fa 3 (.t 1)), oa 24 [2] (.ld false 1 (.t 23)), oa 25 [3] (.len (.t 24)), oa 26 [4, 4] (.mk 50 8 104 [.int .i64 0, .int .i64 0, .str ByteArray.empty, .int .i64 0, .int .i64 0, .int .i64 0, .nils, .nils] (.t 25) (.t 25)), oa 27 [1, 5] (.bld [.str ByteArray.empty, .nils, .nils, .nils] [(0, 1, (.t 22)), (3, 1, (.t 26))]), oa 6 [] (.new [.str ByteArray.empty, .nils, .nils, .nils]), ob [7, 6, 0, 1, 2, 3, 4, 5, 6, 7] (.st 4 (.t 6) (.t 27))] true) (.seq (.seq (.reg [o1 28 (.fa 1 (.t 1)), o1 29 (.ld false 1 (.t 28)), o1 30 (.len (.t 29)), o1 31 (.mv (cI 0))] false) (.blk 0 (.loop (.seq (.reg [o1 32 (.bin .lss (.t 31) (.t 30))] false) (.seq (.cond (.t 32) .skip (.exit 0)) (.seq (.blk 1 (.seq (.reg [o1 33 (.ia 2 (.t 29) (.t 31)), o1 34 (.ld true 2 (.t 33)), o1 8 (.new [.str ByteArray.empty, .nils]), o0 (.st 2 (.t 8) (.t 34))] false) (.reg [oa 35 [] (.fa 1 (.t 6)), oa 36 [0] (.ld false 1 (.t 35)), oa 37 [] (.fa 0 (.t 8)), oa 38 [2] (.ld false 1 (.t 37)), oa 39 [] (.fa 1 (.t 8)), oa 40 [4] (.ld false 1 (.t 39)), oa 41 [5] (.call 21 [(.t 40)]), oa 42 [3, 6] (.bld [.str ByteArray.empty, .nils] [(0, 1, (.t 38)), (1, 1, (.t 41))]), oa 43 [7] (.bs 42 2 1 [(.t 42)]), oa 44 [1, 8, 6] (.app 42 2 40 (.t 36) (.t 43)), oa 45 [0, 1, 2, 3, 4, 5, 6, 7, 8, 9] (.fa 1 (.t 6)), ob [10, 9, 9, 0, 1, 2, 3, 4, 5, 6, 7, 8, 9] (.st 1 (.t 45) (.t 44))] true))) (.reg [o1 46 (.bin .add (.t 31) (cI 1)), o1 31 (.mv (.t 46))] false))))))) (.seq (.seq (.reg [o1 47 (.fa 2 (.t 1)), o1 48 (.ld false 1 (.t 47)), o1 49 (.len (.t 48)), o1 50 (.mv (cI 0))] false) (.blk 2 (.loop (.seq (.reg [o1 51 (.bin .lss (.t 50) (.t 49))] false) (.seq (.cond (.t 51) .skip (.exit 2)) (.seq (.blk 3 (.seq (.reg [o1 52 (.ia 4 (.t 48) (.t 50)), o1 53 (.ld true 4 (.t 52)), o1 10 (.new [.str ByteArray.empty, .nils, .str ByteArray.empty, .int .i64 0]), o0 (.st 4 (.t 10) (.t 53))] false) (.seq (.reg [oa 54 [] (.fa 1 (.t 10)), oa 55 [0] (.ld false 1 (.t 54)), oa 56 [1] (.call 21 [(.t 55)]), oa 57 [] (.mv (.t 5)), oa 58 [] (.fa 3 (.t 10)), oa 59 [4] (.ld false 1 (.t 58)), oa 60 [3, 5] (.ia 1 (.t 57) (.t 59)), oa 61 [6] (.ldc false 1 (.t 60)), oa 62 [0, 1, 2, 4, 5] (.fa 1 (.t 10)), ob [8, 2, 2, 0, 1, 2, 4, 5] (.st 1 (.t 62) (.t 56)), oa 63 [0, 1, 2, 3, 4, 5, 6, 7, 8, 9] (.fa 3 (.t 10)), ob [10, 7, 9, 0, 1, 2, 3, 4, 5, 6, 7, 8, 9] (.st 1 (.t 63) (.t 61))] true) (.reg [o1 64 (.fa 2 (.t 6)), o1 65 (.ld false 1 (.t 64)), o1 66 (.ld true 4 (.t 10)), o1 67 (.bs 47 4 1 [(.t 66)]), o1 68 (.app 47 4 64 (.t 65) (.t 67)), o1 69 (.fa 2 (.t 6)), o0 (.st 1 (.t 69) (.t 68))] false)))) (.reg [o1 70 (.bin .add (.t 50) (cI 1)), o1 50 (.mv (.t 70))] false))))))) (.seq (.seq (.reg [o1 71 (.fa 3 (.t 1)), o1 72 (.ld false 1 (.t 71)), o1 73 (.len (.t 72)), o1 74 (.mv (cI 0))] false) (.blk 4 (.loop (.seq (.reg [o1 75 (.bin .lss (.t 74) (.t 73))] false) (.seq (.cond (.t 75) .skip (.exit 4)) (.seq (.blk 5 (.seq (.reg [o1 76 (.mv (.t 74)), o1 77 (.ia 8 (.t 72) (.t 74)), o1 78 (.ld true 8 (.t 77)), o1 12 (.new [.int .i64 0, .int .i64 0, .str ByteArray.empty, .int .i64 0, .int .i64 0, .int .i64 0, .nils, .nils]), o1 11 (.mv (.t 76)), o0 (.st 8 (.t 12) (.t 78))] false) (.reg [oa 79 [] (.fa 3 (.t 6)), oa 80 [0] (.ld false 1 (.t 79)), oa 81 [] (.mv (.t 5)), oa 82 [] (.mv (.t 11)), oa 83 [2, 3] (.ia 1 (.t 81) (.t 82)), oa 84 [4] (.ld false 1 (.t 83)), oa 85 [] (.ld true 8 (.t 12)), oa 86 [] (.mv (.t 5)), oa 87 [6, 7] (.call 22 [(.t 85), (.t 86)]), oa 88 [1, 5, 0, 1, 2, 3, 4, 5, 6, 7, 8] (.ia 8 (.t 80) (.t 84)), ob [9, 8, 8, 0, 1, 2, 3, 4, 5, 6, 7, 8] (.st 8 (.t 88) (.t 87))] true))) (.reg [o1 89 (.bin .add (.t 74) (cI 1)), o1 74 (.mv (.t 89))] false))))))) (.seq (.reg [o1 90 (.ld true 4 (.t 6)), o0 (.st 4 (.t 2) (.t 90)), o1 3 (.mv (cI 0))] false) .ret))))))))
theorem tr8 : tr Try.prog (Try.f8.body.getD .skip) = some c8 := by kernel_rfl
def c21 : Cd := (.seq (.reg [o1 2 (.mv (.c (.nils)))] false) (.seq (.seq (.reg [o1 3 (.mv (.t 0)), o1 4 (.isnil false 1 (.t 3))] false) (.cond (.t 4) (.seq (.reg [o1 2 (.mv (.c (.nils)))] false) .ret) .skip)) (.seq (.reg [o1 5 (.bs 45 2 0 []), o1 6 (.mv (.t 0)), o1 7 (.app 45 2 32 (.t 5) (.t 6)), o1 2 (.mv (.t 7))] false) .ret)))
theorem tr21 : tr Try.prog (Try.f21.body.getD .skip) = some c21 := by kernel_rfl
set_option maxHeartbeats 2000000
theorem clone21_nil : Pure Try.prog 21 [.nils] .nils := by
  refine walk_of mo Try.func21 tr21 (rs := [.tmp 2]) (by rfl) (by rfl) ?_
  unfold c21
  simp
theorem clone21_emp : Pure Try.prog 21 [.emp] (.lst 2 []) := by
  refine walk_of mo Try.func21 tr21 (rs := [.tmp 2]) (by rfl) (by rfl) ?_
  unfold c21
  simp [retR_v, cut]
theorem clone21_lst (e : List T) (r : List (List T)) (h : (e :: r).length * 32 ≤ 140737488355328) : Pure Try.prog 21 [.lst 2 (e :: r)] (.lst 2 (e :: r)) := by
  refine walk_of mo Try.func21 tr21 (rs := [.tmp 2]) (by rfl) (by rfl) ?_
  unfold c21
  simp
  refine req_intro h ?_
  simp [retR_v, cut]
theorem clone21_pure (es : List (List T)) (h : es.length * 32 ≤ 140737488355328) : Pure Try.prog 21 [.lst 2 es] (.lst 2 es) := by
  cases es with
  | nil => exact pure_lst0 2 [] [] (clone21_nil.le (.nil 2)) clone21_emp
  | cons e r => exact clone21_lst e r h
theorem puts_mem : ∀ (l d : List Int) (n : Nat), ∀ x ∈ puts d n l, x ∈ d ∨ (n : Int) ≤ x ∧ x < n + l.length
  | [], d, n, x, h => .inl h
  | i :: r, d, n, x, h => by
    rcases puts_mem r (d.set i.toNat n) (n + 1) x h with h | ⟨h1, h2⟩
    · rcases List.mem_or_eq_of_mem_set h with h | h
      · exact .inl h
      · right; rw [List.length_cons]; omega
    · right; rw [List.length_cons]; omega
theorem order_len (c : Cod) : c.order.length = c.L.length := by rw [Cod.order, puts_len, List.length_replicate]
theorem order_mem {c : Cod} (t : c.Tree) : ∀ x ∈ c.order, 0 ≤ x ∧ x < c.L.length := by
  intro x hx
  have hl : 0 < c.order.length := List.length_pos_of_mem hx
  rw [order_len] at hl
  rcases puts_mem _ _ _ x hx with h | ⟨h1, h2⟩
  · have := (List.mem_replicate.1 h).2; omega
  · have := walk_len t
    simp only [Cod.walk] at this
    omega
theorem kids_A {n : Nod} (h : n.A ≠ -1) : n.A ∈ n.kids := by simp [Nod.kids, h]
theorem kids_B {n : Nod} (h : n.B ≠ -1) : n.B ∈ n.kids := by simp [Nod.kids, h]
theorem kids_C {n : Nod} (h : n.C ≠ -1) : n.C ∈ n.kids := by simp [Nod.kids, h]
theorem kids_L {n : Nod} {x : Int} (h : x ∈ n.L) : x ∈ n.kids := by simp [Nod.kids, h]
theorem kids_Cases {n : Nod} {x : Cas} (h : x ∈ n.Cases) : x.Body ∈ n.kids := by
  simp only [Nod.kids, List.mem_append, List.mem_map]; exact .inr ⟨x, h, rfl⟩
theorem node_mvOk {c : Cod} (t : c.Tree) (i : Nat) (h : i < c.L.length) : c.L[i].mvOk c.order := by
  have key : ∀ x ∈ c.L[i].kids, mvOk c.order x := fun x hx => by
    have := t.ranged i h x hx
    right; rw [order_len]; omega
  refine ⟨?_, ?_, ?_, fun x hx => key x (kids_L hx), fun x hx => key _ (kids_Cases hx)⟩
  · by_cases e : c.L[i].A = -1
    · exact .inl e
    · exact key _ (kids_A e)
  · by_cases e : c.L[i].B = -1
    · exact .inl e
    · exact key _ (kids_B e)
  · by_cases e : c.L[i].C = -1
    · exact .inl e
    · exact key _ (kids_C e)
def Nod.zero : Nod := ⟨0, 0, ByteArray.empty, 0, 0, 0, [], []⟩
def Cod.normLAt (c : Cod) (m : Nat) : List Nod := (List.range m).foldl (fun d i => d.set (c.order.getD i 0).toNat ((c.L.getD i Nod.zero).moved c.order)) (List.replicate c.L.length Nod.zero)
theorem normLAt_succ (c : Cod) (m : Nat) : c.normLAt (m + 1) = (c.normLAt m).set (c.order.getD m 0).toNat ((c.L.getD m Nod.zero).moved c.order) := by
  rw [Cod.normLAt, List.range_succ, List.foldl_append]; rfl
theorem normLAt_len (c : Cod) : ∀ m, (c.normLAt m).length = c.L.length
  | 0 => by simp [Cod.normLAt]
  | m + 1 => by rw [normLAt_succ, List.length_set, normLAt_len]
def Fun.moved (c : Cod) (f : Fun) : Fun := { f with Body := c.order.getD f.Body.toNat 0 }
def Cod.normed (c : Cod) : Cod := ⟨c.Name, c.Structs, c.Funcs.map (Fun.moved c), c.normLAt c.L.length⟩
def Cod.none : Cod := ⟨ByteArray.empty, [], [], []⟩
def Cod.norm (c : Cod) : Cod := if c.may = 0 then c.normed else Cod.none
attribute [local simp] cut spl one fillT
@[simp] theorem leT_nils (z : Nat) : leT .nils (.lst z []) = True := eq_true (.nil z)
theorem leT_none : leT (.agg [.str ByteArray.empty, .nils, .nils, .nils]) (.agg Cod.none.enc) := by
  refine .agg _ _ rfl fun i x y hx hy => ?_
  match i with
  | 0 => simp [Cod.none, Cod.enc] at hx hy; subst hx hy; exact .refl _
  | 1 => simp [Cod.none, Cod.enc] at hx hy; subst hx hy; exact .nil _
  | 2 => simp [Cod.none, Cod.enc] at hx hy; subst hx hy; exact .nil _
  | 3 => simp [Cod.none, Cod.enc] at hx hy; subst hx hy; exact .nil _
  | i + 4 => simp at hx
theorem leT_tup2 {a b x y : T} (h1 : leT a x) (h2 : leT b y) : leT (.tup [a, b]) (.tup [x, y]) := by
  refine .tup _ _ rfl fun i u v hu hv => ?_
  match i with
  | 0 => simp at hu hv; subst hu hv; exact h1
  | 1 => simp at hu hv; subst hu hv; exact h2
  | i + 2 => simp at hu
theorem zero_row (n : Nat) : leO (.row 50 8 (List.replicate n [.int .i64 0, .int .i64 0, .str ByteArray.empty, .int .i64 0, .int .i64 0, .int .i64 0, .nils, .nils])) (.row 50 8 (List.replicate n Nod.zero.enc)) := by
  refine .row _ _ _ _ (by simp) (fun i e f he hf => ?_) (fun i j e f x y he hf hx hy => ?_)
  · simp only [List.getElem?_replicate] at he hf
    split at he
    · rename_i h; rw [if_pos h] at hf; cases he; cases hf; rfl
    · cases he
  · simp only [List.getElem?_replicate] at he hf
    split at he
    · rename_i h
      rw [if_pos h] at hf; cases he; cases hf
      match j with
      | 0 => simp [Nod.zero, Nod.enc] at hx hy; subst hx hy; exact .refl _
      | 1 => simp [Nod.zero, Nod.enc] at hx hy; subst hx hy; exact .refl _
      | 2 => simp [Nod.zero, Nod.enc] at hx hy; subst hx hy; exact .refl _
      | 3 => simp [Nod.zero, Nod.enc] at hx hy; subst hx hy; exact .refl _
      | 4 => simp [Nod.zero, Nod.enc] at hx hy; subst hx hy; exact .refl _
      | 5 => simp [Nod.zero, Nod.enc] at hx hy; subst hx hy; exact .refl _
      | 6 => simp [Nod.zero, Nod.enc, ints] at hx hy; subst hx hy; exact .nil _
      | 7 => simp [Nod.zero, Nod.enc] at hx hy; subst hx hy; exact .nil _
      | j + 8 => simp at hx
    · cases he
theorem take_snoc {α : Type} (l : List α) (i : Nat) (h : i < l.length) : l.take (i + 1) = l.take i ++ [l[i]] := by
  rw [List.take_add_one, List.getElem?_eq_getElem h]; rfl
def Cod.sE (c : Cod) (i : Nat) : List (List T) := (c.Structs.take i).map Str.enc
theorem sE_len (c : Cod) {i : Nat} (h : i ≤ c.Structs.length) : (c.sE i).length = i := by simp [Cod.sE]; omega
theorem sE_succ (c : Cod) {i : Nat} (h : i < c.Structs.length) : c.sE (i + 1) = c.sE i ++ [c.Structs[i].enc] := by rw [Cod.sE, take_snoc _ _ h, List.map_append]; rfl
theorem sE_all (c : Cod) : c.sE c.Structs.length = c.Structs.map Str.enc := by simp [Cod.sE]
theorem sE_zero (c : Cod) : c.sE 0 = [] := rfl
def Cod.fE (c : Cod) (i : Nat) : List (List T) := ((c.Funcs.take i).map (Fun.moved c)).map Fun.enc
theorem fE_len (c : Cod) {i : Nat} (h : i ≤ c.Funcs.length) : (c.fE i).length = i := by simp [Cod.fE]; omega
theorem fE_succ (c : Cod) {i : Nat} (h : i < c.Funcs.length) : c.fE (i + 1) = c.fE i ++ [(c.Funcs[i].moved c).enc] := by rw [Cod.fE, take_snoc _ _ h, List.map_append, List.map_append]; rfl
theorem fE_all (c : Cod) : c.fE c.Funcs.length = (c.Funcs.map (Fun.moved c)).map Fun.enc := by simp [Cod.fE]
theorem fE_zero (c : Cod) : c.fE 0 = [] := rfl
theorem norm_pure (c : Cod) (ok : c.Ok) (ok2 : ∀ n ∈ c.L, ∀ x ∈ n.Cases, x.L.length ≤ 1000000000) : Pure Try.prog 8 [.agg c.enc] (.tup [.agg c.norm.enc, i64 c.may]) := by
  refine walk_of mo Try.func8 tr8 (rs := [.cell 2 true 4, .tmp 3]) (by rfl) (by rfl) ?_
  unfold c8
  simp [Cod.enc]
  refine call_t (ts := [.agg c.enc]) _ (may_pure c ok) (by simp) ?_
  by_cases hm : c.may = 0
  · have t := may_tree hm
    have hcnt : c.counted = true := by
      cases h : c.counted with
      | true => rfl
      | false => simp [Cod.may, h] at hm
    have hn20 : c.L.length ≤ 20000 := by simp [Cod.counted] at hcnt; omega
    have hf10 : c.Funcs.length ≤ 1000 := by simp [Cod.counted] at hcnt; omega
    have hs10 : c.Structs.length ≤ 100 := by simp [Cod.counted] at hcnt; omega
    have hsl : ∀ s ∈ c.Structs, s.L.length ≤ 100 := by
      intro s hs; simp [Cod.counted] at hcnt; exact hcnt.1.2 s hs
    have hfl : ∀ s ∈ c.Funcs, s.Params.length ≤ 100 := by
      intro s hs; simp [Cod.counted] at hcnt; exact hcnt.2 s hs
    simp [hm]
    refine call_t (ts := [.agg c.enc]) _ (order_pure c ok t.ranged t.body (by omega) (by have := walk_len t; simp only [Cod.walk] at this; omega)) (by simp) ?_
    simp
    refine reqD_intro (by omega) ?_
    simp
    have hol := order_len c
    have hom := order_mem t
    refine loop_up c.Structs.length (fun i => ⟨[(1, .ptr 1 0 0), (2, .ptr 2 0 0), (5, .t (ints c.order)), (6, .ptr 6 0 0), (29, .t (.lst 2 (c.Structs.map Str.enc))), (30, .t (i64 c.Structs.length)), (31, .t (i64 i))], (1, .box (c.enc.map .t)) :: (2, .box [.t (.str ByteArray.empty), .t .nils, .t .nils, .t .nils]) :: (6, .box [.t (.str c.Name), if i = 0 then .t .nils else .slc 144 2 0 i, .t .nils, .slc 26 8 0 c.L.length]) :: (26, .row 50 8 (List.replicate c.L.length Nod.zero.enc)) :: (if i = 0 then [] else [(144, .row 42 2 (c.sE i))])⟩) (fun _ => True) same ?_ trivial ?_
    · simp [Cod.enc]
      exact zero_row _
    · intro i hi _
      by_cases hl : i < c.Structs.length
      · have hb := hsl c.Structs[i] (List.getElem_mem hl)
        have htk := sE_succ c hl
        have hsl' := sE_len c hi
        by_cases h0 : i = 0
        · subst h0
          simp [hl, Str.enc]
          refine callD_intro (ts := [.lst 2 (c.Structs[0].L.map Fld.enc)]) (by simp) _ (clone21_pure _ (by simp; omega)) (.inl (by rfl)) ?_
          simp
          rw [wr_id (by omega) (by omega)]
          refine up_next (to 144 44) hl trivial ?_
          simp [htk, Str.enc, to, sE_zero]
          exact fun n hn e => by have : far = 1000 := rfl; omega
        · simp [hl, h0, Str.enc]
          refine callD_intro (ts := [.lst 2 (c.Structs[i].L.map Fld.enc)]) (by simp) _ (clone21_pure _ (by simp; omega)) (.inl (by rfl)) ?_
          simp
          refine reqD_intro ⟨by omega, by omega⟩ ?_
          simp [List.take_of_length_le, hsl']
          rw [wr_id (by omega) (by omega)]
          refine up_next (to 144 44) hl trivial ?_
          simp [htk, Str.enc, to, List.take_of_length_le, hsl']
          exact fun n hn e => by have : far = 1000 := rfl; omega
      · have hin : i = c.Structs.length := by omega
        subst hin
        simp [Cod.enc]
        refine loop_up c.Funcs.length (fun i => ⟨[(1, .ptr 1 0 0), (2, .ptr 2 0 0), (5, .t (ints c.order)), (6, .ptr 6 0 0), (48, .t (.lst 4 (c.Funcs.map Fun.enc))), (49, .t (i64 c.Funcs.length)), (50, .t (i64 i))], (1, .box (c.enc.map .t)) :: (2, .box [.t (.str ByteArray.empty), .t .nils, .t .nils, .t .nils]) :: (6, .box [.t (.str c.Name), .t (.lst 2 (c.Structs.map Str.enc)), if i = 0 then .t .nils else .slc 168 4 0 i, .slc 26 8 0 c.L.length]) :: (26, .row 50 8 (List.replicate c.L.length Nod.zero.enc)) :: (if i = 0 then [] else [(168, .row 47 4 (c.fE i))])⟩) (fun _ => True) same ?_ trivial ?_
        · have hsa := sE_all c
          by_cases h0 : c.Structs = []
          · simp [h0, Cod.enc]
          · have hsl' := sE_len c (Nat.le_refl _)
            simp [h0, Cod.enc, hsa, List.take_of_length_le]
        · intro i hi _
          by_cases hl : i < c.Funcs.length
          · have hb := hfl c.Funcs[i] (List.getElem_mem hl)
            have htk := fE_succ c hl
            have hfl' := fE_len c hi
            have hbl : i < c.bodies.length := by simpa [Cod.bodies] using hl
            obtain ⟨hk1, hk2⟩ := t.body c.bodies[i] (List.getElem_mem hbl)
            have hbe : c.bodies[i] = c.Funcs[i].Body := by simp [Cod.bodies]
            rw [hbe] at hk1 hk2
            obtain ⟨m, hmb⟩ : ∃ m : Nat, c.Funcs[i].Body = m := ⟨c.Funcs[i].Body.toNat, by omega⟩
            have hml : m < c.order.length := by omega
            have hgd : c.order[m]?.getD 0 = c.order[m] := by rw [List.getElem?_eq_getElem hml]; rfl
            by_cases h0 : i = 0
            · subst h0
              simp [hl, Fun.enc]
              refine callD_intro (ts := [.lst 2 (c.Funcs[0].Params.map Fld.enc)]) (by simp) _ (clone21_pure _ (by simp; omega)) (.inl (by rfl)) ?_
              simp [ints, hmb, hml]
              rw [wr_id (by omega) (by omega)]
              refine up_next (to 168 68) hl trivial ?_
              simp [htk, Fun.enc, to, ints, Fun.moved, hmb, hgd, fE_zero]
              exact fun n hn e => by have : far = 1000 := rfl; omega
            · simp [hl, h0, Fun.enc]
              refine callD_intro (ts := [.lst 2 (c.Funcs[i].Params.map Fld.enc)]) (by simp) _ (clone21_pure _ (by simp; omega)) (.inl (by rfl)) ?_
              simp [ints, hmb, hml]
              refine req_intro ⟨by omega, by omega⟩ ?_
              simp [List.take_of_length_le, hfl']
              rw [wr_id (by omega) (by omega)]
              refine up_next (to 168 68) hl trivial ?_
              simp [htk, Fun.enc, to, ints, Fun.moved, hmb, hgd, List.take_of_length_le, hfl']
              exact fun n hn e => by have : far = 1000 := rfl; omega
          · have hin : i = c.Funcs.length := by omega
            subst hin
            simp [Cod.enc]
            refine loop_up c.L.length (fun i => ⟨[(1, .ptr 1 0 0), (2, .ptr 2 0 0), (5, .t (ints c.order)), (6, .ptr 6 0 0), (72, .t (.lst 8 (c.L.map Nod.enc))), (73, .t (i64 c.L.length)), (74, .t (i64 i))], [(1, .box (c.enc.map .t)), (2, .box [.t (.str ByteArray.empty), .t .nils, .t .nils, .t .nils]), (6, .box [.t (.str c.Name), .t (.lst 2 (c.Structs.map Str.enc)), .t (.lst 4 ((c.Funcs.map (Fun.moved c)).map Fun.enc)), .slc 26 8 0 c.L.length]), (26, .row 50 8 ((c.normLAt i).map Nod.enc))]⟩) (fun _ => True) same ?_ trivial ?_
            · have hfa := fE_all c
              by_cases h0 : c.Funcs = []
              · simp [h0, Cod.enc, Cod.normLAt]
              · have hfl' := fE_len c (Nat.le_refl _)
                simp [h0, Cod.enc, Cod.normLAt, hfa, List.take_of_length_le]
            · intro i hi _
              by_cases hl : i < c.L.length
              · obtain ⟨o1, o2, _⟩ := ok.n _ (List.getElem_mem hl)
                have hml : i < c.order.length := by omega
                obtain ⟨q1, q2⟩ := hom c.order[i] (List.getElem_mem hml)
                obtain ⟨m, hmo⟩ : ∃ m : Nat, c.order[i] = m := ⟨c.order[i].toNat, by omega⟩
                have hsc := normLAt_succ c i
                rw [List.getD_eq_getElem?_getD, List.getElem?_eq_getElem hml, List.getD_eq_getElem?_getD, List.getElem?_eq_getElem hl] at hsc
                simp only [Option.getD_some, hmo, Int.toNat_natCast] at hsc
                have hnl := normLAt_len c i
                have hmN : m < c.L.length := by omega
                generalize hX : c.normLAt i = X at *
                have hmX : m < X.length := by omega
                simp [hl, Nod.enc, hml, hmo, hmX, hmN, ints]
                refine callD_intro (ts := [.agg c.L[i].enc, ints c.order]) (by simp [Nod.enc, ints]) _ (moved_pure c.L[i] c.order o1 o2 (fun x hx => ok2 _ (List.getElem_mem hl) x hx) (node_mvOk t i hl)) (.inl (by rfl)) ?_
                simp [hmX, hmN, Nod.enc, ints]
                rw [wr_id (by omega) (by omega)]
                refine up_next same hl trivial ?_
                simp [hsc, Nod.enc, ints, List.map_set]
              · have hin : i = c.L.length := by omega
                subst hin
                have hnl := normLAt_len c c.L.length
                have : c.norm = c.normed := by rw [Cod.norm, if_pos hm]
                simp [retR_v, this, Cod.normed, List.take_of_length_le, hnl]
  · have : c.norm = Cod.none := by rw [Cod.norm, if_neg hm]
    simp [hm]
    rw [this]
    exact retR_of (y := .tup [.agg [.str ByteArray.empty, .nils, .nils, .nils], i64 c.may]) (by simp) (leT_tup2 leT_none (.refl _))

end Go.Eng
