/- What the program's functions 53,55,22 compute (numbers of this seat): contracts, walked by the engine. -/
import Derived.Test.YthcogpecnmhhlaaEngU
import Derived.Test.YthcogpecnmhhlaaCodN
import Derived.Test.YthcogpecnmhhlaaProg
namespace Go.Eng
open Go Go.Proofs
set_option maxRecDepth 100000
set_option linter.all false
def c22 : Cd := (.seq (.reg [o1 2 (.box true 8 (.t 0)), o1 3 (.box false 1 (.t 1)), o1 4 (.new [.int .i64 0, .int .i64 0, .str ByteArray.empty, .int .i64 0, .int .i64 0, .int .i64 0, .nils, .nils])] false) (.seq (.reg [o1 8 (.mkf 53 [(.t 3)]), o1 5 (.mv (.t 8))] false) (.seq (.reg [oa 9 [] (.mv (.t 5)), oa 10 [] (.fa 3 (.t 2)), oa 11 [1] (.ld false 1 (.t 10)), oa 12 [0, 2] (.callv (.t 9) [(.t 11)]), oa 13 [] (.mv (.t 5)), oa 14 [] (.fa 4 (.t 2)), oa 15 [5] (.ld false 1 (.t 14)), oa 16 [4, 6, 3] (.callv (.t 13) [(.t 15)]), oa 17 [] (.mv (.t 5)), oa 18 [] (.fa 5 (.t 2)), oa 19 [9] (.ld false 1 (.t 18)), oa 20 [8, 10, 7] (.callv (.t 17) [(.t 19)]), oa 21 [0, 1, 2, 3, 5, 6, 9, 10] (.fa 3 (.t 2)), ob [12, 3, 11, 0, 1, 2, 3, 5, 6, 9, 10] (.st 1 (.t 21) (.t 12)), oa 22 [0, 1, 2, 3, 4, 5, 6, 7, 9, 10, 12, 13] (.fa 4 (.t 2)), ob [14, 7, 13, 0, 1, 2, 3, 4, 5, 6, 7, 9, 10, 12, 13] (.st 1 (.t 22) (.t 16)), oa 23 [0, 1, 2, 3, 4, 5, 6, 7, 8, 9, 10, 11, 12, 13, 14, 15] (.fa 5 (.t 2)), ob [16, 11, 15, 0, 1, 2, 3, 4, 5, 6, 7, 8, 9, 10, 11, 12, 13, 14, 15] (.st 1 (.t 23) (.t 20))] true) (.seq (.reg [oa 24 [] (.fa 6 (.t 2)), oa 25 [0] (.ld false 1 (.t 24)), oa 26 [1] (.call 54 [(.t 25)]), oa 27 [] (.fa 7 (.t 2)), oa 28 [3] (.ld false 1 (.t 27)), oa 29 [4, 2] (.callw 55 [(.t 28)]), oa 30 [0, 1, 2, 3, 4] (.fa 6 (.t 2)), ob [6, 2, 5, 0, 1, 2, 3, 4] (.st 1 (.t 30) (.t 26)), oa 31 [0, 1, 2, 3, 4, 5, 6, 7] (.fa 7 (.t 2)), ob [8, 5, 7, 0, 1, 2, 3, 4, 5, 6, 7] (.st 1 (.t 31) (.t 29))] true) (.seq (.seq (.reg [o1 32 (.fa 6 (.t 2)), o1 33 (.ld false 1 (.t 32)), o1 34 (.len (.t 33)), o1 35 (.mv (cI 0))] false) (.blk 0 (.loop (.seq (.reg [o1 36 (.bin .lss (.t 35) (.t 34))] false) (.seq (.cond (.t 36) .skip (.exit 0)) (.seq (.blk 1 (.seq (.reg [o1 37 (.mv (.t 35)), o1 6 (.mv (.t 37))] false) (.reg [oa 38 [] (.fa 6 (.t 2)), oa 39 [0] (.ld false 1 (.t 38)), oa 40 [] (.mv (.t 6)), oa 41 [] (.mv (.t 5)), oa 42 [] (.fa 6 (.t 2)), oa 43 [4] (.ld false 1 (.t 42)), oa 44 [] (.mv (.t 6)), oa 45 [5, 6] (.ia 1 (.t 43) (.t 44)), oa 46 [7] (.ld false 1 (.t 45)), oa 47 [3, 8] (.callv (.t 41) [(.t 46)]), oa 48 [1, 2, 0, 1, 2, 3, 4, 5, 6, 7, 8, 9] (.ia 1 (.t 39) (.t 40)), ob [10, 9, 9, 0, 1, 2, 3, 4, 5, 6, 7, 8, 9] (.st 1 (.t 48) (.t 47))] true))) (.reg [o1 49 (.bin .add (.t 35) (cI 1)), o1 35 (.mv (.t 49))] false))))))) (.seq (.seq (.reg [o1 50 (.fa 7 (.t 2)), o1 51 (.ld false 1 (.t 50)), o1 52 (.len (.t 51)), o1 53 (.mv (cI 0))] false) (.blk 2 (.loop (.seq (.reg [o1 54 (.bin .lss (.t 53) (.t 52))] false) (.seq (.cond (.t 54) .skip (.exit 2)) (.seq (.blk 3 (.seq (.reg [o1 55 (.mv (.t 53)), o1 7 (.mv (.t 55))] false) (.reg [oa 56 [] (.fa 7 (.t 2)), oa 57 [0] (.ld false 1 (.t 56)), oa 58 [] (.mv (.t 7)), oa 59 [] (.fa 7 (.t 2)), oa 60 [3] (.ld false 1 (.t 59)), oa 61 [] (.mv (.t 7)), oa 62 [4, 5] (.ia 2 (.t 60) (.t 61)), oa 63 [6] (.fa 0 (.t 62)), oa 64 [7] (.ld false 1 (.t 63)), oa 65 [8] (.call 54 [(.t 64)]), oa 66 [] (.mv (.t 5)), oa 67 [] (.fa 7 (.t 2)), oa 68 [11] (.ld false 1 (.t 67)), oa 69 [] (.mv (.t 7)), oa 70 [12, 13] (.ia 2 (.t 68) (.t 69)), oa 71 [14] (.fa 1 (.t 70)), oa 72 [15] (.ld false 1 (.t 71)), oa 73 [10, 16, 9] (.callv (.t 66) [(.t 72)]), oa 74 [9, 17] (.bld [.nils, .int .i64 0] [(0, 1, (.t 65)), (1, 1, (.t 73))]), oa 75 [1, 2, 0, 1, 2, 3, 4, 5, 6, 7, 8, 9, 10, 11, 12, 13, 14, 15, 16, 17, 18] (.ia 2 (.t 57) (.t 58)), ob [19, 18, 17, 0, 1, 2, 3, 4, 5, 6, 7, 8, 9, 10, 11, 12, 13, 14, 15, 16, 17, 18] (.st 2 (.t 75) (.t 74))] true))) (.reg [o1 76 (.bin .add (.t 53) (cI 1)), o1 53 (.mv (.t 76))] false))))))) (.seq (.reg [o1 77 (.ld true 8 (.t 2)), o0 (.st 8 (.t 4) (.t 77))] false) .ret)))))))
theorem tr22 : tr Try.prog (Try.f22.body.getD .skip) = some c22 := by kernel_rfl
def c53 : Cd := (.seq (.reg [o1 3 (.mv (cI 0))] false) (.seq (.seq (.reg [o1 4 (.mv (.t 0)), o1 5 (.bin .eql (.t 4) (cI (-1)))] false) (.cond (.t 5) (.seq (.reg [o1 6 (.mv (.t 0)), o1 3 (.mv (.t 6))] false) .ret) .skip)) (.seq (.reg [o1 7 (.ld false 1 (.t 1)), o1 8 (.mv (.t 0)), o1 9 (.ia 1 (.t 7) (.t 8)), o1 10 (.ld false 1 (.t 9)), o1 3 (.mv (.t 10))] false) .ret)))
theorem tr53 : tr Try.prog (Try.f53.body.getD .skip) = some c53 := by kernel_rfl
def c55 : Cd := (.seq (.reg [o1 2 (.mv (.c (.nils)))] false) (.seq (.seq (.reg [o1 3 (.mv (.t 0)), o1 4 (.isnil false 1 (.t 3))] false) (.cond (.t 4) (.seq (.reg [o1 2 (.mv (.c (.nils)))] false) .ret) .skip)) (.seq (.reg [o1 5 (.bs 59 2 0 []), o1 6 (.mv (.t 0)), o1 7 (.app 59 2 32 (.t 5) (.t 6)), o1 2 (.mv (.t 7))] false) .ret)))
theorem tr55 : tr Try.prog (Try.f55.body.getD .skip) = some c55 := by kernel_rfl
set_option maxHeartbeats 2000000
def mvI (to : List Int) (i : Int) : Int := if i = -1 then -1 else to.getD i.toNat 0
def Cas.moved (to : List Int) (x : Cas) : Cas := ⟨x.L, mvI to x.Body⟩
def Nod.moved (n : Nod) (to : List Int) : Nod := { n with A := mvI to n.A, B := mvI to n.B, C := mvI to n.C, L := n.L.map (mvI to), Cases := n.Cases.map (Cas.moved to) }
theorem clone55_nil : Pure Try.prog 55 [.nils] .nils := by
  refine walk_of mo Try.func55 tr55 (rs := [.tmp 2]) (by rfl) (by rfl) ?_
  unfold c55
  simp
theorem clone55_emp : Pure Try.prog 55 [.emp] (.lst 2 []) := by
  refine walk_of mo Try.func55 tr55 (rs := [.tmp 2]) (by rfl) (by rfl) ?_
  unfold c55
  simp [retR_v, cut]
theorem clone55_lst (e : List T) (r : List (List T)) (h : (e :: r).length * 32 ≤ 140737488355328) : Pure Try.prog 55 [.lst 2 (e :: r)] (.lst 2 (e :: r)) := by
  refine walk_of mo Try.func55 tr55 (rs := [.tmp 2]) (by rfl) (by rfl) ?_
  unfold c55
  simp
  refine req_intro h ?_
  simp [retR_v, cut]
theorem clone55_pure (es : List (List T)) (h : es.length * 32 ≤ 140737488355328) : Pure Try.prog 55 [.lst 2 es] (.lst 2 es) := by
  cases es with
  | nil => exact pure_lst0 2 [] [] (clone55_nil.le (.nil 2)) clone55_emp
  | cons e r => exact clone55_lst e r h
theorem clone55_eff (d : Nat) (hd : d < far) (e : List T) (r : List (List T)) (h : (e :: r).length * 32 ≤ 140737488355328) : Eff Try.prog 55 [.t (.lst 2 (e :: r))] [] (.slc d 2 0 (e :: r).length) [(d, .row 59 2 (e :: r))] := by
  refine walk_eff mo Try.func55 tr55 (rs := [.tmp 2]) (by rfl) (by rfl) ?_
  unfold c55
  simp [parV]
  refine req_intro h ?_
  simp
  refine (retE_ret (to d 7) rfl (to_far hd) ?_ ?_ ?_ ?_ ?_).1 <;> simp [V.all, Ob.all, okN]
theorem moved1_pure (to : List Int) (x : Int) (h : x = -1 ∨ 0 ≤ x ∧ x < to.length) : Pure Try.prog 53 [i64 x, .ref 1 [[ints to]] 0 0] (i64 (mvI to x)) := by
  refine walk_of mo Try.func53 tr53 (rs := [.tmp 3]) (by rfl) (by rfl) ?_
  unfold c53 mvI
  rcases h with rfl | ⟨h1, h2⟩
  · simp
  · obtain ⟨k, rfl⟩ : ∃ k : Nat, x = k := ⟨x.toNat, by omega⟩
    have hk : k < to.length := by omega
    have h3 : ¬ (k : Int) = -1 := by omega
    simp [h3, ints, hk]
def mvOk (to : List Int) (x : Int) : Prop := x = -1 ∨ 0 ≤ x ∧ x < to.length
structure Nod.mvOk (n : Nod) (to : List Int) : Prop where
  a : Eng.mvOk to n.A
  b : Eng.mvOk to n.B
  c : Eng.mvOk to n.C
  l : ∀ x ∈ n.L, Eng.mvOk to x
  k : ∀ x ∈ n.Cases, Eng.mvOk to x.Body
def upd1 {α : Type} (g : α → α) (l : List α) (i : Nat) : List α := (l.take i).map g ++ l.drop i
theorem upd1_len {α : Type} (g : α → α) (l : List α) (i : Nat) : (upd1 g l i).length = l.length := by simp [upd1]; omega
theorem upd1_get {α : Type} (g : α → α) (l : List α) (i : Nat) (h : i < l.length) (h' : i < (upd1 g l i).length) : (upd1 g l i)[i] = l[i] := by
  have : ((upd1 g l i)[i]? : Option α) = l[i]? := by
    unfold upd1; rw [List.getElem?_append_right (by simp; omega)]; simp [Nat.min_eq_left (Nat.le_of_lt h)]
  rw [List.getElem?_eq_getElem h', List.getElem?_eq_getElem h] at this; exact Option.some.inj this
theorem upd1_succ {α : Type} (g : α → α) (l : List α) (i : Nat) (h : i < l.length) : upd1 g l (i + 1) = (upd1 g l i).set i (g l[i]) := by
  have e : l.drop i = l[i] :: l.drop (i + 1) := List.drop_eq_getElem_cons h
  unfold upd1
  have z : i - ((l.take i).map g).length = 0 := by simp; omega
  rw [List.take_add_one, List.getElem?_eq_getElem h, List.set_append_right _ _ (by simp; omega), e, z, List.set_cons_zero]
  simp only [Option.toList_some, List.map_append, List.map_cons, List.map_nil, List.append_assoc, List.singleton_append]
theorem upd1_zero {α : Type} (g : α → α) (l : List α) : upd1 g l 0 = l := by simp [upd1]
theorem upd1_all {α : Type} (g : α → α) (l : List α) : upd1 g l l.length = l.map g := by simp [upd1]
theorem clone_eff' (d : Nat) (hd : d < far) (es : List (List T)) (hne : es ≠ []) (h : es.length * 8 ≤ 140737488355328) : Eff Try.prog 54 ([.lst 1 es].map .t) [] (.slc d 1 0 es.length) [(d, .row 3 1 es)] := by
  cases es with
  | nil => exact absurd rfl hne
  | cons e r => exact clone_eff d hd e r h
theorem clone55_eff' (d : Nat) (hd : d < far) (es : List (List T)) (hne : es ≠ []) (h : es.length * 32 ≤ 140737488355328) : Eff Try.prog 55 ([.lst 2 es].map .t) [] (.slc d 2 0 es.length) [(d, .row 59 2 es)] := by
  cases es with
  | nil => exact absurd rfl hne
  | cons e r => exact clone55_eff d hd e r h
attribute [local simp] cut spl one fillT renL_same woL_map_t
theorem moved_pure (n : Nod) (to : List Int) (h1 : n.L.length ≤ 1000000000) (h2 : n.Cases.length ≤ 1000000000) (h3 : ∀ x ∈ n.Cases, x.L.length ≤ 1000000000) (hm : n.mvOk to) : Pure Try.prog 22 [.agg n.enc, ints to] (.agg (n.moved to).enc) := by
  refine walk_of mo Try.func22 tr22 (rs := [.cell 4 true 8]) (by rfl) (by rfl) ?_
  unfold c22
  simp [Nod.enc, ints]
  refine callD_intro (ts := [i64 n.A, .ref 1 [[ints to]] 0 0]) (by simp [ints]) _ (moved1_pure to n.A hm.a) (.inr (by rfl)) ?_
  simp
  refine callD_intro (ts := [i64 n.B, .ref 1 [[ints to]] 0 0]) (by simp [ints]) _ (moved1_pure to n.B hm.b) (.inr (by rfl)) ?_
  simp
  refine callD_intro (ts := [i64 n.C, .ref 1 [[ints to]] 0 0]) (by simp [ints]) _ (moved1_pure to n.C hm.c) (.inr (by rfl)) ?_
  simp
  by_cases hL : n.L = []
  · refine callD_intro (ts := [ints []]) (by simp [hL, ints]) (ints []) (clone_pure [] (by simp)) (.inl (by rfl)) ?_
    simp [hL, ints]
    by_cases hC : n.Cases = []
    · refine callD_intro (ts := [.lst 2 []]) (by simp [hC]) (.lst 2 []) (clone55_pure [] (by simp)) (.inl (by rfl)) ?_
      simp [hL, hC]
      refine loop_up n.L.length (fun i => ⟨[(35, .t (i64 i)), (34, .t (i64 n.L.length)), (33, .t (.lst 1 [])), (2, .ptr 2 0 0), (4, .ptr 4 0 0), (5, .fnv 53 [.ptr 3 0 0])], [(2, .box [.t (i64 n.Kind), .t (i64 n.N), .t (.str n.Name), .t (i64 (mvI to n.A)), .t (i64 (mvI to n.B)), .t (i64 (mvI to n.C)), .t (.lst 1 []), .t (.lst 2 [])]), (3, .box [.t (ints to)]), (4, .box [.t (i64 0), .t (i64 0), .t (.str ByteArray.empty), .t (i64 0), .t (i64 0), .t (i64 0), .t .nils, .t .nils])]⟩) (fun _ => True) same ?_ trivial ?_
      · simp [hL, hC, ints, row, upd1_zero]
      · intro i hi _
        have : i = 0 := by simpa [hL] using hi
        subst this
        simp [hL, hC, ints, row]
        refine loop_up n.Cases.length (fun i => ⟨[(53, .t (i64 i)), (52, .t (i64 n.Cases.length)), (51, .t (.lst 2 [])), (2, .ptr 2 0 0), (4, .ptr 4 0 0), (5, .fnv 53 [.ptr 3 0 0])], [(2, .box [.t (i64 n.Kind), .t (i64 n.N), .t (.str n.Name), .t (i64 (mvI to n.A)), .t (i64 (mvI to n.B)), .t (i64 (mvI to n.C)), .t (.lst 1 []), .t (.lst 2 [])]), (3, .box [.t (ints to)]), (4, .box [.t (i64 0), .t (i64 0), .t (.str ByteArray.empty), .t (i64 0), .t (i64 0), .t (i64 0), .t .nils, .t .nils])]⟩) (fun _ => True) same ?_ trivial ?_
        · simp [hL, hC, ints, row, upd1_zero]
        · intro i hi _
          have : i = 0 := by simpa [hC] using hi
          subst this
          simp [hL, hC, ints, row]
          simp [hL, hC, retR_v, row, Nod.moved, List.take_of_length_le]
    · refine maker_intro (ts := [.lst 2 (n.Cases.map Cas.enc)]) (by simp) (clone55_eff' 29 (by decide) _ (by simpa using hC) (by simp; omega)) (by simp) ?_
      simp [hL]
      refine loop_up n.L.length (fun i => ⟨[(35, .t (i64 i)), (34, .t (i64 n.L.length)), (33, .t (.lst 1 [])), (2, .ptr 2 0 0), (4, .ptr 4 0 0), (5, .fnv 53 [.ptr 3 0 0])], [(2, .box [.t (i64 n.Kind), .t (i64 n.N), .t (.str n.Name), .t (i64 (mvI to n.A)), .t (i64 (mvI to n.B)), .t (i64 (mvI to n.C)), .t (.lst 1 []), .slc 29 2 0 n.Cases.length]), (3, .box [.t (ints to)]), (4, .box [.t (i64 0), .t (i64 0), .t (.str ByteArray.empty), .t (i64 0), .t (i64 0), .t (i64 0), .t .nils, .t .nils]), (29, .row 59 2 ((n.Cases).map Cas.enc))]⟩) (fun _ => True) same ?_ trivial ?_
      · simp [hL, ints, row, upd1_zero]
      · intro i hi _
        have : i = 0 := by simpa [hL] using hi
        subst this
        simp [hL, ints, row]
        refine loop_up n.Cases.length (fun i => ⟨[(53, .t (i64 i)), (52, .t (i64 n.Cases.length)), (51, .slc 29 2 0 n.Cases.length), (2, .ptr 2 0 0), (4, .ptr 4 0 0), (5, .fnv 53 [.ptr 3 0 0])], [(2, .box [.t (i64 n.Kind), .t (i64 n.N), .t (.str n.Name), .t (i64 (mvI to n.A)), .t (i64 (mvI to n.B)), .t (i64 (mvI to n.C)), .t (.lst 1 []), .slc 29 2 0 n.Cases.length]), (3, .box [.t (ints to)]), (4, .box [.t (i64 0), .t (i64 0), .t (.str ByteArray.empty), .t (i64 0), .t (i64 0), .t (i64 0), .t .nils, .t .nils]), (29, .row 59 2 ((upd1 (Cas.moved to) n.Cases i).map Cas.enc))]⟩) (fun _ => True) same ?_ trivial ?_
        · simp [hL, ints, row, upd1_zero]
        · intro i hi _
          by_cases hl : i < n.Cases.length
          · have hlen := upd1_len (Cas.moved to) n.Cases i
            have hiX : i < (upd1 (Cas.moved to) n.Cases i).length := by omega
            have hgt := upd1_get (Cas.moved to) n.Cases i hl hiX
            have hsc := upd1_succ (Cas.moved to) n.Cases i hl
            generalize hX : upd1 (Cas.moved to) n.Cases i = X at *
            simp [hL, hl, row, hlen, hgt, hiX, Cas.enc, ints]
            refine callD_intro (ts := [ints n.Cases[i].L]) (by simp [ints]) _ (clone_pure _ (by have := h3 _ (List.getElem_mem hl); simp; omega)) (.inl (by rfl)) ?_
            simp [hl, hlen, hgt, hiX, Cas.enc]
            refine callD_intro (ts := [i64 n.Cases[i].Body, .ref 1 [[ints to]] 0 0]) (by simp [ints]) _ (moved1_pure to n.Cases[i].Body (hm.k _ (List.getElem_mem hl))) (.inr (by rfl)) ?_
            simp [hl, hlen, hiX, hgt, Cas.enc]
            rw [wr_id (n := (i : Int) + 1) (by omega) (by omega)]
            refine up_next same hl trivial ?_
            simp [hL, hsc, row, ints, List.map_set, Cas.enc, Cas.moved]
          · have : i = n.Cases.length := by omega
            subst this
            rw [upd1_all]
            simp [hL, row]
            simp [hL, retR_v, row, Nod.moved, List.take_of_length_le]
  · refine maker_intro (ts := [ints n.L]) (by simp [ints]) (clone_eff' 26 (by decide) _ (by simpa using hL) (by simp; omega)) (by simp) ?_
    simp
    by_cases hC : n.Cases = []
    · refine callD_intro (ts := [.lst 2 []]) (by simp [hC]) (.lst 2 []) (clone55_pure [] (by simp)) (.inl (by rfl)) ?_
      simp [hC]
      refine loop_up n.L.length (fun i => ⟨[(35, .t (i64 i)), (34, .t (i64 n.L.length)), (33, .slc 26 1 0 n.L.length), (2, .ptr 2 0 0), (4, .ptr 4 0 0), (5, .fnv 53 [.ptr 3 0 0])], [(2, .box [.t (i64 n.Kind), .t (i64 n.N), .t (.str n.Name), .t (i64 (mvI to n.A)), .t (i64 (mvI to n.B)), .t (i64 (mvI to n.C)), .slc 26 1 0 n.L.length, .t (.lst 2 [])]), (3, .box [.t (ints to)]), (4, .box [.t (i64 0), .t (i64 0), .t (.str ByteArray.empty), .t (i64 0), .t (i64 0), .t (i64 0), .t .nils, .t .nils]), (26, .row 3 1 (row (upd1 (mvI to) n.L i)))]⟩) (fun _ => True) same ?_ trivial ?_
      · simp [hC, ints, row, upd1_zero]
      · intro i hi _
        by_cases hl : i < n.L.length
        · have hlen := upd1_len (mvI to) n.L i
          have hiX : i < (upd1 (mvI to) n.L i).length := by omega
          have hgt := upd1_get (mvI to) n.L i hl hiX
          have hsc := upd1_succ (mvI to) n.L i hl
          generalize hX : upd1 (mvI to) n.L i = X at *
          simp [hC, hl, row, hlen, hgt, hiX]
          refine callD_intro (ts := [i64 n.L[i], .ref 1 [[ints to]] 0 0]) (by simp [ints]) _ (moved1_pure to n.L[i] (hm.l _ (List.getElem_mem hl))) (.inr (by rfl)) ?_
          simp [hl, hlen, hiX]
          rw [wr_id (n := (i : Int) + 1) (by omega) (by omega)]
          refine up_next same hl trivial ?_
          simp [hC, hsc, row, ints, List.map_set]
        · have : i = n.L.length := by omega
          subst this
          rw [upd1_all]
          simp [hC, row]
          refine loop_up n.Cases.length (fun i => ⟨[(53, .t (i64 i)), (52, .t (i64 n.Cases.length)), (51, .t (.lst 2 [])), (2, .ptr 2 0 0), (4, .ptr 4 0 0), (5, .fnv 53 [.ptr 3 0 0])], [(2, .box [.t (i64 n.Kind), .t (i64 n.N), .t (.str n.Name), .t (i64 (mvI to n.A)), .t (i64 (mvI to n.B)), .t (i64 (mvI to n.C)), .slc 26 1 0 n.L.length, .t (.lst 2 [])]), (3, .box [.t (ints to)]), (4, .box [.t (i64 0), .t (i64 0), .t (.str ByteArray.empty), .t (i64 0), .t (i64 0), .t (i64 0), .t .nils, .t .nils]), (26, .row 3 1 (row (n.L.map (mvI to))))]⟩) (fun _ => True) same ?_ trivial ?_
          · simp [hC, ints, row, upd1_zero]
          · intro i hi _
            have : i = 0 := by simpa [hC] using hi
            subst this
            simp [hC, ints, row]
            simp [hC, retR_v, row, Nod.moved, List.take_of_length_le]
    · refine maker_intro (ts := [.lst 2 (n.Cases.map Cas.enc)]) (by simp) (clone55_eff' 29 (by decide) _ (by simpa using hC) (by simp; omega)) (by simp) ?_
      simp
      refine loop_up n.L.length (fun i => ⟨[(35, .t (i64 i)), (34, .t (i64 n.L.length)), (33, .slc 26 1 0 n.L.length), (2, .ptr 2 0 0), (4, .ptr 4 0 0), (5, .fnv 53 [.ptr 3 0 0])], [(2, .box [.t (i64 n.Kind), .t (i64 n.N), .t (.str n.Name), .t (i64 (mvI to n.A)), .t (i64 (mvI to n.B)), .t (i64 (mvI to n.C)), .slc 26 1 0 n.L.length, .slc 29 2 0 n.Cases.length]), (3, .box [.t (ints to)]), (4, .box [.t (i64 0), .t (i64 0), .t (.str ByteArray.empty), .t (i64 0), .t (i64 0), .t (i64 0), .t .nils, .t .nils]), (26, .row 3 1 (row (upd1 (mvI to) n.L i))), (29, .row 59 2 ((n.Cases).map Cas.enc))]⟩) (fun _ => True) same ?_ trivial ?_
      · simp [ints, row, upd1_zero]
      · intro i hi _
        by_cases hl : i < n.L.length
        · have hlen := upd1_len (mvI to) n.L i
          have hiX : i < (upd1 (mvI to) n.L i).length := by omega
          have hgt := upd1_get (mvI to) n.L i hl hiX
          have hsc := upd1_succ (mvI to) n.L i hl
          generalize hX : upd1 (mvI to) n.L i = X at *
          simp [hl, row, hlen, hgt, hiX]
          refine callD_intro (ts := [i64 n.L[i], .ref 1 [[ints to]] 0 0]) (by simp [ints]) _ (moved1_pure to n.L[i] (hm.l _ (List.getElem_mem hl))) (.inr (by rfl)) ?_
          simp [hl, hlen, hiX]
          rw [wr_id (n := (i : Int) + 1) (by omega) (by omega)]
          refine up_next same hl trivial ?_
          simp [hsc, row, ints, List.map_set]
        · have : i = n.L.length := by omega
          subst this
          rw [upd1_all]
          simp [row]
          refine loop_up n.Cases.length (fun i => ⟨[(53, .t (i64 i)), (52, .t (i64 n.Cases.length)), (51, .slc 29 2 0 n.Cases.length), (2, .ptr 2 0 0), (4, .ptr 4 0 0), (5, .fnv 53 [.ptr 3 0 0])], [(2, .box [.t (i64 n.Kind), .t (i64 n.N), .t (.str n.Name), .t (i64 (mvI to n.A)), .t (i64 (mvI to n.B)), .t (i64 (mvI to n.C)), .slc 26 1 0 n.L.length, .slc 29 2 0 n.Cases.length]), (3, .box [.t (ints to)]), (4, .box [.t (i64 0), .t (i64 0), .t (.str ByteArray.empty), .t (i64 0), .t (i64 0), .t (i64 0), .t .nils, .t .nils]), (26, .row 3 1 (row (n.L.map (mvI to)))), (29, .row 59 2 ((upd1 (Cas.moved to) n.Cases i).map Cas.enc))]⟩) (fun _ => True) same ?_ trivial ?_
          · simp [ints, row, upd1_zero]
          · intro i hi _
            by_cases hl : i < n.Cases.length
            · have hlen := upd1_len (Cas.moved to) n.Cases i
              have hiX : i < (upd1 (Cas.moved to) n.Cases i).length := by omega
              have hgt := upd1_get (Cas.moved to) n.Cases i hl hiX
              have hsc := upd1_succ (Cas.moved to) n.Cases i hl
              generalize hX : upd1 (Cas.moved to) n.Cases i = X at *
              simp [hl, row, hlen, hgt, hiX, Cas.enc, ints]
              refine callD_intro (ts := [ints n.Cases[i].L]) (by simp [ints]) _ (clone_pure _ (by have := h3 _ (List.getElem_mem hl); simp; omega)) (.inl (by rfl)) ?_
              simp [hl, hlen, hgt, hiX, Cas.enc]
              refine callD_intro (ts := [i64 n.Cases[i].Body, .ref 1 [[ints to]] 0 0]) (by simp [ints]) _ (moved1_pure to n.Cases[i].Body (hm.k _ (List.getElem_mem hl))) (.inr (by rfl)) ?_
              simp [hl, hlen, hiX, hgt, Cas.enc]
              rw [wr_id (n := (i : Int) + 1) (by omega) (by omega)]
              refine up_next same hl trivial ?_
              simp [hsc, row, ints, List.map_set, Cas.enc, Cas.moved]
            · have : i = n.Cases.length := by omega
              subst this
              rw [upd1_all]
              simp [row]
              simp [retR_v, row, Nod.moved, List.take_of_length_le]

end Go.Eng
