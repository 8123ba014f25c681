/- What the program's functions 7,36,13 compute (numbers of this seat): contracts, walked by the engine. -/
import Derived.Test.YthcogpecnmhhlaaEngU
import Derived.Test.YthcogpecnmhhlaaCodW
import Derived.Test.YthcogpecnmhhlaaProg
namespace Go.Eng
open Go Go.Proofs
set_option maxRecDepth 100000
set_option linter.all false
def c7 : Cd := (.seq (.reg [o1 1 (.box true 4 (.t 0)), o1 2 (.new [.str ByteArray.empty, .nils, .nils, .nils])] false) (.seq (.reg [o1 3 (.ld true 4 (.t 1)), o1 4 (.call 18 [(.t 3), (cI 300)]), o0 (.st 4 (.t 2) (.t 4))] false) .ret))
theorem tr7 : tr Try.prog (Try.f7.body.getD .skip) = some c7 := by kernel_rfl
def c13 : Cd := (.seq (.reg [o1 0 (.mv (.c (.bool false)))] false) (.seq (.reg [o1 4 (.call 36 []), o1 5 (.call 8 [(.t 4)]), o1 3 (.mv (.t 5)), o1 6 (.ext 0 (.t 3)), o1 7 (.ext 1 (.t 3)), o1 1 (.new [.str ByteArray.empty, .nils, .nils, .nils]), o0 (.st 4 (.t 1) (.t 6)), o1 2 (.mv (.t 7))] false) (.seq (.reg [o1 8 (.call 36 []), o1 9 (.call 19 [(.t 8)]), o1 10 (.bin .eql (.t 9) (cI 0)), o1 11 (.mv (.t 10)), og 12 11 true (.mv (.t 2)), og 13 11 true (.bin .eql (.t 12) (cI 0)), o1 14 (.pick (.t 11) (.t 13) (.c (.bool false))), o1 15 (.mv (.t 14)), og 16 15 true (.fa 3 (.t 1)), og 17 15 true (.ld false 1 (.t 16)), og 18 15 true (.len (.t 17)), og 19 15 true (.bin .eql (.t 18) (cI 2)), o1 20 (.pick (.t 15) (.t 19) (.c (.bool false))), o1 21 (.mv (.t 20)), og 22 21 true (.ld true 4 (.t 1)), og 23 21 true (.call 37 [(.t 22), (.c (.str ⟨#[102]⟩))]), og 24 21 true (.bin .eql (.t 23) (cI 0)), o1 25 (.pick (.t 21) (.t 24) (.c (.bool false))), o1 26 (.mv (.t 25)), og 27 26 true (.call 38 [(cI 3)]), og 28 26 true (.fld false 1 4 (.t 27)), og 29 26 true (.bin .eql (.t 28) (cI (-1))), o1 30 (.pick (.t 26) (.t 29) (.c (.bool false))), o1 0 (.mv (.t 30))] false) .ret)))
theorem tr13 : tr Try.prog (Try.f13.body.getD .skip) = some c13 := by kernel_rfl
def c36 : Cd := (.seq (.reg [o1 0 (.new [.str ByteArray.empty, .nils, .nils, .nils])] false) (.seq (.reg [o1 1 (.bld [.str ByteArray.empty, .nils, .str ByteArray.empty, .int .i64 0] [(0, 1, (.c (.str ⟨#[102]⟩)))]), o1 2 (.bs 47 4 1 [(.t 1)]), o1 3 (.bs 3 1 1 [(cI 1)]), o1 4 (.bld [.int .i64 0, .int .i64 0, .str ByteArray.empty, .int .i64 0, .int .i64 0, .int .i64 0, .nils, .nils] [(0, 1, (cI 11)), (3, 1, (cI (-1))), (4, 1, (cI (-1))), (5, 1, (cI (-1))), (6, 1, (.t 3))]), o1 5 (.bld [.int .i64 0, .int .i64 0, .str ByteArray.empty, .int .i64 0, .int .i64 0, .int .i64 0, .nils, .nils] [(0, 1, (cI 17)), (3, 1, (cI (-1))), (4, 1, (cI (-1))), (5, 1, (cI (-1)))]), o1 6 (.bs 50 8 2 [(.t 4), (.t 5)]), o1 7 (.bld [.str ByteArray.empty, .nils, .nils, .nils] [(0, 1, (.c (.str ⟨#[103]⟩))), (2, 1, (.t 2)), (3, 1, (.t 6))]), o0 (.st 4 (.t 0) (.t 7))] false) .ret))
theorem tr36 : tr Try.prog (Try.f36.body.getD .skip) = some c36 := by kernel_rfl
set_option maxHeartbeats 400000
attribute [local simp] cut spl one fillT
structure Cod.Fit (c : Cod) : Prop where
  n : c.Name.size ≤ 140737488355328
  s : c.Structs.length ≤ 140737488355328
  s2 : ∀ s ∈ c.Structs, s.L.length ≤ 140737488355328
  f : c.Funcs.length ≤ 140737488355328
  f2 : ∀ s ∈ c.Funcs, s.Params.length ≤ 140737488355328
  l : c.L.length ≤ 140737488355328
  l2 : ∀ n ∈ c.L, n.L.length ≤ 140737488355328 ∧ n.Cases.length ≤ 140737488355328 ∧ ∀ x ∈ n.Cases, x.L.length ≤ 140737488355328
theorem few_pure (c : Cod) (h : c.Fit) : Pure Try.prog 7 [.agg c.enc] (.agg (c.few 300).enc) := by
  refine walk_of mo Try.func7 tr7 (rs := [.cell 2 true 4]) (by rfl) (by rfl) ?_
  unfold c7
  simp [Cod.enc]
  refine call_t (ts := [.agg c.enc, i64 (300 : Nat)]) _ (rfew_pure c 300 (by omega) h.n h.s h.s2 h.f h.f2 h.l h.l2) (by simp) ?_
  simp [Cod.enc, retR_v]
theorem few_mem {α β : Type} {l : List α} {f : α → β} {k : Nat} {y : β} (h : y ∈ (l.take k).map f) : ∃ x ∈ l, y = f x := by
  obtain ⟨x, hx, rfl⟩ := List.mem_map.1 h
  exact ⟨x, List.mem_of_mem_take hx, rfl⟩
theorem few_node {c : Cod} {n : Nod} (h : n ∈ (c.few 300).L) : n.L.length ≤ 300 ∧ n.Cases.length ≤ 100 ∧ ∀ x ∈ n.Cases, x.L.length ≤ 100 := by
  obtain ⟨m, _, rfl⟩ := few_mem h
  refine ⟨by simp [Nod.few]; omega, by simp [Nod.few]; omega, fun x hx => ?_⟩
  obtain ⟨y, _, rfl⟩ := few_mem hx
  simp [Cas.few]; omega
theorem few_len (c : Cod) : (c.few 300).L.length ≤ 300 := by simp [Cod.few]; omega
theorem few_ok (c : Cod) : (c.few 300).Ok := ⟨by have := few_len c; omega, fun n hn => by
  obtain ⟨a, b, d⟩ := few_node hn
  exact ⟨by omega, by omega, fun x hx => by have := d x hx; omega⟩⟩
theorem few_ok2 (c : Cod) : ∀ n ∈ (c.few 300).L, ∀ x ∈ n.Cases, x.L.length ≤ 1000000000 := fun n hn x hx => by
  have := (few_node hn).2.2 x hx; omega
theorem few_S (c : Cod) : (c.few 300).Structs.length ≤ 110 := by simp [Cod.few]; omega
theorem few_F (c : Cod) : (c.few 300).Funcs.length ≤ 1010 := by simp [Cod.few]; omega
theorem few_S2 (c : Cod) : ∀ s ∈ (c.few 300).Structs, s.L.length ≤ 110 := fun s hs => by
  obtain ⟨x, _, rfl⟩ := few_mem hs; simp [Str.few]; omega
theorem few_F2 (c : Cod) : ∀ s ∈ (c.few 300).Funcs, s.Params.length ≤ 110 := fun s hs => by
  obtain ⟨x, _, rfl⟩ := few_mem hs; simp [Fun.few]; omega
theorem few_N (c : Cod) : (c.few 300).Name.size ≤ 50 := by
  simp [Cod.few]; omega
theorem few_fit (c : Cod) : (c.few 300).Fit := ⟨by have := few_N c; omega, by have := few_S c; omega, fun s hs => by have := few_S2 c s hs; omega, by have := few_F c; omega, fun s hs => by have := few_F2 c s hs; omega, by have := few_len c; omega, fun n hn => by
  obtain ⟨a, b, d⟩ := few_node hn
  exact ⟨by omega, by omega, fun x hx => by have := d x hx; omega⟩⟩
theorem take_idem {α β : Type} (l : List α) (f : α → β) (g : β → β) (k : Nat) (hg : ∀ x ∈ l, g (f x) = f x) : (((l.take (min l.length k)).map f).take (min ((l.take (min l.length k)).map f).length k)).map g = (l.take (min l.length k)).map f := by
  rw [List.take_of_length_le (by simp), List.map_map]
  exact List.map_congr_left fun x hx => hg x (List.mem_of_mem_take hx)
theorem take_idem0 {α : Type} (l : List α) (k : Nat) : (l.take (min l.length k)).take (min (l.take (min l.length k)).length k) = l.take (min l.length k) := by
  rw [List.take_of_length_le (by simp)]
theorem extract_idem (s : ByteArray) (k : Nat) : (s.extract 0 (min s.size k)).extract 0 (min (s.extract 0 (min s.size k)).size k) = s.extract 0 (min s.size k) := by
  have : min (s.extract 0 (min s.size k)).size k = (s.extract 0 (min s.size k)).size := by simp
  rw [this, ByteArray.extract_zero_size]
theorem few_idem (c : Cod) : (c.few 300).few 300 = c.few 300 := by
  have e1 : ∀ s : Str, (Str.few s).few = s.few := fun s => by simp only [Str.few, take_idem0]
  have e2 : ∀ s : Fun, (Fun.few s).few = s.few := fun s => by simp only [Fun.few, take_idem0]
  have e3 : ∀ s : Cas, (Cas.few s).few = s.few := fun s => by simp only [Cas.few, take_idem0]
  have e4 : ∀ n : Nod, (n.few 300).few 300 = n.few 300 := fun n => by
    simp only [Nod.few, take_idem0]
    rw [take_idem _ _ _ _ fun x _ => e3 x]
  simp only [Cod.few, Cod.mk.injEq]
  exact ⟨extract_idem .., take_idem _ _ _ _ fun x _ => e1 x, take_idem _ _ _ _ fun x _ => e2 x, take_idem _ _ _ _ fun x _ => e4 x⟩
def sampleC : Cod := ⟨⟨#[103]⟩, [], [⟨⟨#[102]⟩, [], ByteArray.empty, 0⟩], [⟨11, 0, ByteArray.empty, -1, -1, -1, [1], []⟩, ⟨17, 0, ByteArray.empty, -1, -1, -1, [], []⟩]⟩
theorem sample_may : sampleC.may = 0 := by
  have h : ByteArray.empty.toList.isEmpty = true := by rw [empty_iff]; simp
  simp [Cod.may, sampleC, Cod.counted, Cod.rightB, Nod.plain, Nod.named, h, Cod.kindRight, noneB, Cod.all, Cod.some, Cod.child, stmtB, blockB, tally, Nod.kids, Cod.bodies, Cod.tooDeep, Cod.deepAt, Cod.deepStep, deep0, List.range_succ]
theorem sample_norm : sampleC.norm.L.length = 2 ∧ sampleC.norm.Funcs.map (·.Name) = [⟨#[102]⟩] := by
  rw [Cod.norm, if_pos sample_may]
  exact ⟨normLAt_len _ _, rfl⟩
theorem leT_c {a b : T} {r s : List T} (h1 : leT a b) (h2 : leT (.agg r) (.agg s)) : leT (.agg (a :: r)) (.agg (b :: s)) := by
  have key : r.length = s.length ∧ ∀ (i : Nat) (x y : T), r[i]? = some x → s[i]? = some y → leT x y := by
    cases h2 with
    | refl => exact ⟨rfl, fun i x y hx hy => by rw [hx] at hy; cases hy; exact .refl _⟩
    | agg _ _ hl h => exact ⟨hl, h⟩
  refine .agg _ _ (by simp [key.1]) fun i x y hx hy => ?_
  cases i with
  | zero => simp at hx hy; subst hx hy; exact h1
  | succ i => exact key.2 i x y (by simpa using hx) (by simpa using hy)
theorem leO_one {ty z : Nat} {r s : List T} (h2 : leT (.agg r) (.agg s)) : leO (.row ty z [r]) (.row ty z [s]) := by
  have key : r.length = s.length ∧ ∀ (i : Nat) (x y : T), r[i]? = some x → s[i]? = some y → leT x y := by
    cases h2 with
    | refl => exact ⟨rfl, fun i x y hx hy => by rw [hx] at hy; cases hy; exact .refl _⟩
    | agg _ _ hl h => exact ⟨hl, h⟩
  refine .row _ _ _ _ rfl (fun i e f he hf => ?_) (fun i j e f x y he hf hx hy => ?_)
  · cases i with
    | zero => simp at he hf; subst he hf; exact key.1
    | succ i => simp at he
  · cases i with
    | zero => simp at he hf; subst he hf; exact key.2 j x y hx hy
    | succ i => simp at he
def sN1 : Nod := ⟨11, 0, ByteArray.empty, -1, -1, -1, [1], []⟩
def sN2 : Nod := ⟨17, 0, ByteArray.empty, -1, -1, -1, [], []⟩
def sF : Fun := ⟨⟨#[102]⟩, [], ByteArray.empty, 0⟩
theorem rsample_pure : Pure Try.prog 36 [] (.agg sampleC.enc) := by
  refine walk_of mo Try.func36 tr36 (rs := [.cell 0 true 4]) (by rfl) (by rfl) ?_
  unfold c36
  simp
  refine weak_intro same ⟨[(0, .ptr 0 0 0), (2, .slc 2 4 0 1), (4, .t (.agg sN1.enc)), (5, .t (.agg sN2.enc))], [(0, .box [.t (.str ByteArray.empty), .t .nils, .t .nils, .t .nils]), (2, .row 47 4 [sF.enc])]⟩ ?_ ?_
  · simp
    refine ⟨⟨?_, ?_⟩, ?_⟩
    · exact leT_c (.refl _) <| leT_c (.refl _) <| leT_c (.refl _) <| leT_c (.refl _) <| leT_c (.refl _) <| leT_c (.refl _) <| leT_c (.refl _) <| leT_c (.nil _) <| .refl _
    · exact leT_c (.refl _) <| leT_c (.refl _) <| leT_c (.refl _) <| leT_c (.refl _) <| leT_c (.refl _) <| leT_c (.refl _) <| leT_c (.nil _) <| leT_c (.nil _) <| .refl _
    · exact leO_one (leT_c (.refl _) <| leT_c (.nil _) <| .refl _)
  simp [sN1, sN2, Nod.enc, ints]
  exact retR_of (y := .agg [.str ⟨#[103]⟩, .nils, .lst 4 [sF.enc], .lst 8 [sN1.enc, sN2.enc]]) (by simp [sN1, sN2, Nod.enc, ints]) (leT_c (.refl _) <| leT_c (.nil _) <| .refl _)
theorem works_pure : Pure Try.prog 13 [] (.bool true) := by
  refine walk_of mo Try.func13 tr13 (rs := [.tmp 0]) (by rfl) (by rfl) ?_
  unfold c13
  have ok : sampleC.Ok := ⟨by decide, fun n hn => by
    simp [sampleC] at hn
    rcases hn with rfl | rfl <;> simp⟩
  have ok2 : ∀ n ∈ sampleC.L, ∀ x ∈ n.Cases, x.L.length ≤ 1000000000 := fun n hn => by
    simp [sampleC] at hn
    rcases hn with rfl | rfl <;> simp
  simp
  refine call_t (ts := []) _ rsample_pure (by simp) ?_
  simp
  refine call_t (ts := [.agg sampleC.enc]) _ (norm_pure sampleC ok ok2) (by simp) ?_
  obtain ⟨hl, hf⟩ := sample_norm
  rw [sample_may]
  generalize sampleC.norm = y at *
  simp [Cod.enc]
  refine call_t (ts := []) _ rsample_pure (by simp) ?_
  simp
  refine call_t (ts := [.agg sampleC.enc]) _ (may_pure sampleC ok) (by simp) ?_
  rw [sample_may]
  simp [hl]
  have hfl : y.Funcs.length = 1 := by simpa using congrArg List.length hf
  refine call_t (ts := [.agg y.enc, .str ⟨#[102]⟩]) _ (find_pure y ⟨#[102]⟩ (by omega)) (by simp) ?_
  have h0 : firstAt (fun f : Fun => decide (f.Name = ⟨#[102]⟩)) y.Funcs 0 = 0 := by
    match hy : y.Funcs with
    | [] => rw [hy] at hfl; cases hfl
    | f :: r =>
      rw [hy] at hf
      have : f.Name = ⟨#[102]⟩ := by simp at hf; exact hf.1
      simp [firstAt, this]
  rw [h0]
  simp
  refine call_t (ts := [i64 3]) _ (leaf_pure 3) (by simp) ?_
  simp [Nod.enc, ints]

end Go.Eng
