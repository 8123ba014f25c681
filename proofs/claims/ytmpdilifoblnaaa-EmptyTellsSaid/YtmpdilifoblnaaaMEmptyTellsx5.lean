-- A text of this claim (written by this repo's wip/myprint.py).
import Derived.Test.YtmpdilifoblnaaaMEmptyTellsx0
import Derived.Test.YtmpdilifoblnaaaMEmptyTellsx4
namespace Go.Proofs.Ytmpdilifoblnaaa.MEmptyTells
open Go.RowKit Go.Proofs.YtmpdilifoblnaaaW.PrintWords Go.Proofs.YtmpdilifoblnaaaW.PrintLast Go.Proofs.YtmpdilifoblnaaaW.PrintMore Go.Proofs.Ytmpdilifoblnaaa.Fun Go.Proofs.Ytmpdilifoblnaaa.Mem
attribute [local go_sem] max2_int min2_int max_two min_two max_three min_three max_four min_four   -- for this text's walks alone
set_option linter.unusedVariables false
set_option linter.unusedSimpArgs false

/-! ### empty_asks: function 39 -/
/-- Which production has which nonterminals, one pair for each place. -/
def occS (i : Int) (l : List S59) : List (Int × Int) := (l.filter fun s => !s.f0).map fun s => (s.f1, i)
def occ : Int → List S51 → List (Int × Int)
  | _, [] => []
  | i, p :: ps => occS i p.f1 ++ occ (i + 1) ps
theorem occ_snoc : ∀ (l : List S51) (i : Int) (p : S51), occ i (l ++ [p]) = occ i l ++ occS (i + l.length) p.f1
  | [], i, p => by simp [occ]
  | q :: l, i, p => by
    simp only [List.cons_append, occ]
    rw [occ_snoc l (i + 1) p, List.append_assoc]
    congr 3
    simp only [List.length_cons]
    omega
theorem occS_snoc (i : Int) (l : List S59) (s : S59) : occS i (l ++ [s]) = occS i l ++ (if s.f0 then [] else [(s.f1, i)]) := by
  unfold occS
  rw [List.filter_append, List.map_append]
  cases h : s.f0 <;> simp [h]
/-- A symbol that may be looked up among n. -/
def SymOk (n : Nat) (s : S59) : Prop := s.f0 = false → 0 ≤ s.f1 ∧ s.f1 < (n : Int)
theorem occ_len : ∀ (L : List S51) (i : Int), (∀ p ∈ L, p.f1.length ≤ 500) → (occ i L).length ≤ 500 * L.length
  | [], _, _ => by simp [occ]
  | p :: ps, i, h => by
    have h1 := h p List.mem_cons_self
    have h2 := occ_len ps (i + 1) (fun q hq => h q (List.mem_cons_of_mem _ hq))
    simp only [occ, List.length_append, List.length_cons]
    have h3 : (occS i p.f1).length ≤ p.f1.length := by
      unfold occS
      rw [List.length_map]
      exact List.length_filter_le _ _
    omega
def whoOf (o : List (Int × Int)) (n : Int) : List Int := (o.filter fun p => p.1 == n).map (·.2)
theorem whoOf_snoc (o : List (Int × Int)) (m i n : Int) : whoOf (o ++ [(m, i)]) n = whoOf o n ++ (if m = n then [i] else []) := by
  unfold whoOf
  rw [List.filter_append, List.map_append]
  by_cases h : m = n <;> simp [h]
theorem asks_infoI : (Try.prog.info? 3).map (fun i => (i.zero, i.size, i.bytes)) = some (some (.int .i64 0), 1, 8) := by kernel_rfl
theorem asks_infoB : (Try.prog.info? 4).map (fun i => (i.zero, i.size, i.bytes)) = some (some (.bool false), 1, 1) := by kernel_rfl
theorem law_int : Maps.Keyed Try.prog 3 := Maps.int_keyed Try.underlying3
theorem zero_ints (w : World) : (zeroValue 22).run Try.prog w = .ok (.slice none 0 0) w := by kernel_rfl
/-- BLOCK g IS A MAP OF ROWS OF WHOLE NUMBERS, FROM BLOCK base ON, THAT HOLDS THE PAIRS o. -/
structure WhoB (w : World) (g base : Nat) (o : List (Int × Int)) : Prop where mk ::
  (out : ∃ n, ∃ D : DataW Unit, w.ownsGroups Try.prog 3 base 3 .i64 g n D ∧ n ≤ o.length ∧ Maps.IsMap D ∧ ∀ i : Int, itemsOf (D.atKey (.int .i64 i) .nil) = whoOf o i)
theorem WhoB.kept {w w1 : World} {g base : Nat} {o : List (Int × Int)} (h : WhoB w g base o) (hb : Below w.heap.size w w1) : WhoB w1 g base o := by
  obtain ⟨n, D, h1, h2, h3, h4⟩ := h.out
  exact ⟨n, D, h1.kept (grown_of_below hb none) (by simp) (fun es clock _ x _ => by cases x.val.ownBlock <;> simp), h2, h3, h4⟩
theorem WhoB.made {w : World} {g base : Nat} {o : List (Int × Int)} (hg : g = w.heap.size) (hb : base = w.heap.size + 1) (ho : o = []) : WhoB (w.alloc (.map #[] 0)) g base o := by
  subst hg hb ho
  exact ⟨0, .map [], World.ownsGroups_made _ _ _ _ _, Nat.le_refl _, ⟨_, rfl⟩, fun i => rfl⟩
/-- .. wherever its rows lie. -/
def Who (w : World) (g : Nat) (o : List (Int × Int)) : Prop := ∃ base, WhoB w g base o
theorem Who.moved {w w1 : World} {g : Nat} {o : List (Int × Int)} (h : Who w g o) (hm : ∀ i, g ≤ i → i < w.heap.size → w1.heap[i]? = w.heap[i]?) : Who w1 g o := by
  obtain ⟨base, h⟩ := h
  obtain ⟨n, D, h1, h2, h3, h4⟩ := h.out
  exact ⟨base, n, D, groups_moved h1 hm, h2, h3, h4⟩
theorem Who.kept {w w1 : World} {g : Nat} {o : List (Int × Int)} (h : Who w g o) (hb : Below w.heap.size w w1) : Who w1 g o := h.imp fun _ h => h.kept hb
/-- The world of asks' loops: w's own, the asker's box, the map. -/
structure AskW (w wr : World) (av : Array Value) (o : List (Int × Int)) : Prop where
  b : Below w.heap.size w wr
  box : wr.heap[w.heap.size + 1 + 1 + 1]? = some (.cells av 55 (0, 0))
  res : ∃ rv, wr.heap[w.heap.size + 1]? = some (.cells rv 55 (0, 0)) ∧ rv.size = 5
  who : WhoB wr (w.heap.size + 1 + 1) (w.heap.size + 1 + 1 + 1) o
theorem occ_append : ∀ (l m : List S51) (i : Int), occ i (l ++ m) = occ i l ++ occ (i + l.length) m
  | [], m, i => by simp [occ]
  | q :: l, m, i => by
    simp only [List.cons_append, occ]
    rw [occ_append l m (i + 1), List.append_assoc]
    congr 3
    simp only [List.length_cons]
    omega
theorem occS_append (i : Int) (l m : List S59) : occS i (l ++ m) = occS i l ++ occS i m := by
  unfold occS
  rw [List.filter_append, List.map_append]
theorem occ_room (L : List S51) (kk : Nat) (hk : kk < L.length) (p : S51) (hp : L.take (kk + 1) = L.take kk ++ [p]) (jj : Nat) (n : Int) (hx : p.f1.take (jj + 1) = p.f1.take jj ++ [⟨false, n⟩]) :
    (occ 0 (L.take kk) ++ occS kk (p.f1.take jj)).length + 1 ≤ (occ 0 L).length := by
  have e : L = L.take kk ++ [p] ++ L.drop (kk + 1) := by rw [← hp, List.take_append_drop]
  have e2 : p.f1 = p.f1.take jj ++ [⟨false, n⟩] ++ p.f1.drop (jj + 1) := by rw [← hx, List.take_append_drop]
  have h1 : (occ 0 L).length = (occ 0 (L.take kk)).length + (occS (0 + ((L.take kk).length : Int)) p.f1).length + (occ (0 + ((L.take kk ++ [p]).length : Int)) (L.drop (kk + 1))).length := by
    conv => lhs; rw [e]
    rw [occ_append, occ_snoc, List.length_append, List.length_append]
  have hl : ∀ i : Int, (occS i p.f1).length = (occS i (p.f1.take jj)).length + 1 + (occS i (p.f1.drop (jj + 1))).length := by
    intro i
    conv => lhs; rw [e2]
    rw [occS_append, occS_append, List.length_append, List.length_append]
    rfl
  have hk2 : (0 : Int) + ((L.take kk).length : Int) = (kk : Int) := by rw [List.length_take, Nat.min_eq_left (by omega)]; omega
  rw [hk2] at h1
  have := hl kk
  rw [List.length_append]
  omega
theorem WhoB.set {w : World} {g base x j : Nat} {o : List (Int × Int)} (h : WhoB w g base o) (hg : g ≠ x) (hx : x < base) (u : Value) : WhoB (w.setCell ⟨x, j, none⟩ u) g base o := by
  obtain ⟨n, D, h1, h2, h3, h4⟩ := h.out
  exact ⟨n, D, h1.kept (grown_set w x j u) (by simpa using hg) (h1.rowsAbove (fun j e => by cases e; exact hx)), h2, h3, h4⟩
theorem AskW.kept {w wr w1 : World} {av : Array Value} {o : List (Int × Int)} (h : AskW w wr av o) (hb : Below wr.heap.size wr w1) : AskW w w1 av o := by
  obtain ⟨h1, h2, ⟨rv, h3, h3'⟩, h4⟩ := h
  exact ⟨below_step h1 hb, (hb.block _ (blk_lt h2)).trans h2, ⟨rv, (hb.block _ (blk_lt h3)).trans h3, h3'⟩, h4.kept hb⟩
set_option maxHeartbeats 4000000 in
set_option maxRecDepth 100000 in
theorem empty_asks_calls (toks look : Int) (A2 : Option Addr) (c2 : Nat) (o : List Int) (A3 : Option Addr) (c3 : Nat) (L : List S51) (w : World)
    (r2 : Kd.C (Kd.int .i64) w A2 o.length o) (l2 : o.length ≤ c2) (r3 : Kd.C k51 w A3 L.length L) (l3 : L.length ≤ c3)
    (hok : ∀ p ∈ L, ∀ s ∈ p.f1, s.f0 = false → 0 ≤ s.f1 ∧ s.f1 ≤ 9223372036854775807) (hlen : (occ 0 L).length ≤ 1000000000) :
    Calls Try.prog 39 #[.agg #[.int .i64 toks, .int .i64 look, .slice A2 o.length c2, .slice A3 L.length c3]] w
      fun e w' => ∃ g, e = .returned (.agg #[.int .i64 toks, .int .i64 look, .slice A2 o.length c2, .slice A3 L.length c3, .map (some g)]) ∧ Who w' g (occ 0 L) ∧ Below w.heap.size w w' ∧ w.heap.size ≤ g := by
  have hmm := @run_makeMap Try.prog
  have HR3 := Aside0.mk r3
  have HL3 := Aside0.mk l3
  have HOK := Aside0.mk hok
  have HLEN := Aside0.mk hlen
  have hbig : L.length ≤ 9223372036854775807 := r3.2.1
  have HBIG := Aside0.mk hbig
  clear r2 l2 r3 l3 hok hlen
  obtain ⟨av, hav⟩ : ∃ av : Array Value, av = #[.int .i64 toks, .int .i64 look, .slice A2 o.length c2, .slice A3 L.length c3, .map (some (w.heap.size + 1 + 1))] := ⟨_, rfl⟩
  have HAV := Aside0.mk hav
  clear hav
  go_enter Try.func39, Try.ntmps39
  go_wp2
  go_loopg [14] L.length (fun gg v14 wr => ∃ kk : Nat, kk ≤ L.length ∧ L.length - kk ≤ gg ∧ v14 = .int .i64 kk ∧ Aside0 (AskW w wr av (occ 0 (L.take kk))))
  case atStart =>
    refine ⟨0, Nat.zero_le _, by omega, rfl, ⟨?_, ?_, ?_, ?_⟩⟩
    · repeat (first | exact Below.refl _ _ | apply below_alloc)
    · rw [HAV.out]; exact hp_new (by simp)
    · exact ⟨_, hp_old (hp_old (hp_new (by simp))), rfl⟩
    · exact (WhoB.made (by simp) (by simp) rfl).kept (below_alloc (Below.refl _ _) _)
  case round =>
    obtain ⟨kk, hkk, hg, rfl, HW⟩ := hrel
    by_cases hlt : kk < L.length
    · have hltz : (kk : Int) < (L.length : Int) := by omega
      obtain ⟨ad, cs, hA, hcl, hK, hcell⟩ := Kd.C_get HR3.out z51 (kk : Int) (by omega) (by omega)
      have hx : L.getD (kk : Int).toNat z51 = L[kk] := by rw [Int.toNat_natCast, List.getD_eq_getElem?_getD, List.getElem?_eq_getElem hlt]; rfl
      rw [hx] at hK
      obtain ⟨A1, c1, rfl, l1, r1⟩ := k51_open hK
      have hc0 : wr.cell? (ad.add (kk * 2)) = some (.int .i64 L[kk].f0) := by have := pw_cell_below HW.out.b (hcell 0 _ rfl); rwa [Int.toNat_natCast, Nat.add_zero] at this
      have hc1 : wr.cell? ⟨(ad.add (kk * 2)).block, (ad.add (kk * 2)).off + 1, none⟩ = some (.slice A1 L[kk].f1.length c1) := by
        have := pw_cell_below HW.out.b (hcell 1 _ rfl)
        rw [Int.toNat_natCast] at this
        rw [← add_field _ _ 1 (by omega)]; exact this
      have HR1 := Aside0.mk r1
      have hbig1 : L[kk].f1.length ≤ 9223372036854775807 := r1.2.1
      have HP := Aside0.mk (show L[kk] ∈ L from List.getElem_mem hlt)
      have HX := Aside0.mk (List.take_succ_eq_append_getElem hlt)
      generalize L[kk] = p at hc0 hc1 HR1 HP HX hbig1
      clear hcell hcl hK hx l1 r1
      subst hA
      go_wp2_with fail
      go_loopg [22] p.f1.length (fun gg v22 wr2 => ∃ jj : Nat, jj ≤ p.f1.length ∧ p.f1.length - jj ≤ gg ∧ v22 = .int .i64 jj ∧ Aside0 (AskW w wr2 av (occ 0 (L.take kk) ++ occS kk (p.f1.take jj))))
      case atStart =>
        refine ⟨0, Nat.zero_le _, by omega, rfl, ⟨?_⟩⟩
        have h := HW.out.kept (below_alloc (Below.refl _ _) (.cells #[.int .i64 p.f0, .slice A1 p.f1.length c1] 51))
        rwa [show occ 0 (L.take kk) ++ occS kk (p.f1.take 0) = occ 0 (L.take kk) from by simp [occS]]
      case round =>
        clear hc0 hc1
        obtain ⟨jj, hjj, hg2, rfl, HW2⟩ := hrel
        by_cases hlt2 : jj < p.f1.length
        · have hltz2 : (jj : Int) < (p.f1.length : Int) := by omega
          obtain ⟨ad2, cs, hA, hcl, hK, hcell⟩ := Kd.C_get HR1.out z59 (jj : Int) (by omega) (by omega)
          have hx : p.f1.getD (jj : Int).toNat z59 = p.f1[jj] := by rw [Int.toNat_natCast, List.getD_eq_getElem?_getD, List.getElem?_eq_getElem hlt2]; rfl
          rw [hx] at hK
          obtain rfl := k59_open hK
          have hc0 : wr.cell? (ad2.add (jj * 2)) = some (.bool p.f1[jj].f0) := by have := pw_cell_below HW2.out.b (hcell 0 _ rfl); rwa [Int.toNat_natCast, Nat.add_zero] at this
          have hc1 : wr.cell? ⟨(ad2.add (jj * 2)).block, (ad2.add (jj * 2)).off + 1, none⟩ = some (.int .i64 p.f1[jj].f1) := by
            have := pw_cell_below HW2.out.b (hcell 1 _ rfl)
            rw [Int.toNat_natCast] at this
            rw [← add_field _ _ 1 (by omega)]; exact this
          have HS := Aside0.mk (show p.f1[jj] ∈ p.f1 from List.getElem_mem hlt2)
          have HX2 := Aside0.mk (List.take_succ_eq_append_getElem hlt2)
          generalize p.f1[jj] = s at hc0 hc1 HS HX2
          clear hcell hcl hK hx
          subst hA
          obtain ⟨tok, n⟩ := s
          cases tok with
          | true =>
            go_wp2_with fail
            go_roundg (p.f1.length - (jj + 1))
            case measure => omega
            case rel =>
              refine ⟨jj + 1, by omega, by omega, by go_num, ⟨?_⟩⟩
              rw [HX2.out, occS_snoc]
              simp only [if_true, List.append_nil]
              exact HW2.out.kept (below_alloc (Below.refl _ _) _)
          | false =>
            go_wp2_with fail
            have hN := HOK.out p HP.out _ HS.out rfl
            have hn0 : 0 ≤ n := hN.1
            have hn1 : n ≤ 9223372036854775807 := hN.2
            clear hN hc0 hc1
            have HW3 := HW2.out.kept (below_alloc (Below.refl _ _) (.cells #[.bool false, .int .i64 n] 59))
            have hsc : (wr.alloc (.cells #[.bool false, .int .i64 n] 59)).cell? ⟨wr.heap.size, 1, none⟩ = some (.int .i64 n) := (blk_cell (hp_new rfl) 1).trans rfl
            have hac : (wr.alloc (.cells #[.bool false, .int .i64 n] 59)).cell? ⟨w.heap.size + 1 + 1 + 1, 4, none⟩ = some (.map (some (w.heap.size + 1 + 1))) := (blk_cell HW3.box 4).trans (by rw [HAV.out]; rfl)
            have hsb : (wr.alloc (.cells #[.bool false, .int .i64 n] 59)).heap[wr.heap.size]? = some (.cells #[.bool false, .int .i64 n] 59 (0, 0)) := hp_new rfl
            generalize wr.alloc (.cells #[.bool false, .int .i64 n] 59) = W at HW3 hsc hac hsb
            obtain ⟨m, D, hown, hm, hD, hit⟩ := HW3.who.out
            have hkey := Maps.keyOf_int_mk (P := Try.prog) (k := 3) Try.underlying3 (a := n) (WalkArith.wf_i64 ⟨by omega, hn1⟩)
            have hroom := occ_room L kk hlt p HX.out jj n HX2.out
            have hlen := HLEN.out
            have hlm : m + 1 ≤ 1000000000 := by omega
            clear hroom hlen
            obtain ⟨v, zs, hrun, hat, hoi, hzl, hback⟩ := hown.at law_int Try.underlying53 (zero_ints _) (by unfold maxLen; omega) hkey
            have hbw : w.heap.size + 1 + 1 + 1 < W.heap.size := blk_lt HW3.box
            have hws := blk_lt hsb
            have hw0 := blk_lt HW2.out.box
            have hne3 : some (w.heap.size + 1 + 1 + 1) ≠ v.ownBlock := own_ne hoi.1 HW3.box (by decide)
            have hne0 : some wr.heap.size ≠ v.ownBlock := own_ne hoi.1 hsb (by decide)
            have hl1 := look_stays hown law_int Try.underlying53 zero_ints hkey hrun (w1 := (W.alloc (.cells #[.int .i64 kk] 3)).drew) (hp_old' (by omega))
            have hl2 := look_stays hown law_int Try.underlying53 zero_ints hkey hrun (w1 := (W.drew.alloc (.cells #[.int .i64 kk] 3)).drew) (hp_old' (by simp; omega))
            have hl3 := look_stays hown law_int Try.underlying53 zero_ints hkey hrun (w1 := W.drew.alloc (.cells #[.int .i64 kk] 3)) (hp_old' (by simp; omega))
            have hl4 := look_stays hown law_int Try.underlying53 zero_ints hkey hrun (w1 := W.alloc (.cells #[.int .i64 kk] 3)) (hp_old' (by omega))
            have hl5 := look_stays hown law_int Try.underlying53 zero_ints hkey hrun (w1 := W.drew) rfl
            have HBK := Aside0.mk hback
            have HAT := Aside0.mk hat
            have HOI := Aside0.mk hoi
            have HOW := Aside0.mk hown
            clear hback hat hoi hown
            go_region_held3 (fun w' => w'.cell? ⟨w.heap.size + 1 + 1 + 1, 4, none⟩ = some (.map (some (w.heap.size + 1 + 1))) ∧ w'.cell? ⟨wr.heap.size, 1, none⟩ = some (.int .i64 n))
              (first
                | go_keep
                | (go_split_ands
                   refine ⟨?_, ?_⟩
                   · (rw [hgrow.cell_far _ (by simp; omega) hne3]; assumption)
                   · (rw [hgrow.cell_far _ (by simp; omega) hne0]; assumption))
                | (go_split_ands
                   refine ⟨?_, ?_⟩
                   · (rw [hgrow2.cell_far _ (by have := hgrow.size; simp at this; simp; omega) (by simp)]; assumption)
                   · (rw [hgrow2.cell_far _ (by have := hgrow.size; simp at this; simp; omega) (by simp; omega)]; assumption)))
              ((refine step_append_cells (w0 := W) (W := W.drew) (w.heap.size + 1 + 1 + 1) (by rfl) _ _ 22 3 (.int .i64 0) 1 8 (by rfl) Try.underlying22 asks_infoI rfl (by decide) (by decide) v zs.length (zs.map (Value.int .i64)) [.int .i64 kk] (by rfl) (by rfl) rfl (by simp [Value.oneCell']) HOI.out.1 (below_drew1 (Below.refl _ _)) (by simp; omega) (by omega) ?_; intro v1 w1 hown1 hB1 hgrow hat1; obtain ⟨w2, hrun2, hown2, hgrow2⟩ := HBK.out w1 v1 (zs ++ [(kk : Int)]) ⟨hgrow.os, hgrow.tape, hgrow.output, hgrow.size, hgrow.block⟩ (HOI.out.appended hown1 (WalkArith.wf_i64 ⟨by omega, by omega⟩)) (by rw [List.length_append]; simp only [List.length_cons, List.length_nil]; omega) (hat1.imp id (fun h => h)); have HG1 := Aside0.mk hgrow; have HG2 := Aside0.mk hgrow2; have HO1 := Aside0.mk hown1; have HO2 := Aside0.mk hown2; have HA1 := Aside0.mk hat1; clear hown1 hown2 hB1 hat1))
            all_goals
              go_wp2_with fail
              go_roundg (p.f1.length - (jj + 1))
              case measure => omega
              case rel =>
                refine ⟨jj + 1, by omega, by omega, by go_num, ⟨?_⟩⟩
                have hoi := HOI.out
                have hg1 : W.grownBy w1 v.ownBlock := ⟨HG1.out.os, HG1.out.tape, HG1.out.output, HG1.out.size, HG1.out.block⟩
                have hg2 := HG2.out
                have hbase := own_base hoi.1
                have hms := Nat.lt_of_lt_of_le hbw hg1.size
                refine ⟨HW3.b.groups hoi hg1 hg2 HW3.b.size (by omega) (by omega), (hg2.block _ (by omega) (by simp)).trans ((hg1.block _ hbw hne3).trans HW3.box), ?_, ⟨m + 1, _, HO2.out, ?_, hD.put _ _, fun i => ?_⟩⟩
                · obtain ⟨rv, hr, hrs⟩ := HW3.res
                  exact ⟨rv, (hg2.block _ (by omega) (by simp)).trans ((hg1.block _ (by omega) (fun e => by have := hbase _ e.symm; omega)).trans hr), hrs⟩
                · rw [HX2.out, occS_append, ← List.append_assoc, List.length_append]
                  exact Nat.succ_le_succ hm
                · rw [HX2.out, occS_append, ← List.append_assoc]
                  show _ = whoOf (_ ++ [(n, (kk : Int))]) i
                  rw [whoOf_snoc]
                  by_cases e : n = i
                  · subst e
                    rw [Maps.atKey_put_same hD (law_int.key hkey), if_pos rfl, itemsOf_row (hoi.appended HO1.out (WalkArith.wf_i64 ⟨by omega, by omega⟩)), ← hit n, HAT.out, itemsOf_row hoi]
                  · rw [Maps.atKey_put_other (fun h => e (by simpa using h.symm)), if_neg e, List.append_nil]
                    exact hit i
        · have hltz2 : ¬ (jj : Int) < (p.f1.length : Int) := by omega
          have hjl : jj = p.f1.length := by omega
          subst hjl
          go_wp2_with fail
          go_roundg (L.length - (kk + 1))
          case measure => omega
          case rel =>
            refine ⟨kk + 1, by omega, by omega, by go_num, ⟨?_⟩⟩
            have h := HW2.out
            rw [List.take_length] at h
            rw [HX.out, occ_snoc, List.length_take, Nat.min_eq_left (by omega), Int.zero_add]
            exact h
    · have hltz : ¬ (kk : Int) < (L.length : Int) := by omega
      have hkl : kk = L.length := by omega
      subst hkl
      obtain ⟨rv, hres, hrs⟩ := HW.out.res
      have hbox := HW.out.box
      rw [HAV.out] at hbox
      have x0 : wr.cell? ⟨w.heap.size + 1 + 1 + 1, 0, none⟩ = some (.int .i64 toks) := (blk_cell hbox 0).trans rfl
      have x1 : wr.cell? ⟨w.heap.size + 1 + 1 + 1, 1, none⟩ = some (.int .i64 look) := (blk_cell hbox 1).trans rfl
      have x2 : wr.cell? ⟨w.heap.size + 1 + 1 + 1, 2, none⟩ = some (.slice A2 o.length c2) := (blk_cell hbox 2).trans rfl
      have x3 : wr.cell? ⟨w.heap.size + 1 + 1 + 1, 3, none⟩ = some (.slice A3 L.length c3) := (blk_cell hbox 3).trans rfl
      have x4 : wr.cell? ⟨w.heap.size + 1 + 1 + 1, 4, none⟩ = some (.map (some (w.heap.size + 1 + 1))) := (blk_cell hbox 4).trans rfl
      obtain ⟨q0, q1, q2, q3, q4, rfl⟩ : ∃ q0 q1 q2 q3 q4, rv = #[q0, q1, q2, q3, q4] := by
        rcases rv with ⟨l⟩
        match l, hrs with
        | [q0, q1, q2, q3, q4], _ => exact ⟨q0, q1, q2, q3, q4, rfl⟩
      have y0 : wr.cell? ⟨w.heap.size + 1, 0, none⟩ = some q0 := (blk_cell hres 0).trans rfl
      have f0 := blk_frozen hres 0
      have y1 : wr.cell? ⟨w.heap.size + 1, 1, none⟩ = some q1 := (blk_cell hres 1).trans rfl
      have f1 := blk_frozen hres 1
      have y2 : wr.cell? ⟨w.heap.size + 1, 2, none⟩ = some q2 := (blk_cell hres 2).trans rfl
      have f2 := blk_frozen hres 2
      have y3 : wr.cell? ⟨w.heap.size + 1, 3, none⟩ = some q3 := (blk_cell hres 3).trans rfl
      have f3 := blk_frozen hres 3
      have y4 : wr.cell? ⟨w.heap.size + 1, 4, none⟩ = some q4 := (blk_cell hres 4).trans rfl
      have f4 := blk_frozen hres 4
      have HRS := Aside0.mk hres
      clear hres hrs
      clear hbox
      go_wp2_with fail
      have hb := HW.out.b
      have hwho := HW.out.who
      rw [List.take_length] at hwho
      refine bodyPost_ret (results_cell_row rfl _ _ (w.heap.size + 1) 55 #[.int .i64 toks, .int .i64 look, .slice A2 o.length c2, .slice A3 L.length c3, .map (some (w.heap.size + 1 + 1))] (0, 0) _ rfl
        (by refine blk_put (cs := #[.int .i64 toks, .int .i64 look, .slice A2 o.length c2, .slice A3 L.length c3, q4]) ?_ 4 _ rfl
            refine blk_put (cs := #[.int .i64 toks, .int .i64 look, .slice A2 o.length c2, q3, q4]) ?_ 3 _ rfl
            refine blk_put (cs := #[.int .i64 toks, .int .i64 look, q2, q3, q4]) ?_ 2 _ rfl
            refine blk_put (cs := #[.int .i64 toks, q1, q2, q3, q4]) ?_ 1 _ rfl
            refine blk_put (cs := #[q0, q1, q2, q3, q4]) ?_ 0 _ rfl
            exact HRS.out) Try.underlying55 rfl (by kernel_rfl)) rfl ?_
      refine ⟨_, rfl, ⟨_, ((((hwho.set (by omega) (by omega) _).set (by omega) (by omega) _).set (by omega) (by omega) _).set (by omega) (by omega) _).set (by omega) (by omega) _⟩, ?_, by omega⟩
      exact below_set (below_set (below_set (below_set (below_set hb (by omega)) (by omega)) (by omega)) (by omega)) (by omega)


/-! ### empty_row: function 40 -/
def empty_row.l0 : Nat → List Int → Int → List (S59) → Int → Int → Option (Int)
  | 0, _, _, _, _, _ => none
  | k + 1, x1, x5, x8, x9, x10 => if x10 < x9 then (if 0 ≤ x10 then (if x10 < (x8.length : Int) then (if (rd_T59 x8 x10).f0 = true then (empty_row.l0 k x1 (wrap64 (x5 + 1)) x8 x9 (wrap64 (x10 + 1))) else (if 0 ≤ ((rd_T59 x8 x10).f1) then (if ((rd_T59 x8 x10).f1) < (x1.length : Int) then (if (rd x1 ((rd_T59 x8 x10).f1)) < 0 then (some (-1)) else (empty_row.l0 k x1 (wrap64 (x5 + (rd x1 ((rd_T59 x8 x10).f1)))) x8 x9 (wrap64 (x10 + 1)))) else (none)) else (none))) else (none)) else (none)) else (some (mn x5 1000000))
def empty_row.f (k : Nat) (l0 : List (S59)) (l1 : List Int) : Option (Int) := empty_row.l0 k l1 0 l0 (l0.length : Int) 0
theorem empty_row.mono_l : ∀ k, (∀ y0 y1 y2 y3 y4, LeO (empty_row.l0 k y0 y1 y2 y3 y4) (empty_row.l0 (k + 1) y0 y1 y2 y3 y4))
  | 0 => fun _ _ _ _ _ r h => by simp [empty_row.l0] at h
  | k + 1 => by
    have ih0 := empty_row.mono_l k
    · intro y0 y1 y2 y3 y4
      unfold empty_row.l0
      repeat' first
      | (with_reducible exact ih0 _ _ _ _ _)
      | (with_reducible exact LeO.refl _)
      | (with_reducible exact LeO.none _)
      | (with_reducible refine LeO.ite ?_ ?_)
      | (with_reducible refine LeO.bind ?_ (fun _ => ?_))
      | exact ih0 _ _ _ _ _
      | exact LeO.none _
      | refine LeO.ite ?_ ?_
      | refine LeO.bind ?_ (fun _ => ?_)
theorem empty_row.mono : ∀ a0 a1 k, LeO (empty_row.f k a0 a1) (empty_row.f (k + 1) a0 a1) := by
  intro a0 a1 k
  have ih0 := empty_row.mono_l k
  unfold empty_row.f
  repeat' first
      | (with_reducible exact ih0 _ _ _ _ _)
      | (with_reducible exact LeO.refl _)
      | (with_reducible exact LeO.none _)
      | (with_reducible refine LeO.ite ?_ ?_)
      | (with_reducible refine LeO.bind ?_ (fun _ => ?_))
      | exact ih0 _ _ _ _ _
      | exact LeO.none _
      | refine LeO.ite ?_ ?_
      | refine LeO.bind ?_ (fun _ => ?_)
set_option maxHeartbeats 8000000 in
set_option maxRecDepth 100000 in
theorem empty_row.calls (k : Nat) (A0 : Option Addr) (c0 : Nat) (l0 : List (S59)) (A1 : Option Addr) (c1 : Nat) (l1 : List Int) (r : Int) (w : World) (hr0 : Kd.C k59 w A0 l0.length l0) (hc0 : l0.length ≤ c0) (hr1 : Kd.C (Kd.int .i64) w A1 l1.length l1) (hc1 : l1.length ≤ c1) (h : empty_row.f k l0 l1 = some r) :
    Calls Try.prog 40 #[.slice A0 l0.length c0, .slice A1 l1.length c1] w fun e w' => e = .returned (.int .i64 r) ∧ Below w.heap.size w w' := by
  have hu59 := Try.underlying59
  have HR0 := Aside0.mk hr0
  have HC0 := Aside0.mk hc0
  clear hr0 hc0
  have HR1 := Aside0.mk hr1
  have HC1 := Aside0.mk hc1
  clear hr1 hc1
  have HB := Aside0.mk (Below.refl w.heap.size w)
  have H : (empty_row.l0 k l1 0 l0 (l0.length : Int) 0) = some r := h
  clear h
  have H' := Aside0.mk H
  clear H
  go_enter Try.func40, Try.ntmps40
  go_wp2
  (try (with_reducible (show Code.wp _ _ _ (Act.put _ _ _) _); go_simp))
  go_loopg [5, 10] k (fun kq v5 v10 w' => ∃ (x5_1 : Int) (x10_1 : Int), v5 = .int .i64 x5_1 ∧ v10 = .int .i64 x10_1 ∧ Aside0 (empty_row.l0 kq l1 x5_1 l0 (l0.length : Int) x10_1 = some r) ∧ Aside0 (kq ≤ k) ∧ Aside0 (Below w.heap.size w w'))
  case atStart => exact ⟨(0), (0), (by first | rfl | (simp; done) | (simp [*]; done)), (by first | rfl | (simp; done) | (simp [*]; done)), H', ⟨Nat.le_refl _⟩, ⟨by repeat (first | (with_reducible first | exact HB.out | apply below_alloc | apply pw_below_drewN | apply below_drew1) | exact HB.out)⟩⟩
  case round =>
    clear H'
    try clear c1
    try clear p2
    obtain ⟨x5_1, x10_1, rfl, rfl, HA, HK1, HB⟩ := hrel
    cases gk with
    | zero => exact absurd HA.out (by simp [empty_row.l0])
    | succ k1 =>
      have H := HA.out
      clear HA
      simp only [empty_row.l0] at H
      by_cases c3 : x10_1 < (l0.length : Int)
      · rw [if_pos c3] at H
        have c3b0 : decide (x10_1 < (l0.length : Int)) = true := decide_eq_true c3
        clear c3
        by_cases c4 : 0 ≤ x10_1
        · rw [if_pos c4] at H
          have c4b0 : decide (0 ≤ x10_1) = true := decide_eq_true c4
          clear c4
          by_cases c5 : x10_1 < (l0.length : Int)
          · rw [if_pos c5] at H
            have c5b0 : decide (x10_1 < (l0.length : Int)) = true := decide_eq_true c5
            clear c5
            obtain ⟨bq6, hbq6⟩ : ∃ b_ : Bool, b_ = ((rd_T59 l0 x10_1).f0) := ⟨_, rfl⟩
            replace H : (if bq6 = true then (empty_row.l0 k1 l1 (wrap64 (x5_1 + 1)) l0 (l0.length : Int) (wrap64 (x10_1 + 1))) else (if 0 ≤ ((rd_T59 l0 x10_1).f1) then (if ((rd_T59 l0 x10_1).f1) < (l1.length : Int) then (if (rd l1 ((rd_T59 l0 x10_1).f1)) < 0 then (some (-1)) else (empty_row.l0 k1 l1 (wrap64 (x5_1 + (rd l1 ((rd_T59 l0 x10_1).f1)))) l0 (l0.length : Int) (wrap64 (x10_1 + 1)))) else (none)) else (none))) = some r := by rw [← hbq6] at H; exact H
            have Nbq6 := Aside0.mk hbq6
            clear hbq6
            by_cases c7 : bq6 = true
            · subst c7
              have H1 : (empty_row.l0 k1 l1 (wrap64 (x5_1 + 1)) l0 (l0.length : Int) (wrap64 (x10_1 + 1))) = some r := by rw [if_pos rfl] at H; exact H
              clear H
              have H := H1
              clear H1
              have H' := Aside0.mk H
              clear H
              have p141 : 0 ≤ (x10_1 : Int) := of_decide_eq_true (by first | (with_reducible assumption) | assumption)
              have q141 : x10_1 < (l0.length : Int) := of_decide_eq_true (by first | (with_reducible assumption) | assumption)
              obtain ⟨ad141, e141, hx141_0, hx141_1⟩ := at_T59 HR0.out x10_1 p141 q141
              (try rw [← Nbq6.out] at hx141_0)
              cases e141
              have Nhx141_0 := Aside0.mk hx141_0; replace hx141_0 := (HB.out.cell (World.block_lt_of_cell? w _ hx141_0)).trans hx141_0
              have Nhx141_1 := Aside0.mk hx141_1; replace hx141_1 := (HB.out.cell (World.block_lt_of_cell? w _ hx141_1)).trans hx141_1
              replace p141 := eq_true p141
              replace q141 := eq_true q141
              go_wp2_with (first | ((with_reducible refine gate_dst (N := 7) rfl ?_); refine box_event ?hg (N := 7) ?hd (cs := #[.bool false, .int .i64 0]) (t := 59) ?hr ?_; (case hd => rfl); (case hg => rfl); (case hr => first | (go_simp; done) | (go_simp; rfl)); intro gb142 hg w8 hbox hb; have n0_ := Aside0.mk (below_step (by repeat (first | (with_reducible first | exact HB.out | apply below_alloc | apply pw_below_drewN | apply below_drew1) | exact HB.out)) hb); have n1_ := Aside0.mk (hbox); have n2_ := Aside0.mk ((by rw [hg]; exact (below_size (by repeat (first | (with_reducible first | exact HB.out | apply below_alloc | apply pw_below_drewN | apply below_drew1) | exact HB.out))) : w.heap.size ≤ gb142)); have n3_ := Aside0.mk ((by rw [hg]; exact (below_size (by repeat (first | (with_reducible first | exact HB.out | apply below_alloc | apply pw_below_drewN | apply below_drew1) | exact HB.out))) : w.heap.size ≤ gb142)); clear HB; have HB := n0_; have BK142 := n1_; have GW142 := n2_; have GE142 := n3_; clear n0_ n1_ n2_ n3_; clear hb hbox hg; have hcz9_0 : w8.cell? ⟨gb142, 0, none⟩ = some (.bool false) := (blk_cell BK142.out 0).trans rfl; have hcz9_1 : w8.cell? ⟨gb142, 1, none⟩ = some (.int .i64 0) := (blk_cell BK142.out 1).trans rfl; have hfz9_0 := blk_frozen BK142.out 0; have hfz9_1 := blk_frozen BK142.out 1))
              go_roundg k1
              case measure => have := HK1.out; omega
              case rel => exact ⟨(wrap64 (x5_1 + 1)), (wrap64 (x10_1 + 1)), (by first | rfl | (simp; done) | (simp [*]; done)), (by first | rfl | (simp; done) | (simp [*]; done)), H', ⟨by have := HK1.out; omega⟩, ⟨by repeat (first | (with_reducible first | exact HB.out | apply below_alloc | apply pw_below_drewN | apply below_drew1 | refine below_set ?_ GE142.out) | exact HB.out)⟩⟩
            · replace c7 := Bool.eq_false_iff.mpr c7
              subst c7
              have H1 : (if 0 ≤ ((rd_T59 l0 x10_1).f1) then (if ((rd_T59 l0 x10_1).f1) < (l1.length : Int) then (if (rd l1 ((rd_T59 l0 x10_1).f1)) < 0 then (some (-1)) else (empty_row.l0 k1 l1 (wrap64 (x5_1 + (rd l1 ((rd_T59 l0 x10_1).f1)))) l0 (l0.length : Int) (wrap64 (x10_1 + 1)))) else (none)) else (none)) = some r := by rw [if_neg (show ¬ (false = true) by decide)] at H; exact H
              clear H
              have H := H1
              clear H1
              by_cases c10 : 0 ≤ ((rd_T59 l0 x10_1).f1)
              · rw [if_pos c10] at H
                have c10b0 : decide (0 ≤ ((rd_T59 l0 x10_1).f1)) = true := decide_eq_true c10
                clear c10
                by_cases c11 : ((rd_T59 l0 x10_1).f1) < (l1.length : Int)
                · rw [if_pos c11] at H
                  have c11b0 : decide (((rd_T59 l0 x10_1).f1) < (l1.length : Int)) = true := decide_eq_true c11
                  clear c11
                  by_cases c12 : (rd l1 ((rd_T59 l0 x10_1).f1)) < 0
                  · rw [if_pos c12] at H
                    have c12b0 : decide ((rd l1 ((rd_T59 l0 x10_1).f1)) < 0) = true := decide_eq_true c12
                    clear c12
                    obtain rfl := Option.some.inj H
                    have p141 : 0 ≤ (x10_1 : Int) := of_decide_eq_true (by first | (with_reducible assumption) | assumption)
                    have q141 : x10_1 < (l0.length : Int) := of_decide_eq_true (by first | (with_reducible assumption) | assumption)
                    obtain ⟨ad141, e141, hx141_0, hx141_1⟩ := at_T59 HR0.out x10_1 p141 q141
                    (try rw [← Nbq6.out] at hx141_0)
                    cases e141
                    have Nhx141_0 := Aside0.mk hx141_0; replace hx141_0 := (HB.out.cell (World.block_lt_of_cell? w _ hx141_0)).trans hx141_0
                    have Nhx141_1 := Aside0.mk hx141_1; replace hx141_1 := (HB.out.cell (World.block_lt_of_cell? w _ hx141_1)).trans hx141_1
                    replace p141 := eq_true p141
                    replace q141 := eq_true q141
                    go_wp2_with (first | ((with_reducible refine gate_dst (N := 7) rfl ?_); refine box_event ?hg (N := 7) ?hd (cs := #[.bool false, .int .i64 0]) (t := 59) ?hr ?_; (case hd => rfl); (case hg => rfl); (case hr => first | (go_simp; done) | (go_simp; rfl)); intro gb142 hg w13 hbox hb; have n0_ := Aside0.mk (below_step (by repeat (first | (with_reducible first | exact HB.out | apply below_alloc | apply pw_below_drewN | apply below_drew1) | exact HB.out)) hb); have n1_ := Aside0.mk (hbox); have n2_ := Aside0.mk ((by rw [hg]; exact (below_size (by repeat (first | (with_reducible first | exact HB.out | apply below_alloc | apply pw_below_drewN | apply below_drew1) | exact HB.out))) : w.heap.size ≤ gb142)); have n3_ := Aside0.mk ((by rw [hg]; exact (below_size (by repeat (first | (with_reducible first | exact HB.out | apply below_alloc | apply pw_below_drewN | apply below_drew1) | exact HB.out))) : w.heap.size ≤ gb142)); clear HB; have HB := n0_; have BK142 := n1_; have GW142 := n2_; have GE142 := n3_; clear n0_ n1_ n2_ n3_; clear hb hbox hg; have hcz14_0 : w13.cell? ⟨gb142, 0, none⟩ = some (.bool false) := (blk_cell BK142.out 0).trans rfl; have hcz14_1 : w13.cell? ⟨gb142, 1, none⟩ = some (.int .i64 0) := (blk_cell BK142.out 1).trans rfl; have hfz14_0 := blk_frozen BK142.out 0; have hfz14_1 := blk_frozen BK142.out 1; have p143 : 0 ≤ (((rd_T59 l0 x10_1).f1) : Int) := of_decide_eq_true (by first | (with_reducible assumption) | assumption); have q143 : ((rd_T59 l0 x10_1).f1) < (l1.length : Int) := of_decide_eq_true (by first | (with_reducible assumption) | assumption); obtain ⟨ad143, e143, hx143_0⟩ := Kd.at_int HR1.out ((rd_T59 l0 x10_1).f1) p143 q143; cases e143; have hn143_0 : ad143.block ≠ gb142 := Nat.ne_of_lt (Nat.lt_of_lt_of_le (by have := World.block_lt_of_cell? _ _ hx143_0; first | rwa [add_block] at this | exact this) GW142.out); have hn143_1 : ad143.block ≠ gb142 := Nat.ne_of_lt (Nat.lt_of_lt_of_le (by have := World.block_lt_of_cell? _ _ hx143_0; first | rwa [add_block] at this | exact this) GW142.out); have Nhx143_0 := Aside0.mk hx143_0; replace hx143_0 := (HB.out.cell (World.block_lt_of_cell? w _ hx143_0)).trans hx143_0; replace hx143_0 := (cell_far (p := ⟨gb142, 0, none⟩) (by first | (rw [add_block]; exact hn143_0) | (show (Addr.add _ _).block ≠ _; rw [add_block]; exact hn143_0) | exact hn143_0) (.bool false)).trans hx143_0; replace hx143_0 := (cell_far (p := ⟨gb142, 1, none⟩) (by first | (rw [add_block]; exact hn143_1) | (show (Addr.add _ _).block ≠ _; rw [add_block]; exact hn143_1) | exact hn143_1) (.int .i64 ((rd_T59 l0 x10_1).f1))).trans hx143_0; clear hn143_0; clear hn143_1; replace p143 := eq_true p143; replace q143 := eq_true q143))
                    go_ret
                    exact ⟨by first | rfl | (simp [errW_none, errW_some] <;> rfl) | (simp [*, errW_none, errW_some] <;> rfl), by repeat (first | (with_reducible first | exact HB.out | apply below_alloc | apply pw_below_drewN | apply below_drew1 | refine below_set ?_ GE142.out) | exact HB.out)⟩
                  · rw [if_neg c12] at H
                    have c12b0 : decide ((rd l1 ((rd_T59 l0 x10_1).f1)) < 0) = false := decide_eq_false c12
                    clear c12
                    have H' := Aside0.mk H
                    clear H
                    have p141 : 0 ≤ (x10_1 : Int) := of_decide_eq_true (by first | (with_reducible assumption) | assumption)
                    have q141 : x10_1 < (l0.length : Int) := of_decide_eq_true (by first | (with_reducible assumption) | assumption)
                    obtain ⟨ad141, e141, hx141_0, hx141_1⟩ := at_T59 HR0.out x10_1 p141 q141
                    (try rw [← Nbq6.out] at hx141_0)
                    cases e141
                    have Nhx141_0 := Aside0.mk hx141_0; replace hx141_0 := (HB.out.cell (World.block_lt_of_cell? w _ hx141_0)).trans hx141_0
                    have Nhx141_1 := Aside0.mk hx141_1; replace hx141_1 := (HB.out.cell (World.block_lt_of_cell? w _ hx141_1)).trans hx141_1
                    replace p141 := eq_true p141
                    replace q141 := eq_true q141
                    go_wp2_with (first | ((with_reducible refine gate_dst (N := 7) rfl ?_); refine box_event ?hg (N := 7) ?hd (cs := #[.bool false, .int .i64 0]) (t := 59) ?hr ?_; (case hd => rfl); (case hg => rfl); (case hr => first | (go_simp; done) | (go_simp; rfl)); intro gb142 hg w15 hbox hb; have n0_ := Aside0.mk (below_step (by repeat (first | (with_reducible first | exact HB.out | apply below_alloc | apply pw_below_drewN | apply below_drew1) | exact HB.out)) hb); have n1_ := Aside0.mk (hbox); have n2_ := Aside0.mk ((by rw [hg]; exact (below_size (by repeat (first | (with_reducible first | exact HB.out | apply below_alloc | apply pw_below_drewN | apply below_drew1) | exact HB.out))) : w.heap.size ≤ gb142)); have n3_ := Aside0.mk ((by rw [hg]; exact (below_size (by repeat (first | (with_reducible first | exact HB.out | apply below_alloc | apply pw_below_drewN | apply below_drew1) | exact HB.out))) : w.heap.size ≤ gb142)); clear HB; have HB := n0_; have BK142 := n1_; have GW142 := n2_; have GE142 := n3_; clear n0_ n1_ n2_ n3_; clear hb hbox hg; have hcz16_0 : w15.cell? ⟨gb142, 0, none⟩ = some (.bool false) := (blk_cell BK142.out 0).trans rfl; have hcz16_1 : w15.cell? ⟨gb142, 1, none⟩ = some (.int .i64 0) := (blk_cell BK142.out 1).trans rfl; have hfz16_0 := blk_frozen BK142.out 0; have hfz16_1 := blk_frozen BK142.out 1; have p143 : 0 ≤ (((rd_T59 l0 x10_1).f1) : Int) := of_decide_eq_true (by first | (with_reducible assumption) | assumption); have q143 : ((rd_T59 l0 x10_1).f1) < (l1.length : Int) := of_decide_eq_true (by first | (with_reducible assumption) | assumption); obtain ⟨ad143, e143, hx143_0⟩ := Kd.at_int HR1.out ((rd_T59 l0 x10_1).f1) p143 q143; cases e143; have hn143_0 : ad143.block ≠ gb142 := Nat.ne_of_lt (Nat.lt_of_lt_of_le (by have := World.block_lt_of_cell? _ _ hx143_0; first | rwa [add_block] at this | exact this) GW142.out); have hn143_1 : ad143.block ≠ gb142 := Nat.ne_of_lt (Nat.lt_of_lt_of_le (by have := World.block_lt_of_cell? _ _ hx143_0; first | rwa [add_block] at this | exact this) GW142.out); have Nhx143_0 := Aside0.mk hx143_0; replace hx143_0 := (HB.out.cell (World.block_lt_of_cell? w _ hx143_0)).trans hx143_0; replace hx143_0 := (cell_far (p := ⟨gb142, 0, none⟩) (by first | (rw [add_block]; exact hn143_0) | (show (Addr.add _ _).block ≠ _; rw [add_block]; exact hn143_0) | exact hn143_0) (.bool false)).trans hx143_0; replace hx143_0 := (cell_far (p := ⟨gb142, 1, none⟩) (by first | (rw [add_block]; exact hn143_1) | (show (Addr.add _ _).block ≠ _; rw [add_block]; exact hn143_1) | exact hn143_1) (.int .i64 ((rd_T59 l0 x10_1).f1))).trans hx143_0; clear hn143_0; clear hn143_1; replace p143 := eq_true p143; replace q143 := eq_true q143; have p144 : 0 ≤ (((rd_T59 l0 x10_1).f1) : Int) := of_decide_eq_true (by first | (with_reducible assumption) | assumption); have q144 : ((rd_T59 l0 x10_1).f1) < (l1.length : Int) := of_decide_eq_true (by first | (with_reducible assumption) | assumption); obtain ⟨ad144, e144, hx144_0⟩ := Kd.at_int HR1.out ((rd_T59 l0 x10_1).f1) p144 q144; obtain rfl : ad143 = ad144 := (by injection e144); have hn144_0 : ad143.block ≠ gb142 := Nat.ne_of_lt (Nat.lt_of_lt_of_le (by have := World.block_lt_of_cell? _ _ hx144_0; first | rwa [add_block] at this | exact this) GW142.out); have hn144_1 : ad143.block ≠ gb142 := Nat.ne_of_lt (Nat.lt_of_lt_of_le (by have := World.block_lt_of_cell? _ _ hx144_0; first | rwa [add_block] at this | exact this) GW142.out); have Nhx144_0 := Aside0.mk hx144_0; replace hx144_0 := (HB.out.cell (World.block_lt_of_cell? w _ hx144_0)).trans hx144_0; replace hx144_0 := (cell_far (p := ⟨gb142, 0, none⟩) (by first | (rw [add_block]; exact hn144_0) | (show (Addr.add _ _).block ≠ _; rw [add_block]; exact hn144_0) | exact hn144_0) (.bool false)).trans hx144_0; replace hx144_0 := (cell_far (p := ⟨gb142, 1, none⟩) (by first | (rw [add_block]; exact hn144_1) | (show (Addr.add _ _).block ≠ _; rw [add_block]; exact hn144_1) | exact hn144_1) (.int .i64 ((rd_T59 l0 x10_1).f1))).trans hx144_0; clear hn144_0; clear hn144_1; replace p144 := eq_true p144; replace q144 := eq_true q144))
                    go_roundg k1
                    case measure => have := HK1.out; omega
                    case rel => exact ⟨(wrap64 (x5_1 + (rd l1 ((rd_T59 l0 x10_1).f1)))), (wrap64 (x10_1 + 1)), (by first | rfl | (simp; done) | (simp [*]; done)), (by first | rfl | (simp; done) | (simp [*]; done)), H', ⟨by have := HK1.out; omega⟩, ⟨by repeat (first | (with_reducible first | exact HB.out | apply below_alloc | apply pw_below_drewN | apply below_drew1 | refine below_set ?_ GE142.out) | exact HB.out)⟩⟩
                · rw [if_neg c11] at H
                  exact absurd H (by simp)
              · rw [if_neg c10] at H
                exact absurd H (by simp)
          · rw [if_neg c5] at H
            exact absurd H (by simp)
        · rw [if_neg c4] at H
          exact absurd H (by simp)
      · rw [if_neg c3] at H
        have c3b0 : decide (x10_1 < (l0.length : Int)) = false := decide_eq_false c3
        clear c3
        obtain ⟨ji17, hji17⟩ : ∃ j_ : Int, (mn x5_1 1000000) = j_ := ⟨_, rfl⟩
        replace H : (some ji17) = some r := by first | (rw [hji17] at H; exact H) | (simp only [hji17] at H ⊢; exact H)
        have hji17_ : (if 1000000 < x5_1 then 1000000 else x5_1) = ji17 := hji17
        obtain rfl := Option.some.inj H
        go_wp2
        go_ret
        exact ⟨by first | rfl | (simp [errW_none, errW_some] <;> rfl) | (simp only [← hji17]; first | rfl | (simp [errW_none, errW_some] <;> rfl)) | (simp [*, errW_none, errW_some] <;> rfl), by repeat (first | (with_reducible first | exact HB.out | apply below_alloc | apply pw_below_drewN | apply below_drew1) | exact HB.out)⟩

/-! ### empty_Least: function 11 -/
/-- A row's least words, uncut; none: there are none. -/
def rowSum (v : List Int) : List S59 → Option Int
  | [] => some 0
  | s :: l => if s.f0 = true then (rowSum v l).map (1 + ·) else if rd v s.f1 < 0 then none else (rowSum v l).map (rd v s.f1 + ·)
def rowVal (v : List Int) (l : List S59) : Int := match rowSum v l with
  | none => -1
  | some n => mn n 1000000
def LOk (v : List Int) : Prop := ∀ x ∈ v, -1 ≤ x ∧ x ≤ 1000000
theorem rd_mem (v : List Int) (i : Int) (h0 : 0 ≤ i) (h1 : i < (v.length : Int)) : rd v i ∈ v := by
  unfold rd
  rw [List.getD_eq_getElem?_getD, List.getElem?_eq_getElem (by omega)]
  exact List.getElem_mem _
theorem rowSum_range {v : List Int} (hv : LOk v) : ∀ (l : List S59) (n : Int), (∀ s ∈ l, SymOk v.length s) → rowSum v l = some n → 0 ≤ n ∧ n ≤ 1000000 * (l.length : Int)
  | [], n, _, h => by simp [rowSum] at h; subst h; simp
  | s :: l, n, hs, h => by
    have ih := fun m => rowSum_range hv l m (fun q hq => hs q (List.mem_cons_of_mem _ hq))
    unfold rowSum at h
    simp only [List.length_cons, Int.natCast_add]
    by_cases ht : s.f0 = true
    · rw [if_pos ht] at h
      obtain ⟨m, h1, h2⟩ := Option.map_eq_some_iff.1 h
      have := ih m h1
      omega
    · rw [if_neg ht] at h
      by_cases hn : rd v s.f1 < 0
      · rw [if_pos hn] at h; exact absurd h (by simp)
      · rw [if_neg hn] at h
        obtain ⟨m, h1, h2⟩ := Option.map_eq_some_iff.1 h
        have := ih m h1
        have hk := hs s List.mem_cons_self (by simpa using ht)
        have := (hv _ (rd_mem v s.f1 hk.1 hk.2)).2
        omega
theorem rowVal_range {v : List Int} (hv : LOk v) (l : List S59) (hs : ∀ s ∈ l, SymOk v.length s) : -1 ≤ rowVal v l ∧ rowVal v l ≤ 1000000 := by
  unfold rowVal
  cases h : rowSum v l with
  | none => simp
  | some n =>
    have := rowSum_range hv l n hs h
    show -1 ≤ mn n 1000000 ∧ mn n 1000000 ≤ 1000000
    unfold mn
    split <;> omega
theorem row_l0 {v : List Int} (hv : LOk v) (l : List S59) (hl : l.length ≤ 1000) (hs : ∀ s ∈ l, SymOk v.length s) (d : Nat) : ∀ (k i : Nat) (acc : Int), i + d = l.length → d < k → 0 ≤ acc → acc ≤ 1000000 * (i : Int) →
    empty_row.l0 k v acc l (l.length : Int) (i : Int) = some (match rowSum v (l.drop i) with | none => -1 | some n => mn (acc + n) 1000000) := by
  induction d with
  | zero =>
    intro k i acc h1 h2 h3 h4
    obtain ⟨k, rfl⟩ : ∃ m, k = m + 1 := ⟨k - 1, by omega⟩
    rw [empty_row.l0, if_neg (by omega), List.drop_of_length_le (by omega)]
    simp [rowSum]
  | succ d ih =>
    intro k i acc h1 h2 h3 h4
    obtain ⟨k, rfl⟩ : ∃ m, k = m + 1 := ⟨k - 1, by omega⟩
    have hil : i < l.length := by omega
    have hr : rd_T59 l (i : Int) = l[i] := by
      unfold rd_T59
      rw [Int.toNat_natCast, List.getD_eq_getElem?_getD, List.getElem?_eq_getElem hil]; rfl
    rw [empty_row.l0, if_pos (by omega), if_pos (by omega), if_pos (by omega), hr, List.drop_eq_getElem_cons hil]
    have hs1 := hs l[i] (List.getElem_mem hil)
    have w1 : wrap64 ((i : Int) + 1) = ((i + 1 : Nat) : Int) := by unfold wrap64; omega
    by_cases ht : l[i].f0 = true
    · have w2 : wrap64 (acc + 1) = acc + 1 := by unfold wrap64; omega
      rw [if_pos ht, w1, w2, ih k (i + 1) (acc + 1) (by omega) (by omega) (by omega) (by omega)]
      simp only [rowSum, if_pos ht]
      cases rowSum v (l.drop (i + 1)) with
      | none => rfl
      | some n => simp only [Option.map_some]; congr 2; omega
    · have hk := hs1 (by simpa using ht)
      rw [if_neg ht, if_pos hk.1, if_pos hk.2]
      by_cases hn : rd v l[i].f1 < 0
      · rw [if_pos hn]
        simp only [rowSum, if_neg ht, if_pos hn]
      · have hx := (hv _ (rd_mem v l[i].f1 hk.1 hk.2)).2
        have w2 : wrap64 (acc + rd v l[i].f1) = acc + rd v l[i].f1 := by unfold wrap64; omega
        rw [if_neg hn, w1, w2, ih k (i + 1) (acc + rd v l[i].f1) (by omega) (by omega) (by omega) (by omega)]
        simp only [rowSum, if_neg ht, if_neg hn]
        cases rowSum v (l.drop (i + 1)) with
        | none => rfl
        | some n => simp only [Option.map_some]; congr 2; omega
theorem row_is {v : List Int} (hv : LOk v) (l : List S59) (hl : l.length ≤ 1000) (hs : ∀ s ∈ l, SymOk v.length s) : empty_row.f 1001 l v = some (rowVal v l) := by
  unfold empty_row.f
  have h := row_l0 hv l hl hs l.length 1001 0 0 (by omega) (by omega) (by omega) (by omega)
  rw [show ((0 : Nat) : Int) = 0 from rfl] at h
  rw [h, List.drop_zero]
  unfold rowVal
  cases rowSum v l with
  | none => rfl
  | some n => simp
/-- Least's rounds. -/
def leastG (who : List (Int × Int)) (L : List S51) : Nat → List Int → List Int → Option (List Int)
  | 0, _, _ => none
  | _ + 1, v, [] => some v
  | k + 1, v, i :: rest =>
    if 0 ≤ i ∧ i < (L.length : Int) ∧ 0 ≤ (rd_T51 L i).f0 ∧ (rd_T51 L i).f0 < (v.length : Int) then
      if rowVal v (rd_T51 L i).f1 < 0 then leastG who L k v rest
      else if 0 ≤ rd v (rd_T51 L i).f0 ∧ rd v (rd_T51 L i).f0 ≤ rowVal v (rd_T51 L i).f1 then leastG who L k v rest
      else if rest.length + (whoOf who (rd_T51 L i).f0).length < 17592186044416 then leastG who L k (v.set (rd_T51 L i).f0.toNat (rowVal v (rd_T51 L i).f1)) (rest ++ whoOf who (rd_T51 L i).f0)
      else none
    else none
theorem LOk.set {v : List Int} (h : LOk v) (i : Nat) {x : Int} (hx : -1 ≤ x ∧ x ≤ 1000000) : LOk (v.set i x) := fun y hy => by
  rcases List.mem_or_eq_of_mem_set hy with h1 | h1
  · exact h y h1
  · rw [h1]; exact hx
def empty_Least.f (a0 a1 : Int) (l2 : List Int) (l3 : List S51) : Option (List Int × Int) :=
  if bnf_mayB a0 a1 l2 l3 = 0 then (leastG (occ 0 l3) l3 (l3.length + l2.length * 1000002 * (occ 0 l3).length + 1) (List.replicate l2.length (-1)) (upTo l3.length)).map (fun m => (m, 0)) else some ([], bnf_mayB a0 a1 l2 l3)
/-- The world of Least's rounds. -/
structure LeastS (w wr : World) (bv av : Array Value) (gl gw ga n : Nat) (o : List (Int × Int)) (v : List Int) : Prop where
  b : Below w.heap.size w wr
  bx : wr.heap[w.heap.size]? = some (.cells bv 25 (0, 0))
  ax : wr.heap[ga]? = some (.cells av 55 (0, 0))
  row : Kd.R (Kd.int .i64) 3 wr w.heap.size (fun k => k = gl) (.slice (some ⟨gl, 0, none⟩) n n) v
  len : v.length = n
  ok : LOk v
  lo : w.heap.size < gl
  mid : gl < gw
  who : ∃ w3 : World, w3.heap.size = ga ∧ Who w3 gw o ∧ ∀ i, gw ≤ i → i < ga → wr.heap[i]? = w3.heap[i]?
section
variable {w wr w1 : World} {bv av : Array Value} {gl gw ga n : Nat} {o : List (Int × Int)} {v : List Int}
theorem LeastS.kept (h : LeastS w wr bv av gl gw ga n o v) (hb : Below wr.heap.size wr w1) : LeastS w w1 bv av gl gw ga n o v :=
  ⟨below_step h.b hb, (hb.block _ (blk_lt h.bx)).trans h.bx, (hb.block _ (blk_lt h.ax)).trans h.ax, Kd.R_below h.row hb, h.len, h.ok, h.lo, h.mid, by
    obtain ⟨w3, e, h3, hk⟩ := h.who
    exact ⟨w3, e, h3, fun i h1 h2 => (hb.block i (by have := blk_lt h.ax; omega)).trans (hk i h1 h2)⟩⟩
theorem LeastS.whoNow (h : LeastS w wr bv av gl gw ga n o v) : Who wr gw o := by
  obtain ⟨w3, e, h3, hk⟩ := h.who
  exact h3.moved (fun i h1 h2 => hk i h1 (by omega))
theorem LeastS.grown (h : LeastS w wr bv av gl gw ga n o v) {row : Option Nat} (hg : wr.grownBy w1 row) (hx : ∀ k, row = some k → ga < k) (hga : gl < ga) : LeastS w w1 bv av gl gw ga n o v := by
  have ne : ∀ k, k ≤ ga → some k ≠ row := fun k hk e => by have := hx k e.symm; omega
  have hl := h.lo
  have hax := blk_lt h.ax
  exact ⟨pw_below_grown h.b row h.b.size hg (fun k hk => by have := hx k hk; omega), (hg.block _ (blk_lt h.bx) (ne _ (by omega))).trans h.bx, (hg.block _ hax (ne _ (by omega))).trans h.ax,
    Kd.R_grown h.row hg (fun k hk => ne k (by omega)), h.len, h.ok, h.lo, h.mid, by
    obtain ⟨w3, e, h3, hk⟩ := h.who
    exact ⟨w3, e, h3, fun i h1 h2 => (hg.block i (by omega) (ne i (by omega))).trans (hk i h1 h2)⟩⟩
theorem LeastS.put (h : LeastS w wr bv av gl gw ga n o v) (hga : gl < ga) (i x : Int) (hx : -1 ≤ x ∧ x ≤ 1000000) : LeastS w (wr.setCell ⟨gl, i.toNat, none⟩ (.int .i64 x)) bv av gl gw ga n o (v.set i.toNat x) := by
  have hg := grown_set wr gl i.toNat (.int .i64 x)
  have hr := Kd.R_putn h.row i x
  have ne : ∀ k, k ≠ gl → some k ≠ some gl := fun k hk e => hk (by injection e)
  have hl := h.lo
  have hax := blk_lt h.ax
  have hm := h.mid
  exact ⟨below_set h.b (by omega), (hg.block _ (blk_lt h.bx) (ne _ (by omega))).trans h.bx, (hg.block _ hax (ne _ (by omega))).trans h.ax, hr, by rw [List.length_set]; exact h.len, h.ok.set _ hx, h.lo, h.mid, by
    obtain ⟨w3, e, h3, hk⟩ := h.who
    exact ⟨w3, e, h3, fun i h1 h2 => (hg.block i (by omega) (ne i (by omega))).trans (hk i h1 h2)⟩⟩
end
set_option maxHeartbeats 8000000 in
set_option maxRecDepth 100000 in
theorem empty_Least.calls (toks look : Int) (A2 : Option Addr) (c2 : Nat) (o : List Int) (A3 : Option Addr) (c3 : Nat) (L : List S51) (q1 : List Int) (q2 : Int) (w : World)
    (r2 : Kd.C (Kd.int .i64) w A2 o.length o) (l2 : o.length ≤ c2) (r3 : Kd.C k51 w A3 L.length L) (l3 : L.length ≤ c3) (h : empty_Least.f toks look o L = some (q1, q2)) :
    Calls Try.prog 11 #[.agg #[.int .i64 toks, .int .i64 look, .slice A2 o.length c2, .slice A3 L.length c3]] w fun e w' => ∃ v0_ : Value, e = .returned (.tuple #[v0_, .int .i64 q2]) ∧ Kd.R (Kd.int .i64) 3 w' w.heap.size (fun _ => True) v0_ q1 ∧ Below w.heap.size w w' := by
  obtain ⟨bv, hbv⟩ : ∃ bv : Array Value, bv = #[.int .i64 toks, .int .i64 look, .slice A2 o.length c2, .slice A3 L.length c3] := ⟨_, rfl⟩
  have HBV := Aside0.mk hbv
  have HM0 := fun (W : World) (hb : Below w.heap.size w W) => bnf_may_calls toks look A2 c2 o A3 c3 L W (Kd.C_below r2 hb) l2 (Kd.C_below r3 hb) l3
  have HM := Aside0.mk HM0
  have HR2 := Aside0.mk r2
  have HR3 := Aside0.mk r3
  have HOK := Aside0.mk (fun e : bnf_mayB toks look o L = 0 => bnf_may_ok e)
  have HF := Aside0.mk (show ∀ q : Int, bnf_mayB toks look o L = q → (q = 0 ∧ q2 = 0 ∧ leastG (occ 0 L) L (L.length + o.length * 1000002 * (occ 0 L).length + 1) (List.replicate o.length (-1)) (upTo L.length) = some q1) ∨ (q ≠ 0 ∧ q1 = [] ∧ q2 = q) from by
    intro q hq
    unfold empty_Least.f at h
    rw [hq] at h
    by_cases e : q = 0
    · rw [if_pos e] at h
      obtain ⟨m, h1, h2⟩ := Option.map_eq_some_iff.1 h
      simp only [Prod.mk.injEq] at h2
      exact .inl ⟨e, h2.2.symm, by rw [h1, h2.1]⟩
    · rw [if_neg e] at h
      simp only [Option.some.injEq, Prod.mk.injEq] at h
      exact .inr ⟨e, h.1.symm, h.2.symm⟩)
  clear r2 r3 h HM0 hbv
  generalize hq : bnf_mayB toks look o L = q at HM HOK
  have HQ := Aside0.mk (HF.out q hq)
  clear HF hq
  go_enter Try.func11, Try.ntmps11
  go_wp2_with fail
  refine (HM.out _ (below_alloc (Below.refl _ _) _)).mono ?_
  rintro e w1 ⟨rfl, hb2⟩
  have HB2 := Aside0.mk (below_step (below_alloc (Below.refl _ _) _) hb2)
  have HBX := Aside0.mk (show w1.heap[w.heap.size]? = some (.cells bv 25 (0, 0)) from by rw [HBV.out]; exact (hb2.block _ (by simp)).trans (hp_new rfl))
  clear hb2 HM
  have y0 : w1.cell? ⟨w.heap.size, 0, none⟩ = some (.int .i64 toks) := (blk_cell HBX.out 0).trans (by rw [HBV.out]; rfl)
  have y1 : w1.cell? ⟨w.heap.size, 1, none⟩ = some (.int .i64 look) := (blk_cell HBX.out 1).trans (by rw [HBV.out]; rfl)
  have y2 : w1.cell? ⟨w.heap.size, 2, none⟩ = some (.slice A2 o.length c2) := (blk_cell HBX.out 2).trans (by rw [HBV.out]; rfl)
  have y3 : w1.cell? ⟨w.heap.size, 3, none⟩ = some (.slice A3 L.length c3) := (blk_cell HBX.out 3).trans (by rw [HBV.out]; rfl)
  rcases HQ.out with ⟨rfl, rfl, hG⟩ | ⟨hq0, rfl, rfl⟩
  · have HG := Aside0.mk hG
    have hk := HOK.out rfl
    have hlen : (occ 0 L).length ≤ 1000000000 := by
      have := occ_len L 0 (fun p hp => (hk.2.2.2 p hp).1)
      omega
    have ho1 := hk.1
    have ho2 := hk.2.1
    have hL2 := hk.2.2.1
    have HK := Aside0.mk hk
    have HLN := Aside0.mk hlen
    clear hG hk hlen HQ HOK
    have hs1 : w.heap.size < w1.heap.size := by have := blk_lt HBX.out; omega
    have hl1 : w.heap.size < w1.heap.size := hs1
    go_wp2_with fail
    have HRP := Aside0.mk (repeat_calls w1.heap.size o.length (w1.alloc (.cells #[.int .i64 (-1)] 3)) ((blk_cell (hp_new rfl) 0).trans rfl) ho1 ho2)
    refine HRP.out.mono ?_
    rintro e w2 ⟨gl, rfl, hr, hb3⟩
    have hb3' := below_step (below_alloc (Below.refl w1.heap.size w1) (.cells #[.int .i64 (-1)] 3)) hb3
    have HB3 := Aside0.mk (below_step HB2.out hb3')
    have hgl1 : w1.heap.size < gl := by
      have h1 : (w1.alloc (.cells #[.int .i64 (-1)] 3)).heap.size ≤ gl := by
        obtain ⟨_, inner, ho, _⟩ := hr
        exact own_base ho gl rfl
      simp at h1
      omega
    have hgl2 : gl < w2.heap.size := by
      obtain ⟨_, inner, ho, _⟩ := hr
      exact own_lt ho gl rfl
    have HRW := Aside0.mk (Kd.R_lower hr (base' := w.heap.size) (by simp; omega))
    have HBX2 := Aside0.mk ((hb3'.block _ (blk_lt HBX.out)).trans HBX.out)
    have z0 := pw_cell_below hb3' y0
    have z1 := pw_cell_below hb3' y1
    have z2 := pw_cell_below hb3' y2
    have z3 := pw_cell_below hb3' y3
    clear hr hb3 HRP y0 y1 y2 y3 HBX hb3'
    go_wp2_with fail
    have HA := Aside0.mk (empty_asks_calls toks look A2 c2 o A3 c3 L w2 (Kd.C_below HR2.out HB3.out) l2 (Kd.C_below HR3.out HB3.out) l3 (fun p hp s hs ht => by
      have := (HK.out.2.2.2 p hp).2.2.2 s hs ht
      omega) HLN.out)
    refine HA.out.mono ?_
    rintro e w3 ⟨gw, rfl, hwho, hb4, hgw⟩
    have HB4 := Aside0.mk (below_step HB3.out hb4)
    have hlw : gl < gw := by omega
    have hl3 : gl < w3.heap.size := Nat.lt_of_lt_of_le hgl2 hb4.size
    have HWH := Aside0.mk hwho
    have HRW2 := Aside0.mk (Kd.R_below HRW.out hb4)
    have HBX3 := Aside0.mk ((hb4.block _ (blk_lt HBX2.out)).trans HBX2.out)
    have y0 := pw_cell_below hb4 z0
    have y1 := pw_cell_below hb4 z1
    have y2 := pw_cell_below hb4 z2
    have y3 := pw_cell_below hb4 z3
    have hsz3 : w.heap.size < w3.heap.size := by omega
    clear HA hwho hb4 hgw hgl2 HRW HBX2 HB3 HB2 z0 z1 z2 z3
    have hmk2 := fun W => run_make_row' (P := Try.prog) 22 3 (.int .i64 0) 8 Try.underlying22 asks_infoI rfl .i64 .i64 L.length (by omega) (by omega) W
    go_wp2_with fail
    obtain ⟨av, hav⟩ : ∃ av : Array Value, av = #[.int .i64 toks, .int .i64 look, .slice A2 o.length c2, .slice A3 L.length c3, .map (some gw)] := ⟨_, rfl⟩
    have HAV := Aside0.mk hav
    clear hav
    obtain ⟨W, hW⟩ : ∃ W, W = (w3.alloc (.cells #[.int .i64 toks, .int .i64 look, .slice A2 o.length c2, .slice A3 L.length c3, .map (some gw)] 55)).alloc (.cells (madeCells #[.int .i64 0] L.length) 3) := ⟨_, rfl⟩
    have hb5 : Below w3.heap.size w3 W := by rw [hW]; exact below_alloc (below_alloc (Below.refl _ _) _) _
    have HS := Aside0.mk (show LeastS w W bv av gl gw w3.heap.size o.length (occ 0 L) (List.replicate o.length (-1)) from
      ⟨below_step HB4.out hb5, (hb5.block _ (blk_lt HBX3.out)).trans HBX3.out, by rw [hW, HAV.out]; exact hp_old (hp_new rfl), Kd.R_below HRW2.out hb5, by simp, fun x hx => by rw [List.eq_of_mem_replicate hx]; decide, by omega, hlw, ⟨w3, rfl, HWH.out, fun i _ h2 => hb5.block i h2⟩⟩)
    have HQ := Aside0.mk (show Kd.R (Kd.int .i64) 3 W (w3.heap.size + 1) (fun _ => True) (.slice (some ⟨w3.heap.size + 1, 0, none⟩) L.length L.length) (List.replicate L.length 0) from by
      have h := R_madeS (enc := Value.int .i64) (h1 := fun _ => rfl) 0 (w3.alloc (.cells #[.int .i64 toks, .int .i64 look, .slice A2 o.length c2, .slice A3 L.length c3, .map (some gw)] 55)) (w3.heap.size + 1) 3 L.length (by simp) (by omega) (ok := fun _ => True) trivial
      simp at h
      rw [hW]
      exact h)
    rw [← hW]
    clear hb5 hW HB4 HBX3 HRW2 HWH y0 y1 y2 y3
    generalize w3.heap.size = ga at HS HQ hl3 hsz3
    go_loopg [29] L.length (fun gg v29 wr => ∃ kk : Nat, kk ≤ L.length ∧ L.length - kk ≤ gg ∧ v29 = .int .i64 kk ∧ Aside0 (LeastS w wr bv av gl gw ga o.length (occ 0 L) (List.replicate o.length (-1))) ∧ Aside0 (Kd.R (Kd.int .i64) 3 wr (ga + 1) (fun _ => True) (.slice (some ⟨ga + 1, 0, none⟩) L.length L.length) (upTo kk ++ List.replicate (L.length - kk) 0)))
    case atStart => exact ⟨0, Nat.zero_le _, by omega, rfl, HS, ⟨HQ.out⟩⟩
    case round =>
      clear HS HQ
      obtain ⟨kk, hkk, hg, rfl, HS, HQ⟩ := hrel
      by_cases hlt : kk < L.length
      · have hltz : (kk : Int) < (L.length : Int) := by omega
        obtain ⟨hx, hf⟩ := Kd.R_celln 0 HQ.out (kk : Int) (by omega) (by omega)
        rw [Int.toNat_natCast] at hx hf
        go_wp2_with fail
        go_roundg (L.length - (kk + 1))
        case measure => omega
        case rel =>
          refine ⟨kk + 1, by omega, by omega, by go_num, ⟨HS.out.grown (grown_set _ _ _ _) (fun k e => by cases e; omega) hl3⟩, ⟨?_⟩⟩
          have h := Kd.R_putn HQ.out (kk : Int) (kk : Int)
          rw [Int.toNat_natCast, fill_step _ _ hlt] at h
          exact h
      · have hkl : kk = L.length := by omega
        subst hkl
        have HQ2 := Aside0.mk (QInts.of_R HQ.out)
        rw [Nat.sub_self, List.replicate_zero, List.append_nil] at HQ2
        clear HQ
        go_wp2_with fail
        go_loopg [7] (L.length + o.length * 1000002 * (occ 0 L).length + 1) (fun kq v7 wr => ∃ (v l : List Int), Aside0 (leastG (occ 0 L) L kq v l = some q1) ∧ Aside0 (LeastS w wr bv av gl gw ga o.length (occ 0 L) v) ∧ Aside0 (QInts wr (ga + 1) 3 v7 l))
        case atStart => exact ⟨_, _, HG, HS, HQ2⟩
        case round =>
          clear HS HQ2 HG
          obtain ⟨v, l, HG, HS, HQ⟩ := hrel
          obtain ⟨A, c, rfl, hc⟩ := HQ.out.slice
          have hlm := HQ.out.max_
          cases gk with
          | zero => exact absurd HG.out (by simp [leastG])
          | succ k1 =>
            cases l with
            | nil =>
              have hfin : v = q1 := by have := HG.out; simpa [leastG] using this
              subst hfin
              go_wp2_with fail
              go_ret2
              exact ⟨_, rfl, Kd.R_mono HS.out.row (fun _ _ => trivial), HS.out.b⟩
            | cons i rest =>
              have H := HG.out
              clear HG
              unfold leastG at H
              by_cases hin : 0 ≤ i ∧ i < (L.length : Int) ∧ 0 ≤ (rd_T51 L i).f0 ∧ (rd_T51 L i).f0 < (v.length : Int)
              · rw [if_pos hin] at H
                obtain ⟨i0, i1, p0, p1⟩ := hin
                have H' := Aside0.mk H
                clear H
                obtain ⟨adw, hA, hcw⟩ := HQ.out.head_
                subst hA
                obtain ⟨ad, A1, c1, hA3, hx0, hx1, l1, r1⟩ := at_T51 HR3.out i i0 i1
                subst hA3
                replace hx0 := pw_cell_below HS.out.b hx0
                replace hx1 := pw_cell_below HS.out.b hx1
                have hLc : wr.cell? ⟨w.heap.size, 3, none⟩ = some (.slice (some ad) L.length c3) := (blk_cell HS.out.bx 3).trans (by rw [HBV.out]; rfl)
                have hpos : (0 : Int) < ((rest.length : Nat) + 1 : Int) := by omega
                simp only [List.length_cons] at hlm hc
                have HR1 := Aside0.mk r1
                have HL1 := Aside0.mk l1
                have ne1 := World.new_ne wr _ hLc
                have ne2 := World.new_ne wr _ hcw
                have ne3 := World.new_ne wr _ hx0
                have ne4 := World.new_ne wr _ hx1
                have HP := Aside0.mk (HK.out.2.2.2 (rd_T51 L i) (by
                  have e : rd_T51 L i = L[i.toNat]'(by omega) := by unfold rd_T51; rw [List.getD_eq_getElem?_getD, List.getElem?_eq_getElem (by omega)]; rfl
                  rw [e]; exact List.getElem_mem _))
                obtain ⟨vt, hvt⟩ : ∃ vt : Value, vt = .slice (if c = 1 then some adw else (some adw).map (·.add 1)) rest.length (c - 1) := ⟨_, rfl⟩
                have HT := Aside0.mk (show QInts wr (ga + 1) 3 vt rest by rw [hvt]; exact HQ.out.drop_)
                have hcut : ∀ W, (Instr.slice 22 (.slice (some adw) (rest.length + 1) c) (some (.int .i64 1)) none none).run Try.prog W = .ok vt W := by
                  intro W
                  obtain ⟨j0, hj, hj2⟩ := Option.map_eq_some_iff.1 asks_infoI
                  simp only [Prod.mk.injEq] at hj2
                  rw [hvt, cut_from 22 3 .i64 Try.underlying22 hj 1 hj2.2.1 (some adw) (rest.length + 1) c 1 (by omega) (by omega) W]
                  simp
                clear hvt HQ
                have hbox1 : ((wr.alloc (.cells #[.int .i64 (rd_T51 L i).f0, .slice A1 (rd_T51 L i).f1.length c1] 51)).drew).heap[wr.heap.size]? = some (.cells #[.int .i64 (rd_T51 L i).f0, .slice A1 (rd_T51 L i).f1.length c1] 51 (0, 0)) := hp_new (w := wr) rfl
                have hb1 : Below wr.heap.size wr ((wr.alloc (.cells #[.int .i64 (rd_T51 L i).f0, .slice A1 (rd_T51 L i).f1.length c1] 51)).drew) := below_drew1 (below_alloc (Below.refl _ _) _)
                have HS1 := Aside0.mk (HS.out.kept hb1)
                have HT1 := Aside0.mk (HT.out.below hb1)
                have hgp : ga < wr.heap.size := blk_lt HS.out.ax
                clear r1 l1
                go_wp2_with fail
                go_region_held3 (fun w' => w'.cell? ⟨w.heap.size, 3, none⟩ = some (.slice (some ad) L.length c3) ∧ w'.cell? adw = some (.int .i64 i) ∧ w'.cell? (ad.add (i.toNat * 2)) = some (.int .i64 (rd_T51 L i).f0) ∧ w'.cell? ⟨(ad.add (i.toNat * 2)).block, (ad.add (i.toNat * 2)).off + 1, none⟩ = some (.slice A1 (rd_T51 L i).f1.length c1))
                  (go_keep) (fail)
                clear HS HT hx0 hx1 hLc hcw ne1 ne2 ne3 ne4 hb1
                generalize (wr.alloc (.cells #[.int .i64 (rd_T51 L i).f0, .slice A1 (rd_T51 L i).f1.length c1] 51)).drew = W1 at hbox1 HS1 HT1
                generalize wr.heap.size = gp at hbox1 hgp
                have hp0 : W1.cell? ⟨gp, 0, none⟩ = some (.int .i64 (rd_T51 L i).f0) := (blk_cell hbox1 0).trans rfl
                have hp1 : W1.cell? ⟨gp, 1, none⟩ = some (.slice A1 (rd_T51 L i).f1.length c1) := (blk_cell hbox1 1).trans rfl
                have hvo : v.length = o.length := HS1.out.len
                have p1' : (rd_T51 L i).f0 < (o.length : Int) := by omega
                have hsyms : ∀ s ∈ (rd_T51 L i).f1, SymOk v.length s := by rw [hvo]; exact HP.out.2.2.2
                have hrr := rowVal_range HS1.out.ok (rd_T51 L i).f1 hsyms
                have hrl : (rd_T51 L i).f1.length ≤ 500 := HP.out.1
                have HRC0 := fun (W : World) (hb : Below W1.heap.size W1 W) => empty_row.calls 1001 A1 c1 (rd_T51 L i).f1 (some ⟨gl, 0, none⟩) o.length v (rowVal v (rd_T51 L i).f1) W (Kd.C_below (Kd.C_below HR1.out HS1.out.b) hb) HL1.out (Kd.C_below (Kd.R_reads' HS1.out.row).2.2 hb) (by omega) (row_is HS1.out.ok _ (by omega) hsyms)
                simp only [hvo] at HRC0
                have HRC := Aside0.mk HRC0
                have H2 := H'.out
                obtain ⟨x, hx⟩ : ∃ x, x = rd v (rd_T51 L i).f0 := ⟨_, rfl⟩
                rw [← hx] at H2
                generalize rowVal v (rd_T51 L i).f1 = nn at HRC H2 hrr
                have HX := Aside0.mk hx
                have H4 := Aside0.mk H2
                clear hsyms HRC0 hx H2 H'
                go_wp2_with fail
                refine (HRC.out _ (Below.refl _ _)).mono ?_
                rintro e w' ⟨rfl, hb'⟩
                have HS2 := Aside0.mk (HS1.out.kept hb')
                have HT2 := Aside0.mk (HT1.out.below hb')
                have hp0' := pw_cell_below hb' hp0
                obtain ⟨hmc0, hmf⟩ := Kd.R_celln 0 HS2.out.row (rd_T51 L i).f0 p0 p1'
                have hmc : w'.cell? ⟨gl, (rd_T51 L i).f0.toNat, none⟩ = some (.int .i64 x) := by rw [HX.out]; exact hmc0
                clear HRC HT1 hp0 hp1 hb' HS1 hbox1 hmc0 HX
                by_cases hn : nn < 0
                · have H3 := Aside0.mk (show leastG (occ 0 L) L k1 v rest = some q1 by have := H4.out; rwa [if_pos hn] at this)
                  have d1 : decide (nn < 0) = true := decide_eq_true hn
                  clear H4 hn hrr
                  go_wp2_with fail
                  go_roundg k1
                  case measure => omega
                  case rel => exact ⟨v, rest, H3, HS2, HT2⟩
                · have d1 : decide (nn < 0) = false := decide_eq_false hn
                  by_cases hq : 0 ≤ x ∧ x ≤ nn
                  · have H3 := Aside0.mk (show leastG (occ 0 L) L k1 v rest = some q1 by have := H4.out; rwa [if_neg hn, if_pos hq] at this)
                    have d2 : decide (x ≥ 0) = true := decide_eq_true hq.1
                    have d2' : decide (0 ≤ x) = true := decide_eq_true hq.1
                    have d3 : decide (nn ≥ x) = true := decide_eq_true hq.2
                    have d3' : decide (x ≤ nn) = true := decide_eq_true hq.2
                    clear H4 hn hrr hq
                    go_wp2_with fail
                    go_roundg k1
                    case measure => omega
                    case rel => exact ⟨v, rest, H3, HS2, HT2⟩
                  · have H5 : (if rest.length + (whoOf (occ 0 L) (rd_T51 L i).f0).length < 17592186044416 then leastG (occ 0 L) L k1 (v.set (rd_T51 L i).f0.toNat nn) (rest ++ whoOf (occ 0 L) (rd_T51 L i).f0) else none) = some q1 := by have := H4.out; rwa [if_neg hn, if_neg hq] at this
                    by_cases hroom : rest.length + (whoOf (occ 0 L) (rd_T51 L i).f0).length < 17592186044416
                    · rw [if_pos hroom] at H5
                      have H3 := Aside0.mk H5
                      have HRM := Aside0.mk hroom
                      have HNN := Aside0.mk hrr
                      have hd : (decide (x ≥ 0) = false ∧ decide (0 ≤ x) = false) ∨ (decide (x ≥ 0) = true ∧ decide (0 ≤ x) = true ∧ decide (nn ≥ x) = false ∧ decide (x ≤ nn) = false) := by
                        by_cases h0 : 0 ≤ x
                        · have h1 : ¬ x ≤ nn := fun h1 => hq ⟨h0, h1⟩
                          exact .inr ⟨decide_eq_true h0, decide_eq_true h0, decide_eq_false h1, decide_eq_false h1⟩
                        · exact .inl ⟨decide_eq_false h0, decide_eq_false h0⟩
                      clear H4 H5 hroom hrr hq hn
                      rcases hd with ⟨d2, d2'⟩ | ⟨d2, d2', d3, d3'⟩
                      all_goals
                        go_wp2_with (first | ((with_reducible refine gate_store (t := 3) (p := 76) rfl ?_); refine store_event (t := 3) (p := 76) (v := ?vo_w24) (w1 := (w'.setCell ⟨gl, (rd_T51 L i).f0.toNat, none⟩ (.int .i64 nn))) ?hg ?ho ?hn ?hr ?_; (case ho => rfl); (case hg => rfl); (case hn => rfl); (case hr => first | (go_simp; done) | (go_simp; rfl)); intro W3 hw; have HS3 := Aside0.mk (show LeastS w W3 bv av gl gw ga o.length (occ 0 L) (v.set (rd_T51 L i).f0.toNat nn) by rw [hw]; exact HS2.out.put hl3 _ _ HNN.out); have HT3 := Aside0.mk (show QInts W3 (ga + 1) 3 vt rest by rw [hw]; exact HT2.out.grown (grown_set _ _ _ _) (fun k e => by cases e; omega)); have hp3 : W3.cell? ⟨gp, 0, none⟩ = some (.int .i64 (rd_T51 L i).f0) := (by rw [hw, cell_far (by show gp ≠ gl; omega)]; exact hp0'); clear hw HS2 HT2 hmc hmf hp0'; have hwc : W3.cell? ⟨ga, 4, none⟩ = some (.map (some gw)) := (blk_cell HS3.out.ax 4).trans (by rw [HAV.out]; rfl); obtain ⟨base, hwb⟩ := HS3.out.whoNow; obtain ⟨n0, D, hown, hn, hD, hit⟩ := hwb.out; have hlen := HLN.out; obtain ⟨v2, zs, hrun, hat, hoi, hzl, hback⟩ := hown.at law_int Try.underlying53 (zero_ints _) (by unfold maxLen; omega) (Maps.keyOf_int_mk (P := Try.prog) (k := 3) Try.underlying3 (a := (rd_T51 L i).f0) (WalkArith.wf_i64 ⟨by omega, by omega⟩)); have hz : zs = whoOf (occ 0 L) (rd_T51 L i).f0 := (by rw [← hit, hat, itemsOf_row hoi]); clear hback hat hit hD hn hown hwb hlen hzl; subst hz; obtain ⟨A4, c4, rfl, hc4, hC4⟩ := ints_read hoi; clear hoi; obtain ⟨j0, hj, hj2⟩ := Option.map_eq_some_iff.1 asks_infoI; simp only [Prod.mk.injEq] at hj2; obtain ⟨v5, W5, hrun5, HQ4, HG4, HA4⟩ := HT3.out.append_ (P := Try.prog) 22 22 j0 (.int .i64 0) Try.underlying22 hj hj2.1 hj2.2.1 hj2.2.2 rfl (A := A4) (c := c4) hC4 HRM.out (by have := blk_lt HS3.out.ax; omega); replace HQ4 := Aside0.mk HQ4; replace HG4 := Aside0.mk HG4; clear HA4 hC4 hc4 hj hj2; replace hrun5 := Aside0.mk hrun5) | ((with_reducible refine gate_builtin (b := .append) (xs := #[.tmp 77, .tmp 82]) rfl ?_); (try (refine gate_guard (by rfl) ?_; dsimp only)); at_builtin; refine wp_append_run rfl (.tmp 77) (.tmp 82) 22 rfl (by rfl) (by rfl) hrun5.out ?_))
                        go_roundg k1
                        case measure => omega
                        case rel => exact ⟨_, _, H3, ⟨HS3.out.grown HG4.out (fun k e => by have := HT3.out.base_ k e; omega) hl3⟩, HQ4⟩
                    · rw [if_neg hroom] at H5
                      exact absurd H5 (by simp)
              · rw [if_neg hin] at H
                exact absurd H (by simp)
  · have e1 : (q2 != 0) = true := bne_iff_ne.mpr hq0
    have e2 : decide (q2 ≠ 0) = true := decide_eq_true hq0
    clear HQ hq0
    go_wp2_with fail
    go_ret2
    exact ⟨_, rfl, Kd.R_nil _ _ _ _ _, HB2.out⟩


end Go.Proofs.Ytmpdilifoblnaaa.MEmptyTells
