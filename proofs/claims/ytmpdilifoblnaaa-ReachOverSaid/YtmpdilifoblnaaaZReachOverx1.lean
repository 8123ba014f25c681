/-  -/
import Derived.Test.YtmpdilifoblnaaaRows
import Derived.Test.YtmpdilifoblnaaaZReachOverx0
import Derived.Test.YtmpdilifoblnaaaZReachOverReads
section
namespace Go.Proofs.Ytmpdilifoblnaaa.MReachOver
open Go.RowKit Go.Proofs.YtmpdilifoblnaaaW.PrintWords Go.Proofs.YtmpdilifoblnaaaW.PrintLast Go.Proofs.YtmpdilifoblnaaaW.PrintMore Go.Proofs.Ytmpdilifoblnaaa.Fun Go.Proofs.Ytmpdilifoblnaaa.Mem
attribute [local go_sem] max2_int min2_int max_two min_two max_three min_three max_four min_four
set_option linter.unusedVariables false
set_option linter.unusedSimpArgs false
def walkPut (row : List Int) (by_ : Int) (s : List Bool × List (Int × Int)) : List Bool × List (Int × Int) := row.foldl (fun s n => putF s n by_) s
def walkL {σ : Type} (l : List (List Int)) (tell : σ → Int → Int → σ × Bool) : Nat → List Bool → List (Int × Int) → σ → Option σ
  | 0, _, _, _ => none
  | _ + 1, _, [], st => some st
  | k + 1, m, x :: r, st => if (tell st x.1 x.2).2 = true then walkL l tell k (walkPut (l.getD x.1.toNat []) x.1 (m, r)).1 (walkPut (l.getD x.1.toNat []) x.1 (m, r)).2 (tell st x.1 x.2).1 else some (tell st x.1 x.2).1
structure Told {σ : Type} (gt : Nat) (lb : Array Value) (w0 : World) (n : Nat) (X : Nat → Prop) (J : World → σ → Prop) (tell : σ → Int → Int → σ × Bool) (lim : σ → Nat) : Prop where
  step : ∀ st a b, lim (tell st a b).1 ≤ lim st + 1
  old : ∀ k, X k → k < w0.heap.size
  stay : ∀ W W1 st, J W st → (∀ k, X k → W1.heap[k]? = W.heap[k]?) → J W1 st
  call : ∀ W st a b, Keeps X w0 W → J W st → lim st < 1000000000 → 0 ≤ a → a < (n : Int) → -1 ≤ b → b < (n : Int) → Calls Try.prog gt (#[.int .i64 a, .int .i64 b] ++ lb) W fun e W' => e = .returned (.bool (tell st a b).2) ∧ J W' (tell st a b).1 ∧ Keeps X W W'
structure WalkW {σ : Type} (w wr : World) (n : Nat) (X : Nat → Prop) (J : World → σ → Prop) (keep : Nat → Prop) (s : List Bool × List (Int × Int)) (st : σ) : Prop where
  put : ∃ ok, PutW wr ok (w.heap.size + 1) (w.heap.size + 1 + 1) w.heap.size n s ∧ (∀ k, ok k → w.heap.size ≤ k) ∧ (∀ k, keep k → ¬ ok k)
  kp : Keeps X w wr
  j : J wr st
  bnd : ∀ p ∈ s.2, 0 ≤ p.1 ∧ p.1 < (n : Int) ∧ -1 ≤ p.2 ∧ p.2 < (n : Int)
  cnt : s.2.length ≤ s.1.count true
theorem count_set_le : ∀ (m : List Bool) (i : Nat), rdOf false m (i : Int) = false → i < m.length → (m.set i true).count true = m.count true + 1
  | [], _, _, h => absurd h (by simp)
  | b :: m, 0, h, _ => by
    have hb : b = false := h
    subst hb
    simp
  | b :: m, i + 1, h, hl => by
    have hi : rdOf false m (i : Int) = false := by
      unfold rdOf at h ⊢
      rw [Int.toNat_natCast] at h ⊢
      simpa using h
    have := count_set_le m i hi (by simpa using hl)
    rw [List.set_cons_succ, List.count_cons, List.count_cons, this]
    omega
section
variable {σ : Type} {w wr w1 : World} {n : Nat} {X : Nat → Prop} {J : World → σ → Prop} {keep keep' : Nat → Prop} {s : List Bool × List (Int × Int)} {st st1 : σ} {gt : Nat} {lb : Array Value} {tell : σ → Int → Int → σ × Bool} {lim : σ → Nat}
theorem WalkW.weak (h : WalkW w wr n X J keep s st) (hk : ∀ k, keep' k → keep k) : WalkW w wr n X J keep' s st := by
  obtain ⟨⟨ok, h1, h2, h3⟩, h4, h5, h6, h7⟩ := h
  exact ⟨⟨ok, h1, h2, fun k hk' => h3 k (hk k hk')⟩, h4, h5, h6, h7⟩
theorem WalkW.below (h : WalkW w wr n X J keep s st) (hT : Told gt lb w n X J tell lim) (hb : Below wr.heap.size wr w1) : WalkW w w1 n X J (fun k => keep k ∨ wr.heap.size ≤ k) s st := by
  obtain ⟨⟨ok, h1, h2, h3⟩, h4, h5, h6, h7⟩ := h
  refine ⟨⟨fun k => ok k ∧ k < wr.heap.size, (h1.wider (fun k hk ho => ⟨ho, hk⟩) (fun e => h1.obs e.1)).below hb, fun k hk => h2 k hk.1, fun k hk ho => ?_⟩, h4.below hb, hT.stay _ _ _ h5 fun k hk => hb.block k (Nat.lt_of_lt_of_le (hT.old k hk) h4.size), h6, h7⟩
  rcases hk with hk | hk
  · exact h3 k hk ho.1
  · have := ho.2; omega
theorem WalkW.putc (h : WalkW w wr n X J keep s st) (hT : Told gt lb w n X J tell lim) (a b : Int) (a0 : 0 ≤ a) (a1 : a < (n : Int)) (b0 : -1 ≤ b) (b1 : b < (n : Int)) (hn : n ≤ 1000000) :
    Calls Try.prog 72 (#[.int .i64 a, .int .i64 b] ++ #[.pointer (some ⟨w.heap.size + 1, 0, none⟩), .pointer (some ⟨w.heap.size + 1 + 1, 0, none⟩)]) wr fun e w' => e = .returned (.tuple #[]) ∧ WalkW w w' n X J (fun k => keep k ∧ k < wr.heap.size) (putF s a b) st ∧
      (∀ k, keep k → k < wr.heap.size → w'.heap[k]? = wr.heap[k]?) ∧ wr.heap.size ≤ w'.heap.size := by
  obtain ⟨⟨ok, h1, h2, h3⟩, h4, h5, h6, h7⟩ := h
  have hlen := h1.len
  have hcl : s.1.count true ≤ s.1.length := List.count_le_length
  refine (reach_put_calls ok _ _ _ n s a b wr h1 a0 a1 (by omega) (by omega) (by omega) (by omega)).mono ?_
  rintro e w' ⟨rfl, hP, hK⟩
  have hX : ∀ k, k < w.heap.size → w'.heap[k]? = wr.heap[k]? := fun k hk => hK.block k (Nat.lt_of_lt_of_le hk h4.size) (fun ho => by have := h2 k ho; omega)
  refine ⟨rfl, ⟨⟨_, hP, fun k hk => hk.elim (h2 k) (fun hk => Nat.le_trans h4.size hk), fun k hk ho => ?_⟩, ⟨hK.os.trans h4.os, hK.tape.trans h4.tape, hK.output.trans h4.output, Nat.le_trans h4.size hK.size, fun k hk hx => (hX k hk).trans (h4.block k hk hx)⟩, hT.stay _ _ _ h5 fun k hk => hX k (hT.old k hk), ?_, ?_⟩, fun k hk hl => hK.block k hl (h3 k hk), hK.size⟩
  · rcases ho with ho | ho
    · exact h3 k hk.1 ho
    · have := hk.2; omega
  · unfold putF
    split
    · exact h6
    · intro p hp
      rcases List.mem_append.1 hp with hp | hp
      · exact h6 p hp
      · obtain rfl := List.mem_singleton.1 hp
        exact ⟨a0, a1, b0, b1⟩
  · unfold putF
    split
    · exact h7
    · rename_i hq
      have e : rdOf false s.1 ((a.toNat : Nat) : Int) = false := by rw [Int.toNat_of_nonneg a0]; simpa using hq
      rw [List.length_append, count_set_le s.1 a.toNat e (by omega)]
      simp only [List.length_cons, List.length_nil]
      omega
theorem WalkW.told (h : WalkW w wr n X J keep s st) (hT : Told gt lb w n X J tell lim) (hk : ∀ k, keep k → ¬ X k) (hli : lim st < 1000000000) (a b : Int) (a0 : 0 ≤ a) (a1 : a < (n : Int)) (b0 : -1 ≤ b) (b1 : b < (n : Int)) :
    Calls Try.prog gt (#[.int .i64 a, .int .i64 b] ++ lb) wr fun e w' => e = .returned (.bool (tell st a b).2) ∧ WalkW w w' n X J (fun k => keep k ∧ k < wr.heap.size) s (tell st a b).1 ∧ (∀ k, keep k → k < wr.heap.size → w'.heap[k]? = wr.heap[k]?) ∧ wr.heap.size ≤ w'.heap.size := by
  obtain ⟨⟨ok, h1, h2, h3⟩, h4, h5, h6, h7⟩ := h
  refine (hT.call wr st a b h4 h5 hli a0 a1 b0 b1).mono ?_
  rintro e w' ⟨rfl, hJ, hK⟩
  refine ⟨rfl, ⟨⟨ok, h1.keeps hK (fun k hk hx => ?_), h2, fun k hk => h3 k hk.1⟩, h4.trans hK, hJ, h6, h7⟩, fun k hk' hl => hK.block k hl (hk k hk'), hK.size⟩
  have := hT.old k hx
  rcases hk with hk | hk
  · have := h2 k hk; omega
  · omega
end
theorem WalkW.pop {σ : Type} {w wr : World} {n : Nat} {X : Nat → Prop} {J : World → σ → Prop} {keep : Nat → Prop} {m : List Bool} {a b : Int} {r : List (Int × Int)} {st : σ} {gt : Nat} {lb : Array Value} {tell : σ → Int → Int → σ × Bool} {lim : σ → Nat}
    (h : WalkW w wr n X J keep (m, (a, b) :: r) st) (hT : Told gt lb w n X J tell lim) :
    ∃ ad c, wr.cell? ⟨w.heap.size + 1 + 1, 0, none⟩ = some (.slice (some ad) (r.length + 1) c) ∧ wr.frozen? ⟨w.heap.size + 1 + 1, 0, none⟩ = false ∧ r.length + 1 ≤ c ∧ wr.cell? ad = some (.int .i64 a) ∧ wr.cell? ⟨ad.block, ad.off + 1, none⟩ = some (.int .i64 b) ∧ w.heap.size + 1 + 1 < wr.heap.size ∧ r.length + 1 ≤ 9223372036854775807 ∧
      ∀ W1, Below wr.heap.size wr W1 → WalkW w (W1.setCell ⟨w.heap.size + 1 + 1, 0, none⟩ (.slice (if c = 1 then some ad else (some ad).map (·.add (1 * 2))) r.length (c - 1))) n X J (fun k => keep k ∨ wr.heap.size ≤ k) (m, r) st := by
  obtain ⟨⟨ok, h1, h2, h3⟩, h4, h5, h6, h7⟩ := h
  obtain ⟨v, hv, hq, ho⟩ := h1.wait
  obtain ⟨A, c, e0, hc⟩ := q_slice hq
  subst e0
  have hm := q_max hq
  obtain ⟨ad, e0, hcell⟩ := q_cells hq (by simp)
  subst e0
  have hwl := blk_lt hv
  have hc0 : wr.cell? ad = some (.int .i64 a) := by
    have := hcell 0 (.int .i64 a) rfl
    rwa [show ad.add 0 = ad by simp [Addr.add]] at this
  have had : ad.spot = none := by
    rcases hq.2 with ⟨h0, _⟩ | ⟨g, off, cap, cur, he, _⟩
    · exact absurd h0 (by simp)
    · injection he with he
      injection he with he
      rw [he]
  have hc1 : wr.cell? ⟨ad.block, ad.off + 1, none⟩ = some (.int .i64 b) := by
    have := hcell 1 (.int .i64 b) rfl
    rw [← this]
    obtain ⟨x0, x1, x2⟩ := ad
    cases had
    rfl
  refine ⟨ad, c, (blk_cell hv 0).trans rfl, blk_frozen hv 0, hc, hc0, hc1, hwl, hm, fun W1 hb => ?_⟩
  have hd := q_drop (k := 1) hq (by simp)
  have hX : ∀ k, k < w.heap.size → (W1.setCell ⟨w.heap.size + 1 + 1, 0, none⟩ (.slice (if c = 1 then some ad else (some ad).map (·.add (1 * 2))) r.length (c - 1))).heap[k]? = wr.heap[k]? := fun k hk =>
    (Below.heap_setCell _ _ _ _ (by show k ≠ w.heap.size + 1 + 1; omega)).trans (hb.block k (by omega))
  have hsz : (W1.setCell ⟨w.heap.size + 1 + 1, 0, none⟩ (.slice (if c = 1 then some ad else (some ad).map (·.add (1 * 2))) r.length (c - 1))).heap.size = W1.heap.size := by simp [World.setCell]
  refine ⟨⟨fun k => ok k ∧ k < wr.heap.size, ⟨?_, ?_, h1.len, ⟨_, blk_put (cs := #[.slice (some ad) (r.length + 1) c]) ((hb.block _ hwl).trans hv) 0 _ rfl, ?_, fun k hk => ?_⟩, ⟨h1.ogs, ?_⟩, ⟨h1.obw, hwl⟩, fun e => h1.obs e.1⟩, fun k hk => h2 k hk.1, fun k hk hx => ?_⟩, ?_, hT.stay _ _ _ h5 fun k hk => hX k (hT.old k hk), fun p hp => h6 p (List.mem_cons_of_mem _ hp), ?_⟩
  · exact (Below.heap_setCell _ _ _ _ (by show w.heap.size + 1 ≠ w.heap.size + 1 + 1; omega)).trans ((hb.block _ (by omega)).trans h1.box)
  · refine Kd.R_step h1.row fun k hk hl => ?_
    subst hk
    exact (Below.heap_setCell _ _ _ _ (by show w.heap.size ≠ w.heap.size + 1 + 1; omega)).trans (hb.block _ hl)
  · have e : (Value.slice (if c = 1 then some ad else (some ad).map (·.add (1 * 2))) r.length (c - 1)).ownBlock = some ad.block := by
      split <;> simp [Value.ownBlock, Addr.add]
    have hd2 : QRow wr 0 91 2 (.slice (if c = 1 then some ad else (some ad).map (·.add (1 * 2))) r.length (c - 1)) r.length (pairCells r) := by
      simpa [pairCells] using hd
    refine q_move hd2 fun k hk => ?_
    rw [e] at hk
    injection hk with hk
    have hne : k ≠ w.heap.size + 1 + 1 := q_ne hq hv (by decide) k (by simp [Value.ownBlock, hk])
    exact (Below.heap_setCell _ _ _ _ hne).trans (hb.block k (q_lt hq k (by simp [Value.ownBlock, hk])))
  · have e : (Value.slice (if c = 1 then some ad else (some ad).map (·.add (1 * 2))) r.length (c - 1)).ownBlock = some ad.block := by
      split <;> simp [Value.ownBlock, Addr.add]
    rw [e] at hk
    have hk2 : (Value.slice (some ad) ((a, b) :: r).length c).ownBlock = some k := by simpa [Value.ownBlock] using hk
    exact ⟨ho k hk2, q_lt hq k hk2⟩
  · have := blk_lt h1.box; omega
  · rcases hk with hk | hk
    · exact h3 k hk hx.1
    · have := hx.2; omega
  · refine ⟨hb.os.trans h4.os, hb.tape.trans h4.tape, hb.output.trans h4.output, ?_, fun k hk hx => (hX k hk).trans (h4.block k hk hx)⟩
    rw [hsz]; exact Nat.le_trans h4.size hb.size
  · simp only [List.length_cons] at h7
    show r.length ≤ m.count true
    omega
theorem WalkW.init {σ : Type} {w : World} {n : Nat} {X : Nat → Prop} {J : World → σ → Prop} {st : σ} {gt : Nat} {lb : Array Value} {tell : σ → Int → Int → σ × Bool} {lim : σ → Nat} (hT : Told gt lb w n X J tell lim) (hn : n ≤ 1000000) (hJ : J w st) :
    WalkW w (((w.alloc (.cells (madeCells #[.bool false] n) 4)).alloc (.cells #[.slice (some ⟨w.heap.size, 0, none⟩) n n] 35)).alloc (.cells #[.slice none 0 0] 89)) n X J (fun _ => False) (List.replicate n false, []) st := by
  have hb := below_alloc (below_alloc (below_alloc (Below.refl w.heap.size w) (.cells (madeCells #[.bool false] n) 4)) (.cells #[.slice (some ⟨w.heap.size, 0, none⟩) n n] 35)) (.cells #[.slice none 0 0] 89)
  refine ⟨⟨fun k => k = w.heap.size ∨ k = w.heap.size + 1 + 1, ⟨hp_old (hp_new (by simp)), ?_, by simp, ⟨.slice none 0 0, hp_new (by simp), ⟨rfl, .inl ⟨rfl, none, rfl, fun a ha => by cases ha⟩⟩, fun k hk => by simp [Value.ownBlock] at hk⟩, .inl rfl, .inr rfl, by omega⟩, fun k hk => by omega, fun k hk => hk.elim⟩, .of_below hb, hT.stay _ _ _ hJ fun k hk => hb.block k (hT.old k hk), fun p hp => absurd hp (by simp), Nat.zero_le _⟩
  refine Kd.R_below (Kd.R_below (w1 := World.alloc _ _) ?_ (below_alloc (Below.refl _ _) _)) (below_alloc (Below.refl _ _) _)
  exact R_madeS (enc := Value.bool) (h1 := fun _ => rfl) false w 0 4 n (by simp) (by omega) (ok := fun k => k = w.heap.size) rfl
set_option maxHeartbeats 8000000 in
set_option maxRecDepth 100000 in
theorem reach_walk_calls {σ : Type} {gt : Nat} {lb : Array Value} {X oks : Nat → Prop} {J : World → σ → Prop} {tell : σ → Int → Int → σ × Bool} {lim : σ → Nat} (g c : Nat) (l : List (List Int)) (Af : Option Addr) (cf : Nat) (first : List Int) (w : World) (st0 st' : σ)
    (hT : Told gt lb w l.length X J tell lim) (eg : ∀ args w, (callFunc gt args).run Try.prog w = .ok (.enter gt args) w) (hS : Steps w oks g l) (hoks : ∀ k, oks k → ¬ X k) (hf : QInts w 0 3 (.slice Af first.length cf) first) (hfx : ∀ k, (Value.slice Af first.length cf).ownBlock = some k → ¬ X k)
    (hl : l.length ≤ 1000000) (hr : ∀ i, ∀ x ∈ l.getD i [], 0 ≤ x ∧ x < (l.length : Int)) (hfr : ∀ x ∈ first, 0 ≤ x ∧ x < (l.length : Int)) (hJ : J w st0) (K : Nat) (hlim : lim st0 + K ≤ 1000000000)
    (h : walkL l tell K (walkPut first (-1) (List.replicate l.length false, [])).1 (walkPut first (-1) (List.replicate l.length false, [])).2 st0 = some st') :
    Calls Try.prog 51 #[.slice (some ⟨g, 0, none⟩) l.length c, .slice Af first.length cf, .func (.func gt) #[] lb] w fun e w' => e = .returned (.tuple #[]) ∧ J w' st' ∧ Keeps X w w' := by
  have hmk := fun W => run_make_row' (P := Try.prog) 35 4 (.bool false) 1 Try.underlying35 reach_infoB rfl .i64 .i64 l.length (by omega) (by omega) W
  have egp := fun args w => enters_ Try.func72 (by kernel_rfl) rfl args w
  have HT := Aside0.mk hT
  have HS := Aside0.mk hS
  have HOKS := Aside0.mk hoks
  have HF := Aside0.mk hf
  have HFX := Aside0.mk hfx
  have HR := Aside0.mk hr
  have HFR := Aside0.mk hfr
  have HJ := Aside0.mk hJ
  have HH := Aside0.mk h
  have HLIM := Aside0.mk hlim
  have hfm := hf.max_
  clear hT hS hoks hf hfx hr hfr hJ h hlim
  go_enter Try.func51, Try.ntmps51
  go_wp2_with fail
  obtain ⟨tgt, htgt⟩ : ∃ tgt, tgt = walkPut first (-1) (List.replicate l.length false, []) := ⟨_, rfl⟩
  have HH2 := HH.out
  rw [← htgt] at HH2
  replace HH := Aside0.mk HH2
  clear HH2
  have HTG := Aside0.mk htgt
  clear htgt
  have HW := Aside0.mk (WalkW.init HT.out hl HJ.out)
  go_loopg [20] first.length (fun gg v20 wr => ∃ (kk : Nat) (s : List Bool × List (Int × Int)), kk ≤ first.length ∧ first.length - kk ≤ gg ∧ v20 = .int .i64 kk ∧ Aside0 (walkPut (first.drop kk) (-1) s = tgt) ∧ Aside0 (WalkW w wr l.length X J (fun _ => False) s st0))
  case atStart => exact ⟨0, _, Nat.zero_le _, by omega, rfl, ⟨by rw [List.drop_zero]; exact HTG.out.symm⟩, HW⟩
  case round =>
    clear HTG HW hmk
    obtain ⟨kk, s, hkk, hg, rfl, HP, HW⟩ := hrel
    by_cases hlt : kk < first.length
    · have hltz : (kk : Int) < (first.length : Int) := by omega
      obtain ⟨A', c', e0, hc', hC⟩ := ints_C (HF.out.move (w1 := wr) fun k hk => HW.out.kp.block k (HF.out.lt k hk) (HFX.out k hk))
      injection e0 with e0 _ e1
      subst e0 e1
      obtain ⟨ad, e0, hx⟩ := Kd.at_int hC (kk : Int) (by omega) hltz
      have hrd : rd first (kk : Int) = first[kk] := by unfold rd; rw [Int.toNat_natCast, List.getD_eq_getElem?_getD, List.getElem?_eq_getElem hlt]; rfl
      subst e0
      have HB := Aside0.mk (HFR.out _ (List.getElem_mem hlt))
      have HP1 := HP.out
      rw [List.drop_eq_getElem_cons hlt] at HP1
      replace HP := Aside0.mk HP1
      rw [hrd, Int.toNat_natCast] at hx
      clear HP1 hC hrd
      generalize first[kk] = x at hx HB HP
      have HC := Aside0.mk (HW.out.putc HT.out x (-1) HB.out.1 HB.out.2 (by omega) (by have := HB.out; omega) hl)
      go_wp2_with fail
      refine HC.out.mono ?_
      rintro e w1 ⟨rfl, HW1, _, _⟩
      have HW1 := Aside0.mk (HW1.weak (keep' := fun _ => False) (fun k hk => hk.elim))
      clear HC HW hx
      go_wp2_with fail
      go_roundg (first.length - (kk + 1))
      case measure => omega
      case rel => exact ⟨kk + 1, _, by omega, by omega, by go_num, HP, HW1⟩
    · have hltz : ¬ (kk : Int) < (first.length : Int) := by omega
      have e := HP.out
      rw [List.drop_of_length_le (by omega)] at e
      have e : s = tgt := e
      subst e
      clear HP
      go_wp2_with fail
      go_loopg [] K (fun kq wr => ∃ (s : List Bool × List (Int × Int)) (st : σ), Aside0 (walkL l tell kq s.1 s.2 st = some st') ∧ Aside0 (lim st + kq ≤ 1000000000) ∧ Aside0 (WalkW w wr l.length X J (fun _ => False) s st))
      case atStart => exact ⟨_, _, HH, HLIM, HW⟩
      case round =>
        clear HW HH HLIM
        obtain ⟨⟨m, q⟩, st, HH, HLIM, HW⟩ := hrel
        cases gk with
        | zero => exact absurd HH.out (by simp [walkL])
        | succ k1 =>
          cases q with
          | nil =>
            have hfin : st = st' := by have := HH.out; simpa [walkL] using this
            subst hfin
            obtain ⟨ok, hPW, _, _⟩ := HW.out.put
            obtain ⟨v, hv, hq, _⟩ := hPW.wait
            obtain ⟨A0, c0, e0, _⟩ := q_slice hq
            subst e0
            have hbw : wr.cell? ⟨w.heap.size + 1 + 1, 0, none⟩ = some (.slice A0 0 c0) := (blk_cell hv 0).trans rfl
            clear hq hv hPW
            go_wp2_with fail
            refine bodyPost_end (results_none rfl _ _ _) rfl ?_
            exact ⟨rfl, HW.out.j, HW.out.kp⟩
          | cons x r =>
            obtain ⟨a, b⟩ := x
            have HB := Aside0.mk (HW.out.bnd _ List.mem_cons_self)
            obtain ⟨ad, c1, hbw, hbf, hc1, h0, h1, hwl, hmx, hpop⟩ := HW.out.pop HT.out
            obtain ⟨B, hB⟩ : ∃ B, B = (if c1 = 1 then some ad else (some ad).map (·.add (1 * 2))) := ⟨_, rfl⟩
            rw [← hB] at hpop
            have hcut : ∀ W, (Instr.slice 89 (.slice (some ad) (r.length + 1) c1) (some (.int .i64 1)) none none).run Try.prog W = .ok (.slice B r.length (c1 - 1)) W := by
              intro W
              obtain ⟨j0, hj, hj2⟩ := Option.map_eq_some_iff.1 step_info
              simp only [Prod.mk.injEq] at hj2
              rw [hB, cut_from 89 91 .i64 Try.underlying89 hj 2 hj2.2.1 (some ad) (r.length + 1) c1 1 (by omega) (by omega) W]
              simp
            obtain ⟨gx, hgx⟩ : ∃ gx, gx = wr.heap.size := ⟨_, rfl⟩
            obtain ⟨W1, hW1⟩ : ∃ W1, W1 = wr.setCell ⟨w.heap.size + 1 + 1, 0, none⟩ (.slice B r.length (c1 - 1)) := ⟨_, rfl⟩
            have hz1 : W1.heap.size = wr.heap.size := by rw [hW1]; simp [World.setCell]
            obtain ⟨W2, hW2⟩ : ∃ W2, W2 = W1.alloc (.cells #[.int .i64 a, .int .i64 b] 91) := ⟨_, rfl⟩
            have HW2 := Aside0.mk ((hpop wr (Below.refl _ _)).below HT.out (w1 := W2) (by rw [hW2, hW1]; exact below_alloc (Below.refl _ _) _))
            have HXB := Aside0.mk (show W2.heap[gx]? = some (.cells #[.int .i64 a, .int .i64 b] 91 (0, 0)) by rw [hW2]; exact hp_new (by omega))
            have HW3 := Aside0.mk (HW2.out.weak (keep' := fun k => k = gx) (fun k hk => .inl (.inr (by omega))))
            have HGL := Aside0.mk (show w.heap.size + 1 + 1 < gx from by rw [hgx]; exact hwl)
            have HSZ := Aside0.mk (show W2.heap.size = gx + 1 by rw [hW2, hgx, ← hz1]; simp)
            have HE2 := Aside0.mk (show W2 = (wr.setCell ⟨w.heap.size + 1 + 1, 0, none⟩ (.slice B r.length (c1 - 1))).alloc (.cells #[.int .i64 a, .int .i64 b] 91) by rw [hW2, hW1])
            have HGX := Aside0.mk hgx
            clear hpop hB HW HW2 hW2 hW1 hgx hz1
            have HTC := Aside0.mk (HW3.out.told HT.out (fun k hk hx => by have := HT.out.old k hx; have := HGL.out; omega) (by have := HLIM.out; omega) a b HB.out.1 HB.out.2.1 HB.out.2.2.1 HB.out.2.2.2)
            go_wp2_with fail
            rw [← HE2.out, ← HGX.out]
            refine HTC.out.mono ?_
            rintro e w3 ⟨rfl, HW4, hkeep, hsz⟩
            have HXB3 := Aside0.mk ((hkeep gx rfl (by rw [HSZ.out]; omega)).trans HXB.out)
            replace HW4 := Aside0.mk (HW4.weak (keep' := fun k => k = gx) (fun k hk => ⟨hk, by rw [HSZ.out]; omega⟩))
            have HH1 := HH.out
            rw [walkL] at HH1
            simp only at HH1
            have HLM1 := Aside0.mk (show lim (tell st a b).1 + k1 ≤ 1000000000 by have := HLIM.out; have := HT.out.step st a b; omega)
            generalize (tell st a b).1 = st1 at HH1 HW4 HLM1
            generalize (tell st a b).2 = tq at HH1
            clear HTC HE2 HGX HXB HW3 HSZ hkeep hsz HH hbw hbf h0 h1 hcut hc1 hwl hmx
            cases tq with
            | false =>
              rw [if_neg (by decide)] at HH1
              injection HH1 with HH1
              subst HH1
              go_wp2_with fail
              refine bodyPost_ret (results_none rfl _ _ _) rfl ?_
              exact ⟨rfl, HW4.out.j, HW4.out.kp⟩
            | true =>
              rw [if_pos rfl] at HH1
              replace HH1 := Aside0.mk HH1
              have ha0 := HB.out.1
              have ha1 := HB.out.2.1
              have hai : a.toNat < l.length := by omega
              have HRR := Aside0.mk (HR.out a.toNat)
              obtain ⟨Ar, cr, hcell0, hcr0, _, hQ0, hO0⟩ := HS.out.row a.toNat hai
              obtain ⟨_, _, hog, _⟩ := HS.out.out
              have hcr : w3.cell? ⟨g, a.toNat, none⟩ = some (.slice Ar l[a.toNat].length cr) := (World.cell?_of_block (w := w) (a := ⟨g, a.toNat, none⟩) (HW4.out.kp.block g HS.out.lt (HOKS.out g hog))).trans hcell0
              have e : l.getD a.toNat [] = l[a.toNat] := by rw [List.getD_eq_getElem?_getD, List.getElem?_eq_getElem hai]; rfl
              rw [e] at HH1 HRR
              clear hcell0 hog e
              have hgxc : w3.cell? ⟨gx, 0, none⟩ = some (.int .i64 a) := (blk_cell HXB3.out 0).trans rfl
              have HQ0 := Aside0.mk hQ0
              have HO0 := Aside0.mk hO0
              have hrm := hQ0.max_
              clear hQ0 hO0
              generalize l[a.toNat] = row at HH1 HRR hcr HQ0 HO0 hcr0 hrm
              go_wp2_with fail
              obtain ⟨t3, ht3⟩ : ∃ t3, t3 = walkPut row a (m, r) := ⟨_, rfl⟩
              have HH3 := HH1.out
              rw [← ht3] at HH3
              replace HH1 := Aside0.mk HH3
              have HT3 := Aside0.mk ht3
              clear HH3 ht3 hcr hgxc
              go_loopg [49] row.length (fun gg v49 wr2 => ∃ (jj : Nat) (s2 : List Bool × List (Int × Int)), jj ≤ row.length ∧ row.length - jj ≤ gg ∧ v49 = .int .i64 jj ∧ Aside0 (walkPut (row.drop jj) a s2 = t3) ∧ Aside0 (WalkW w wr2 l.length X J (fun k => k = gx) s2 st1) ∧ Aside0 (wr2.heap[gx]? = some (.cells #[.int .i64 a, .int .i64 b] 91 (0, 0))))
              case atStart => exact ⟨0, _, Nat.zero_le _, by omega, rfl, ⟨by rw [List.drop_zero]; exact HT3.out.symm⟩, HW4, HXB3⟩
              case round =>
                clear HT3 HW4 HXB3
                obtain ⟨jj, s2, hjj, hg2, rfl, HP, HW, HXB⟩ := hrel
                by_cases hlt2 : jj < row.length
                · have hltz2 : (jj : Int) < (row.length : Int) := by omega
                  obtain ⟨A', c', e0, hc', hC⟩ := ints_C (HQ0.out.move (w1 := wr) fun k hk => HW.out.kp.block k (HQ0.out.lt k hk) (HOKS.out k (HO0.out k hk)))
                  injection e0 with e0 _ e1
                  subst e0 e1
                  obtain ⟨ad2, e0, hx⟩ := Kd.at_int hC (jj : Int) (by omega) hltz2
                  have hrd : rd row (jj : Int) = row[jj] := by unfold rd; rw [Int.toNat_natCast, List.getD_eq_getElem?_getD, List.getElem?_eq_getElem hlt2]; rfl
                  subst e0
                  have HB2 := Aside0.mk (HRR.out _ (List.getElem_mem hlt2))
                  have HP1 := HP.out
                  rw [List.drop_eq_getElem_cons hlt2] at HP1
                  replace HP := Aside0.mk HP1
                  rw [hrd, Int.toNat_natCast] at hx
                  clear HP1 hC hrd
                  generalize row[jj] = x at hx HB2 HP
                  have HC := Aside0.mk (HW.out.putc HT.out x a HB2.out.1 HB2.out.2 (by omega) ha1 hl)
                  have hgxl := blk_lt HXB.out
                  have hgxc : wr.cell? ⟨gx, 0, none⟩ = some (.int .i64 a) := (blk_cell HXB.out 0).trans rfl
                  go_wp2_with fail
                  refine HC.out.mono ?_
                  rintro e w1 ⟨rfl, HW1, hkeep, _⟩
                  have HW1 := Aside0.mk (HW1.weak (keep' := fun k => k = gx) (fun k hk => ⟨hk, by omega⟩))
                  have HXB1 := Aside0.mk ((hkeep gx rfl hgxl).trans HXB.out)
                  clear HC HW hx hkeep HXB hgxl hgxc
                  go_wp2_with fail
                  go_roundg (row.length - (jj + 1))
                  case measure => omega
                  case rel => exact ⟨jj + 1, _, by omega, by omega, by go_num, HP, HW1, HXB1⟩
                · have hltz2 : ¬ (jj : Int) < (row.length : Int) := by omega
                  have e := HP.out
                  rw [List.drop_of_length_le (by omega)] at e
                  have e : s2 = t3 := e
                  subst e
                  clear HP
                  go_wp2_with fail
                  go_roundg k1
                  case measure => omega
                  case rel => exact ⟨_, _, HH1, HLM1, ⟨HW.out.weak fun k hk => hk.elim⟩⟩
structure WaySt where
  f : Int → Int
  c : Nat
  found : Bool
def wayTell (n : Int) (st : WaySt) (a b : Int) : WaySt × Bool := (⟨fun i => if i = a then b else st.f i, st.c + 1, decide (a = n)⟩, !decide (a = n))
structure WayJ (gb gf : Nat) (W : World) (st : WaySt) : Prop where mk ::
  (out : ∃ D : DataW Unit, W.ownsMap Try.prog 3 (plainElem Try.prog 3) gb st.c D ∧ (∀ i : Int, D.atKey (.int .i64 i) (.lit (.int .i64 0)) = .lit (.int .i64 (st.f i))) ∧ W.heap[gf]? = some (.cells #[.bool st.found] 4 (0, 0)))
theorem WayJ.move {gb gf : Nat} {W W1 : World} {st : WaySt} (h : WayJ gb gf W st) (h1 : W1.heap[gb]? = W.heap[gb]?) (h2 : W1.heap[gf]? = W.heap[gf]?) : WayJ gb gf W1 st := by
  obtain ⟨D, ⟨es, clock, hb, r⟩, h3, h4⟩ := h.out
  exact ⟨D, ⟨es, clock, h1.trans hb, r⟩, h3, h2.trans h4⟩
set_option maxHeartbeats 4000000 in
theorem reach_way1 (n : Int) (gm gb gn gf : Nat) (w0 : World) (N : Nat) (hN : N ≤ 1000000) (hm : w0.cell? ⟨gm, 0, none⟩ = some (.map (some gb))) (hn : w0.cell? ⟨gn, 0, none⟩ = some (.int .i64 n)) (m1 : gm ≠ gb) (m2 : gm ≠ gf) (n1 : gn ≠ gb) (n2 : gn ≠ gf) (hbf : gb ≠ gf) (lb : gb < w0.heap.size) (lf : gf < w0.heap.size) :
    Told 52 #[.pointer (some ⟨gm, 0, none⟩), .pointer (some ⟨gn, 0, none⟩), .pointer (some ⟨gf, 0, none⟩)] w0 N (fun k => k = gb ∨ k = gf) (WayJ gb gf) (wayTell n) WaySt.c := by
  refine ⟨fun _ _ _ => Nat.le_refl _, fun k hk => by rcases hk with rfl | rfl <;> assumption, fun W W1 st h hk => h.move (hk gb (.inl rfl)) (hk gf (.inr rfl)), fun W st a b hK hJ hli a0 a1 b0 b1 => ?_⟩
  show Calls Try.prog 52 #[.int .i64 a, .int .i64 b, .pointer (some ⟨gm, 0, none⟩), .pointer (some ⟨gn, 0, none⟩), .pointer (some ⟨gf, 0, none⟩)] W fun e W' => e = .returned (.bool (!decide (a = n))) ∧ WayJ gb gf W' ⟨fun i => if i = a then b else st.f i, st.c + 1, decide (a = n)⟩ ∧ Keeps (fun k => k = gb ∨ k = gf) W W'
  have hml := World.block_lt_of_cell? w0 _ hm
  have hnl := World.block_lt_of_cell? w0 _ hn
  have hmc : W.cell? ⟨gm, 0, none⟩ = some (.map (some gb)) := (World.cell?_of_block (w := w0) (a := ⟨gm, 0, none⟩) (hK.block gm hml (by rintro (h | h); exact m1 h; exact m2 h))).trans hm
  have hnc : W.cell? ⟨gn, 0, none⟩ = some (.int .i64 n) := (World.cell?_of_block (w := w0) (a := ⟨gn, 0, none⟩) (hK.block gn hnl (by rintro (h | h); exact n1 h; exact n2 h))).trans hn
  obtain ⟨D, hown, hat, hf⟩ := hJ.out
  have wfa : (Lit.int IntKind.i64 a).wf = true := WalkArith.wf_i64 ⟨by omega, by omega⟩
  have wfb : (Lit.int IntKind.i64 b).wf = true := WalkArith.wf_i64 ⟨by omega, by omega⟩
  have hkey := Maps.keyOf_int_mk (P := Try.prog) (k := 3) Try.underlying3 wfa
  obtain ⟨W1, hrun, hown1, hg1⟩ := hown.update (t := 71) (e := 3) reach_law_int Try.underlying71 (by unfold maxLen; omega) hkey (val := .int .i64 b) (plainElem_int Try.underlying3 wfb)
  have hD := hown.isMap
  have hwl : gn < W.heap.size := World.block_lt_of_cell? W _ hnc
  have hn1 : W1.cell? ⟨gn, 0, none⟩ = some (.int .i64 n) := hg1.cell hnc (by simpa using n1)
  have hf1 : W1.heap[gf]? = some (.cells #[.bool st.found] 4 (0, 0)) := (hg1.block gf (blk_lt hf) (by simpa using fun e => hbf e.symm)).trans hf
  have hfc : W1.cell? ⟨gf, 0, none⟩ = some (.bool st.found) := (blk_cell hf1 0).trans rfl
  have hff := blk_frozen hf1 0
  have key : ∀ q : Bool, WayJ gb gf (W1.setCell ⟨gf, 0, none⟩ (.bool q)) ⟨fun i => if i = a then b else st.f i, st.c + 1, q⟩ ∧ Keeps (fun k => k = gb ∨ k = gf) W (W1.setCell ⟨gf, 0, none⟩ (.bool q)) := fun q =>
    ⟨⟨_, hown1.setCell hbf _, fun i => by
      by_cases e : i = a
      · subst e
        rw [Maps.atKey_put_same hD (reach_law_int.key hkey)]; simp
      · rw [Maps.atKey_put_other (fun h => e (by simpa using h)), hat]; simp [e], blk_put (cs := #[.bool st.found]) hf1 0 _ rfl⟩,
     ((Keeps.refl _ _).grown hg1 (fun k hk _ => by injection hk with hk; exact .inl hk.symm)).set _ _ _ (.inr rfl)⟩
  have HKEY := Aside0.mk key
  clear hJ hK hm hn hown hat hf hown1 hg1 hD hf1 key hml hnl hkey wfa wfb
  by_cases e : a = n
  · have e1 : decide (a = n) = true := decide_eq_true e
    rw [e1]
    subst e
    clear e1
    go_enter Try.func52, Try.ntmps52
    go_wp2_with fail
    go_ret
    exact ⟨rfl, (HKEY.out true).1, (HKEY.out true).2⟩
  · have e1 : decide (a = n) = false := decide_eq_false e
    rw [e1]
    have e2 : (a == n) = false := by simpa using e
    go_enter Try.func52, Try.ntmps52
    go_wp2_with fail
    go_ret
    exact ⟨rfl, (HKEY.out false).1, (HKEY.out false).2⟩
def slices_Reverse_int_int.l0 : Nat → List Int → Int → Int → Option (List Int)
  | 0, _, _, _ => none
  | k + 1, x0, x2, x3 => if x2 < x3 then (if 0 ≤ x3 then (if x3 < (x0.length : Int) then (if 0 ≤ x2 then (if x2 < (x0.length : Int) then (slices_Reverse_int_int.l0 k ((x0.set (x2 : Int).toNat (rd x0 x3)).set (x3 : Int).toNat (rd x0 x2)) (wrap64 (x2 + 1)) (wrap64 (x3 - 1))) else (none)) else (none)) else (none)) else (none)) else (some x0)
def slices_Reverse_int_int.f (k : Nat) (l0 : List Int) : Option (List Int) := slices_Reverse_int_int.l0 k l0 0 (wrap64 ((l0.length : Int) - 1))
def slices_Reverse_int_int.T3 : Bool × List (List Nat × List Nat) := (true, [([], []), ([], []), ([], []), ([], []), ([], []), ([], []), ([4, 5], [4, 5]), ([6], [6]), ([], []), ([], []), ([8, 9], [8, 9]), ([10], [10]), ([0, 1, 0, 1, 4, 5, 6, 7, 11], [0, 1]), ([12, 7, 0, 1, 4, 5, 6, 7, 11], [7, 12]), ([2, 3, 0, 1, 2, 3, 4, 5, 6, 7, 8, 9, 10, 11, 12, 13], [2, 3]), ([14, 11, 13, 0, 1, 2, 3, 4, 5, 6, 7, 8, 9, 10, 11, 12, 13], [11, 14])])
def slices_Reverse_int_int.B3 : List Nat := [0, 0, 0, 0, 0, 0, 48, 112, 0, 0, 768, 1792, 4083, 8179, 16383, 32767]
theorem slices_Reverse_int_int.tab3 : rtab .any (opsOf Try.f53 3) = slices_Reverse_int_int.T3 := by kernel_rfl
theorem slices_Reverse_int_int.bits3 : waitsOk slices_Reverse_int_int.T3.2 slices_Reverse_int_int.B3 = true := by kernel_rfl
set_option maxHeartbeats 8000000 in
set_option maxRecDepth 100000 in
theorem slices_Reverse_int_int.calls (k : Nat) (P0_ : Nat → Prop) (u9000_ : Value) (l0 : List Int) (r : List Int) (w0 w : World) (hB : Below w0.heap.size w0 w) (ho0 : Kd.R (Kd.int .i64) 3 w w0.heap.size P0_ u9000_ l0) (h : slices_Reverse_int_int.f k l0 = some r) :
    Calls Try.prog 53 #[u9000_] w fun e w' => e = .returned (.tuple #[]) ∧ Kd.R (Kd.int .i64) 3 w' w0.heap.size (fun k_ => (P0_ k_ ∨ w.heap.size ≤ k_)) u9000_ r ∧ Below w0.heap.size w0 w' ∧ Kept w w' (fun k_ => P0_ k_) := by
  have HO0 := Aside0.mk (show Kd.R (Kd.int .i64) 3 w w0.heap.size (fun k_ => (P0_ k_ ∨ w.heap.size ≤ k_)) u9000_ l0 from Kd.R_mono ho0 (fun k_ hk => (.inl hk)))
  have HK := Aside0.mk (Kept.refl w (fun k_ => P0_ k_))
  have HW0 := Aside0.mk hB.size
  have HB := Aside0.mk hB
  clear hB
  have H : (slices_Reverse_int_int.l0 k l0 0 (wrap64 ((l0.length : Int) - 1))) = some r := h
  clear h
  have H' := Aside0.mk H
  clear H
  obtain ⟨Ao2, co2, eo2⟩ := Kd.R_slice HO0.out
  subst eo2
  go_enter Try.func53, Try.ntmps53
  go_wp2
  (try (with_reducible (show Code.wp _ _ _ (Act.put _ _ _) _); go_simp))
  go_loopg [2, 3] k (fun kq v2 v3 w' => ∃ (x0_1 : List Int) (x2_1 : Int) (x3_1 : Int), v2 = .int .i64 x2_1 ∧ v3 = .int .i64 x3_1 ∧ Aside0 (slices_Reverse_int_int.l0 kq x0_1 x2_1 x3_1 = some r) ∧ Aside0 (kq ≤ k) ∧ Aside0 (Kd.R (Kd.int .i64) 3 w' w0.heap.size (fun k_ => (P0_ k_ ∨ w.heap.size ≤ k_)) (.slice Ao2 l0.length co2) x0_1) ∧ Aside0 (Kept w w' (fun k_ => P0_ k_)) ∧ Aside0 (Below w0.heap.size w0 w'))
  case atStart => exact ⟨(l0), (0), (wrap64 ((l0.length : Int) - 1)), (by first | rfl | (simp; done) | (simp [*]; done)), (by first | rfl | (simp; done) | (simp [*]; done)), H', ⟨Nat.le_refl _⟩, ⟨by (with_reducible repeat (first | apply Kd.R_alloc | apply Kd.R_drewN | apply Kd.R_drew)); exact HO0.out⟩, ⟨by repeat (first | (with_reducible first | exact HK.out | apply Kept.alloc | apply Kept.drewN | apply Kept.drew) | exact HK.out)⟩, ⟨by repeat (first | (with_reducible first | exact HB.out | apply below_alloc | apply pw_below_drewN | apply below_drew1) | exact HB.out)⟩⟩
  case round =>
    clear H'
    try clear p2
    obtain ⟨x0_1, x2_1, x3_1, rfl, rfl, HA, HK1, HO_0, HK, HB⟩ := hrel
    have hl0_1 := (Kd.R_reads' HO_0.out).1
    rw [hl0_1] at HO_0
    (try simp only [hl0_1])
    cases gk with
    | zero => exact absurd HA.out (by simp [slices_Reverse_int_int.l0])
    | succ k1 =>
      have H := HA.out
      clear HA
      simp only [slices_Reverse_int_int.l0] at H
      by_cases c3 : x2_1 < x3_1
      · rw [if_pos c3] at H
        have c3b0 : decide (x2_1 < x3_1) = true := decide_eq_true c3
        clear c3
        by_cases c4 : 0 ≤ x3_1
        · rw [if_pos c4] at H
          have c4b0 : decide (0 ≤ x3_1) = true := decide_eq_true c4
          clear c4
          by_cases c5 : x3_1 < (x0_1.length : Int)
          · rw [if_pos c5] at H
            have c5b0 : decide (x3_1 < (x0_1.length : Int)) = true := decide_eq_true c5
            (try (have c5b0z := c5b0; simp only [hl0_1] at c5b0z))
            clear c5
            by_cases c6 : 0 ≤ x2_1
            · rw [if_pos c6] at H
              have c6b0 : decide (0 ≤ x2_1) = true := decide_eq_true c6
              clear c6
              by_cases c7 : x2_1 < (x0_1.length : Int)
              · rw [if_pos c7] at H
                have c7b0 : decide (x2_1 < (x0_1.length : Int)) = true := decide_eq_true c7
                (try (have c7b0z := c7b0; simp only [hl0_1] at c7b0z))
                clear c7
                obtain ⟨y147, hy147⟩ : ∃ y_ : List Int, y_ = (x0_1.set (x2_1 : Int).toNat (rd x0_1 x3_1)) := ⟨_, rfl⟩
                replace H : (slices_Reverse_int_int.l0 k1 (y147.set (x3_1 : Int).toNat (rd x0_1 x2_1)) (wrap64 (x2_1 + 1)) (wrap64 (x3_1 - 1))) = some r := by first | (rw [hy147]; with_reducible exact H) | (have H2_ := (Option.bind_some _ _).symm.trans H; rw [hy147]; with_reducible exact H2_) | (have H2_ := (Option.bind_some _ _).symm.trans H; with_reducible exact H2_) | with_reducible exact H | (rw [hy147]; exact H) | exact H
                have Ny147 := Aside0.mk hy147
                clear hy147
                obtain ⟨y148, hy148⟩ : ∃ y_ : List Int, y_ = (y147.set (x3_1 : Int).toNat (rd x0_1 x2_1)) := ⟨_, rfl⟩
                replace H : (slices_Reverse_int_int.l0 k1 y148 (wrap64 (x2_1 + 1)) (wrap64 (x3_1 - 1))) = some r := by first | (rw [hy148]; with_reducible exact H) | (have H2_ := (Option.bind_some _ _).symm.trans H; rw [hy148]; with_reducible exact H2_) | (have H2_ := (Option.bind_some _ _).symm.trans H; with_reducible exact H2_) | with_reducible exact H | (rw [hy148]; exact H) | exact H
                have Ny148 := Aside0.mk hy148
                clear hy148
                have H' := Aside0.mk H
                clear H
                try go_wp2
                have n0_ := Aside0.mk (Kd.R_drew HO_0.out)
                have n1_ := Aside0.mk (Kept.drew HK.out)
                have n2_ := Aside0.mk (below_drew1 HB.out)
                clear HO_0
                clear HK
                clear HB
                have HO_0 := n0_
                have HK := n1_
                have HB := n2_
                clear n0_ n1_ n2_
                have p145 : 0 ≤ (x3_1 : Int) := of_decide_eq_true (by first | (with_reducible assumption) | assumption)
                have q145 : x3_1 < (x0_1.length : Int) := of_decide_eq_true (by first | (with_reducible assumption) | assumption)
                obtain ⟨ad145, e145, hx145_0⟩ := Kd.at_int (Kd.R_reads' HO_0.out).2.2 x3_1 p145 q145
                cases e145
                replace p145 := eq_true p145
                replace q145 := eq_true q145
                have p146 : 0 ≤ (x2_1 : Int) := of_decide_eq_true (by first | (with_reducible assumption) | assumption)
                have q146 : x2_1 < (x0_1.length : Int) := of_decide_eq_true (by first | (with_reducible assumption) | assumption)
                obtain ⟨ad146, e146, hx146_0⟩ := Kd.at_int (Kd.R_reads' HO_0.out).2.2 x2_1 p146 q146
                obtain rfl : ad145 = ad146 := (by injection e146)
                replace p146 := eq_true p146
                replace q146 := eq_true q146
                have p8 : 0 ≤ (x2_1 : Int) := of_decide_eq_true (by first | (with_reducible assumption) | assumption)
                have q8 : (x2_1 : Int) < ((x0_1.length : Int) : Int) := of_decide_eq_true (by first | (with_reducible assumption) | assumption)
                obtain ⟨go8, co8, eo8, gb8, gl8, cl8, HG8⟩ := Kd.R_form HO_0.out (by omega)
                (first | cases eo8 | (injection eo8 with ea_ en_ ec_; (first | subst ea_ | (injection ea_ with ea_; subst ea_)); subst ec_; clear en_))
                have GB8 := Aside0.mk gb8
                have GG8 := Aside0.mk HG8
                clear gb8 gl8 HG8
                have HMgo8 := Aside0.mk (show (P0_ go8 ∨ w.heap.size ≤ go8) from (HO_0.out.1 _ rfl))
                (first | simp only [add_plain] at hx145_0 | skip)
                (first | simp only [add_plain] at hx146_0 | skip)
                obtain ⟨hx8_0, hf8_0⟩ := Kd.R_celln 0 HO_0.out (x2_1 : Int) p8 q8
                replace p8 := eq_true p8
                replace q8 := eq_true q8
                have HP11 := Kd.R_putn HO_0.out (x2_1 : Int) (rd x0_1 x3_1)
                rw [← Ny147.out] at HP11
                have HQ11 := Aside0.mk HP11
                clear HP11
                have p9 : 0 ≤ (x3_1 : Int) := of_decide_eq_true (by first | (with_reducible assumption) | assumption)
                have q9 : (x3_1 : Int) < ((x0_1.length : Int) : Int) := of_decide_eq_true (by first | (with_reducible assumption) | assumption)
                obtain ⟨hx9_0, hf9_0⟩ := Kd.R_celln 0 HQ11.out (x3_1 : Int) p9 q9
                replace p9 := eq_true p9
                replace q9 := eq_true q9
                have HP12 := Kd.R_putn HQ11.out (x3_1 : Int) (rd x0_1 x2_1)
                rw [← Ny148.out] at HP12
                have HQ12 := Aside0.mk HP12
                clear HP12
                refine start_ (n := 16) (S := fun w' => w'.cell? ⟨go8, (x3_1).toNat, none⟩ = some (.int .i64 (rd x0_1 x3_1)) ∧ w'.cell? ⟨go8, (x2_1).toNat, none⟩ = some (.int .i64 (rd x0_1 x2_1))) (ds := [13, 15]) #[false, false, false, false, false, false, false, false, false, false, false, false, false, false, false, false] (by kernel_rfl) rfl rfl ⟨hx145_0, hx146_0⟩ (fun hHeld => ?_); refine with_tabW slices_Reverse_int_int.tab3 slices_Reverse_int_int.bits3 (fun HT_ HW_ => ?_)
                generalize wr.drew = w10 at HO_0 HK HB GG8 HQ11 HQ12 hf8_0 hf9_0 hx145_0 hx146_0 hx8_0 hx9_0 hHeld ⊢
                refine pure_ (i := 0) (N := some 14) (v := ?_) (a' := ?_) #[true, false, false, false, false, false, false, false, false, false, false, false, false, false, false, false] rfl rfl (any_of HT_.out (by kernel_rfl)) (fun _ _ _ h => h) (Or.inl ⟨by rfl, ?_⟩) ?_ ?_
                rotate_left
                · intro w'
                  go_simp
                  with_reducible rfl
                rotate_left
                · simp only [Act.put, List.setIfInBounds_toArray, List.set_cons_zero, List.set_cons_succ, i64_w, i32_w]
                  rfl
                refine pure_ (i := 1) (N := some 15) (v := ?_) (a' := ?_) #[true, true, false, false, false, false, false, false, false, false, false, false, false, false, false, false] rfl rfl (any_of HT_.out (by kernel_rfl)) (fun _ _ _ h => h) (Or.inl ⟨by rfl, ?_⟩) ?_ ?_
                rotate_left
                · intro w'
                  go_simp
                  with_reducible rfl
                rotate_left
                · simp only [Act.put, List.setIfInBounds_toArray, List.set_cons_zero, List.set_cons_succ, i64_w, i32_w]
                  rfl
                refine pure_ (i := 2) (N := some 16) (v := ?_) (a' := ?_) #[true, true, true, false, false, false, false, false, false, false, false, false, false, false, false, false] rfl rfl (any_of HT_.out (by kernel_rfl)) (fun _ _ _ h => h) (Or.inl ⟨by rfl, ?_⟩) ?_ ?_
                rotate_left
                · intro w'
                  go_simp
                  with_reducible rfl
                rotate_left
                · simp only [Act.put, List.setIfInBounds_toArray, List.set_cons_zero, List.set_cons_succ, i64_w, i32_w]
                  rfl
                refine pure_ (i := 3) (N := some 17) (v := ?_) (a' := ?_) #[true, true, true, true, false, false, false, false, false, false, false, false, false, false, false, false] rfl rfl (any_of HT_.out (by kernel_rfl)) (fun _ _ _ h => h) (Or.inl ⟨by rfl, ?_⟩) ?_ ?_
                rotate_left
                · intro w'
                  go_simp
                  with_reducible rfl
                rotate_left
                · simp only [Act.put, List.setIfInBounds_toArray, List.set_cons_zero, List.set_cons_succ, i64_w, i32_w]
                  rfl
                refine pure_ (i := 4) (N := some 18) (v := ?_) (a' := ?_) #[true, true, true, true, true, false, false, false, false, false, false, false, false, false, false, false] rfl rfl (any_of HT_.out (by kernel_rfl)) (fun _ _ _ h => h) (Or.inl ⟨by rfl, ?_⟩) ?_ ?_
                rotate_left
                · intro w'
                  go_simp
                  with_reducible rfl
                rotate_left
                · simp only [Act.put, List.setIfInBounds_toArray, List.set_cons_zero, List.set_cons_succ, i64_w, i32_w]
                  rfl
                refine pure_ (i := 5) (N := some 19) (v := ?_) (a' := ?_) #[true, true, true, true, true, true, false, false, false, false, false, false, false, false, false, false] rfl rfl (any_of HT_.out (by kernel_rfl)) (fun _ _ _ h => h) (Or.inl ⟨by rfl, ?_⟩) ?_ ?_
                rotate_left
                · intro w'
                  go_simp
                  with_reducible rfl
                rotate_left
                · simp only [Act.put, List.setIfInBounds_toArray, List.set_cons_zero, List.set_cons_succ, i64_w, i32_w]
                  rfl
                refine pure_ (i := 6) (N := some 20) (v := ?_) (a' := ?_) #[true, true, true, true, true, true, true, false, false, false, false, false, false, false, false, false] rfl rfl (any_of HT_.out (by kernel_rfl)) (fun _ _ _ h => h) (Or.inl ⟨by rfl, ?_⟩) ?_ ?_
                rotate_left
                · intro w'
                  go_simp
                  with_reducible rfl
                rotate_left
                · simp only [Act.put, List.setIfInBounds_toArray, List.set_cons_zero, List.set_cons_succ, i64_w, i32_w]
                  rfl
                refine pure_ (i := 8) (N := some 22) (v := ?_) (a' := ?_) #[true, true, true, true, true, true, true, false, true, false, false, false, false, false, false, false] rfl rfl (any_of HT_.out (by kernel_rfl)) (fun _ _ _ h => h) (Or.inl ⟨by rfl, ?_⟩) ?_ ?_
                rotate_left
                · intro w'
                  go_simp
                  with_reducible rfl
                rotate_left
                · simp only [Act.put, List.setIfInBounds_toArray, List.set_cons_zero, List.set_cons_succ, i64_w, i32_w]
                  rfl
                refine pure_ (i := 9) (N := some 23) (v := ?_) (a' := ?_) #[true, true, true, true, true, true, true, false, true, true, false, false, false, false, false, false] rfl rfl (any_of HT_.out (by kernel_rfl)) (fun _ _ _ h => h) (Or.inl ⟨by rfl, ?_⟩) ?_ ?_
                rotate_left
                · intro w'
                  go_simp
                  with_reducible rfl
                rotate_left
                · simp only [Act.put, List.setIfInBounds_toArray, List.set_cons_zero, List.set_cons_succ, i64_w, i32_w]
                  rfl
                refine pure_ (i := 10) (N := some 24) (v := ?_) (a' := ?_) #[true, true, true, true, true, true, true, false, true, true, true, false, false, false, false, false] rfl rfl (any_of HT_.out (by kernel_rfl)) (fun _ _ _ h => h) (Or.inl ⟨by rfl, ?_⟩) ?_ ?_
                rotate_left
                · intro w'
                  go_simp
                  with_reducible rfl
                rotate_left
                · simp only [Act.put, List.setIfInBounds_toArray, List.set_cons_zero, List.set_cons_succ, i64_w, i32_w]
                  rfl
                refine take_ (i := 7) (N := some 21) (v := ?_) (a' := ?_) #[true, true, true, true, true, true, true, true, true, true, true, false, false, false, false, false] rfl rfl (take_ofW HT_.out HW_.out (by kernel_rfl)) (fun _ _ _ h => h) (Or.inl ⟨by rfl, ?_⟩) hHeld ?_ ?_
                rotate_left
                · rintro w' ⟨s0, s1⟩
                  go_simp
                  with_reducible rfl
                rotate_left
                · simp only [Act.put, List.setIfInBounds_toArray, List.set_cons_zero, List.set_cons_succ, i64_w, i32_w]
                  rfl
                refine take_ (i := 11) (N := some 25) (v := ?_) (a' := ?_) #[true, true, true, true, true, true, true, true, true, true, true, true, false, false, false, false] rfl rfl (take_ofW HT_.out HW_.out (by kernel_rfl)) (fun _ _ _ h => h) (Or.inl ⟨by rfl, ?_⟩) hHeld ?_ ?_
                rotate_left
                · rintro w' ⟨s0, s1⟩
                  go_simp
                  with_reducible rfl
                rotate_left
                · simp only [Act.put, List.setIfInBounds_toArray, List.set_cons_zero, List.set_cons_succ, i64_w, i32_w]
                  rfl
                refine pure_ (i := 12) (N := some 26) (v := ?_) (a' := ?_) #[true, true, true, true, true, true, true, true, true, true, true, true, true, false, false, false] rfl rfl (any_of HT_.out (by kernel_rfl)) (fun _ _ _ h => h) (Or.inl ⟨by rfl, ?_⟩) ?_ ?_
                rotate_left
                · intro w'
                  go_simp
                  with_reducible rfl
                rotate_left
                · simp only [Act.put, List.setIfInBounds_toArray, List.set_cons_zero, List.set_cons_succ, i64_w, i32_w]
                  rfl
                refine last_ (i := 13) (N := none) #[true, true, true, true, true, true, true, true, true, true, true, true, true, true, false, false] rfl rfl (one_of HT_.out (by kernel_rfl)) (by decide) (fun K hK => ?_)
                refine skip_ (w1 := ?_) (by rfl) rfl ?_ ?_
                rotate_left
                · go_simp
                  rfl
                refine hK.out _ _ ?_
                clear hK K
                refine pure_ (i := 14) (N := some 27) (v := ?_) (a' := ?_) #[true, true, true, true, true, true, true, true, true, true, true, true, true, true, true, false] rfl rfl (any_of HT_.out (by kernel_rfl)) (fun _ _ _ h => h) (Or.inl ⟨by rfl, ?_⟩) ?_ ?_
                rotate_left
                · intro w'
                  go_simp
                  with_reducible rfl
                rotate_left
                · simp only [Act.put, List.setIfInBounds_toArray, List.set_cons_zero, List.set_cons_succ, i64_w, i32_w]
                  rfl
                refine last_ (i := 15) (N := none) #[true, true, true, true, true, true, true, true, true, true, true, true, true, true, true, true] rfl rfl (one_of HT_.out (by kernel_rfl)) (by decide) (fun K hK => ?_)
                refine skip_ (w1 := ?_) (by rfl) rfl ?_ ?_
                rotate_left
                · go_simp
                  rfl
                refine hK.out _ _ ?_
                clear hK K
                refine done_ (done_of HT_.out (by kernel_rfl)) ?_
                try go_wp2
                (try simp only [← hl0_1])
                go_roundg k1
                case measure => have := HK1.out; omega
                case rel => exact ⟨(y148), (wrap64 (x2_1 + 1)), (wrap64 (x3_1 - 1)), (by first | rfl | (simp; done) | (simp [*]; done)), (by first | rfl | (simp; done) | (simp [*]; done)), H', ⟨by have := HK1.out; omega⟩, ⟨by (try simp only [hl0_1]); (with_reducible repeat (first | apply Kd.R_alloc | apply Kd.R_drewN | apply Kd.R_drew)); exact HQ12.out⟩, ⟨by repeat (first | (with_reducible first | exact HK.out | apply Kept.alloc | apply Kept.drewN | apply Kept.drew | refine Kept.setCell ?_ HMgo8.out _ | refine Kept.setCell ?_ HMgo8.out _) | exact HK.out)⟩, ⟨by repeat (first | (with_reducible first | exact HB.out | apply below_alloc | apply pw_below_drewN | apply below_drew1 | refine below_set ?_ GB8.out | refine below_set ?_ GB8.out) | exact HB.out)⟩⟩
              · rw [if_neg c7] at H
                exact absurd H (by simp)
            · rw [if_neg c6] at H
              exact absurd H (by simp)
          · rw [if_neg c5] at H
            exact absurd H (by simp)
        · rw [if_neg c4] at H
          exact absurd H (by simp)
      · rw [if_neg c3] at H
        have c3b0 : decide (x2_1 < x3_1) = false := decide_eq_false c3
        clear c3
        obtain rfl := Option.some.inj H
        go_wp2
        first | go_end0 | ((try simp only [Exit.inBlock, Exit.then]); refine bodyPost_ret (results_none rfl _ _ _) rfl ?_)
        exact ⟨by first | rfl | (simp [errW_none, errW_some] <;> rfl) | (simp [*, errW_none, errW_some] <;> rfl), (by first | exact (by (with_reducible repeat (first | apply Kd.R_alloc | apply Kd.R_drewN | apply Kd.R_drew)); exact HO_0.out) | (simp only [hl0_1]; exact (by (with_reducible repeat (first | apply Kd.R_alloc | apply Kd.R_drewN | apply Kd.R_drew)); exact HO_0.out))), by repeat (first | (with_reducible first | exact HB.out | apply below_alloc | apply pw_below_drewN | apply below_drew1) | exact HB.out), by repeat (first | (with_reducible first | exact HK.out | apply Kept.alloc | apply Kept.drewN | apply Kept.drew) | exact HK.out)⟩
end Go.Proofs.Ytmpdilifoblnaaa.MReachOver
end
section
namespace Go.Proofs.Ytmpdilifoblnaaa.MReachOver
open Go.RowKit Go.Proofs.YtmpdilifoblnaaaW.PrintWords Go.Proofs.YtmpdilifoblnaaaW.PrintLast Go.Proofs.YtmpdilifoblnaaaW.PrintMore Go.Proofs.Ytmpdilifoblnaaa.Fun Go.Proofs.Ytmpdilifoblnaaa.Mem
attribute [local go_sem] max2_int min2_int max_two min_two max_three min_three max_four min_four
set_option linter.unusedVariables false
set_option linter.unusedSimpArgs false
def wayBack (f : Int → Int) : Nat → Int → List Int → Option (List Int)
  | 0, _, _ => none
  | k + 1, m, acc => if m ≥ 0 then (if acc.length < 1000000 then wayBack f k (f m) (acc ++ [m]) else none) else some acc
def wayG (l : List (List Int)) (K : Nat) (n : Int) : Option (List Int) :=
  (walkL l (wayTell n) K (walkPut (l.getD n.toNat []) (-1) (List.replicate l.length false, [])).1 (walkPut (l.getD n.toNat []) (-1) (List.replicate l.length false, [])).2 ⟨fun _ => 0, 0, false⟩).bind fun st =>
    if st.found = true then (wayBack st.f K (st.f n) [n]).bind fun acc => if acc.length ≤ 1000000 then slices_Reverse_int_int.f (acc.length + 5) (acc ++ [n]) else none else some []
def reach_Way.f (a0 a1 : Int) (l2 : List Int) (l3 : List S51) (n : Int) : Option (List Int) :=
  if thereB a0 a1 l2 l3 [n] = true then (empty_Nothing.f a0 a1 l2 l3).bind fun p => if p.1.length = l2.length then wayG (begG p.1 l2 l3) (l2.length + 2) n else none else some []
set_option maxRecDepth 100000 in
theorem WayJ.look {gb gf : Nat} {W : World} {st : WaySt} (h : WayJ gb gf W st) (m : Int) (hm : (Lit.int IntKind.i64 m).wf = true) :
    (Instr.lookup 71 (.map (some gb)) (.int .i64 m) false).run Try.prog W = .ok (.int .i64 (st.f m)) W ∧ (Lit.int IntKind.i64 (st.f m)).wf = true := by
  obtain ⟨D, hown, hat, _⟩ := h.out
  obtain ⟨c, hrun, hat', hwc⟩ := hown.lookup_int (t := 71) reach_law_int Try.underlying71 Try.underlying3 (by kernel_rfl) (Maps.keyOf_int_mk (P := Try.prog) (k := 3) Try.underlying3 hm)
  rw [hat] at hat'
  have e : st.f m = c := by injection hat' with e; injection e
  rw [e]
  exact ⟨hrun, hwc⟩
theorem row_one {w : World} {g : Nat} (a : Int) (h : w.heap[g]? = some (.cells #[.int .i64 a] 3 (0, 0))) : Kd.C (Kd.int .i64) w (some ⟨g, 0, none⟩) 1 [a] := by
  refine ⟨rfl, by decide, fun _ => ⟨_, rfl, fun j x hj => ⟨[.int .i64 x], rfl, rfl, fun k u hk => ?_⟩⟩⟩
  obtain ⟨rfl, rfl⟩ : k = 0 ∧ u = .int .i64 x := by
    cases k with
    | zero => exact ⟨rfl, by simpa using hk.symm⟩
    | succ k => simp at hk
  match j, hj with
  | 0, hj => obtain rfl := (show a = x by simpa using hj); exact (blk_cell h 0).trans rfl
  | j + 1, hj => simp at hj
set_option maxHeartbeats 8000000 in
set_option maxRecDepth 100000 in
theorem reach_Way.calls (toks look : Int) (A2 : Option Addr) (c2 : Nat) (o : List Int) (A3 : Option Addr) (c3 : Nat) (L : List S51) (n : Int) (r : List Int) (w : World)
    (r2 : Kd.C (Kd.int .i64) w A2 o.length o) (l2 : o.length ≤ c2) (r3 : Kd.C k51 w A3 L.length L) (l3 : L.length ≤ c3) (h : reach_Way.f toks look o L n = some r) :
    Calls Try.prog 24 #[.agg #[.int .i64 toks, .int .i64 look, .slice A2 o.length c2, .slice A3 L.length c3], .int .i64 n] w fun e w' => ∃ v0_ : Value, e = .returned v0_ ∧ Kd.R (Kd.int .i64) 3 w' w.heap.size (fun _ => True) v0_ r ∧ Below w.heap.size w w' := by
  obtain ⟨W1, hW1⟩ : ∃ W1, W1 = ((w.alloc (.cells #[.int .i64 toks, .int .i64 look, .slice A2 o.length c2, .slice A3 L.length c3] 25)).alloc (.cells #[.int .i64 n] 3)).alloc (.cells #[.int .i64 n] 3) := ⟨_, rfl⟩
  have hb1 : Below w.heap.size w W1 := by rw [hW1]; exact below_alloc (below_alloc (below_alloc (Below.refl _ _) _) _) _
  have hbx : W1.heap[w.heap.size]? = some (.cells #[.int .i64 toks, .int .i64 look, .slice A2 o.length c2, .slice A3 L.length c3] 25 (0, 0)) := by rw [hW1]; exact hp_old (hp_old (hp_new rfl))
  have hbn : W1.heap[w.heap.size + 1]? = some (.cells #[.int .i64 n] 3 (0, 0)) := by rw [hW1]; exact hp_old (hp_new (by simp))
  have hby : W1.heap[w.heap.size + 1 + 1]? = some (.cells #[.int .i64 n] 3 (0, 0)) := by rw [hW1]; exact hp_new (by simp)
  have HT := Aside0.mk (reach_there_calls toks look A2 c2 o A3 c3 L (some ⟨w.heap.size + 1 + 1, 0, none⟩) 1 [n] W1 (Kd.C_below r2 hb1) l2 (Kd.C_below r3 hb1) l3 (row_one n hby) (Nat.le_refl _))
  have HR2 := Aside0.mk r2
  have HR3 := Aside0.mk r3
  have HB1 := Aside0.mk hb1
  have x0 : W1.cell? ⟨w.heap.size, 0, none⟩ = some (.int .i64 toks) := (blk_cell hbx 0).trans rfl
  have x1 : W1.cell? ⟨w.heap.size, 1, none⟩ = some (.int .i64 look) := (blk_cell hbx 1).trans rfl
  have x2 : W1.cell? ⟨w.heap.size, 2, none⟩ = some (.slice A2 o.length c2) := (blk_cell hbx 2).trans rfl
  have x3 : W1.cell? ⟨w.heap.size, 3, none⟩ = some (.slice A3 L.length c3) := (blk_cell hbx 3).trans rfl
  have xn : W1.cell? ⟨w.heap.size + 1, 0, none⟩ = some (.int .i64 n) := (blk_cell hbn 0).trans rfl
  have HH := Aside0.mk (show ∀ q, thereB toks look o L [n] = q → (if q = true then (empty_Nothing.f toks look o L).bind fun p => if p.1.length = o.length then wayG (begG p.1 o L) (o.length + 2) n else none else some []) = some r from fun q hq => by rw [← hq]; exact h)
  have HIN := Aside0.mk (show thereB toks look o L [n] = true → _ from fun e => there_in e)
  clear r2 r3 hb1 hbx hby hbn h
  generalize thereB toks look o L [n] = q at HT HH HIN
  have HH2 := Aside0.mk (HH.out q rfl)
  clear HH
  go_enter Try.func24, Try.ntmps24
  go_wp2_with fail
  rw [← hW1]
  clear hW1
  refine HT.out.mono ?_
  rintro e w1 ⟨rfl, hb2⟩
  have HB2 := Aside0.mk (below_step HB1.out hb2)
  have y0 := pw_cell_below hb2 x0
  have y1 := pw_cell_below hb2 x1
  have y2 := pw_cell_below hb2 x2
  have y3 := pw_cell_below hb2 x3
  have yn := pw_cell_below hb2 xn
  clear x0 x1 x2 x3 xn hb2 HT
  cases q with
  | false =>
    have hh := HH2.out
    rw [if_neg (by decide)] at hh
    injection hh with hh
    subst hh
    go_wp2_with fail
    go_ret
    exact ⟨_, rfl, Kd.R_nil _ _ _ _ _, HB2.out⟩
  | true =>
    have hh := HH2.out
    rw [if_pos rfl] at hh
    obtain ⟨⟨mk, q2⟩, hN, h2⟩ := Option.bind_eq_some_iff.1 hh
    simp only at h2
    by_cases hml : mk.length = o.length
    · rw [if_pos hml] at h2
      obtain ⟨hmay, hin⟩ := HIN.out rfl
      have hn := hin n List.mem_cons_self
      have HBG := Aside0.mk (reach_begins_calls toks look A2 c2 o A3 c3 L mk q2 w1 (Kd.C_below HR2.out HB2.out) l2 (Kd.C_below HR3.out HB2.out) l3 hmay hN hml)
      have hO2 : o.length ≤ 500 := (bnf_may_ok hmay).2.1
      have HII := Aside0.mk (begG_ok hmay mk)
      have H2 := Aside0.mk h2
      have hn0 := hn.1
      have hn1 := hn.2
      clear hh HH2 h2 hN hml hmay hin hn HIN
      go_wp2_with fail
      refine HBG.out.mono ?_
      rintro e w2 ⟨g, rfl, hS, hb3⟩
      have hS : Steps w2 (fun k => w1.heap.size ≤ k) g (begG mk o L) := hS
      have HB3 := Aside0.mk (below_step HB2.out hb3)
      have yn2 := pw_cell_below hb3 yn
      have hll := HII.out.2
      have hkl : n.toNat < (begG mk o L).length := by omega
      have e : (begG mk o L).getD n.toNat [] = (begG mk o L)[n.toNat] := by rw [List.getD_eq_getElem?_getD, List.getElem?_eq_getElem hkl]; rfl
      have hin := HII.out.1 n.toNat
      have h2 := H2.out
      unfold wayG at h2
      rw [e] at hin h2
      obtain ⟨st, hst, h3⟩ := Option.bind_eq_some_iff.1 h2
      obtain ⟨Ar, cr, hcr, -, -, hQr, -⟩ := hS.row n.toNat hkl
      obtain ⟨W3, hW3⟩ : ∃ W3, W3 = ((w2.alloc (.map #[] 0)).alloc (.cells #[.map (some w2.heap.size)] 71)).alloc (.cells #[.bool false] 4) := ⟨_, rfl⟩
      have hb4 : Below w2.heap.size w2 W3 := by rw [hW3]; exact below_alloc (below_alloc (below_alloc (Below.refl _ _) _) _) _
      have hm3 : W3.heap[w2.heap.size + 1]? = some (.cells #[.map (some w2.heap.size)] 71 (0, 0)) := by rw [hW3]; exact hp_old (hp_new (by simp))
      have hf3 : W3.heap[w2.heap.size + 1 + 1]? = some (.cells #[.bool false] 4 (0, 0)) := by rw [hW3]; exact hp_new (by simp)
      have hj3 : WayJ w2.heap.size (w2.heap.size + 1 + 1) W3 ⟨fun _ => 0, 0, false⟩ := ⟨.map [], by
        rw [hW3]; exact ((World.ownsMap_made w2 _ _ _).alloc _).alloc _, fun i => rfl, hf3⟩
      have hnl : w.heap.size + 1 < w2.heap.size := World.block_lt_of_cell? w2 _ yn2
      have HC0 := reach_walk_calls (oks := fun k => w1.heap.size ≤ k ∧ k < w2.heap.size) (X := fun k => k = w2.heap.size ∨ k = w2.heap.size + 1 + 1) (J := WayJ w2.heap.size (w2.heap.size + 1 + 1)) (tell := wayTell n) (lb := #[.pointer (some ⟨w2.heap.size + 1, 0, none⟩), .pointer (some ⟨w.heap.size + 1, 0, none⟩), .pointer (some ⟨w2.heap.size + 1 + 1, 0, none⟩)]) g o.length (begG mk o L) Ar cr (begG mk o L)[n.toNat] W3 ⟨fun _ => 0, 0, false⟩ st
        (reach_way1 n (w2.heap.size + 1) w2.heap.size (w.heap.size + 1) (w2.heap.size + 1 + 1) W3 (begG mk o L).length (by omega) ((blk_cell hm3 0).trans rfl) (pw_cell_below hb4 yn2) (by omega) (by omega) (by omega) (by omega) (by omega) (by have := blk_lt hf3; omega) (blk_lt hf3)) (fun args w => enters_ Try.func52 (by kernel_rfl) rfl args w)
        ((hS.wider fun k hk ho => ⟨ho, hk⟩).below hb4) (fun k hk e => by have := hk.2; omega) (hQr.below hb4) (fun k hk e => by have := hQr.lt k hk; omega) (by omega) (by rw [hll]; exact HII.out.1) (by rw [hll]; exact hin) hj3 (o.length + 2) (by show 0 + _ ≤ _; omega) hst
      rw [hll] at HC0
      have HC := Aside0.mk HC0
      have HB4 := Aside0.mk (below_step HB3.out hb4)
      have HW3 := Aside0.mk hW3
      have H3 := Aside0.mk h3
      have HYN := Aside0.mk (pw_cell_below hb4 yn2)
      clear HC0 h2 H2 hin e hS hQr hb3 HBG y0 y1 y2 y3 yn hst hb4 hm3 hf3 hj3 hW3 h3
      generalize (begG mk o L)[n.toNat] = row at hcr HC
      clear hkl hll HII
      have hmm := @run_makeMap Try.prog
      obtain ⟨gn, hgn⟩ : ∃ gn, gn = w.heap.size + 1 := ⟨_, rfl⟩
      rw [← hgn] at HC HYN yn2 hnl
      rw [← hgn]
      clear hgn
      have hnl1 : gn < w2.heap.size + 1 := by omega
      have hnl2 : gn < w2.heap.size + 1 + 1 := by omega
      have hgl := World.block_lt_of_cell? w2 _ hcr
      have hgl1 : g < w2.heap.size + 1 := by have : g < w2.heap.size := hgl; omega
      have hgl2 : g < w2.heap.size + 1 + 1 := by omega
      go_wp2_with fail
      rw [← HW3.out]
      refine HC.out.mono ?_
      rintro e w4 ⟨rfl, hJ, hK⟩
      have hzz : ∀ W, (zeroValue 3).run Try.prog W = .ok (.int .i64 0) W := fun W => by kernel_rfl
      have hn4 : w4.cell? ⟨gn, 0, none⟩ = some (.int .i64 n) := (World.cell?_of_block (w := W3) (a := ⟨gn, 0, none⟩) (hK.block gn (World.block_lt_of_cell? W3 _ HYN.out) (show ¬ (gn = w2.heap.size ∨ gn = w2.heap.size + 1 + 1) by omega))).trans HYN.out
      have hm4 : w4.cell? ⟨w2.heap.size + 1, 0, none⟩ = some (.map (some w2.heap.size)) := (World.cell?_of_block (w := W3) (a := ⟨w2.heap.size + 1, 0, none⟩) (hK.block _ (by rw [HW3.out]; simp) (show ¬ (w2.heap.size + 1 = w2.heap.size ∨ w2.heap.size + 1 = w2.heap.size + 1 + 1) by omega))).trans (by rw [HW3.out]; exact (blk_cell (hp_old (hp_new (by simp))) 0).trans rfl)
      have HB5 := Aside0.mk (HB4.out.trans (hK.to_below (B := w.heap.size) HB4.out.size (by
        have := HB3.out.size
        rintro k hk (h | h) <;> omega)))
      have HJ := Aside0.mk hJ
      have hf4 : w4.cell? ⟨w2.heap.size + 1 + 1, 0, none⟩ = some (.bool st.found) := by
        obtain ⟨D, _, _, h⟩ := hJ.out
        exact (blk_cell h 0).trans rfl
      have hg4 : w2.heap.size + 1 + 1 < w4.heap.size := World.block_lt_of_cell? w4 _ hf4
      have h3 := H3.out
      clear H3 HC HYN HW3 hK hJ yn2 hcr hnl1 hnl2 hgl hgl1 hgl2 hmm hnl
      generalize w2.heap.size = gb at hm4 hf4 HJ hg4
      by_cases hfd : st.found = true
      · rw [if_pos hfd] at h3
        obtain ⟨acc, hwb, h4⟩ := Option.bind_eq_some_iff.1 h3
        rw [hfd] at hf4
        have HWB := Aside0.mk hwb
        have H4 := Aside0.mk h4
        clear h3 hwb h4 hfd
        obtain ⟨W5, hW5⟩ : ∃ W5, W5 = w4.alloc (.cells #[.int .i64 n] 3) := ⟨_, rfl⟩
        have hb5 : Below w4.heap.size w4 W5 := by rw [hW5]; exact below_alloc (Below.refl _ _) _
        have HJ5 := Aside0.mk (HJ.out.move (W1 := W5) (hb5.block _ (by omega)) (hb5.block _ (by omega)))
        have HRow := Aside0.mk (show Kd.R (Kd.int .i64) 3 W5 w4.heap.size (fun _ => True) (.slice (some ⟨w4.heap.size, 0, none⟩) 1 1) [n] by
          rw [hW5]
          exact Kd.R_of_own (World.ownsRow_lit (base := w4.heap.size) (e := 3) (size := 1) w4 #[.int .i64 n] 1 (Nat.le_refl _) (by decide) rfl) (fun _ _ => trivial))
        obtain ⟨hlk, hwf⟩ := HJ5.out.look n (WalkArith.wf_i64 ⟨by omega, by omega⟩)
        have HWF := Aside0.mk hwf
        have hb5' := Aside0.mk hb5
        rw [hW5] at hlk
        have hgl4 := World.block_lt_of_cell? w4 _ hn4
        have hgm4 := World.block_lt_of_cell? w4 _ hm4
        clear hwf hb5
        go_wp2_with fail
        rw [← hW5]
        have HW5 := Aside0.mk hW5
        clear hW5 hlk
        go_loopg [8, 9] (o.length + 2) (fun kq v8 v9 wr => ∃ (m : Int) (acc2 : List Int), v9 = .int .i64 m ∧ Aside0 (wayBack st.f kq m acc2 = some acc) ∧ Aside0 ((Lit.int IntKind.i64 m).wf = true) ∧ Aside0 (Kd.R (Kd.int .i64) 3 wr w4.heap.size (fun _ => True) v8 acc2) ∧ Aside0 (Below w4.heap.size w4 wr))
        case atStart => exact ⟨_, _, rfl, HWB, HWF, HRow, hb5'⟩
        case round =>
          clear HWB HWF HRow hb5'
          obtain ⟨m, acc2, rfl, HWB, HWF, HR, HB⟩ := hrel
          cases gk with
          | zero => exact absurd HWB.out (by simp [wayBack])
          | succ k1 =>
            have hwb := HWB.out
            rw [wayBack] at hwb
            have cn := pw_cell_below HB.out hn4
            have cm := pw_cell_below HB.out hm4
            by_cases hm0 : m ≥ 0
            · rw [if_pos hm0] at hwb
              by_cases hac : acc2.length < 1000000
              · rw [if_pos hac] at hwb
                have HWB2 := Aside0.mk hwb
                have d0 : decide (m ≥ 0) = true := decide_eq_true hm0
                have d1 : decide (0 ≤ m) = true := decide_eq_true hm0
                clear hwb HWB
                go_wp2_with (first | ((with_reducible refine gate_builtin (b := .append) (xs := #[.tmp 37, .tmp 39]) rfl ?_); (try (refine gate_guard (by rfl) ?_; dsimp only)); at_builtin; refine Kd.R_append (Kd.int .i64) (w0 := w4) w4.heap.size rfl (.tmp 37) (.tmp 39) 22 3 (.int .i64 0) 8 rfl Try.underlying22 reach_infoI rfl (by decide) (by omega) u8 acc2 m [.int .i64 m] (fun _ => True) (fun _ => False) rfl rfl ?aP (fun _ hk => hk.elim) ?aF ?aO ?aB ?aS ?aL ?_; (case aP => exact rfl); (case aB => exact HB.out); (case aF => exact (fun _ _ => trivial)); (case aO => exact HR.out); (case aS => exact HB.out.size); (case aL => omega); intro v9 w9 ho hb _ _; have HR9 := Aside0.mk ho; have HB9 := Aside0.mk hb; have cm9 := pw_cell_below hb hm4; obtain ⟨hlk, hwf⟩ := (HJ.out.move (W1 := w9) (hb.block _ (by omega)) (hb.block _ (by omega))).look m HWF.out; have HWF9 := Aside0.mk hwf; clear ho hb hwf))
                go_roundg k1
                case measure => omega
                case rel => exact ⟨_, _, rfl, HWB2, HWF9, HR9, HB9⟩
              · rw [if_neg hac] at hwb
                exact absurd hwb (by simp)
            · rw [if_neg hm0] at hwb
              injection hwb with hwb
              subst hwb
              have d0 : decide (m ≥ 0) = false := decide_eq_false hm0
              have d1 : decide (0 ≤ m) = false := decide_eq_false hm0
              have h4 := H4.out
              by_cases hac : acc2.length ≤ 1000000
              · rw [if_pos hac] at h4
                replace H4 := Aside0.mk h4
                clear h4
                go_wp2_with (first | ((with_reducible refine gate_builtin (b := .append) (xs := #[.tmp 41, .tmp 43]) rfl ?_); (try (refine gate_guard (by rfl) ?_; dsimp only)); at_builtin; refine Kd.R_append (Kd.int .i64) (w0 := w4) w4.heap.size rfl (.tmp 41) (.tmp 43) 22 3 (.int .i64 0) 8 rfl Try.underlying22 reach_infoI rfl (by decide) (by omega) u8 acc2 n [.int .i64 n] (fun _ => True) (fun _ => False) rfl rfl ?aP (fun _ hk => hk.elim) ?aF ?aO ?aB ?aS ?aL ?_; (case aP => exact rfl); (case aB => exact HB.out); (case aF => exact (fun _ _ => trivial)); (case aO => exact HR.out); (case aS => exact HB.out.size); (case aL => omega); intro v9 w9 ho hb _ _; have HR9 := Aside0.mk ho; have HB9 := Aside0.mk hb; clear ho hb))
                refine (slices_Reverse_int_int.calls (acc2.length + 5) (fun _ => True) v9 (acc2 ++ [n]) r w4 w9 HB9.out HR9.out H4.out).mono ?_
                rintro e w10 ⟨rfl, hr10, hb10, _⟩
                have HR10 := Aside0.mk hr10
                have HB10 := Aside0.mk hb10
                clear hr10 hb10
                go_wp2_with fail
                go_ret
                exact ⟨_, rfl, Kd.R_mono (Kd.R_lower HR10.out HB5.out.size) (fun _ _ => trivial), below_step HB5.out HB10.out⟩
              · rw [if_neg hac] at h4
                exact absurd h4 (by simp)
      · have hfd2 : st.found = false := by simpa using hfd
        rw [if_neg hfd] at h3
        injection h3 with h3
        subst h3
        rw [hfd2] at hf4
        clear hfd hfd2
        go_wp2_with fail
        go_ret
        exact ⟨_, rfl, Kd.R_nil _ _ _ _ _, HB5.out⟩
    · rw [if_neg hml] at h2
      exact absurd h2 (by simp)
def gramaryebase_SameInts.l0 : Nat → List Int → List Int → Int → Option (Bool)
  | 0, _, _, _ => none
  | k + 1, x0, x1, x5 => if x5 < (x0.length : Int) then (if 0 ≤ x5 then (if x5 < (x1.length : Int) then (if (rd x0 x5) = (rd x1 x5) then (gramaryebase_SameInts.l0 k x0 x1 (wrap64 (x5 + 1))) else (some false)) else (none)) else (none)) else (some true)
def gramaryebase_SameInts.f (k : Nat) (l0 : List Int) (l1 : List Int) : Option (Bool) := if (l0.length : Int) = (l1.length : Int) then (gramaryebase_SameInts.l0 k l0 l1 0) else (some false)
theorem gramaryebase_SameInts.mono_l : ∀ k, (∀ y0 y1 y2, LeO (gramaryebase_SameInts.l0 k y0 y1 y2) (gramaryebase_SameInts.l0 (k + 1) y0 y1 y2))
  | 0 => fun _ _ _ r h => by simp [gramaryebase_SameInts.l0] at h
  | k + 1 => by
    have ih0 := gramaryebase_SameInts.mono_l k
    · intro y0 y1 y2
      unfold gramaryebase_SameInts.l0
      repeat' first
      | (with_reducible exact ih0 _ _ _)
      | (with_reducible exact LeO.refl _)
      | (with_reducible exact LeO.none _)
      | (with_reducible refine LeO.ite ?_ ?_)
      | (with_reducible refine LeO.bind ?_ (fun _ => ?_))
      | exact ih0 _ _ _
      | exact LeO.none _
      | refine LeO.ite ?_ ?_
      | refine LeO.bind ?_ (fun _ => ?_)
theorem gramaryebase_SameInts.mono : ∀ a0 a1 k, LeO (gramaryebase_SameInts.f k a0 a1) (gramaryebase_SameInts.f (k + 1) a0 a1) := by
  intro a0 a1 k
  have ih0 := gramaryebase_SameInts.mono_l k
  unfold gramaryebase_SameInts.f
  repeat' first
      | (with_reducible exact ih0 _ _ _)
      | (with_reducible exact LeO.refl _)
      | (with_reducible exact LeO.none _)
      | (with_reducible refine LeO.ite ?_ ?_)
      | (with_reducible refine LeO.bind ?_ (fun _ => ?_))
      | exact ih0 _ _ _
      | exact LeO.none _
      | refine LeO.ite ?_ ?_
      | refine LeO.bind ?_ (fun _ => ?_)
set_option maxHeartbeats 8000000 in
set_option maxRecDepth 100000 in
theorem gramaryebase_SameInts.calls (k : Nat) (A0 : Option Addr) (c0 : Nat) (l0 : List Int) (A1 : Option Addr) (c1 : Nat) (l1 : List Int) (r : Bool) (w : World) (hr0 : Kd.C (Kd.int .i64) w A0 l0.length l0) (hc0 : l0.length ≤ c0) (hr1 : Kd.C (Kd.int .i64) w A1 l1.length l1) (hc1 : l1.length ≤ c1) (h : gramaryebase_SameInts.f k l0 l1 = some r) :
    Calls Try.prog 14 #[.slice A0 l0.length c0, .slice A1 l1.length c1] w fun e w' => e = .returned (.bool r) ∧ Drawn0 w w' := by
  have HR0 := Aside0.mk hr0
  have HC0 := Aside0.mk hc0
  clear hr0 hc0
  have HR1 := Aside0.mk hr1
  have HC1 := Aside0.mk hc1
  clear hr1 hc1
  have H : (if (l0.length : Int) = (l1.length : Int) then (gramaryebase_SameInts.l0 k l0 l1 0) else (some false)) = some r := h
  clear h
  by_cases c3 : (l0.length : Int) = (l1.length : Int)
  · rw [if_pos c3] at H
    have c3b0 : ((l0.length : Int) == (l1.length : Int)) = true := beq_iff_eq.mpr c3
    have c3b1 : ((l0.length : Int) != (l1.length : Int)) = false := bne_eq_false_iff_eq.mpr c3
    have c3b2 : (l0.length == l1.length) = true := by first | simpa using c3 | (simp at c3 ⊢; omega)
    clear c3
    have H' := Aside0.mk H
    clear H
    go_enter Try.func14, Try.ntmps14
    go_wp2
    repeat (go_quiet (fail); try go_wp2)
    (try (with_reducible (show Code.wp _ _ _ (Act.put _ _ _) _); go_simp))
    go_loopg [5] k (fun kq v5 w' => ∃ (x5_1 : Int), v5 = .int .i64 x5_1 ∧ Aside0 (gramaryebase_SameInts.l0 kq l0 l1 x5_1 = some r) ∧ Aside0 (kq ≤ k) ∧ Drawn0 w w')
    case atStart => exact ⟨(0), (by first | rfl | (simp; done) | (simp [*]; done)), H', ⟨Nat.le_refl _⟩, by repeat (first | exact Drawn0.refl _ | apply Drawn0.step)⟩
    case round =>
      clear H'
      try clear c1
      try clear p2
      try clear c3
      try clear c3b0
      try clear c3b1
      try clear c3b2
      obtain ⟨x5_1, rfl, HA, HK1, ⟨m1, rfl⟩⟩ := hrel
      cases gk with
      | zero => exact absurd HA.out (by simp [gramaryebase_SameInts.l0])
      | succ k1 =>
        have H := HA.out
        clear HA
        simp only [gramaryebase_SameInts.l0] at H
        by_cases c4 : x5_1 < (l0.length : Int)
        · rw [if_pos c4] at H
          have c4b0 : decide (x5_1 < (l0.length : Int)) = true := decide_eq_true c4
          clear c4
          by_cases c5 : 0 ≤ x5_1
          · rw [if_pos c5] at H
            have c5b0 : decide (0 ≤ x5_1) = true := decide_eq_true c5
            clear c5
            by_cases c6 : x5_1 < (l1.length : Int)
            · rw [if_pos c6] at H
              have c6b0 : decide (x5_1 < (l1.length : Int)) = true := decide_eq_true c6
              clear c6
              by_cases c7 : (rd l0 x5_1) = (rd l1 x5_1)
              · rw [if_pos c7] at H
                have c7b0 : ((rd l0 x5_1) == (rd l1 x5_1)) = true := beq_iff_eq.mpr c7
                have c7b1 : ((rd l0 x5_1) != (rd l1 x5_1)) = false := bne_eq_false_iff_eq.mpr c7
                clear c7
                have H' := Aside0.mk H
                clear H
                have p149 : 0 ≤ (x5_1 : Int) := of_decide_eq_true (by first | (with_reducible assumption) | assumption)
                have q149 : x5_1 < (l0.length : Int) := of_decide_eq_true (by first | (with_reducible assumption) | assumption)
                obtain ⟨ad149, e149, hx149_0⟩ := Kd.at_int HR0.out x5_1 p149 q149
                cases e149
                replace p149 := eq_true p149
                replace q149 := eq_true q149
                have p150 : 0 ≤ (x5_1 : Int) := of_decide_eq_true (by first | (with_reducible assumption) | assumption)
                have q150 : x5_1 < (l1.length : Int) := of_decide_eq_true (by first | (with_reducible assumption) | assumption)
                obtain ⟨ad150, e150, hx150_0⟩ := Kd.at_int HR1.out x5_1 p150 q150
                cases e150
                replace p150 := eq_true p150
                replace q150 := eq_true q150
                go_wp2
                repeat (go_quiet (fail); try go_wp2)
                go_roundg k1
                case measure => have := HK1.out; omega
                case rel => exact ⟨(wrap64 (x5_1 + 1)), (by first | rfl | (simp; done) | (simp [*]; done)), H', ⟨by have := HK1.out; omega⟩, by repeat (first | exact Drawn0.refl _ | apply Drawn0.step)⟩
              · rw [if_neg c7] at H
                have c7b0 : ((rd l0 x5_1) == (rd l1 x5_1)) = false := beq_eq_false_iff_ne.mpr c7
                have c7b1 : ((rd l0 x5_1) != (rd l1 x5_1)) = true := bne_iff_ne.mpr c7
                obtain rfl := Option.some.inj H
                have p149 : 0 ≤ (x5_1 : Int) := of_decide_eq_true (by first | (with_reducible assumption) | assumption)
                have q149 : x5_1 < (l0.length : Int) := of_decide_eq_true (by first | (with_reducible assumption) | assumption)
                obtain ⟨ad149, e149, hx149_0⟩ := Kd.at_int HR0.out x5_1 p149 q149
                cases e149
                replace p149 := eq_true p149
                replace q149 := eq_true q149
                have p150 : 0 ≤ (x5_1 : Int) := of_decide_eq_true (by first | (with_reducible assumption) | assumption)
                have q150 : x5_1 < (l1.length : Int) := of_decide_eq_true (by first | (with_reducible assumption) | assumption)
                obtain ⟨ad150, e150, hx150_0⟩ := Kd.at_int HR1.out x5_1 p150 q150
                cases e150
                replace p150 := eq_true p150
                replace q150 := eq_true q150
                go_wp2
                repeat (go_quiet (fail); try go_wp2)
                go_ret
                exact ⟨by first | rfl | (simp; done) | (simp [*]; done), by repeat (first | exact Drawn0.refl _ | apply Drawn0.step)⟩
            · rw [if_neg c6] at H
              exact absurd H (by simp)
          · rw [if_neg c5] at H
            exact absurd H (by simp)
        · rw [if_neg c4] at H
          have c4b0 : decide (x5_1 < (l0.length : Int)) = false := decide_eq_false c4
          clear c4
          obtain rfl := Option.some.inj H
          go_wp2
          repeat (go_quiet (fail); try go_wp2)
          go_ret
          exact ⟨by first | rfl | (simp; done) | (simp [*]; done), by repeat (first | exact Drawn0.refl _ | apply Drawn0.step)⟩
  · rw [if_neg c3] at H
    have c3b0 : ((l0.length : Int) == (l1.length : Int)) = false := beq_eq_false_iff_ne.mpr c3
    have c3b1 : ((l0.length : Int) != (l1.length : Int)) = true := bne_iff_ne.mpr c3
    have c3b2 : (l0.length == l1.length) = false := by first | simpa using c3 | (simp at c3 ⊢; omega)
    obtain rfl := Option.some.inj H
    go_enter Try.func14, Try.ntmps14
    go_wp2
    repeat (go_quiet (fail); try go_wp2)
    go_ret
    exact ⟨by first | rfl | (simp; done) | (simp [*]; done), by repeat (first | exact Drawn0.refl _ | apply Drawn0.step)⟩
def toTell (m : Int) (_ : Bool) (n _ : Int) : Bool × Bool := (decide (n = m), !decide (n = m))
def toF (l : List (List Int)) (first : List Int) (m : Int) (K : Nat) : Option Bool := walkL l (toTell m) K (walkPut first (-1) (List.replicate l.length false, [])).1 (walkPut first (-1) (List.replicate l.length false, [])).2 false
set_option maxHeartbeats 2000000 in
theorem reach_to1 (m : Int) (gm gi : Nat) (w0 : World) (n : Nat) (hm : w0.cell? ⟨gm, 0, none⟩ = some (.int .i64 m)) (hne : gm ≠ gi) (hgi : gi < w0.heap.size) :
    Told 73 #[.pointer (some ⟨gm, 0, none⟩), .pointer (some ⟨gi, 0, none⟩)] w0 n (fun k => k = gi) (fun W st => W.heap[gi]? = some (.cells #[.bool st] 4 (0, 0))) (toTell m) (fun _ => 0) := by
  refine ⟨fun _ _ _ => Nat.zero_le _, fun k hk => by rw [hk]; exact hgi, fun W W1 st h hk => (hk gi rfl).trans h, fun W st a b hK hJ _ a0 a1 b0 b1 => ?_⟩
  show Calls Try.prog 73 #[.int .i64 a, .int .i64 b, .pointer (some ⟨gm, 0, none⟩), .pointer (some ⟨gi, 0, none⟩)] W fun e W' => e = .returned (.bool (!decide (a = m))) ∧ W'.heap[gi]? = some (.cells #[.bool (decide (a = m))] 4 (0, 0)) ∧ Keeps (fun k => k = gi) W W'
  have hml := World.block_lt_of_cell? w0 _ hm
  have hmc : W.cell? ⟨gm, 0, none⟩ = some (.int .i64 m) := (World.cell?_of_block (w := w0) (a := ⟨gm, 0, none⟩) (hK.block gm hml hne)).trans hm
  have hic : W.cell? ⟨gi, 0, none⟩ = some (.bool st) := (blk_cell hJ 0).trans rfl
  have hif := blk_frozen hJ 0
  have HJ := Aside0.mk hJ
  clear hJ hK hm hml
  by_cases e : a = m
  · have e1 : decide (a = m) = true := decide_eq_true e
    rw [e1]
    subst e
    clear e1
    go_enter Try.func73, Try.ntmps73
    go_wp2_with fail
    go_ret
    exact ⟨rfl, blk_put (cs := #[.bool st]) HJ.out 0 _ rfl, (Keeps.refl _ _).set _ _ _ rfl⟩
  · have e1 : decide (a = m) = false := decide_eq_false e
    rw [e1]
    have e2 : (a == m) = false := by simpa using e
    go_enter Try.func73, Try.ntmps73
    go_wp2_with fail
    go_ret
    exact ⟨rfl, blk_put (cs := #[.bool st]) HJ.out 0 _ rfl, (Keeps.refl _ _).set _ _ _ rfl⟩
set_option maxHeartbeats 2000000 in
theorem reach_to_calls {oks : Nat → Prop} (g c : Nat) (l : List (List Int)) (Af : Option Addr) (cf : Nat) (first : List Int) (m : Int) (w : World) (hS : Steps w oks g l) (hf : QInts w 0 3 (.slice Af first.length cf) first)
    (hl : l.length ≤ 1000000) (hr : ∀ i, ∀ x ∈ l.getD i [], 0 ≤ x ∧ x < (l.length : Int)) (hfr : ∀ x ∈ first, 0 ≤ x ∧ x < (l.length : Int)) (K : Nat) (hK : K ≤ 1000000000) (r : Bool) (h : toF l first m K = some r) :
    Calls Try.prog 58 #[.slice (some ⟨g, 0, none⟩) l.length c, .slice Af first.length cf, .int .i64 m] w fun e w' => e = .returned (.bool r) ∧ Below w.heap.size w w' := by
  obtain ⟨W1, hW1⟩ : ∃ W1, W1 = (w.alloc (.cells #[.int .i64 m] 3)).alloc (.cells #[.bool false] 4) := ⟨_, rfl⟩
  have hb : Below w.heap.size w W1 := by rw [hW1]; exact below_alloc (below_alloc (Below.refl _ _) _) _
  have h0 : W1.heap[w.heap.size]? = some (.cells #[.int .i64 m] 3 (0, 0)) := by rw [hW1]; exact hp_old (hp_new rfl)
  have h1 : W1.heap[w.heap.size + 1]? = some (.cells #[.bool false] 4 (0, 0)) := by rw [hW1]; exact hp_new (by simp)
  have HC := Aside0.mk (reach_walk_calls (oks := fun k => oks k ∧ k < w.heap.size) (X := fun k => k = w.heap.size + 1) (lb := #[.pointer (some ⟨w.heap.size, 0, none⟩), .pointer (some ⟨w.heap.size + 1, 0, none⟩)]) g c l Af cf first W1 false r
    (reach_to1 m w.heap.size (w.heap.size + 1) W1 l.length ((blk_cell h0 0).trans rfl) (by omega) (blk_lt h1)) (fun args w => enters_ Try.func73 (by kernel_rfl) rfl args w)
    ((hS.wider fun k hk ho => ⟨ho, hk⟩).below hb) (fun k hk e => by have := hk.2; omega) (hf.below hb) (fun k hk e => by have := hf.lt k hk; omega) hl hr hfr h1 K (by omega) h)
  have HB := Aside0.mk hb
  have HW1 := Aside0.mk hW1
  clear hS hf hr hfr h hb h0 h1 hW1
  go_enter Try.func58, Try.ntmps58
  go_wp2_with fail
  rw [← HW1.out]
  refine HC.out.mono ?_
  rintro e w2 ⟨rfl, hJ, hK⟩
  have hb2 : Below w.heap.size w w2 := HB.out.trans (hK.to_below HB.out.size fun k hk e => by omega)
  have hc2 : w2.cell? ⟨w.heap.size + 1, 0, none⟩ = some (.bool r) := (blk_cell hJ 0).trans rfl
  have HB2 := Aside0.mk hb2
  clear hJ hK HC hb2
  go_wp2_with fail
  go_ret
  exact ⟨rfl, HB2.out⟩
def leftG (l : List (List Int)) (K : Nat) : Nat → Nat → List Int → Option (List Int)
  | 0, _, acc => some acc
  | d + 1, i, acc => (toF l (l.getD i []) (i : Int) K).bind fun r => leftG l K d (i + 1) (if r = true then acc ++ [(i : Int)] else acc)
def reach_Left.f (a0 a1 : Int) (l2 : List Int) (l3 : List S51) : Option (List Int × Int) :=
  if bnf_mayB a0 a1 l2 l3 = 0 then (empty_Nothing.f a0 a1 l2 l3).bind fun p => if p.1.length = l2.length then (leftG (begG p.1 l2 l3) (l2.length + 2) l2.length 0 []).map fun r => (r, 0) else none else some ([], bnf_mayB a0 a1 l2 l3)
set_option maxHeartbeats 4000000 in
set_option maxRecDepth 100000 in
theorem reach_Left.calls (toks look : Int) (A2 : Option Addr) (c2 : Nat) (o : List Int) (A3 : Option Addr) (c3 : Nat) (L : List S51) (r1 : List Int) (r2i : Int) (w : World)
    (r2 : Kd.C (Kd.int .i64) w A2 o.length o) (l2 : o.length ≤ c2) (r3 : Kd.C k51 w A3 L.length L) (l3 : L.length ≤ c3) (h : reach_Left.f toks look o L = some (r1, r2i)) :
    Calls Try.prog 29 #[.agg #[.int .i64 toks, .int .i64 look, .slice A2 o.length c2, .slice A3 L.length c3]] w fun e w' => ∃ v0_ : Value, e = .returned (.tuple #[v0_, .int .i64 r2i]) ∧ Kd.R (Kd.int .i64) 3 w' w.heap.size (fun _ => True) v0_ r1 ∧ Below w.heap.size w w' := by
  obtain ⟨W1, hW1⟩ : ∃ W1, W1 = w.alloc (.cells #[.int .i64 toks, .int .i64 look, .slice A2 o.length c2, .slice A3 L.length c3] 25) := ⟨_, rfl⟩
  have hb1 : Below w.heap.size w W1 := by rw [hW1]; exact below_alloc (Below.refl _ _) _
  have hbx : W1.heap[w.heap.size]? = some (.cells #[.int .i64 toks, .int .i64 look, .slice A2 o.length c2, .slice A3 L.length c3] 25 (0, 0)) := by rw [hW1]; exact hp_new rfl
  have HM := Aside0.mk (bnf_may_calls toks look A2 c2 o A3 c3 L W1 (Kd.C_below r2 hb1) l2 (Kd.C_below r3 hb1) l3)
  have HR2 := Aside0.mk r2
  have HR3 := Aside0.mk r3
  have HB1 := Aside0.mk hb1
  have HBX := Aside0.mk hbx
  have x0 : W1.cell? ⟨w.heap.size, 0, none⟩ = some (.int .i64 toks) := (blk_cell hbx 0).trans rfl
  have x1 : W1.cell? ⟨w.heap.size, 1, none⟩ = some (.int .i64 look) := (blk_cell hbx 1).trans rfl
  have x2 : W1.cell? ⟨w.heap.size, 2, none⟩ = some (.slice A2 o.length c2) := (blk_cell hbx 2).trans rfl
  have x3 : W1.cell? ⟨w.heap.size, 3, none⟩ = some (.slice A3 L.length c3) := (blk_cell hbx 3).trans rfl
  have HF := Aside0.mk (show ∀ q : Int, bnf_mayB toks look o L = q → (q = 0 ∧ r2i = 0 ∧ ∃ m q2, empty_Nothing.f toks look o L = some (m, q2) ∧ m.length = o.length ∧ leftG (begG m o L) (o.length + 2) o.length 0 [] = some r1) ∨ (q ≠ 0 ∧ r1 = [] ∧ r2i = q) from by
    intro q hq
    unfold reach_Left.f at h
    rw [hq] at h
    by_cases e : q = 0
    · rw [if_pos e] at h
      obtain ⟨⟨m, q2⟩, h1, h2⟩ := Option.bind_eq_some_iff.1 h
      simp only at h2
      by_cases e2 : m.length = o.length
      · rw [if_pos e2] at h2
        obtain ⟨r, h3, h4⟩ := Option.map_eq_some_iff.1 h2
        simp only [Prod.mk.injEq] at h4
        exact .inl ⟨e, h4.2.symm, m, q2, h1, e2, by rw [h3, h4.1]⟩
      · rw [if_neg e2] at h2; exact absurd h2 (by simp)
    · rw [if_neg e] at h
      simp only [Option.some.injEq, Prod.mk.injEq] at h
      exact .inr ⟨e, h.1.symm, h.2.symm⟩)
  have HMAY := Aside0.mk (fun e : bnf_mayB toks look o L = 0 => e)
  clear r2 r3 hb1 hbx h
  generalize hq : bnf_mayB toks look o L = q at HM HMAY
  have HQ := Aside0.mk (HF.out q hq)
  have HQ0 := Aside0.mk hq
  clear HF hq HMAY
  go_enter Try.func29, Try.ntmps29
  go_wp2_with fail
  rw [← hW1]
  clear hW1
  refine HM.out.mono ?_
  rintro e w1 ⟨rfl, hb2⟩
  have HB2 := Aside0.mk (below_step HB1.out hb2)
  have y0 := pw_cell_below hb2 x0
  have y1 := pw_cell_below hb2 x1
  have y2 := pw_cell_below hb2 x2
  have y3 := pw_cell_below hb2 x3
  clear x0 x1 x2 x3 hb2 HBX HM
  rcases HQ.out with ⟨rfl, rfl, m, q2, hN, hml, hG⟩ | ⟨hq0, rfl, rfl⟩
  · have HBG := Aside0.mk (reach_begins_calls toks look A2 c2 o A3 c3 L m q2 w1 (Kd.C_below HR2.out HB2.out) l2 (Kd.C_below HR3.out HB2.out) l3 HQ0.out hN hml)
    have hk := bnf_may_ok HQ0.out
    have hO2 : o.length ≤ 500 := hk.2.1
    have HIN := Aside0.mk (begG_ok HQ0.out m)
    have HG := Aside0.mk hG
    clear hk hG hN hml HQ
    go_wp2_with fail
    refine HBG.out.mono ?_
    rintro e w2 ⟨g, rfl, hS, hb3⟩
    have HB3 := Aside0.mk (below_step HB2.out hb3)
    have HS := Aside0.mk (show Steps w2 (fun k => w1.heap.size ≤ k) g (begG m o L) from hS)
    have hLl : (begG m o L).length = o.length := HIN.out.2
    have HII := Aside0.mk HIN.out.1
    clear hS hb3 HBG HIN y0 y1 y2 y3
    generalize begG m o L = l at HS HG hLl HII
    have HLL := Aside0.mk hLl
    clear hLl
    go_wp2_with fail
    go_loopg [6, 17] o.length (fun gg v6 v17 wr => ∃ (kk : Nat) (acc : List Int), kk ≤ o.length ∧ o.length - kk ≤ gg ∧ v17 = .int .i64 kk ∧ Aside0 (leftG l (o.length + 2) (o.length - kk) kk acc = some r1) ∧ acc.length ≤ kk ∧ Aside0 (Kd.R (Kd.int .i64) 3 wr w2.heap.size (fun _ => True) v6 acc) ∧ Aside0 (Below w2.heap.size w2 wr))
    case atStart => exact ⟨0, [], Nat.zero_le _, by omega, rfl, HG, Nat.le_refl _, ⟨Kd.R_nil _ _ _ _ _⟩, ⟨Below.refl _ _⟩⟩
    case round =>
      clear HG
      obtain ⟨kk, acc, hkk, hg, rfl, HG, hacc, HR, HB⟩ := hrel
      by_cases hlt : kk < o.length
      · have hltz : (kk : Int) < (o.length : Int) := by omega
        have hkl : kk < l.length := by rw [HLL.out]; exact hlt
        have hG := HG.out
        rw [show o.length - kk = (o.length - (kk + 1)) + 1 by omega, leftG] at hG
        obtain ⟨r, hr1, hr2⟩ := Option.bind_eq_some_iff.1 hG
        have e : l.getD kk [] = l[kk] := by rw [List.getD_eq_getElem?_getD, List.getElem?_eq_getElem hkl]; rfl
        have hin := HII.out kk
        rw [e] at hr1 hin
        have hSr := HS.out.below HB.out
        obtain ⟨Ar, cr, hcr, _, _, hQr, _⟩ := hSr.row kk hkl
        have HTO0 := reach_to_calls g o.length l Ar cr l[kk] (kk : Int) wr hSr hQr (by rw [HLL.out]; omega) (by rw [HLL.out]; exact HII.out) (by rw [HLL.out]; exact hin) (o.length + 2) (by omega) r hr1
        rw [HLL.out] at HTO0
        have HTO := Aside0.mk HTO0
        replace HG := Aside0.mk hr2
        clear HTO0 hG hr1 hr2 e hin hSr hQr
        generalize l[kk] = row at hcr HTO
        go_wp2_with fail
        refine HTO.out.mono ?_
        rintro e w3 ⟨rfl, hb⟩
        have HR3' := Aside0.mk (Kd.R_below HR.out hb)
        have HB3' := Aside0.mk (below_step HB.out hb)
        clear hb HTO HR HB hcr
        cases r with
        | false =>
          have hG := HG.out
          rw [if_neg (by decide)] at hG
          replace HG := Aside0.mk hG
          clear hG
          go_wp2_with fail
          go_roundg (o.length - (kk + 1))
          case measure => omega
          case rel => exact ⟨kk + 1, acc, by omega, by omega, by go_num, HG, by omega, HR3', HB3'⟩
        | true =>
          have hG := HG.out
          rw [if_pos rfl] at hG
          replace HG := Aside0.mk hG
          clear hG
          go_wp2_with (first | ((with_reducible refine gate_builtin (b := .append) (xs := #[.tmp 27, .tmp 29]) rfl ?_); (try (refine gate_guard (by rfl) ?_; dsimp only)); at_builtin; refine Kd.R_append (Kd.int .i64) (w0 := w2) w2.heap.size rfl (.tmp 27) (.tmp 29) 22 3 (.int .i64 0) 8 rfl Try.underlying22 reach_infoI rfl (by decide) (by omega) u6 acc (kk : Int) [.int .i64 kk] (fun _ => True) (fun _ => False) rfl rfl ?aP (fun _ hk => hk.elim) ?aF ?aO ?aB ?aS ?aL ?_; (case aP => exact rfl); (case aB => exact HB3'.out); (case aF => exact (fun _ _ => trivial)); (case aO => exact HR3'.out); (case aS => exact HB3'.out.size); (case aL => omega); intro v9 w9 ho hb _ _; have HR9 := Aside0.mk ho; have HB9 := Aside0.mk hb; clear ho hb))
          go_roundg (o.length - (kk + 1))
          case measure => omega
          case rel => exact ⟨kk + 1, _, by omega, by omega, by go_num, HG, by rw [List.length_append]; simp only [List.length_cons, List.length_nil]; omega, HR9, HB9⟩
      · have hltz : ¬ (kk : Int) < (o.length : Int) := by omega
        have hG := HG.out
        rw [show o.length - kk = 0 by omega, leftG] at hG
        injection hG with hG
        subst hG
        clear HG
        go_wp2_with fail
        go_ret2
        exact ⟨_, rfl, Kd.R_lower HR.out HB3.out.size, below_step HB3.out HB.out⟩
  · have e1 : (r2i != 0) = true := bne_iff_ne.mpr hq0
    have e2 : decide (r2i ≠ 0) = true := decide_eq_true hq0
    clear HQ hq0
    go_wp2_with fail
    go_ret2
    exact ⟨_, rfl, Kd.R_nil _ _ _ _ _, HB2.out⟩
def gramaryelaw11_sample.f  : Option (Int × Int × List Int × (List (S51))) := some (1, 1, (([(-1), (-1)] : List Int)), (([(⟨0, (([(⟨false, 1⟩ : S59), (⟨true, 1⟩ : S59)] : List (S59)))⟩ : S51), (⟨1, (([(⟨false, 0⟩ : S59)] : List (S59)))⟩ : S51), (⟨1, ([] : List (S59))⟩ : S51)] : List (S51))))
set_option maxHeartbeats 8000000 in
set_option maxRecDepth 100000 in
theorem gramaryelaw11_sample.calls  (r1 : Int) (r2 : Int) (r3 : List Int) (r4 : List (S51)) (w : World) (h : gramaryelaw11_sample.f  = some (r1, r2, r3, r4)) :
    Calls Try.prog 57 #[] w fun e w' => ∃ v2_ v3_ : Value, e = .returned (.agg #[.int .i64 r1, .int .i64 r2, v2_, v3_]) ∧ Kd.R (Kd.int .i64) 3 w' w.heap.size (fun k_ => (w.heap.size ≤ k_)) v2_ r3 ∧ Kd.N k51 51 w' w.heap.size (fun k_ => (w.heap.size ≤ k_) ∧ some k_ ≠ (v2_ : Value).ownBlock) v3_ r4 ∧ Below w.heap.size w w' := by
  have hu25 := Try.underlying25
  have hu59 := Try.underlying59
  have hu51 := Try.underlying51
  have HB := Aside0.mk (Below.refl w.heap.size w)
  have H : (some (1, 1, (([(-1), (-1)] : List Int)), (([(⟨0, (([(⟨false, 1⟩ : S59), (⟨true, 1⟩ : S59)] : List (S59)))⟩ : S51), (⟨1, (([(⟨false, 0⟩ : S59)] : List (S59)))⟩ : S51), (⟨1, ([] : List (S59))⟩ : S51)] : List (S51))))) = some (r1, r2, r3, r4) := h
  clear h
  obtain ⟨y152, hy152⟩ : ∃ y_ : List Int, y_ = (([(-1), (-1)] : List Int)) := ⟨_, rfl⟩
  replace H : (some (1, 1, y152, (([(⟨0, (([(⟨false, 1⟩ : S59), (⟨true, 1⟩ : S59)] : List (S59)))⟩ : S51), (⟨1, (([(⟨false, 0⟩ : S59)] : List (S59)))⟩ : S51), (⟨1, ([] : List (S59))⟩ : S51)] : List (S51))))) = some (r1, r2, r3, r4) := by first | (rw [hy152]; with_reducible exact H) | (have H2_ := (Option.bind_some _ _).symm.trans H; rw [hy152]; with_reducible exact H2_) | (have H2_ := (Option.bind_some _ _).symm.trans H; with_reducible exact H2_) | with_reducible exact H | (rw [hy152]; exact H) | exact H
  have Ny152 := Aside0.mk hy152
  clear hy152
  obtain ⟨y155, hy155⟩ : ∃ y_ : List (S59), y_ = (([(⟨false, 1⟩ : S59), (⟨true, 1⟩ : S59)] : List (S59))) := ⟨_, rfl⟩
  replace H : (some (1, 1, y152, (([(⟨0, y155⟩ : S51), (⟨1, (([(⟨false, 0⟩ : S59)] : List (S59)))⟩ : S51), (⟨1, ([] : List (S59))⟩ : S51)] : List (S51))))) = some (r1, r2, r3, r4) := by first | (rw [hy155]; with_reducible exact H) | (have H2_ := (Option.bind_some _ _).symm.trans H; rw [hy155]; with_reducible exact H2_) | (have H2_ := (Option.bind_some _ _).symm.trans H; with_reducible exact H2_) | with_reducible exact H | (rw [hy155]; exact H) | exact H
  have Ny155 := Aside0.mk hy155
  clear hy155
  obtain ⟨y158, hy158⟩ : ∃ y_ : List (S59), y_ = (([(⟨false, 0⟩ : S59)] : List (S59))) := ⟨_, rfl⟩
  replace H : (some (1, 1, y152, (([(⟨0, y155⟩ : S51), (⟨1, y158⟩ : S51), (⟨1, ([] : List (S59))⟩ : S51)] : List (S51))))) = some (r1, r2, r3, r4) := by first | (rw [hy158]; with_reducible exact H) | (have H2_ := (Option.bind_some _ _).symm.trans H; rw [hy158]; with_reducible exact H2_) | (have H2_ := (Option.bind_some _ _).symm.trans H; with_reducible exact H2_) | with_reducible exact H | (rw [hy158]; exact H) | exact H
  have Ny158 := Aside0.mk hy158
  clear hy158
  obtain ⟨y161, hy161⟩ : ∃ y_ : List (S51), y_ = (([(⟨0, y155⟩ : S51), (⟨1, y158⟩ : S51), (⟨1, ([] : List (S59))⟩ : S51)] : List (S51))) := ⟨_, rfl⟩
  replace H : (some (1, 1, y152, y161)) = some (r1, r2, r3, r4) := by first | (rw [hy161]; with_reducible exact H) | (have H2_ := (Option.bind_some _ _).symm.trans H; rw [hy161]; with_reducible exact H2_) | (have H2_ := (Option.bind_some _ _).symm.trans H; with_reducible exact H2_) | with_reducible exact H | (rw [hy161]; exact H) | exact H
  have Ny161 := Aside0.mk hy161
  clear hy161
  simp only [Option.some.injEq, Prod.mk.injEq] at H
  obtain ⟨rfl, rfl, rfl, rfl⟩ := H
  go_enter Try.func57, Try.ntmps57
  go_wp2_with (first | ((with_reducible refine gate_dst (N := 0) rfl ?_); refine box_event ?hg (N := 0) ?hd (cs := #[.int .i64 0, .int .i64 0, .slice none 0 0, .slice none 0 0]) (t := 25) ?hr ?_; (case hd => rfl); (case hg => rfl); (case hr => first | (go_simp; done) | (go_simp; rfl)); intro gb151 hg w1 hbox hb; have n0_ := Aside0.mk (below_step (by repeat (first | (with_reducible first | exact HB.out | apply below_alloc | apply pw_below_drewN | apply below_drew1) | exact HB.out)) hb); have n1_ := Aside0.mk (hbox); have n2_ := Aside0.mk ((by rw [hg]; exact (below_size (by repeat (first | (with_reducible first | exact HB.out | apply below_alloc | apply pw_below_drewN | apply below_drew1) | exact HB.out))) : w.heap.size ≤ gb151)); have n3_ := Aside0.mk ((by rw [hg]; exact (below_size (by repeat (first | (with_reducible first | exact HB.out | apply below_alloc | apply pw_below_drewN | apply below_drew1) | exact HB.out))) : w.heap.size ≤ gb151)); clear HB; have HB := n0_; have BK151 := n1_; have GW151 := n2_; have GE151 := n3_; clear n0_ n1_ n2_ n3_; clear hb hbox hg) | ((with_reducible refine gate_dst (N := 1) rfl ?_); refine Kd.R_lit (Kd.int .i64) _ 3 ?hg (N := 1) ?hd (xs := ([(-1), (-1)] : List Int)) (inner := [.int .i64 (-1), .int .i64 (-1)]) (ok := fun _ => True) (okp := fun _ => True) ?hr ?hp (fun _ hk => hk) trivial (Below.refl _ _) (Nat.le_refl _) (by simp) ?_; (case hd => rfl); (case hg => rfl); (case hr => first | (go_simp; done) | (go_simp; rfl)); (case hp => exact (Reps.one (show Kd.M (Kd.int .i64) _ _ _ (-1) [.int .i64 (-1)] from rfl) (Reps.one (show Kd.M (Kd.int .i64) _ _ _ (-1) [.int .i64 (-1)] from rfl) (Reps.none _ _)))); intro v153 w2 ho3 hb hg_ hnew_; clear hg_ hnew_; (first | rw [← Ny152.out] at ho3 | (simp only [Int.reduceToNat] at ho3; rw [← Ny152.out] at ho3)); have n0_ := Aside0.mk (Kd.R_lower (Kd.R_newM (M := fun k_ => (w.heap.size ≤ k_)) ho3 (below_size (by repeat (first | (with_reducible first | exact HB.out | apply below_alloc | apply pw_below_drewN | apply below_drew1 | refine below_set ?_ GE151.out) | exact HB.out))) (fun k_ h_ => h_)) (below_size (by repeat (first | (with_reducible first | exact HB.out | apply below_alloc | apply pw_below_drewN | apply below_drew1 | refine below_set ?_ GE151.out) | exact HB.out)))); have n1_ := Aside0.mk (blk_below (g := gb151) (o := .cells #[.int .i64 0, .int .i64 0, .slice none 0 0, .slice none 0 0] 25 (0, 0)) (by (with_reducible repeat (first | refine blk_drewN ?_ _ | refine blk_drew ?_ | refine blk_alloc ?_ _)); exact BK151.out) hb); have n2_ := Aside0.mk (below_step (by repeat (first | (with_reducible first | exact HB.out | apply below_alloc | apply pw_below_drewN | apply below_drew1 | refine below_set ?_ GE151.out) | exact HB.out)) hb); clear BK151; clear HB; have HO154 := n0_; have BK151 := n1_; have HB := n2_; clear n0_ n1_ n2_; clear hb ho3) | ((with_reducible refine gate_dst (N := 4) rfl ?_); refine Kd.R_lit k59 _ 59 ?hg (N := 4) ?hd (xs := ([(⟨false, 1⟩ : S59), (⟨true, 1⟩ : S59)] : List (S59))) (inner := [.bool false, .int .i64 1, .bool true, .int .i64 1]) (ok := fun _ => True) (okp := fun _ => True) ?hr ?hp (fun _ hk => hk) trivial (Below.refl _ _) (Nat.le_refl _) (by simp) ?_; (case hd => rfl); (case hg => rfl); (case hr => first | (go_simp; done) | (go_simp; rfl)); (case hp => exact (Reps.c2 (show Kd.M k59 _ _ _ (⟨false, 1⟩ : S59) [.bool false, .int .i64 1] from (k59_mkM _ _ _ (⟨false, 1⟩ : S59) )) (Reps.c2 (show Kd.M k59 _ _ _ (⟨true, 1⟩ : S59) [.bool true, .int .i64 1] from (k59_mkM _ _ _ (⟨true, 1⟩ : S59) )) (Reps.none _ _)))); intro v156 w4 ho5 hb hg_ hnew_; clear hg_ hnew_; (first | rw [← Ny155.out] at ho5 | (simp only [Int.reduceToNat] at ho5; rw [← Ny155.out] at ho5)); have n0_ := Aside0.mk (Kd.R_below (by (with_reducible repeat (first | apply Kd.R_alloc | apply Kd.R_drewN | apply Kd.R_drew)); exact HO154.out) hb); have n1_ := Aside0.mk (Kd.R_lower (Kd.R_newM (M := fun k_ => (w.heap.size ≤ k_)) ho5 (below_size (by repeat (first | (with_reducible first | exact HB.out | apply below_alloc | apply pw_below_drewN | apply below_drew1 | refine below_set ?_ GE151.out) | exact HB.out))) (fun k_ h_ => h_)) (below_size (by repeat (first | (with_reducible first | exact HB.out | apply below_alloc | apply pw_below_drewN | apply below_drew1 | refine below_set ?_ GE151.out) | exact HB.out)))); have n2_ := Aside0.mk (blk_below (g := gb151) (o := .cells #[.int .i64 0, .int .i64 0, .slice none 0 0, .slice none 0 0] 25 (0, 0)) (by (with_reducible repeat (first | refine blk_drewN ?_ _ | refine blk_drew ?_ | refine blk_alloc ?_ _)); exact BK151.out) hb); have n3_ := Aside0.mk (below_step (by repeat (first | (with_reducible first | exact HB.out | apply below_alloc | apply pw_below_drewN | apply below_drew1 | refine below_set ?_ GE151.out) | exact HB.out)) hb); clear HO154; clear BK151; clear HB; have HO154 := n0_; have HO157 := n1_; have BK151 := n2_; have HB := n3_; clear n0_ n1_ n2_ n3_; clear hb ho5; obtain ⟨Ao6, co6, eo6⟩ := Kd.R_slice HO157.out; subst eo6) | ((with_reducible refine gate_dst (N := 7) rfl ?_); refine Kd.R_lit k59 _ 59 ?hg (N := 7) ?hd (xs := ([(⟨false, 0⟩ : S59)] : List (S59))) (inner := [.bool false, .int .i64 0]) (ok := fun _ => True) (okp := fun _ => True) ?hr ?hp (fun _ hk => hk) trivial (Below.refl _ _) (Nat.le_refl _) (by simp) ?_; (case hd => rfl); (case hg => rfl); (case hr => first | (go_simp; done) | (go_simp; rfl)); (case hp => exact (Reps.c2 (show Kd.M k59 _ _ _ (⟨false, 0⟩ : S59) [.bool false, .int .i64 0] from (k59_mkM _ _ _ (⟨false, 0⟩ : S59) )) (Reps.none _ _))); intro v159 w7 ho8 hb hg_ hnew_; clear hg_ hnew_; (first | rw [← Ny158.out] at ho8 | (simp only [Int.reduceToNat] at ho8; rw [← Ny158.out] at ho8)); have n0_ := Aside0.mk (Kd.R_below (by (with_reducible repeat (first | apply Kd.R_alloc | apply Kd.R_drewN | apply Kd.R_drew)); exact HO154.out) hb); have n1_ := Aside0.mk (Kd.R_elder' (by (with_reducible repeat (first | apply Kd.R_alloc | apply Kd.R_drewN | apply Kd.R_drew)); exact HO157.out) (Kd.R_base ho8) hb); have n2_ := Aside0.mk (Kd.R_lower (Kd.R_new' (Kd.R_newM (M := fun k_ => (w.heap.size ≤ k_)) ho8 (below_size (by repeat (first | (with_reducible first | exact HB.out | apply below_alloc | apply pw_below_drewN | apply below_drew1 | refine below_set ?_ GE151.out) | exact HB.out))) (fun k_ h_ => h_)) (Kd.R_lt (by (with_reducible repeat (first | apply Kd.R_alloc | apply Kd.R_drewN | apply Kd.R_drew)); exact HO157.out))) (below_size (by repeat (first | (with_reducible first | exact HB.out | apply below_alloc | apply pw_below_drewN | apply below_drew1 | refine below_set ?_ GE151.out) | exact HB.out)))); have n3_ := Aside0.mk (blk_below (g := gb151) (o := .cells #[.int .i64 0, .int .i64 0, .slice none 0 0, .slice none 0 0] 25 (0, 0)) (by (with_reducible repeat (first | refine blk_drewN ?_ _ | refine blk_drew ?_ | refine blk_alloc ?_ _)); exact BK151.out) hb); have n4_ := Aside0.mk (below_step (by repeat (first | (with_reducible first | exact HB.out | apply below_alloc | apply pw_below_drewN | apply below_drew1 | refine below_set ?_ GE151.out) | exact HB.out)) hb); clear HO154; clear HO157; clear BK151; clear HB; have HO154 := n0_; have HO157 := n1_; have HO160 := n2_; have BK151 := n3_; have HB := n4_; clear n0_ n1_ n2_ n3_ n4_; clear hb ho8; obtain ⟨Ao9, co9, eo9⟩ := Kd.R_slice HO160.out; subst eo9) | ((with_reducible refine gate_dst (N := 10) rfl ?_); refine Kd.N_lit k51 _ 51 ?hg (N' := 10) ?hd (xs := ([(⟨0, y155⟩ : S51), (⟨1, y158⟩ : S51), (⟨1, ([] : List (S59))⟩ : S51)] : List (S51))) (inner := [.int .i64 0, .slice Ao6 y155.length co6, .int .i64 1, .slice Ao9 y158.length co9, .int .i64 1, .slice none 0 0]) (ok := (fun k_ => (w.heap.size ≤ k_) ∧ some k_ ≠ (v153 : Value).ownBlock ∧ k_ ≠ gb151)) (okp := (fun k_ => (w.heap.size ≤ k_) ∧ some k_ ≠ (v153 : Value).ownBlock ∧ k_ ≠ gb151)) ?hr ?hp (fun _ hk => hk) ((show ∀ k_, w7.heap.size ≤ k_ → (fun k_ => (w.heap.size ≤ k_) ∧ some k_ ≠ (v153 : Value).ownBlock ∧ k_ ≠ gb151) k_ from fun k_ hk => ⟨(Nat.le_trans (below_size (by repeat (first | (with_reducible first | exact HB.out | apply below_alloc | apply pw_below_drewN | apply below_drew1 | refine below_set ?_ GE151.out) | exact HB.out))) hk), Kd.fresh' (Kd.R_lt (by (with_reducible repeat (first | apply Kd.R_alloc | apply Kd.R_drewN | apply Kd.R_drew)); exact HO154.out)) k_ hk, Kd.freshB (g := gb151) (o := .cells #[.int .i64 0, .int .i64 0, .slice none 0 0, .slice none 0 0] 25 (0, 0)) (by (with_reducible repeat (first | refine blk_drewN ?_ _ | refine blk_drew ?_ | refine blk_alloc ?_ _)); exact BK151.out) k_ hk⟩) _ (Nat.le_refl _)) (Below.refl _ _) (Nat.le_refl _) (by simp) ?_; (case hd => rfl); (case hg => rfl); (case hr => first | (go_simp; done) | (go_simp; rfl)); (case hp => exact (Reps.c2 (show Kd.FK k51 _ _ (⟨0, y155⟩ : S51) [.int .i64 0, .slice Ao6 y155.length co6] from (k51_mkF _ _ (⟨0, y155⟩ : S51) (Kd.R_reads' (Kd.R_mono (ok' := (fun k_ => (w.heap.size ≤ k_) ∧ some k_ ≠ (v153 : Value).ownBlock ∧ k_ ≠ gb151)) (Kd.R_types (Kd.R_apart' (HO157.out) (Kd.R_typed HO154.out) (by decide)) BK151.out (by decide)) (fun k_ hk => ⟨hk.1.1.1.1, ⟨hk.1.2, hk.2⟩⟩))).2.1 (Kd.R_F (Kd.R_mono (ok' := (fun k_ => (w.heap.size ≤ k_) ∧ some k_ ≠ (v153 : Value).ownBlock ∧ k_ ≠ gb151)) (Kd.R_types (Kd.R_apart' (HO157.out) (Kd.R_typed HO154.out) (by decide)) BK151.out (by decide)) (fun k_ hk => ⟨hk.1.1.1.1, ⟨hk.1.2, hk.2⟩⟩))))) (Reps.c2 (show Kd.FK k51 _ _ (⟨1, y158⟩ : S51) [.int .i64 1, .slice Ao9 y158.length co9] from (k51_mkF _ _ (⟨1, y158⟩ : S51) (Kd.R_reads' (Kd.R_mono (ok' := (fun k_ => (w.heap.size ≤ k_) ∧ some k_ ≠ (v153 : Value).ownBlock ∧ k_ ≠ gb151)) (Kd.R_types (Kd.R_apart' (HO160.out) (Kd.R_typed HO154.out) (by decide)) BK151.out (by decide)) (fun k_ hk => ⟨hk.1.1.1.1, ⟨hk.1.2, hk.2⟩⟩))).2.1 (Kd.R_F (Kd.R_mono (ok' := (fun k_ => (w.heap.size ≤ k_) ∧ some k_ ≠ (v153 : Value).ownBlock ∧ k_ ≠ gb151)) (Kd.R_types (Kd.R_apart' (HO160.out) (Kd.R_typed HO154.out) (by decide)) BK151.out (by decide)) (fun k_ hk => ⟨hk.1.1.1.1, ⟨hk.1.2, hk.2⟩⟩))))) (Reps.c2 (show Kd.FK k51 _ _ (⟨1, ([] : List (S59))⟩ : S51) [.int .i64 1, .slice none 0 0] from (k51_mkF _ _ (⟨1, ([] : List (S59))⟩ : S51) (Nat.le_refl _) (Kd.F_nil _ _ _))) (Reps.none _ _))))); intro v162 w10 ho11 hb hg_ hnew_; clear hg_ hnew_; (first | rw [← Ny161.out] at ho11 | (simp only [Int.reduceToNat] at ho11; rw [← Ny161.out] at ho11)); have n0_ := Aside0.mk (Kd.R_below (by (with_reducible repeat (first | apply Kd.R_alloc | apply Kd.R_drewN | apply Kd.R_drew)); exact HO154.out) hb); have n1_ := Aside0.mk (Kd.N_lower ho11 (below_size (by repeat (first | (with_reducible first | exact HB.out | apply below_alloc | apply pw_below_drewN | apply below_drew1 | refine below_set ?_ GE151.out) | exact HB.out)))); have n2_ := Aside0.mk (blk_below (g := gb151) (o := .cells #[.int .i64 0, .int .i64 0, .slice none 0 0, .slice none 0 0] 25 (0, 0)) (by (with_reducible repeat (first | refine blk_drewN ?_ _ | refine blk_drew ?_ | refine blk_alloc ?_ _)); exact BK151.out) hb); have n3_ := Aside0.mk (below_step (by repeat (first | (with_reducible first | exact HB.out | apply below_alloc | apply pw_below_drewN | apply below_drew1 | refine below_set ?_ GE151.out) | exact HB.out)) hb); clear HO154; clear BK151; clear HB; clear HO157; clear HO160; have HO154 := n0_; have HO163 := n1_; have BK151 := n2_; have HB := n3_; clear n0_ n1_ n2_ n3_; clear hb ho11; obtain ⟨Ao12, co12, eo12⟩ := Kd.N_slice HO163.out; subst eo12; obtain ⟨Ao13, co13, eo13⟩ := Kd.R_slice HO154.out; subst eo13; have hcz14_0 : w10.cell? ⟨gb151, 0, none⟩ = some (.int .i64 0) := (blk_cell BK151.out 0).trans rfl; have hcz14_1 : w10.cell? ⟨gb151, 1, none⟩ = some (.int .i64 0) := (blk_cell BK151.out 1).trans rfl; have hcz14_2 : w10.cell? ⟨gb151, 2, none⟩ = some (.slice none 0 0) := (blk_cell BK151.out 2).trans rfl; have hcz14_3 : w10.cell? ⟨gb151, 3, none⟩ = some (.slice none 0 0) := (blk_cell BK151.out 3).trans rfl; have hfz14_0 := blk_frozen BK151.out 0; have hfz14_1 := blk_frozen BK151.out 1; have hfz14_2 := blk_frozen BK151.out 2; have hfz14_3 := blk_frozen BK151.out 3))
  refine bodyPost_ret (results_cell_row rfl _ _ gb151 25 #[.int .i64 1, .int .i64 1, .slice Ao13 y152.length co13, .slice Ao12 y161.length co12] (0, 0) _ rfl (by (with_reducible repeat (first | refine blk_drewN ?_ _ | refine blk_drew ?_ | refine blk_alloc ?_ _)); refine blk_put (cs := #[.int .i64 1, .int .i64 1, .slice Ao13 y152.length co13, .slice none 0 0]) ?_ 3 _ rfl; (with_reducible repeat (first | refine blk_drewN ?_ _ | refine blk_drew ?_ | refine blk_alloc ?_ _)); refine blk_put (cs := #[.int .i64 1, .int .i64 1, .slice none 0 0, .slice none 0 0]) ?_ 2 _ rfl; (with_reducible repeat (first | refine blk_drewN ?_ _ | refine blk_drew ?_ | refine blk_alloc ?_ _)); refine blk_put (cs := #[.int .i64 1, .int .i64 0, .slice none 0 0, .slice none 0 0]) ?_ 1 _ rfl; (with_reducible repeat (first | refine blk_drewN ?_ _ | refine blk_drew ?_ | refine blk_alloc ?_ _)); refine blk_put (cs := #[.int .i64 0, .int .i64 0, .slice none 0 0, .slice none 0 0]) ?_ 0 _ rfl; (with_reducible repeat (first | refine blk_drewN ?_ _ | refine blk_drew ?_ | refine blk_alloc ?_ _)); exact BK151.out) Try.underlying25 rfl (by kernel_rfl)) rfl ?_
  exact ⟨_, _, by first | rfl | (simp [errW_none, errW_some] <;> rfl) | (simp [*, errW_none, errW_some] <;> rfl), by (with_reducible repeat (first | apply Kd.R_alloc | apply Kd.R_drewN | apply Kd.R_drew)); exact Kd.R_mono (Kd.R_far (p := ⟨gb151, 3, none⟩) (Kd.R_far (p := ⟨gb151, 2, none⟩) (Kd.R_far (p := ⟨gb151, 1, none⟩) (Kd.R_far (p := ⟨gb151, 0, none⟩) (Kd.R_types HO154.out BK151.out (by decide)) (fun _ hk => hk.2) (.int .i64 1)) (fun _ hk => hk.2) (.int .i64 1)) (fun _ hk => hk.2) (.slice Ao13 y152.length co13)) (fun _ hk => hk.2) (.slice Ao12 y161.length co12)) (fun _ hk => hk.1.1), by (with_reducible repeat (first | apply Kd.N_alloc | apply Kd.N_drewN | apply Kd.N_drew)); exact Kd.N_mono (Kd.N_far (p := ⟨gb151, 3, none⟩) (Kd.N_far (p := ⟨gb151, 2, none⟩) (Kd.N_far (p := ⟨gb151, 1, none⟩) (Kd.N_far (p := ⟨gb151, 0, none⟩) (Kd.N_mono HO163.out (fun k_ hk => (⟨hk, hk.2.2⟩ : _ ∧ k_ ≠ gb151))) (fun _ hk => hk.2) (.int .i64 1)) (fun _ hk => hk.2) (.int .i64 1)) (fun _ hk => hk.2) (.slice Ao13 y152.length co13)) (fun _ hk => hk.2) (.slice Ao12 y161.length co12)) (fun _ hk => ⟨hk.1.1, hk.1.2.1⟩), by repeat (first | (with_reducible first | exact HB.out | apply below_alloc | apply pw_below_drewN | apply below_drew1 | refine below_set ?_ GE151.out) | exact HB.out)⟩
def gramaryelaw11_works.f (k : Nat)  : Option (Bool) := (gramaryelaw11_sample.f).bind fun bt164 => ((reach_Left.f bt164.1 bt164.2.1 bt164.2.2.1 bt164.2.2.2).bind fun bt172 => (if bt172.2 = 0 then ((gramaryebase_SameInts.f k bt172.1 (([0, 1] : List Int))).bind fun t179 => (if t179 = true then ((gramaryelaw11_sample.f).bind fun bt180 => ((reach_Way.f bt180.1 bt180.2.1 bt180.2.2.1 bt180.2.2.2 0).bind fun t188 => ((gramaryebase_SameInts.f k t188 (([0, 1, 0] : List Int))).bind fun t194 => (some t194)))) else (some false))) else (some false)))
theorem gramaryelaw11_works.mono : ∀ k, LeO (gramaryelaw11_works.f k ) (gramaryelaw11_works.f (k + 1) ) := by
  intro  k
  unfold gramaryelaw11_works.f
  repeat' first
      | (with_reducible exact gramaryebase_SameInts.mono _ _ _)
      | (with_reducible exact LeO.refl _)
      | (with_reducible exact LeO.none _)
      | (with_reducible refine LeO.ite ?_ ?_)
      | (with_reducible refine LeO.bind ?_ (fun _ => ?_))
      | exact gramaryebase_SameInts.mono _ _ _
      | exact LeO.none _
      | refine LeO.ite ?_ ?_
      | refine LeO.bind ?_ (fun _ => ?_)
set_option maxHeartbeats 8000000 in
set_option maxRecDepth 100000 in
theorem gramaryelaw11_works.calls (k : Nat)  (r : Bool) (w : World) (h : gramaryelaw11_works.f k  = some r) :
    Calls Try.prog 26 #[] w fun e w' => e = .returned (.bool r) ∧ Below w.heap.size w w' := by
  have HB := Aside0.mk (Below.refl w.heap.size w)
  have H : ((gramaryelaw11_sample.f).bind fun bt164 => ((reach_Left.f bt164.1 bt164.2.1 bt164.2.2.1 bt164.2.2.2).bind fun bt172 => (if bt172.2 = 0 then ((gramaryebase_SameInts.f k bt172.1 (([0, 1] : List Int))).bind fun t179 => (if t179 = true then ((gramaryelaw11_sample.f).bind fun bt180 => ((reach_Way.f bt180.1 bt180.2.1 bt180.2.2.1 bt180.2.2.2 0).bind fun t188 => ((gramaryebase_SameInts.f k t188 (([0, 1, 0] : List Int))).bind fun t194 => (some t194)))) else (some false))) else (some false)))) = some r := h
  clear h
  replace H := Option.bind_eq_some_iff.mp H
  obtain ⟨⟨t164, t165, t166, t169⟩, A10, H⟩ := H
  replace H : ((reach_Left.f t164 t165 t166 t169).bind fun bt172 => (if bt172.2 = 0 then ((gramaryebase_SameInts.f k bt172.1 (([0, 1] : List Int))).bind fun t179 => (if t179 = true then ((gramaryelaw11_sample.f).bind fun bt180 => ((reach_Way.f bt180.1 bt180.2.1 bt180.2.2.1 bt180.2.2.2 0).bind fun t188 => ((gramaryebase_SameInts.f k t188 (([0, 1, 0] : List Int))).bind fun t194 => (some t194)))) else (some false))) else (some false))) = some r := H
  have A1 := Aside0.mk A10
  clear A10
  replace H := Option.bind_eq_some_iff.mp H
  obtain ⟨⟨t172, t175⟩, A20, H⟩ := H
  replace H : (if t175 = 0 then ((gramaryebase_SameInts.f k t172 (([0, 1] : List Int))).bind fun t179 => (if t179 = true then ((gramaryelaw11_sample.f).bind fun bt180 => ((reach_Way.f bt180.1 bt180.2.1 bt180.2.2.1 bt180.2.2.2 0).bind fun t188 => ((gramaryebase_SameInts.f k t188 (([0, 1, 0] : List Int))).bind fun t194 => (some t194)))) else (some false))) else (some false)) = some r := H
  have A2 := Aside0.mk A20
  clear A20
  by_cases c3 : t175 = 0
  · rw [if_pos c3] at H
    have c3b0 : (t175 == 0) = true := beq_iff_eq.mpr c3
    have c3b1 : (t175 != 0) = false := bne_eq_false_iff_eq.mpr c3
    clear c3
    obtain ⟨y176, hy176⟩ : ∃ y_ : List Int, y_ = (([0, 1] : List Int)) := ⟨_, rfl⟩
    replace H : ((gramaryebase_SameInts.f k t172 y176).bind fun t179 => (if t179 = true then ((gramaryelaw11_sample.f).bind fun bt180 => ((reach_Way.f bt180.1 bt180.2.1 bt180.2.2.1 bt180.2.2.2 0).bind fun t188 => ((gramaryebase_SameInts.f k t188 (([0, 1, 0] : List Int))).bind fun t194 => (some t194)))) else (some false))) = some r := by first | (rw [hy176]; with_reducible exact H) | (have H2_ := (Option.bind_some _ _).symm.trans H; rw [hy176]; with_reducible exact H2_) | (have H2_ := (Option.bind_some _ _).symm.trans H; with_reducible exact H2_) | with_reducible exact H | (rw [hy176]; exact H) | exact H
    have Ny176 := Aside0.mk hy176
    clear hy176
    replace H := Option.bind_eq_some_iff.mp H
    obtain ⟨t179, A40, H⟩ := H
    replace H : (if t179 = true then ((gramaryelaw11_sample.f).bind fun bt180 => ((reach_Way.f bt180.1 bt180.2.1 bt180.2.2.1 bt180.2.2.2 0).bind fun t188 => ((gramaryebase_SameInts.f k t188 (([0, 1, 0] : List Int))).bind fun t194 => (some t194)))) else (some false)) = some r := H
    have A4 := Aside0.mk A40
    clear A40
    by_cases c5 : t179 = true
    · subst c5
      have H1 : ((gramaryelaw11_sample.f).bind fun bt180 => ((reach_Way.f bt180.1 bt180.2.1 bt180.2.2.1 bt180.2.2.2 0).bind fun t188 => ((gramaryebase_SameInts.f k t188 (([0, 1, 0] : List Int))).bind fun t194 => (some t194)))) = some r := by rw [if_pos rfl] at H; exact H
      clear H
      have H := H1
      clear H1
      replace H := Option.bind_eq_some_iff.mp H
      obtain ⟨⟨t180, t181, t182, t185⟩, A60, H⟩ := H
      replace H : ((reach_Way.f t180 t181 t182 t185 0).bind fun t188 => ((gramaryebase_SameInts.f k t188 (([0, 1, 0] : List Int))).bind fun t194 => (some t194))) = some r := H
      have A6 := Aside0.mk A60
      clear A60
      replace H := Option.bind_eq_some_iff.mp H
      obtain ⟨t188, A70, H⟩ := H
      replace H : ((gramaryebase_SameInts.f k t188 (([0, 1, 0] : List Int))).bind fun t194 => (some t194)) = some r := H
      have A7 := Aside0.mk A70
      clear A70
      obtain ⟨y191, hy191⟩ : ∃ y_ : List Int, y_ = (([0, 1, 0] : List Int)) := ⟨_, rfl⟩
      replace H : ((gramaryebase_SameInts.f k t188 y191).bind fun t194 => (some t194)) = some r := by first | (rw [hy191]; with_reducible exact H) | (have H2_ := (Option.bind_some _ _).symm.trans H; rw [hy191]; with_reducible exact H2_) | (have H2_ := (Option.bind_some _ _).symm.trans H; with_reducible exact H2_) | with_reducible exact H | (rw [hy191]; exact H) | exact H
      have Ny191 := Aside0.mk hy191
      clear hy191
      replace H := Option.bind_eq_some_iff.mp H
      obtain ⟨t194, A80, H⟩ := H
      replace H : (some t194) = some r := H
      have A8 := Aside0.mk A80
      clear A80
      obtain rfl := Option.some.inj H
      go_enter Try.func26, Try.ntmps26
      go_wp2_with (first | ((with_reducible refine gate_callee (f := 57) rfl ?_); refine goesL_ (some 4) rfl rfl Try.func57 (by kernel_rfl) rfl #[] rfl (by (try simp only [List.map_toArray, List.map_cons, List.map_nil]); first | done | rfl | (simp only [List.length_drop, List.length_take]; rfl)) ?_; (with_reducible refine (gramaryelaw11_sample.calls  t164 t165 t166 t169 _ A1.out).mono ?_); rintro e w9 ⟨v167, v170, rfl, ho0, ho1, hb⟩; refine ⟨_, rfl, ?_⟩; have n0_ := Aside0.mk (Kd.R_lower (Kd.R_mono (ok' := fun k_ => True) ho0 (fun _ hk_ => trivial)) (below_size (by repeat (first | (with_reducible first | exact HB.out | apply below_alloc | apply pw_below_drewN | apply below_drew1) | exact HB.out)))); have n1_ := Aside0.mk (Kd.N_lower (Kd.N_mono (ok' := fun k_ => some k_ ≠ (v167 : Value).ownBlock) ho1 (fun k_ hk_ => hk_.2)) (below_size (by repeat (first | (with_reducible first | exact HB.out | apply below_alloc | apply pw_below_drewN | apply below_drew1) | exact HB.out)))); have n2_ := Aside0.mk (below_step (by repeat (first | (with_reducible first | exact HB.out | apply below_alloc | apply pw_below_drewN | apply below_drew1) | exact HB.out)) hb); clear HB; have HO168 := n0_; have HO171 := n1_; have HB := n2_; clear n0_ n1_ n2_; (try clear hb); (try clear hb2); (try clear hk); (try clear hi); (try clear ho0); (try clear ho1); obtain ⟨Ao10, co10, eo10⟩ := Kd.R_slice HO168.out; subst eo10; obtain ⟨Ao11, co11, eo11⟩ := Kd.N_slice HO171.out; subst eo11) | ((with_reducible refine gate_callee (f := 29) rfl ?_); refine goesL_ (some 5) rfl rfl Try.func29 (by kernel_rfl) rfl #[.agg #[.int .i64 t164, .int .i64 t165, .slice Ao10 t166.length co10, .slice Ao11 t169.length co11]] rfl (by (try simp only [List.map_toArray, List.map_cons, List.map_nil]); first | done | rfl | (simp only [List.length_drop, List.length_take]; rfl)) ?_; (with_reducible refine (reach_Left.calls t164 t165 _ _ t166 _ _ t169 t172 t175 _ ?side1 ?side2 ?side3 ?side4 A2.out).mono ?_); (case side1 => repeat (first | exact (Kd.R_reads' HO168.out).2.2 | (with_reducible refine Kd.C_alloc ?_ _) | (with_reducible refine Kd.C_drewN ?_ _) | (with_reducible refine Kd.C_drew ?_))); (case side2 => exact (Kd.R_reads' HO168.out).2.1); (case side3 => repeat (first | exact (Kd.N_reads' HO171.out).2.2 | (with_reducible refine Kd.C_alloc ?_ _) | (with_reducible refine Kd.C_drewN ?_ _) | (with_reducible refine Kd.C_drew ?_))); (case side4 => exact (Kd.N_reads' HO171.out).2.1); rintro e w12 ⟨v173, rfl, ho0, hb⟩; refine ⟨_, rfl, ?_⟩; have n0_ := Aside0.mk (Kd.R_elder' (by (with_reducible repeat (first | apply Kd.R_alloc | apply Kd.R_drewN | apply Kd.R_drew)); exact HO168.out) (Kd.R_base ho0) hb); have n1_ := Aside0.mk (Kd.N_elder' (by (with_reducible repeat (first | apply Kd.N_alloc | apply Kd.N_drewN | apply Kd.N_drew)); exact HO171.out) (Kd.R_base ho0) hb); have n2_ := Aside0.mk (Kd.R_lower (Kd.R_new' ho0 (Kd.R_lt (by (with_reducible repeat (first | apply Kd.R_alloc | apply Kd.R_drewN | apply Kd.R_drew)); exact HO168.out))) (below_size (by repeat (first | (with_reducible first | exact HB.out | apply below_alloc | apply pw_below_drewN | apply below_drew1) | exact HB.out)))); have n3_ := Aside0.mk (below_step (by repeat (first | (with_reducible first | exact HB.out | apply below_alloc | apply pw_below_drewN | apply below_drew1) | exact HB.out)) hb); clear HO168; clear HO171; clear HB; have HO168 := n0_; have HO171 := n1_; have HO174 := n2_; have HB := n3_; clear n0_ n1_ n2_ n3_; (try clear hb); (try clear hb2); (try clear hk); (try clear hi); (try clear ho0)) | ((with_reducible refine gate_dst (N := 12) rfl ?_); (try (refine gate_guard (by rfl) ?_; dsimp only)); refine Kd.R_lit (Kd.int .i64) _ 3 ?hg (N := 12) ?hd (xs := ([0, 1] : List Int)) (inner := [.int .i64 0, .int .i64 1]) (ok := fun _ => True) (okp := fun _ => True) ?hr ?hp (fun _ hk => hk) trivial (Below.refl _ _) (Nat.le_refl _) (by simp) ?_; (case hd => rfl); (case hg => rfl); (case hr => first | (go_simp; done) | (go_simp; rfl)); (case hp => exact (Reps.one (show Kd.M (Kd.int .i64) _ _ _ 0 [.int .i64 0] from rfl) (Reps.one (show Kd.M (Kd.int .i64) _ _ _ 1 [.int .i64 1] from rfl) (Reps.none _ _)))); intro v177 w13 ho14 hb hg_ hnew_; clear hg_ hnew_; (first | rw [← Ny176.out] at ho14 | (simp only [Int.reduceToNat] at ho14; rw [← Ny176.out] at ho14)); have n0_ := Aside0.mk (Kd.R_elder' (by (with_reducible repeat (first | apply Kd.R_alloc | apply Kd.R_drewN | apply Kd.R_drew)); exact HO168.out) (Kd.R_base ho14) hb); have n1_ := Aside0.mk (Kd.N_elder' (by (with_reducible repeat (first | apply Kd.N_alloc | apply Kd.N_drewN | apply Kd.N_drew)); exact HO171.out) (Kd.R_base ho14) hb); have n2_ := Aside0.mk (Kd.R_elder' (by (with_reducible repeat (first | apply Kd.R_alloc | apply Kd.R_drewN | apply Kd.R_drew)); exact HO174.out) (Kd.R_base ho14) hb); have n3_ := Aside0.mk (Kd.R_lower (Kd.R_new' (Kd.R_new' ho14 (Kd.R_lt (by (with_reducible repeat (first | apply Kd.R_alloc | apply Kd.R_drewN | apply Kd.R_drew)); exact HO168.out))) (Kd.R_lt (by (with_reducible repeat (first | apply Kd.R_alloc | apply Kd.R_drewN | apply Kd.R_drew)); exact HO174.out))) (below_size (by repeat (first | (with_reducible first | exact HB.out | apply below_alloc | apply pw_below_drewN | apply below_drew1) | exact HB.out)))); have n4_ := Aside0.mk (below_step (by repeat (first | (with_reducible first | exact HB.out | apply below_alloc | apply pw_below_drewN | apply below_drew1) | exact HB.out)) hb); clear HO168; clear HO171; clear HO174; clear HB; have HO168 := n0_; have HO171 := n1_; have HO174 := n2_; have HO178 := n3_; have HB := n4_; clear n0_ n1_ n2_ n3_ n4_; clear hb ho14; obtain ⟨Ao15, co15, eo15⟩ := Kd.R_slice HO174.out; subst eo15; obtain ⟨Ao16, co16, eo16⟩ := Kd.R_slice HO178.out; subst eo16) | (go_at_call 14; (with_reducible refine (gramaryebase_SameInts.calls k _ _ t172 _ _ y176 true _ ?side1 ?side2 ?side3 ?side4 A4.out).mono ?_); (case side1 => repeat (first | exact (Kd.R_reads' HO174.out).2.2 | (with_reducible refine Kd.C_alloc ?_ _) | (with_reducible refine Kd.C_drewN ?_ _) | (with_reducible refine Kd.C_drew ?_))); (case side2 => exact (Kd.R_reads' HO174.out).2.1); (case side3 => repeat (first | exact (Kd.R_reads' HO178.out).2.2 | (with_reducible refine Kd.C_alloc ?_ _) | (with_reducible refine Kd.C_drewN ?_ _) | (with_reducible refine Kd.C_drew ?_))); (case side4 => exact (Kd.R_reads' HO178.out).2.1); rintro e w' ⟨rfl, ⟨nd, rfl⟩⟩) | (go_at_call 57; (with_reducible refine (gramaryelaw11_sample.calls  t180 t181 t182 t185 _ A6.out).mono ?_); rintro e w17 ⟨v183, v186, rfl, ho0, ho1, hb⟩; have n0_ := Aside0.mk (Kd.R_elder' (by (with_reducible repeat (first | apply Kd.R_alloc | apply Kd.R_drewN | apply Kd.R_drew)); exact HO168.out) (Kd.R_base ho0) hb); have n1_ := Aside0.mk (Kd.N_mono (Kd.N_told (Kd.N_told (Kd.N_old (by (with_reducible repeat (first | apply Kd.N_alloc | apply Kd.N_drewN | apply Kd.N_drew)); exact HO171.out) hb) (Kd.R_base ho0)) (Kd.N_base ho1)) (fun _ h_ => h_.1)); have n2_ := Aside0.mk (Kd.R_elder' (by (with_reducible repeat (first | apply Kd.R_alloc | apply Kd.R_drewN | apply Kd.R_drew)); exact HO174.out) (Kd.R_base ho0) hb); have n3_ := Aside0.mk (Kd.R_elder' (by (with_reducible repeat (first | apply Kd.R_alloc | apply Kd.R_drewN | apply Kd.R_drew)); exact HO178.out) (Kd.R_base ho0) hb); have n4_ := Aside0.mk (Kd.R_lower (Kd.R_new' (Kd.R_new' (Kd.R_new' (Kd.R_mono (ok' := fun k_ => True) ho0 (fun _ hk_ => trivial)) (Kd.R_lt (by (with_reducible repeat (first | apply Kd.R_alloc | apply Kd.R_drewN | apply Kd.R_drew)); exact HO168.out))) (Kd.R_lt (by (with_reducible repeat (first | apply Kd.R_alloc | apply Kd.R_drewN | apply Kd.R_drew)); exact HO174.out))) (Kd.R_lt (by (with_reducible repeat (first | apply Kd.R_alloc | apply Kd.R_drewN | apply Kd.R_drew)); exact HO178.out))) (below_size (by repeat (first | (with_reducible first | exact HB.out | apply below_alloc | apply pw_below_drewN | apply below_drew1) | exact HB.out)))); have n5_ := Aside0.mk (Kd.N_lower (Kd.N_mono (ok' := fun k_ => some k_ ≠ (v183 : Value).ownBlock ∧ some k_ ≠ (.slice Ao10 t166.length co10 : Value).ownBlock ∧ some k_ ≠ (.slice Ao11 t169.length co11 : Value).ownBlock ∧ some k_ ≠ (.slice Ao15 t172.length co15 : Value).ownBlock ∧ some k_ ≠ (.slice Ao16 y176.length co16 : Value).ownBlock) ho1 (fun k_ hk_ => ⟨hk_.2, (Kd.fresh' (Kd.R_lt (by (with_reducible repeat (first | apply Kd.R_alloc | apply Kd.R_drewN | apply Kd.R_drew)); exact HO168.out)) k_ hk_.1), (Kd.fresh' (Kd.N_lt (by (with_reducible repeat (first | apply Kd.N_alloc | apply Kd.N_drewN | apply Kd.N_drew)); exact HO171.out)) k_ hk_.1), (Kd.fresh' (Kd.R_lt (by (with_reducible repeat (first | apply Kd.R_alloc | apply Kd.R_drewN | apply Kd.R_drew)); exact HO174.out)) k_ hk_.1), (Kd.fresh' (Kd.R_lt (by (with_reducible repeat (first | apply Kd.R_alloc | apply Kd.R_drewN | apply Kd.R_drew)); exact HO178.out)) k_ hk_.1)⟩)) (below_size (by repeat (first | (with_reducible first | exact HB.out | apply below_alloc | apply pw_below_drewN | apply below_drew1) | exact HB.out)))); have n6_ := Aside0.mk (below_step (by repeat (first | (with_reducible first | exact HB.out | apply below_alloc | apply pw_below_drewN | apply below_drew1) | exact HB.out)) hb); clear HO168; clear HO171; clear HO174; clear HO178; clear HB; have HO168 := n0_; have HO171 := n1_; have HO174 := n2_; have HO178 := n3_; have HO184 := n4_; have HO187 := n5_; have HB := n6_; clear n0_ n1_ n2_ n3_ n4_ n5_ n6_; (try clear hb); (try clear hb2); (try clear hk); (try clear hi); (try clear ho0); (try clear ho1); obtain ⟨Ao18, co18, eo18⟩ := Kd.R_slice HO184.out; subst eo18; obtain ⟨Ao19, co19, eo19⟩ := Kd.N_slice HO187.out; subst eo19) | (go_at_call 24; (with_reducible refine (reach_Way.calls t180 t181 _ _ t182 _ _ t185 0 t188 _ ?side1 ?side2 ?side3 ?side4 A7.out).mono ?_); (case side1 => repeat (first | exact (Kd.R_reads' HO184.out).2.2 | (with_reducible refine Kd.C_alloc ?_ _) | (with_reducible refine Kd.C_drewN ?_ _) | (with_reducible refine Kd.C_drew ?_))); (case side2 => exact (Kd.R_reads' HO184.out).2.1); (case side3 => repeat (first | exact (Kd.N_reads' HO187.out).2.2 | (with_reducible refine Kd.C_alloc ?_ _) | (with_reducible refine Kd.C_drewN ?_ _) | (with_reducible refine Kd.C_drew ?_))); (case side4 => exact (Kd.N_reads' HO187.out).2.1); rintro e w20 ⟨v189, rfl, ho0, hb⟩; have n0_ := Aside0.mk (Kd.R_elder' (by (with_reducible repeat (first | apply Kd.R_alloc | apply Kd.R_drewN | apply Kd.R_drew)); exact HO168.out) (Kd.R_base ho0) hb); have n1_ := Aside0.mk (Kd.N_elder' (by (with_reducible repeat (first | apply Kd.N_alloc | apply Kd.N_drewN | apply Kd.N_drew)); exact HO171.out) (Kd.R_base ho0) hb); have n2_ := Aside0.mk (Kd.R_elder' (by (with_reducible repeat (first | apply Kd.R_alloc | apply Kd.R_drewN | apply Kd.R_drew)); exact HO174.out) (Kd.R_base ho0) hb); have n3_ := Aside0.mk (Kd.R_elder' (by (with_reducible repeat (first | apply Kd.R_alloc | apply Kd.R_drewN | apply Kd.R_drew)); exact HO178.out) (Kd.R_base ho0) hb); have n4_ := Aside0.mk (Kd.R_elder' (by (with_reducible repeat (first | apply Kd.R_alloc | apply Kd.R_drewN | apply Kd.R_drew)); exact HO184.out) (Kd.R_base ho0) hb); have n5_ := Aside0.mk (Kd.N_elder' (by (with_reducible repeat (first | apply Kd.N_alloc | apply Kd.N_drewN | apply Kd.N_drew)); exact HO187.out) (Kd.R_base ho0) hb); have n6_ := Aside0.mk (Kd.R_lower (Kd.R_new' (Kd.R_new' (Kd.R_new' (Kd.R_new' ho0 (Kd.R_lt (by (with_reducible repeat (first | apply Kd.R_alloc | apply Kd.R_drewN | apply Kd.R_drew)); exact HO168.out))) (Kd.R_lt (by (with_reducible repeat (first | apply Kd.R_alloc | apply Kd.R_drewN | apply Kd.R_drew)); exact HO174.out))) (Kd.R_lt (by (with_reducible repeat (first | apply Kd.R_alloc | apply Kd.R_drewN | apply Kd.R_drew)); exact HO178.out))) (Kd.R_lt (by (with_reducible repeat (first | apply Kd.R_alloc | apply Kd.R_drewN | apply Kd.R_drew)); exact HO184.out))) (below_size (by repeat (first | (with_reducible first | exact HB.out | apply below_alloc | apply pw_below_drewN | apply below_drew1) | exact HB.out)))); have n7_ := Aside0.mk (below_step (by repeat (first | (with_reducible first | exact HB.out | apply below_alloc | apply pw_below_drewN | apply below_drew1) | exact HB.out)) hb); clear HO168; clear HO171; clear HO174; clear HO178; clear HO184; clear HO187; clear HB; have HO168 := n0_; have HO171 := n1_; have HO174 := n2_; have HO178 := n3_; have HO184 := n4_; have HO187 := n5_; have HO190 := n6_; have HB := n7_; clear n0_ n1_ n2_ n3_ n4_ n5_ n6_ n7_; (try clear hb); (try clear hb2); (try clear hk); (try clear hi); (try clear ho0)) | ((with_reducible refine gate_dst (N := 18) rfl ?_); (try (refine gate_guard (by rfl) ?_; dsimp only)); refine Kd.R_lit (Kd.int .i64) _ 3 ?hg (N := 18) ?hd (xs := ([0, 1, 0] : List Int)) (inner := [.int .i64 0, .int .i64 1, .int .i64 0]) (ok := fun _ => True) (okp := fun _ => True) ?hr ?hp (fun _ hk => hk) trivial (Below.refl _ _) (Nat.le_refl _) (by simp) ?_; (case hd => rfl); (case hg => rfl); (case hr => first | (go_simp; done) | (go_simp; rfl)); (case hp => exact (Reps.one (show Kd.M (Kd.int .i64) _ _ _ 0 [.int .i64 0] from rfl) (Reps.one (show Kd.M (Kd.int .i64) _ _ _ 1 [.int .i64 1] from rfl) (Reps.one (show Kd.M (Kd.int .i64) _ _ _ 0 [.int .i64 0] from rfl) (Reps.none _ _))))); intro v192 w21 ho22 hb hg_ hnew_; clear hg_ hnew_; (first | rw [← Ny191.out] at ho22 | (simp only [Int.reduceToNat] at ho22; rw [← Ny191.out] at ho22)); have n0_ := Aside0.mk (Kd.R_elder' (by (with_reducible repeat (first | apply Kd.R_alloc | apply Kd.R_drewN | apply Kd.R_drew)); exact HO168.out) (Kd.R_base ho22) hb); have n1_ := Aside0.mk (Kd.N_elder' (by (with_reducible repeat (first | apply Kd.N_alloc | apply Kd.N_drewN | apply Kd.N_drew)); exact HO171.out) (Kd.R_base ho22) hb); have n2_ := Aside0.mk (Kd.R_elder' (by (with_reducible repeat (first | apply Kd.R_alloc | apply Kd.R_drewN | apply Kd.R_drew)); exact HO174.out) (Kd.R_base ho22) hb); have n3_ := Aside0.mk (Kd.R_elder' (by (with_reducible repeat (first | apply Kd.R_alloc | apply Kd.R_drewN | apply Kd.R_drew)); exact HO178.out) (Kd.R_base ho22) hb); have n4_ := Aside0.mk (Kd.R_elder' (by (with_reducible repeat (first | apply Kd.R_alloc | apply Kd.R_drewN | apply Kd.R_drew)); exact HO184.out) (Kd.R_base ho22) hb); have n5_ := Aside0.mk (Kd.N_elder' (by (with_reducible repeat (first | apply Kd.N_alloc | apply Kd.N_drewN | apply Kd.N_drew)); exact HO187.out) (Kd.R_base ho22) hb); have n6_ := Aside0.mk (Kd.R_elder' (by (with_reducible repeat (first | apply Kd.R_alloc | apply Kd.R_drewN | apply Kd.R_drew)); exact HO190.out) (Kd.R_base ho22) hb); have n7_ := Aside0.mk (Kd.R_lower (Kd.R_new' (Kd.R_new' (Kd.R_new' (Kd.R_new' (Kd.R_new' ho22 (Kd.R_lt (by (with_reducible repeat (first | apply Kd.R_alloc | apply Kd.R_drewN | apply Kd.R_drew)); exact HO168.out))) (Kd.R_lt (by (with_reducible repeat (first | apply Kd.R_alloc | apply Kd.R_drewN | apply Kd.R_drew)); exact HO174.out))) (Kd.R_lt (by (with_reducible repeat (first | apply Kd.R_alloc | apply Kd.R_drewN | apply Kd.R_drew)); exact HO178.out))) (Kd.R_lt (by (with_reducible repeat (first | apply Kd.R_alloc | apply Kd.R_drewN | apply Kd.R_drew)); exact HO184.out))) (Kd.R_lt (by (with_reducible repeat (first | apply Kd.R_alloc | apply Kd.R_drewN | apply Kd.R_drew)); exact HO190.out))) (below_size (by repeat (first | (with_reducible first | exact HB.out | apply below_alloc | apply pw_below_drewN | apply below_drew1) | exact HB.out)))); have n8_ := Aside0.mk (below_step (by repeat (first | (with_reducible first | exact HB.out | apply below_alloc | apply pw_below_drewN | apply below_drew1) | exact HB.out)) hb); clear HO168; clear HO171; clear HO174; clear HO178; clear HO184; clear HO187; clear HO190; clear HB; have HO168 := n0_; have HO171 := n1_; have HO174 := n2_; have HO178 := n3_; have HO184 := n4_; have HO187 := n5_; have HO190 := n6_; have HO193 := n7_; have HB := n8_; clear n0_ n1_ n2_ n3_ n4_ n5_ n6_ n7_ n8_; clear hb ho22; obtain ⟨Ao23, co23, eo23⟩ := Kd.R_slice HO190.out; subst eo23; obtain ⟨Ao24, co24, eo24⟩ := Kd.R_slice HO193.out; subst eo24) | (go_at_call 14; (with_reducible refine (gramaryebase_SameInts.calls k _ _ t188 _ _ y191 t194 _ ?side1 ?side2 ?side3 ?side4 A8.out).mono ?_); (case side1 => repeat (first | exact (Kd.R_reads' HO190.out).2.2 | (with_reducible refine Kd.C_alloc ?_ _) | (with_reducible refine Kd.C_drewN ?_ _) | (with_reducible refine Kd.C_drew ?_))); (case side2 => exact (Kd.R_reads' HO190.out).2.1); (case side3 => repeat (first | exact (Kd.R_reads' HO193.out).2.2 | (with_reducible refine Kd.C_alloc ?_ _) | (with_reducible refine Kd.C_drewN ?_ _) | (with_reducible refine Kd.C_drew ?_))); (case side4 => exact (Kd.R_reads' HO193.out).2.1); rintro e w' ⟨rfl, ⟨nd, rfl⟩⟩))
      go_ret
      exact ⟨by first | rfl | (simp [errW_none, errW_some] <;> rfl) | (simp [*, errW_none, errW_some] <;> rfl), by repeat (first | (with_reducible first | exact HB.out | apply below_alloc | apply pw_below_drewN | apply below_drew1) | exact HB.out)⟩
    · replace c5 := Bool.eq_false_iff.mpr c5
      subst c5
      have H1 : (some false) = some r := by rw [if_neg (show ¬ (false = true) by decide)] at H; exact H
      clear H
      have H := H1
      clear H1
      obtain rfl := Option.some.inj H
      go_enter Try.func26, Try.ntmps26
      go_wp2_with (first | ((with_reducible refine gate_callee (f := 57) rfl ?_); refine goesL_ (some 4) rfl rfl Try.func57 (by kernel_rfl) rfl #[] rfl (by (try simp only [List.map_toArray, List.map_cons, List.map_nil]); first | done | rfl | (simp only [List.length_drop, List.length_take]; rfl)) ?_; (with_reducible refine (gramaryelaw11_sample.calls  t164 t165 t166 t169 _ A1.out).mono ?_); rintro e w25 ⟨v167, v170, rfl, ho0, ho1, hb⟩; refine ⟨_, rfl, ?_⟩; have n0_ := Aside0.mk (Kd.R_lower (Kd.R_mono (ok' := fun k_ => True) ho0 (fun _ hk_ => trivial)) (below_size (by repeat (first | (with_reducible first | exact HB.out | apply below_alloc | apply pw_below_drewN | apply below_drew1) | exact HB.out)))); have n1_ := Aside0.mk (Kd.N_lower (Kd.N_mono (ok' := fun k_ => some k_ ≠ (v167 : Value).ownBlock) ho1 (fun k_ hk_ => hk_.2)) (below_size (by repeat (first | (with_reducible first | exact HB.out | apply below_alloc | apply pw_below_drewN | apply below_drew1) | exact HB.out)))); have n2_ := Aside0.mk (below_step (by repeat (first | (with_reducible first | exact HB.out | apply below_alloc | apply pw_below_drewN | apply below_drew1) | exact HB.out)) hb); clear HB; have HO168 := n0_; have HO171 := n1_; have HB := n2_; clear n0_ n1_ n2_; (try clear hb); (try clear hb2); (try clear hk); (try clear hi); (try clear ho0); (try clear ho1); obtain ⟨Ao26, co26, eo26⟩ := Kd.R_slice HO168.out; subst eo26; obtain ⟨Ao27, co27, eo27⟩ := Kd.N_slice HO171.out; subst eo27) | ((with_reducible refine gate_callee (f := 29) rfl ?_); refine goesL_ (some 5) rfl rfl Try.func29 (by kernel_rfl) rfl #[.agg #[.int .i64 t164, .int .i64 t165, .slice Ao26 t166.length co26, .slice Ao27 t169.length co27]] rfl (by (try simp only [List.map_toArray, List.map_cons, List.map_nil]); first | done | rfl | (simp only [List.length_drop, List.length_take]; rfl)) ?_; (with_reducible refine (reach_Left.calls t164 t165 _ _ t166 _ _ t169 t172 t175 _ ?side1 ?side2 ?side3 ?side4 A2.out).mono ?_); (case side1 => repeat (first | exact (Kd.R_reads' HO168.out).2.2 | (with_reducible refine Kd.C_alloc ?_ _) | (with_reducible refine Kd.C_drewN ?_ _) | (with_reducible refine Kd.C_drew ?_))); (case side2 => exact (Kd.R_reads' HO168.out).2.1); (case side3 => repeat (first | exact (Kd.N_reads' HO171.out).2.2 | (with_reducible refine Kd.C_alloc ?_ _) | (with_reducible refine Kd.C_drewN ?_ _) | (with_reducible refine Kd.C_drew ?_))); (case side4 => exact (Kd.N_reads' HO171.out).2.1); rintro e w28 ⟨v173, rfl, ho0, hb⟩; refine ⟨_, rfl, ?_⟩; have n0_ := Aside0.mk (Kd.R_elder' (by (with_reducible repeat (first | apply Kd.R_alloc | apply Kd.R_drewN | apply Kd.R_drew)); exact HO168.out) (Kd.R_base ho0) hb); have n1_ := Aside0.mk (Kd.N_elder' (by (with_reducible repeat (first | apply Kd.N_alloc | apply Kd.N_drewN | apply Kd.N_drew)); exact HO171.out) (Kd.R_base ho0) hb); have n2_ := Aside0.mk (Kd.R_lower (Kd.R_new' ho0 (Kd.R_lt (by (with_reducible repeat (first | apply Kd.R_alloc | apply Kd.R_drewN | apply Kd.R_drew)); exact HO168.out))) (below_size (by repeat (first | (with_reducible first | exact HB.out | apply below_alloc | apply pw_below_drewN | apply below_drew1) | exact HB.out)))); have n3_ := Aside0.mk (below_step (by repeat (first | (with_reducible first | exact HB.out | apply below_alloc | apply pw_below_drewN | apply below_drew1) | exact HB.out)) hb); clear HO168; clear HO171; clear HB; have HO168 := n0_; have HO171 := n1_; have HO174 := n2_; have HB := n3_; clear n0_ n1_ n2_ n3_; (try clear hb); (try clear hb2); (try clear hk); (try clear hi); (try clear ho0)) | ((with_reducible refine gate_dst (N := 12) rfl ?_); (try (refine gate_guard (by rfl) ?_; dsimp only)); refine Kd.R_lit (Kd.int .i64) _ 3 ?hg (N := 12) ?hd (xs := ([0, 1] : List Int)) (inner := [.int .i64 0, .int .i64 1]) (ok := fun _ => True) (okp := fun _ => True) ?hr ?hp (fun _ hk => hk) trivial (Below.refl _ _) (Nat.le_refl _) (by simp) ?_; (case hd => rfl); (case hg => rfl); (case hr => first | (go_simp; done) | (go_simp; rfl)); (case hp => exact (Reps.one (show Kd.M (Kd.int .i64) _ _ _ 0 [.int .i64 0] from rfl) (Reps.one (show Kd.M (Kd.int .i64) _ _ _ 1 [.int .i64 1] from rfl) (Reps.none _ _)))); intro v177 w29 ho30 hb hg_ hnew_; clear hg_ hnew_; (first | rw [← Ny176.out] at ho30 | (simp only [Int.reduceToNat] at ho30; rw [← Ny176.out] at ho30)); have n0_ := Aside0.mk (Kd.R_elder' (by (with_reducible repeat (first | apply Kd.R_alloc | apply Kd.R_drewN | apply Kd.R_drew)); exact HO168.out) (Kd.R_base ho30) hb); have n1_ := Aside0.mk (Kd.N_elder' (by (with_reducible repeat (first | apply Kd.N_alloc | apply Kd.N_drewN | apply Kd.N_drew)); exact HO171.out) (Kd.R_base ho30) hb); have n2_ := Aside0.mk (Kd.R_elder' (by (with_reducible repeat (first | apply Kd.R_alloc | apply Kd.R_drewN | apply Kd.R_drew)); exact HO174.out) (Kd.R_base ho30) hb); have n3_ := Aside0.mk (Kd.R_lower (Kd.R_new' (Kd.R_new' ho30 (Kd.R_lt (by (with_reducible repeat (first | apply Kd.R_alloc | apply Kd.R_drewN | apply Kd.R_drew)); exact HO168.out))) (Kd.R_lt (by (with_reducible repeat (first | apply Kd.R_alloc | apply Kd.R_drewN | apply Kd.R_drew)); exact HO174.out))) (below_size (by repeat (first | (with_reducible first | exact HB.out | apply below_alloc | apply pw_below_drewN | apply below_drew1) | exact HB.out)))); have n4_ := Aside0.mk (below_step (by repeat (first | (with_reducible first | exact HB.out | apply below_alloc | apply pw_below_drewN | apply below_drew1) | exact HB.out)) hb); clear HO168; clear HO171; clear HO174; clear HB; have HO168 := n0_; have HO171 := n1_; have HO174 := n2_; have HO178 := n3_; have HB := n4_; clear n0_ n1_ n2_ n3_ n4_; clear hb ho30; obtain ⟨Ao31, co31, eo31⟩ := Kd.R_slice HO174.out; subst eo31; obtain ⟨Ao32, co32, eo32⟩ := Kd.R_slice HO178.out; subst eo32) | (go_at_call 14; (with_reducible refine (gramaryebase_SameInts.calls k _ _ t172 _ _ y176 false _ ?side1 ?side2 ?side3 ?side4 A4.out).mono ?_); (case side1 => repeat (first | exact (Kd.R_reads' HO174.out).2.2 | (with_reducible refine Kd.C_alloc ?_ _) | (with_reducible refine Kd.C_drewN ?_ _) | (with_reducible refine Kd.C_drew ?_))); (case side2 => exact (Kd.R_reads' HO174.out).2.1); (case side3 => repeat (first | exact (Kd.R_reads' HO178.out).2.2 | (with_reducible refine Kd.C_alloc ?_ _) | (with_reducible refine Kd.C_drewN ?_ _) | (with_reducible refine Kd.C_drew ?_))); (case side4 => exact (Kd.R_reads' HO178.out).2.1); rintro e w' ⟨rfl, ⟨nd, rfl⟩⟩))
      go_ret
      exact ⟨by first | rfl | (simp [errW_none, errW_some] <;> rfl) | (simp [*, errW_none, errW_some] <;> rfl), by repeat (first | (with_reducible first | exact HB.out | apply below_alloc | apply pw_below_drewN | apply below_drew1) | exact HB.out)⟩
  · rw [if_neg c3] at H
    have c3b0 : (t175 == 0) = false := beq_eq_false_iff_ne.mpr c3
    have c3b1 : (t175 != 0) = true := bne_iff_ne.mpr c3
    obtain rfl := Option.some.inj H
    go_enter Try.func26, Try.ntmps26
    go_wp2_with (first | ((with_reducible refine gate_callee (f := 57) rfl ?_); refine goesL_ (some 4) rfl rfl Try.func57 (by kernel_rfl) rfl #[] rfl (by (try simp only [List.map_toArray, List.map_cons, List.map_nil]); first | done | rfl | (simp only [List.length_drop, List.length_take]; rfl)) ?_; (with_reducible refine (gramaryelaw11_sample.calls  t164 t165 t166 t169 _ A1.out).mono ?_); rintro e w33 ⟨v167, v170, rfl, ho0, ho1, hb⟩; refine ⟨_, rfl, ?_⟩; have n0_ := Aside0.mk (Kd.R_lower (Kd.R_mono (ok' := fun k_ => True) ho0 (fun _ hk_ => trivial)) (below_size (by repeat (first | (with_reducible first | exact HB.out | apply below_alloc | apply pw_below_drewN | apply below_drew1) | exact HB.out)))); have n1_ := Aside0.mk (Kd.N_lower (Kd.N_mono (ok' := fun k_ => some k_ ≠ (v167 : Value).ownBlock) ho1 (fun k_ hk_ => hk_.2)) (below_size (by repeat (first | (with_reducible first | exact HB.out | apply below_alloc | apply pw_below_drewN | apply below_drew1) | exact HB.out)))); have n2_ := Aside0.mk (below_step (by repeat (first | (with_reducible first | exact HB.out | apply below_alloc | apply pw_below_drewN | apply below_drew1) | exact HB.out)) hb); clear HB; have HO168 := n0_; have HO171 := n1_; have HB := n2_; clear n0_ n1_ n2_; (try clear hb); (try clear hb2); (try clear hk); (try clear hi); (try clear ho0); (try clear ho1); obtain ⟨Ao34, co34, eo34⟩ := Kd.R_slice HO168.out; subst eo34; obtain ⟨Ao35, co35, eo35⟩ := Kd.N_slice HO171.out; subst eo35) | ((with_reducible refine gate_callee (f := 29) rfl ?_); refine goesL_ (some 5) rfl rfl Try.func29 (by kernel_rfl) rfl #[.agg #[.int .i64 t164, .int .i64 t165, .slice Ao34 t166.length co34, .slice Ao35 t169.length co35]] rfl (by (try simp only [List.map_toArray, List.map_cons, List.map_nil]); first | done | rfl | (simp only [List.length_drop, List.length_take]; rfl)) ?_; (with_reducible refine (reach_Left.calls t164 t165 _ _ t166 _ _ t169 t172 t175 _ ?side1 ?side2 ?side3 ?side4 A2.out).mono ?_); (case side1 => repeat (first | exact (Kd.R_reads' HO168.out).2.2 | (with_reducible refine Kd.C_alloc ?_ _) | (with_reducible refine Kd.C_drewN ?_ _) | (with_reducible refine Kd.C_drew ?_))); (case side2 => exact (Kd.R_reads' HO168.out).2.1); (case side3 => repeat (first | exact (Kd.N_reads' HO171.out).2.2 | (with_reducible refine Kd.C_alloc ?_ _) | (with_reducible refine Kd.C_drewN ?_ _) | (with_reducible refine Kd.C_drew ?_))); (case side4 => exact (Kd.N_reads' HO171.out).2.1); rintro e w36 ⟨v173, rfl, ho0, hb⟩; refine ⟨_, rfl, ?_⟩; have n0_ := Aside0.mk (Kd.R_elder' (by (with_reducible repeat (first | apply Kd.R_alloc | apply Kd.R_drewN | apply Kd.R_drew)); exact HO168.out) (Kd.R_base ho0) hb); have n1_ := Aside0.mk (Kd.N_elder' (by (with_reducible repeat (first | apply Kd.N_alloc | apply Kd.N_drewN | apply Kd.N_drew)); exact HO171.out) (Kd.R_base ho0) hb); have n2_ := Aside0.mk (Kd.R_lower (Kd.R_new' ho0 (Kd.R_lt (by (with_reducible repeat (first | apply Kd.R_alloc | apply Kd.R_drewN | apply Kd.R_drew)); exact HO168.out))) (below_size (by repeat (first | (with_reducible first | exact HB.out | apply below_alloc | apply pw_below_drewN | apply below_drew1) | exact HB.out)))); have n3_ := Aside0.mk (below_step (by repeat (first | (with_reducible first | exact HB.out | apply below_alloc | apply pw_below_drewN | apply below_drew1) | exact HB.out)) hb); clear HO168; clear HO171; clear HB; have HO168 := n0_; have HO171 := n1_; have HO174 := n2_; have HB := n3_; clear n0_ n1_ n2_ n3_; (try clear hb); (try clear hb2); (try clear hk); (try clear hi); (try clear ho0)))
    go_ret
    exact ⟨by first | rfl | (simp [errW_none, errW_some] <;> rfl) | (simp [*, errW_none, errW_some] <;> rfl), by repeat (first | (with_reducible first | exact HB.out | apply below_alloc | apply pw_below_drewN | apply below_drew1) | exact HB.out)⟩
def reach_Begins.f (a0 a1 : Int) (l2 : List Int) (l3 : List S51) (n m : Int) : Option Bool :=
  if thereB a0 a1 l2 l3 [n, m] = true then (empty_Nothing.f a0 a1 l2 l3).bind fun p => if p.1.length = l2.length then toF (begG p.1 l2 l3) ((begG p.1 l2 l3).getD n.toNat []) m (l2.length + 2) else none else some false
theorem row_two {w : World} {g : Nat} (a b : Int) (h : w.heap[g]? = some (.cells #[.int .i64 a, .int .i64 b] 3 (0, 0))) : Kd.C (Kd.int .i64) w (some ⟨g, 0, none⟩) 2 [a, b] := by
  refine ⟨rfl, by decide, fun _ => ⟨_, rfl, fun j x hj => ⟨[.int .i64 x], rfl, rfl, fun k u hk => ?_⟩⟩⟩
  obtain ⟨rfl, rfl⟩ : k = 0 ∧ u = .int .i64 x := by
    cases k with
    | zero => exact ⟨rfl, by simpa using hk.symm⟩
    | succ k => simp at hk
  match j, hj with
  | 0, hj => obtain rfl := (show a = x by simpa using hj); exact (blk_cell h 0).trans rfl
  | 1, hj => obtain rfl := (show b = x by simpa using hj); exact (blk_cell h 1).trans rfl
  | j + 2, hj => simp at hj
set_option maxHeartbeats 4000000 in
theorem reach_Begins.calls (toks look : Int) (A2 : Option Addr) (c2 : Nat) (o : List Int) (A3 : Option Addr) (c3 : Nat) (L : List S51) (n m : Int) (r : Bool) (w : World)
    (r2 : Kd.C (Kd.int .i64) w A2 o.length o) (l2 : o.length ≤ c2) (r3 : Kd.C k51 w A3 L.length L) (l3 : L.length ≤ c3) (h : reach_Begins.f toks look o L n m = some r) :
    Calls Try.prog 30 #[.agg #[.int .i64 toks, .int .i64 look, .slice A2 o.length c2, .slice A3 L.length c3], .int .i64 n, .int .i64 m] w fun e w' => e = .returned (.bool r) ∧ Below w.heap.size w w' := by
  obtain ⟨W1, hW1⟩ : ∃ W1, W1 = (w.alloc (.cells #[.int .i64 toks, .int .i64 look, .slice A2 o.length c2, .slice A3 L.length c3] 25)).alloc (.cells #[.int .i64 n, .int .i64 m] 3) := ⟨_, rfl⟩
  have hb1 : Below w.heap.size w W1 := by rw [hW1]; exact below_alloc (below_alloc (Below.refl _ _) _) _
  have hbx : W1.heap[w.heap.size]? = some (.cells #[.int .i64 toks, .int .i64 look, .slice A2 o.length c2, .slice A3 L.length c3] 25 (0, 0)) := by rw [hW1]; exact hp_old (hp_new rfl)
  have hby : W1.heap[w.heap.size + 1]? = some (.cells #[.int .i64 n, .int .i64 m] 3 (0, 0)) := by rw [hW1]; exact hp_new (by simp)
  have HT := Aside0.mk (reach_there_calls toks look A2 c2 o A3 c3 L (some ⟨w.heap.size + 1, 0, none⟩) 2 [n, m] W1 (Kd.C_below r2 hb1) l2 (Kd.C_below r3 hb1) l3 (row_two n m hby) (Nat.le_refl _))
  have HR2 := Aside0.mk r2
  have HR3 := Aside0.mk r3
  have HB1 := Aside0.mk hb1
  have x0 : W1.cell? ⟨w.heap.size, 0, none⟩ = some (.int .i64 toks) := (blk_cell hbx 0).trans rfl
  have x1 : W1.cell? ⟨w.heap.size, 1, none⟩ = some (.int .i64 look) := (blk_cell hbx 1).trans rfl
  have x2 : W1.cell? ⟨w.heap.size, 2, none⟩ = some (.slice A2 o.length c2) := (blk_cell hbx 2).trans rfl
  have x3 : W1.cell? ⟨w.heap.size, 3, none⟩ = some (.slice A3 L.length c3) := (blk_cell hbx 3).trans rfl
  have HH := Aside0.mk (show ∀ q, thereB toks look o L [n, m] = q → (if q = true then (empty_Nothing.f toks look o L).bind fun p => if p.1.length = o.length then toF (begG p.1 o L) ((begG p.1 o L).getD n.toNat []) m (o.length + 2) else none else some false) = some r from fun q hq => by rw [← hq]; exact h)
  have HIN := Aside0.mk (show thereB toks look o L [n, m] = true → _ from fun e => there_in e)
  clear r2 r3 hb1 hbx hby h
  generalize thereB toks look o L [n, m] = q at HT HH HIN
  have HH2 := Aside0.mk (HH.out q rfl)
  clear HH
  go_enter Try.func30, Try.ntmps30
  go_wp2_with fail
  rw [← hW1]
  clear hW1
  refine HT.out.mono ?_
  rintro e w1 ⟨rfl, hb2⟩
  have HB2 := Aside0.mk (below_step HB1.out hb2)
  have y0 := pw_cell_below hb2 x0
  have y1 := pw_cell_below hb2 x1
  have y2 := pw_cell_below hb2 x2
  have y3 := pw_cell_below hb2 x3
  clear x0 x1 x2 x3 hb2 HT
  cases q with
  | false =>
    have hh := HH2.out
    rw [if_neg (by decide)] at hh
    injection hh with hh
    subst hh
    go_wp2_with fail
    go_ret
    exact ⟨rfl, HB2.out⟩
  | true =>
    have hh := HH2.out
    rw [if_pos rfl] at hh
    obtain ⟨⟨mk, q2⟩, hN, h2⟩ := Option.bind_eq_some_iff.1 hh
    simp only at h2
    by_cases hml : mk.length = o.length
    · rw [if_pos hml] at h2
      obtain ⟨hmay, hin⟩ := HIN.out rfl
      have hn := hin n List.mem_cons_self
      have HBG := Aside0.mk (reach_begins_calls toks look A2 c2 o A3 c3 L mk q2 w1 (Kd.C_below HR2.out HB2.out) l2 (Kd.C_below HR3.out HB2.out) l3 hmay hN hml)
      have hO2 : o.length ≤ 500 := (bnf_may_ok hmay).2.1
      have HII := Aside0.mk (begG_ok hmay mk)
      have H2 := Aside0.mk h2
      have hn0 := hn.1
      have hn1 := hn.2
      clear hh HH2 h2 hN hml hmay hin hn HIN
      go_wp2_with fail
      refine HBG.out.mono ?_
      rintro e w2 ⟨g, rfl, hS, hb3⟩
      have hS : Steps w2 (fun k => w1.heap.size ≤ k) g (begG mk o L) := hS
      have HB3 := Aside0.mk (below_step HB2.out hb3)
      have hll := HII.out.2
      have hkl : n.toNat < (begG mk o L).length := by omega
      have e : (begG mk o L).getD n.toNat [] = (begG mk o L)[n.toNat] := by rw [List.getD_eq_getElem?_getD, List.getElem?_eq_getElem hkl]; rfl
      have hin := HII.out.1 n.toNat
      have h2 := H2.out
      rw [e] at hin h2
      obtain ⟨Ar, cr, hcr, -, -, hQr, -⟩ := hS.row n.toNat hkl
      have HTO0 := reach_to_calls g o.length (begG mk o L) Ar cr (begG mk o L)[n.toNat] m w2 hS hQr (by omega) (by rw [hll]; exact HII.out.1) (by rw [hll]; exact hin) (o.length + 2) (by omega) r h2
      rw [hll] at HTO0
      have HTO := Aside0.mk HTO0
      clear HTO0 h2 H2 hin e hS hQr hb3 HBG y0 y1 y2 y3
      generalize (begG mk o L)[n.toNat] = row at hcr HTO
      clear hkl hll HII
      go_wp2_with fail
      refine HTO.out.mono ?_
      rintro e w3 ⟨rfl, hb4⟩
      have HB4 := Aside0.mk (below_step HB3.out hb4)
      clear hb4 HTO hcr
      go_wp2_with fail
      go_ret
      exact ⟨rfl, HB4.out⟩
    · rw [if_neg hml] at h2
      exact absurd h2 (by simp)
end Go.Proofs.Ytmpdilifoblnaaa.MReachOver
end
section
namespace Go.Proofs.Ytmpdilifoblnaaa.MReachOver
open Go.RowKit Go.Proofs.YtmpdilifoblnaaaW.PrintWords Go.Proofs.YtmpdilifoblnaaaW.PrintLast Go.Proofs.YtmpdilifoblnaaaW.PrintMore Go.Proofs.Ytmpdilifoblnaaa.Fun Go.Proofs.Ytmpdilifoblnaaa.Mem
attribute [local go_sem] max2_int min2_int max_two min_two max_three min_three max_four min_four
set_option linter.unusedVariables false
set_option linter.unusedSimpArgs false
mutual
def gramaryelaw11_ReachOver.j0 : Nat → Int → Bool → Int → Int → List Int → List (S51) → Option (Bool)
  | 0, _, _, _, _, _, _ => none
  | k + 1, x1, x31, x196000, x196001, x196002, x196003 => if x31 = true then (some false) else ((reach_Way.f x196000 x196001 x196002 x196003 x1).bind fun t208 => (gramaryelaw11_ReachOver.l0 k t208 0 x196000 x196001 x196002 x196003))
def gramaryelaw11_ReachOver.l0 : Nat → List Int → Int → Int → Int → List Int → List (S51) → Option (Bool)
  | 0, _, _, _, _, _, _ => none
  | k + 1, x9, x10, x196000, x196001, x196002, x196003 => if x10 < (x9.length : Int) then (if 0 ≤ x10 then ((reach_Begins.f x196000 x196001 x196002 x196003 (rd x9 x10) (rd x9 x10)).bind fun t213 => (if t213 = true then (gramaryelaw11_ReachOver.l0 k x9 (wrap64 (x10 + 1)) x196000 x196001 x196002 x196003) else (some false))) else (none)) else (some true)
end
def gramaryelaw11_ReachOver.f (k : Nat) (a0_0 : Int) (a0_1 : Int) (l0_2 : List Int) (l0_3 : List (S51)) (a1 : Int) (a2 : Int) (a3 : Int) : Option (Bool) := (gramaryelaw11_works.f k).bind fun t196 => (if t196 = true then ((gramaryelaw11_few.f k a0_0 a0_1 l0_2 l0_3).bind fun bt197 => ((reach_Begins.f bt197.1 bt197.2.1 bt197.2.2.1 bt197.2.2.2 a1 a2).bind fun t205 => (if t205 = true then ((reach_Begins.f bt197.1 bt197.2.1 bt197.2.2.1 bt197.2.2.2 a2 a3).bind fun t206 => (if t206 = true then ((reach_Begins.f bt197.1 bt197.2.1 bt197.2.2.1 bt197.2.2.2 a1 a3).bind fun t207 => (gramaryelaw11_ReachOver.j0 k a1 (!t207) bt197.1 bt197.2.1 bt197.2.2.1 bt197.2.2.2)) else (gramaryelaw11_ReachOver.j0 k a1 false bt197.1 bt197.2.1 bt197.2.2.1 bt197.2.2.2))) else (gramaryelaw11_ReachOver.j0 k a1 false bt197.1 bt197.2.1 bt197.2.2.1 bt197.2.2.2)))) else (some false))
def gramaryelaw11_ReachOver.T10 : Bool × List (List Nat × List Nat) := (true, [([], []), ([], []), ([], []), ([1, 2], [1, 2]), ([3], [3]), ([], []), ([], []), ([5, 6], [5, 6]), ([7], [7]), ([0, 4, 8], [0, 4, 8]), ([9], [9])])
def gramaryelaw11_ReachOver.B10 : List Nat := [0, 0, 0, 6, 14, 0, 0, 96, 224, 511, 1023]
theorem gramaryelaw11_ReachOver.tab10 : rtab .any (opsOf Try.f8 10) = gramaryelaw11_ReachOver.T10 := by kernel_rfl
theorem gramaryelaw11_ReachOver.bits10 : waitsOk gramaryelaw11_ReachOver.T10.2 gramaryelaw11_ReachOver.B10 = true := by kernel_rfl
set_option maxHeartbeats 8000000 in
set_option maxRecDepth 100000 in
theorem gramaryelaw11_ReachOver.calls (k : Nat) (a0_0 : Int) (a0_1 : Int) (A0_2 : Option Addr) (c0_2 : Nat) (l0_2 : List Int) (A0_3 : Option Addr) (c0_3 : Nat) (l0_3 : List (S51)) (a1 : Int) (a2 : Int) (a3 : Int) (r : Bool) (w : World) (hr0_2 : Kd.C (Kd.int .i64) w A0_2 l0_2.length l0_2) (hc0_2 : l0_2.length ≤ c0_2) (hr0_3 : Kd.C k51 w A0_3 l0_3.length l0_3) (hc0_3 : l0_3.length ≤ c0_3) (h : gramaryelaw11_ReachOver.f k a0_0 a0_1 l0_2 l0_3 a1 a2 a3 = some r) :
    Calls Try.prog 8 #[.agg #[.int .i64 a0_0, .int .i64 a0_1, .slice A0_2 l0_2.length c0_2, .slice A0_3 l0_3.length c0_3], .int .i64 a1, .int .i64 a2, .int .i64 a3] w fun e w' => e = .returned (.bool r) ∧ Below w.heap.size w w' := by
  have hu25 := Try.underlying25
  have HR0_2 := Aside0.mk hr0_2
  have HC0_2 := Aside0.mk hc0_2
  clear hr0_2 hc0_2
  have HR0_3 := Aside0.mk hr0_3
  have HC0_3 := Aside0.mk hc0_3
  clear hr0_3 hc0_3
  have HB := Aside0.mk (Below.refl w.heap.size w)
  have H : ((gramaryelaw11_works.f k).bind fun t196 => (if t196 = true then ((gramaryelaw11_few.f k a0_0 a0_1 l0_2 l0_3).bind fun bt197 => ((reach_Begins.f bt197.1 bt197.2.1 bt197.2.2.1 bt197.2.2.2 a1 a2).bind fun t205 => (if t205 = true then ((reach_Begins.f bt197.1 bt197.2.1 bt197.2.2.1 bt197.2.2.2 a2 a3).bind fun t206 => (if t206 = true then ((reach_Begins.f bt197.1 bt197.2.1 bt197.2.2.1 bt197.2.2.2 a1 a3).bind fun t207 => (gramaryelaw11_ReachOver.j0 k a1 (!t207) bt197.1 bt197.2.1 bt197.2.2.1 bt197.2.2.2)) else (gramaryelaw11_ReachOver.j0 k a1 false bt197.1 bt197.2.1 bt197.2.2.1 bt197.2.2.2))) else (gramaryelaw11_ReachOver.j0 k a1 false bt197.1 bt197.2.1 bt197.2.2.1 bt197.2.2.2)))) else (some false))) = some r := h
  clear h
  replace H := Option.bind_eq_some_iff.mp H
  obtain ⟨t196, A50, H⟩ := H
  replace H : (if t196 = true then ((gramaryelaw11_few.f k a0_0 a0_1 l0_2 l0_3).bind fun bt197 => ((reach_Begins.f bt197.1 bt197.2.1 bt197.2.2.1 bt197.2.2.2 a1 a2).bind fun t205 => (if t205 = true then ((reach_Begins.f bt197.1 bt197.2.1 bt197.2.2.1 bt197.2.2.2 a2 a3).bind fun t206 => (if t206 = true then ((reach_Begins.f bt197.1 bt197.2.1 bt197.2.2.1 bt197.2.2.2 a1 a3).bind fun t207 => (gramaryelaw11_ReachOver.j0 k a1 (!t207) bt197.1 bt197.2.1 bt197.2.2.1 bt197.2.2.2)) else (gramaryelaw11_ReachOver.j0 k a1 false bt197.1 bt197.2.1 bt197.2.2.1 bt197.2.2.2))) else (gramaryelaw11_ReachOver.j0 k a1 false bt197.1 bt197.2.1 bt197.2.2.1 bt197.2.2.2)))) else (some false)) = some r := H
  have A5 := Aside0.mk A50
  clear A50
  by_cases c6 : t196 = true
  · subst c6
    have H1 : ((gramaryelaw11_few.f k a0_0 a0_1 l0_2 l0_3).bind fun bt197 => ((reach_Begins.f bt197.1 bt197.2.1 bt197.2.2.1 bt197.2.2.2 a1 a2).bind fun t205 => (if t205 = true then ((reach_Begins.f bt197.1 bt197.2.1 bt197.2.2.1 bt197.2.2.2 a2 a3).bind fun t206 => (if t206 = true then ((reach_Begins.f bt197.1 bt197.2.1 bt197.2.2.1 bt197.2.2.2 a1 a3).bind fun t207 => (gramaryelaw11_ReachOver.j0 k a1 (!t207) bt197.1 bt197.2.1 bt197.2.2.1 bt197.2.2.2)) else (gramaryelaw11_ReachOver.j0 k a1 false bt197.1 bt197.2.1 bt197.2.2.1 bt197.2.2.2))) else (gramaryelaw11_ReachOver.j0 k a1 false bt197.1 bt197.2.1 bt197.2.2.1 bt197.2.2.2)))) = some r := by rw [if_pos rfl] at H; exact H
    clear H
    have H := H1
    clear H1
    replace H := Option.bind_eq_some_iff.mp H
    obtain ⟨⟨t197, t198, t199, t202⟩, A70, H⟩ := H
    replace H : ((reach_Begins.f t197 t198 t199 t202 a1 a2).bind fun t205 => (if t205 = true then ((reach_Begins.f t197 t198 t199 t202 a2 a3).bind fun t206 => (if t206 = true then ((reach_Begins.f t197 t198 t199 t202 a1 a3).bind fun t207 => (gramaryelaw11_ReachOver.j0 k a1 (!t207) t197 t198 t199 t202)) else (gramaryelaw11_ReachOver.j0 k a1 false t197 t198 t199 t202))) else (gramaryelaw11_ReachOver.j0 k a1 false t197 t198 t199 t202))) = some r := H
    have A7 := Aside0.mk A70
    clear A70
    have HC8 := Aside0.mk H
    clear H
    go_enter Try.func8, Try.ntmps8
    go_upto_region 4 with (first | ((with_reducible refine gate_dst (N := 4) rfl ?_); refine box_event ?hg (N := 4) ?hd (cs := #[.int .i64 a0_0, .int .i64 a0_1, .slice A0_2 l0_2.length c0_2, .slice A0_3 l0_3.length c0_3]) (t := 25) ?hr ?_; (case hd => rfl); (case hg => rfl); (case hr => first | (go_simp; done) | (go_simp; rfl)); intro gb195 hg w9 hbox hb; have n0_ := Aside0.mk (below_step (by repeat (first | (with_reducible first | exact HB.out | apply below_alloc | apply pw_below_drewN | apply below_drew1) | exact HB.out)) hb); have n1_ := Aside0.mk (hbox); have n2_ := Aside0.mk ((by rw [hg]; exact (below_size (by repeat (first | (with_reducible first | exact HB.out | apply below_alloc | apply pw_below_drewN | apply below_drew1) | exact HB.out))) : w.heap.size ≤ gb195)); have n3_ := Aside0.mk ((by rw [hg]; exact (below_size (by repeat (first | (with_reducible first | exact HB.out | apply below_alloc | apply pw_below_drewN | apply below_drew1) | exact HB.out))) : w.heap.size ≤ gb195)); clear HB; have HB := n0_; have BK195 := n1_; have GW195 := n2_; have GE195 := n3_; clear n0_ n1_ n2_ n3_; clear hb hbox hg) | ((with_reducible refine gate_callee (f := 26) rfl ?_); refine goesL_ (some 11) rfl rfl Try.func26 (by kernel_rfl) rfl #[] rfl (by (try simp only [List.map_toArray, List.map_cons, List.map_nil]); first | done | rfl | (simp only [List.length_drop, List.length_take]; rfl)) ?_; (with_reducible refine (gramaryelaw11_works.calls k  true _ A5.out).mono ?_); rintro e w10 ⟨rfl, hb⟩; refine ⟨_, rfl, ?_⟩; have n0_ := Aside0.mk (blk_below (g := gb195) (o := .cells #[.int .i64 a0_0, .int .i64 a0_1, .slice A0_2 l0_2.length c0_2, .slice A0_3 l0_3.length c0_3] 25 (0, 0)) (by (with_reducible repeat (first | refine blk_drewN ?_ _ | refine blk_drew ?_ | refine blk_alloc ?_ _)); exact BK195.out) hb); have n1_ := Aside0.mk (below_step (by repeat (first | (with_reducible first | exact HB.out | apply below_alloc | apply pw_below_drewN | apply below_drew1 | refine below_set ?_ GE195.out) | exact HB.out)) hb); clear BK195; clear HB; have BK195 := n0_; have HB := n1_; clear n0_ n1_; (try clear hb); (try clear hb2); (try clear hk); (try clear hi); have hcz11_0 : w10.cell? ⟨gb195, 0, none⟩ = some (.int .i64 a0_0) := (blk_cell BK195.out 0).trans rfl; have hcz11_1 : w10.cell? ⟨gb195, 1, none⟩ = some (.int .i64 a0_1) := (blk_cell BK195.out 1).trans rfl; have hcz11_2 : w10.cell? ⟨gb195, 2, none⟩ = some (.slice A0_2 l0_2.length c0_2) := (blk_cell BK195.out 2).trans rfl; have hcz11_3 : w10.cell? ⟨gb195, 3, none⟩ = some (.slice A0_3 l0_3.length c0_3) := (blk_cell BK195.out 3).trans rfl; have hfz11_0 := blk_frozen BK195.out 0; have hfz11_1 := blk_frozen BK195.out 1; have hfz11_2 := blk_frozen BK195.out 2; have hfz11_3 := blk_frozen BK195.out 3) | ((with_reducible refine gate_callee (f := 23) rfl ?_); refine goesL_ (some 14) rfl rfl Try.func23 (by kernel_rfl) rfl #[.agg #[.int .i64 a0_0, .int .i64 a0_1, .slice A0_2 l0_2.length c0_2, .slice A0_3 l0_3.length c0_3]] rfl (by (try simp only [List.map_toArray, List.map_cons, List.map_nil]); first | done | rfl | (simp only [List.length_drop, List.length_take]; rfl)) ?_; (with_reducible refine (gramaryelaw11_few.calls k a0_0 a0_1 _ _ l0_2 _ _ l0_3 t197 t198 t199 t202 _ ?side1 ?side2 ?side3 ?side4 A7.out).mono ?_); (case side1 => repeat (first | exact (Kd.C_below HR0_2.out HB.out) | (with_reducible refine Kd.C_alloc ?_ _) | (with_reducible refine Kd.C_drewN ?_ _) | (with_reducible refine Kd.C_drew ?_))); (case side2 => exact HC0_2.out); (case side3 => repeat (first | exact (Kd.C_below HR0_3.out HB.out) | (with_reducible refine Kd.C_alloc ?_ _) | (with_reducible refine Kd.C_drewN ?_ _) | (with_reducible refine Kd.C_drew ?_))); (case side4 => exact HC0_3.out); rintro e w12 ⟨v200, v203, rfl, ho0, ho1, hb⟩; refine ⟨_, rfl, ?_⟩; have n0_ := Aside0.mk (Kd.R_lower ho0 (below_size (by repeat (first | (with_reducible first | exact HB.out | apply below_alloc | apply pw_below_drewN | apply below_drew1 | refine below_set ?_ GE195.out) | exact HB.out)))); have n1_ := Aside0.mk (Kd.S_lower ho1 (below_size (by repeat (first | (with_reducible first | exact HB.out | apply below_alloc | apply pw_below_drewN | apply below_drew1 | refine below_set ?_ GE195.out) | exact HB.out)))); have n2_ := Aside0.mk (blk_below (g := gb195) (o := .cells #[.int .i64 a0_0, .int .i64 a0_1, .slice A0_2 l0_2.length c0_2, .slice A0_3 l0_3.length c0_3] 25 (0, 0)) (by (with_reducible repeat (first | refine blk_drewN ?_ _ | refine blk_drew ?_ | refine blk_alloc ?_ _)); exact BK195.out) hb); have n3_ := Aside0.mk (below_step (by repeat (first | (with_reducible first | exact HB.out | apply below_alloc | apply pw_below_drewN | apply below_drew1 | refine below_set ?_ GE195.out) | exact HB.out)) hb); clear BK195; clear HB; have HO201 := n0_; have HO204 := n1_; have BK195 := n2_; have HB := n3_; clear n0_ n1_ n2_ n3_; (try clear hb); (try clear hb2); (try clear hk); (try clear hi); (try clear ho0); (try clear ho1); have hcz13_0 : w12.cell? ⟨gb195, 0, none⟩ = some (.int .i64 a0_0) := (blk_cell BK195.out 0).trans rfl; have hcz13_1 : w12.cell? ⟨gb195, 1, none⟩ = some (.int .i64 a0_1) := (blk_cell BK195.out 1).trans rfl; have hcz13_2 : w12.cell? ⟨gb195, 2, none⟩ = some (.slice A0_2 l0_2.length c0_2) := (blk_cell BK195.out 2).trans rfl; have hcz13_3 : w12.cell? ⟨gb195, 3, none⟩ = some (.slice A0_3 l0_3.length c0_3) := (blk_cell BK195.out 3).trans rfl; have hfz13_0 := blk_frozen BK195.out 0; have hfz13_1 := blk_frozen BK195.out 1; have hfz13_2 := blk_frozen BK195.out 2; have hfz13_3 := blk_frozen BK195.out 3; obtain ⟨Ao14, co14, eo14⟩ := Kd.R_slice HO201.out; subst eo14; obtain ⟨Ao15, co15, eo15⟩ := Kd.S_slice HO204.out; subst eo15))
    (try simp only [Act.put, List.setIfInBounds_toArray, List.set_cons_zero, List.set_cons_succ])
    go_cut [31] (fun v31 wc => ∃ (kq : Nat) (x31_7 : Bool), v31 = .bool x31_7 ∧ Aside0 (gramaryelaw11_ReachOver.j0 kq a1 x31_7 t197 t198 t199 t202 = some r) ∧ Aside0 (kq ≤ k) ∧ Aside0 (Kd.R (Kd.int .i64) 3 wc w.heap.size (fun _ => True) (.slice Ao14 t199.length co14) t199) ∧ Aside0 (Kd.S k51 51 wc w.heap.size (fun _ => True) (.slice Ao15 t202.length co15) t202) ∧ Aside0 (wc.heap[gb195]? = some (.cells #[.int .i64 t197, .int .i64 t198, (.slice Ao14 t199.length co14), (.slice Ao15 t202.length co15)] 25 (0, 0))) ∧ Aside0 (Below w.heap.size w wc))
    case first =>
      have H := HC8.out
      clear HC8
      replace H := Option.bind_eq_some_iff.mp H
      obtain ⟨t205, A160, H⟩ := H
      replace H : (if t205 = true then ((reach_Begins.f t197 t198 t199 t202 a2 a3).bind fun t206 => (if t206 = true then ((reach_Begins.f t197 t198 t199 t202 a1 a3).bind fun t207 => (gramaryelaw11_ReachOver.j0 k a1 (!t207) t197 t198 t199 t202)) else (gramaryelaw11_ReachOver.j0 k a1 false t197 t198 t199 t202))) else (gramaryelaw11_ReachOver.j0 k a1 false t197 t198 t199 t202)) = some r := H
      have A16 := Aside0.mk A160
      clear A160
      by_cases c17 : t205 = true
      · subst c17
        have H1 : ((reach_Begins.f t197 t198 t199 t202 a2 a3).bind fun t206 => (if t206 = true then ((reach_Begins.f t197 t198 t199 t202 a1 a3).bind fun t207 => (gramaryelaw11_ReachOver.j0 k a1 (!t207) t197 t198 t199 t202)) else (gramaryelaw11_ReachOver.j0 k a1 false t197 t198 t199 t202))) = some r := by rw [if_pos rfl] at H; exact H
        clear H
        have H := H1
        clear H1
        replace H := Option.bind_eq_some_iff.mp H
        obtain ⟨t206, A180, H⟩ := H
        replace H : (if t206 = true then ((reach_Begins.f t197 t198 t199 t202 a1 a3).bind fun t207 => (gramaryelaw11_ReachOver.j0 k a1 (!t207) t197 t198 t199 t202)) else (gramaryelaw11_ReachOver.j0 k a1 false t197 t198 t199 t202)) = some r := H
        have A18 := Aside0.mk A180
        clear A180
        by_cases c19 : t206 = true
        · subst c19
          have H1 : ((reach_Begins.f t197 t198 t199 t202 a1 a3).bind fun t207 => (gramaryelaw11_ReachOver.j0 k a1 (!t207) t197 t198 t199 t202)) = some r := by rw [if_pos rfl] at H; exact H
          clear H
          have H := H1
          clear H1
          replace H := Option.bind_eq_some_iff.mp H
          obtain ⟨t207, A200, H⟩ := H
          replace H : (gramaryelaw11_ReachOver.j0 k a1 (!t207) t197 t198 t199 t202) = some r := H
          have A20 := Aside0.mk A200
          clear A200
          have H' := Aside0.mk H
          clear H
          have hcz21_0 : w12.cell? ⟨gb195, 0, none⟩ = some (.int .i64 a0_0) := (blk_cell BK195.out 0).trans rfl
          have hcz21_1 : w12.cell? ⟨gb195, 1, none⟩ = some (.int .i64 a0_1) := (blk_cell BK195.out 1).trans rfl
          have hcz21_2 : w12.cell? ⟨gb195, 2, none⟩ = some (.slice A0_2 l0_2.length c0_2) := (blk_cell BK195.out 2).trans rfl
          have hcz21_3 : w12.cell? ⟨gb195, 3, none⟩ = some (.slice A0_3 l0_3.length c0_3) := (blk_cell BK195.out 3).trans rfl
          have hfz21_0 := blk_frozen BK195.out 0
          have hfz21_1 := blk_frozen BK195.out 1
          have hfz21_2 := blk_frozen BK195.out 2
          have hfz21_3 := blk_frozen BK195.out 3
          go_wp2_with (first | ((with_reducible refine gate_callee (f := 30) rfl ?_); refine goesL_ (some 18) rfl rfl Try.func30 (by kernel_rfl) rfl #[.agg #[.int .i64 t197, .int .i64 t198, .slice Ao14 t199.length co14, .slice Ao15 t202.length co15], .int .i64 a1, .int .i64 a2] rfl (by (try simp only [List.map_toArray, List.map_cons, List.map_nil]); first | done | rfl | (simp only [List.length_drop, List.length_take]; rfl)) ?_; (with_reducible refine (reach_Begins.calls t197 t198 _ _ t199 _ _ t202 a1 a2 true _ ?side1 ?side2 ?side3 ?side4 A16.out).mono ?_); (case side1 => refine (Kd.R_reads' (e := 3) (base := w.heap.size) (ok := fun k_ => True) (n := t199.length) (c := co14) ?_).2.2; exact (by (with_reducible repeat (first | apply Kd.R_alloc | apply Kd.R_drewN | apply Kd.R_drew)); exact (Kd.R_mono (Kd.R_far (p := ⟨gb195, 3, none⟩) (Kd.R_far (p := ⟨gb195, 2, none⟩) (Kd.R_far (p := ⟨gb195, 1, none⟩) (Kd.R_far (p := ⟨gb195, 0, none⟩) (Kd.R_types HO201.out BK195.out (by decide)) (fun _ hk => hk.2) (.int .i64 t197)) (fun _ hk => hk.2) (.int .i64 t198)) (fun _ hk => hk.2) (.slice Ao14 t199.length co14)) (fun _ hk => hk.2) (.slice Ao15 t202.length co15)) (fun _ h_ => h_.1)))); (case side2 => exact (Kd.R_reads' HO201.out).2.1); (case side3 => refine (Kd.S_reads' (e := 51) (base := w.heap.size) (ok := fun k_ => True) (n := t202.length) (c := co15) ?_).2.2; exact (by (with_reducible repeat (first | apply Kd.S_alloc | apply Kd.S_drewN | apply Kd.S_drew)); exact (Kd.S_mono (Kd.S_far (p := ⟨gb195, 3, none⟩) (Kd.S_far (p := ⟨gb195, 2, none⟩) (Kd.S_far (p := ⟨gb195, 1, none⟩) (Kd.S_far (p := ⟨gb195, 0, none⟩) (Kd.S_types HO204.out BK195.out (by decide)) (fun _ hk => hk.2) (.int .i64 t197)) (fun _ hk => hk.2) (.int .i64 t198)) (fun _ hk => hk.2) (.slice Ao14 t199.length co14)) (fun _ hk => hk.2) (.slice Ao15 t202.length co15)) (fun _ h_ => h_.1)))); (case side4 => exact (Kd.S_reads' HO204.out).2.1); rintro e w22 ⟨rfl, hb⟩; refine ⟨_, rfl, ?_⟩; have n0_ := Aside0.mk (Kd.R_below (by (with_reducible repeat (first | apply Kd.R_alloc | apply Kd.R_drewN | apply Kd.R_drew)); exact (Kd.R_mono (Kd.R_far (p := ⟨gb195, 3, none⟩) (Kd.R_far (p := ⟨gb195, 2, none⟩) (Kd.R_far (p := ⟨gb195, 1, none⟩) (Kd.R_far (p := ⟨gb195, 0, none⟩) (Kd.R_types HO201.out BK195.out (by decide)) (fun _ hk => hk.2) (.int .i64 t197)) (fun _ hk => hk.2) (.int .i64 t198)) (fun _ hk => hk.2) (.slice Ao14 t199.length co14)) (fun _ hk => hk.2) (.slice Ao15 t202.length co15)) (fun _ h_ => h_.1))) hb); have n1_ := Aside0.mk (Kd.S_below (by (with_reducible repeat (first | apply Kd.S_alloc | apply Kd.S_drewN | apply Kd.S_drew)); exact (Kd.S_mono (Kd.S_far (p := ⟨gb195, 3, none⟩) (Kd.S_far (p := ⟨gb195, 2, none⟩) (Kd.S_far (p := ⟨gb195, 1, none⟩) (Kd.S_far (p := ⟨gb195, 0, none⟩) (Kd.S_types HO204.out BK195.out (by decide)) (fun _ hk => hk.2) (.int .i64 t197)) (fun _ hk => hk.2) (.int .i64 t198)) (fun _ hk => hk.2) (.slice Ao14 t199.length co14)) (fun _ hk => hk.2) (.slice Ao15 t202.length co15)) (fun _ h_ => h_.1))) hb); have n2_ := Aside0.mk (blk_below (g := gb195) (o := .cells #[.int .i64 t197, .int .i64 t198, .slice Ao14 t199.length co14, .slice Ao15 t202.length co15] 25 (0, 0)) (by (with_reducible repeat (first | refine blk_drewN ?_ _ | refine blk_drew ?_ | refine blk_alloc ?_ _)); refine blk_put (cs := #[.int .i64 t197, .int .i64 t198, .slice Ao14 t199.length co14, .slice A0_3 l0_3.length c0_3]) ?_ 3 _ rfl; (with_reducible repeat (first | refine blk_drewN ?_ _ | refine blk_drew ?_ | refine blk_alloc ?_ _)); refine blk_put (cs := #[.int .i64 t197, .int .i64 t198, .slice A0_2 l0_2.length c0_2, .slice A0_3 l0_3.length c0_3]) ?_ 2 _ rfl; (with_reducible repeat (first | refine blk_drewN ?_ _ | refine blk_drew ?_ | refine blk_alloc ?_ _)); refine blk_put (cs := #[.int .i64 t197, .int .i64 a0_1, .slice A0_2 l0_2.length c0_2, .slice A0_3 l0_3.length c0_3]) ?_ 1 _ rfl; (with_reducible repeat (first | refine blk_drewN ?_ _ | refine blk_drew ?_ | refine blk_alloc ?_ _)); refine blk_put (cs := #[.int .i64 a0_0, .int .i64 a0_1, .slice A0_2 l0_2.length c0_2, .slice A0_3 l0_3.length c0_3]) ?_ 0 _ rfl; (with_reducible repeat (first | refine blk_drewN ?_ _ | refine blk_drew ?_ | refine blk_alloc ?_ _)); exact BK195.out) hb); have n3_ := Aside0.mk (below_step (by repeat (first | (with_reducible first | exact HB.out | apply below_alloc | apply pw_below_drewN | apply below_drew1 | refine below_set ?_ GE195.out) | exact HB.out)) hb); clear HO201; clear HO204; clear BK195; clear HB; have HO201 := n0_; have HO204 := n1_; have BK195 := n2_; have HB := n3_; clear n0_ n1_ n2_ n3_; (try clear hb); (try clear hb2); (try clear hk); (try clear hi); have hcz23_0 : w22.cell? ⟨gb195, 0, none⟩ = some (.int .i64 t197) := (blk_cell BK195.out 0).trans rfl; have hcz23_1 : w22.cell? ⟨gb195, 1, none⟩ = some (.int .i64 t198) := (blk_cell BK195.out 1).trans rfl; have hcz23_2 : w22.cell? ⟨gb195, 2, none⟩ = some (.slice Ao14 t199.length co14) := (blk_cell BK195.out 2).trans rfl; have hcz23_3 : w22.cell? ⟨gb195, 3, none⟩ = some (.slice Ao15 t202.length co15) := (blk_cell BK195.out 3).trans rfl; have hfz23_0 := blk_frozen BK195.out 0; have hfz23_1 := blk_frozen BK195.out 1; have hfz23_2 := blk_frozen BK195.out 2; have hfz23_3 := blk_frozen BK195.out 3) | (go_at_call 30; (with_reducible refine (reach_Begins.calls t197 t198 _ _ t199 _ _ t202 a2 a3 true _ ?side1 ?side2 ?side3 ?side4 A18.out).mono ?_); (case side1 => repeat (first | exact (Kd.R_reads' HO201.out).2.2 | (with_reducible refine Kd.C_alloc ?_ _) | (with_reducible refine Kd.C_drewN ?_ _) | (with_reducible refine Kd.C_drew ?_))); (case side2 => exact (Kd.R_reads' HO201.out).2.1); (case side3 => repeat (first | exact (Kd.S_reads' HO204.out).2.2 | (with_reducible refine Kd.C_alloc ?_ _) | (with_reducible refine Kd.C_drewN ?_ _) | (with_reducible refine Kd.C_drew ?_))); (case side4 => exact (Kd.S_reads' HO204.out).2.1); rintro e w24 ⟨rfl, hb⟩; have n0_ := Aside0.mk (Kd.R_below (by (with_reducible repeat (first | apply Kd.R_alloc | apply Kd.R_drewN | apply Kd.R_drew)); exact HO201.out) hb); have n1_ := Aside0.mk (Kd.S_below (by (with_reducible repeat (first | apply Kd.S_alloc | apply Kd.S_drewN | apply Kd.S_drew)); exact HO204.out) hb); have n2_ := Aside0.mk (blk_below (g := gb195) (o := .cells #[.int .i64 t197, .int .i64 t198, .slice Ao14 t199.length co14, .slice Ao15 t202.length co15] 25 (0, 0)) (by (with_reducible repeat (first | refine blk_drewN ?_ _ | refine blk_drew ?_ | refine blk_alloc ?_ _)); exact BK195.out) hb); have n3_ := Aside0.mk (below_step (by repeat (first | (with_reducible first | exact HB.out | apply below_alloc | apply pw_below_drewN | apply below_drew1 | refine below_set ?_ GE195.out) | exact HB.out)) hb); clear HO201; clear HO204; clear BK195; clear HB; have HO201 := n0_; have HO204 := n1_; have BK195 := n2_; have HB := n3_; clear n0_ n1_ n2_ n3_; (try clear hb); (try clear hb2); (try clear hk); (try clear hi); have hcz25_0 : w24.cell? ⟨gb195, 0, none⟩ = some (.int .i64 t197) := (blk_cell BK195.out 0).trans rfl; have hcz25_1 : w24.cell? ⟨gb195, 1, none⟩ = some (.int .i64 t198) := (blk_cell BK195.out 1).trans rfl; have hcz25_2 : w24.cell? ⟨gb195, 2, none⟩ = some (.slice Ao14 t199.length co14) := (blk_cell BK195.out 2).trans rfl; have hcz25_3 : w24.cell? ⟨gb195, 3, none⟩ = some (.slice Ao15 t202.length co15) := (blk_cell BK195.out 3).trans rfl; have hfz25_0 := blk_frozen BK195.out 0; have hfz25_1 := blk_frozen BK195.out 1; have hfz25_2 := blk_frozen BK195.out 2; have hfz25_3 := blk_frozen BK195.out 3) | (go_at_call 30; (with_reducible refine (reach_Begins.calls t197 t198 _ _ t199 _ _ t202 a1 a3 t207 _ ?side1 ?side2 ?side3 ?side4 A20.out).mono ?_); (case side1 => repeat (first | exact (Kd.R_reads' HO201.out).2.2 | (with_reducible refine Kd.C_alloc ?_ _) | (with_reducible refine Kd.C_drewN ?_ _) | (with_reducible refine Kd.C_drew ?_))); (case side2 => exact (Kd.R_reads' HO201.out).2.1); (case side3 => repeat (first | exact (Kd.S_reads' HO204.out).2.2 | (with_reducible refine Kd.C_alloc ?_ _) | (with_reducible refine Kd.C_drewN ?_ _) | (with_reducible refine Kd.C_drew ?_))); (case side4 => exact (Kd.S_reads' HO204.out).2.1); rintro e w26 ⟨rfl, hb⟩; have n0_ := Aside0.mk (Kd.R_below (by (with_reducible repeat (first | apply Kd.R_alloc | apply Kd.R_drewN | apply Kd.R_drew)); exact HO201.out) hb); have n1_ := Aside0.mk (Kd.S_below (by (with_reducible repeat (first | apply Kd.S_alloc | apply Kd.S_drewN | apply Kd.S_drew)); exact HO204.out) hb); have n2_ := Aside0.mk (blk_below (g := gb195) (o := .cells #[.int .i64 t197, .int .i64 t198, .slice Ao14 t199.length co14, .slice Ao15 t202.length co15] 25 (0, 0)) (by (with_reducible repeat (first | refine blk_drewN ?_ _ | refine blk_drew ?_ | refine blk_alloc ?_ _)); exact BK195.out) hb); have n3_ := Aside0.mk (below_step (by repeat (first | (with_reducible first | exact HB.out | apply below_alloc | apply pw_below_drewN | apply below_drew1 | refine below_set ?_ GE195.out) | exact HB.out)) hb); clear HO201; clear HO204; clear BK195; clear HB; have HO201 := n0_; have HO204 := n1_; have BK195 := n2_; have HB := n3_; clear n0_ n1_ n2_ n3_; (try clear hb); (try clear hb2); (try clear hk); (try clear hi)))
          go_meet
          case rel => exact ⟨_, (!t207), (by first | rfl | (simp; done) | (simp [*]; done)), H', ⟨by first | omega | exact Nat.le_refl _⟩, ⟨by (with_reducible repeat (first | apply Kd.R_alloc | apply Kd.R_drewN | apply Kd.R_drew)); exact HO201.out⟩, ⟨by (with_reducible repeat (first | apply Kd.S_alloc | apply Kd.S_drewN | apply Kd.S_drew)); exact HO204.out⟩, ⟨by (with_reducible repeat (first | refine blk_drewN ?_ _ | refine blk_drew ?_ | refine blk_alloc ?_ _)); exact BK195.out⟩, ⟨by repeat (first | (with_reducible first | exact HB.out | apply below_alloc | apply pw_below_drewN | apply below_drew1 | refine below_set ?_ GE195.out) | exact HB.out)⟩⟩
        · replace c19 := Bool.eq_false_iff.mpr c19
          subst c19
          have H1 : (gramaryelaw11_ReachOver.j0 k a1 false t197 t198 t199 t202) = some r := by rw [if_neg (show ¬ (false = true) by decide)] at H; exact H
          clear H
          have H := H1
          clear H1
          have H' := Aside0.mk H
          clear H
          have hcz27_0 : w12.cell? ⟨gb195, 0, none⟩ = some (.int .i64 a0_0) := (blk_cell BK195.out 0).trans rfl
          have hcz27_1 : w12.cell? ⟨gb195, 1, none⟩ = some (.int .i64 a0_1) := (blk_cell BK195.out 1).trans rfl
          have hcz27_2 : w12.cell? ⟨gb195, 2, none⟩ = some (.slice A0_2 l0_2.length c0_2) := (blk_cell BK195.out 2).trans rfl
          have hcz27_3 : w12.cell? ⟨gb195, 3, none⟩ = some (.slice A0_3 l0_3.length c0_3) := (blk_cell BK195.out 3).trans rfl
          have hfz27_0 := blk_frozen BK195.out 0
          have hfz27_1 := blk_frozen BK195.out 1
          have hfz27_2 := blk_frozen BK195.out 2
          have hfz27_3 := blk_frozen BK195.out 3
          go_wp2_with (first | ((with_reducible refine gate_callee (f := 30) rfl ?_); refine goesL_ (some 18) rfl rfl Try.func30 (by kernel_rfl) rfl #[.agg #[.int .i64 t197, .int .i64 t198, .slice Ao14 t199.length co14, .slice Ao15 t202.length co15], .int .i64 a1, .int .i64 a2] rfl (by (try simp only [List.map_toArray, List.map_cons, List.map_nil]); first | done | rfl | (simp only [List.length_drop, List.length_take]; rfl)) ?_; (with_reducible refine (reach_Begins.calls t197 t198 _ _ t199 _ _ t202 a1 a2 true _ ?side1 ?side2 ?side3 ?side4 A16.out).mono ?_); (case side1 => refine (Kd.R_reads' (e := 3) (base := w.heap.size) (ok := fun k_ => True) (n := t199.length) (c := co14) ?_).2.2; exact (by (with_reducible repeat (first | apply Kd.R_alloc | apply Kd.R_drewN | apply Kd.R_drew)); exact (Kd.R_mono (Kd.R_far (p := ⟨gb195, 3, none⟩) (Kd.R_far (p := ⟨gb195, 2, none⟩) (Kd.R_far (p := ⟨gb195, 1, none⟩) (Kd.R_far (p := ⟨gb195, 0, none⟩) (Kd.R_types HO201.out BK195.out (by decide)) (fun _ hk => hk.2) (.int .i64 t197)) (fun _ hk => hk.2) (.int .i64 t198)) (fun _ hk => hk.2) (.slice Ao14 t199.length co14)) (fun _ hk => hk.2) (.slice Ao15 t202.length co15)) (fun _ h_ => h_.1)))); (case side2 => exact (Kd.R_reads' HO201.out).2.1); (case side3 => refine (Kd.S_reads' (e := 51) (base := w.heap.size) (ok := fun k_ => True) (n := t202.length) (c := co15) ?_).2.2; exact (by (with_reducible repeat (first | apply Kd.S_alloc | apply Kd.S_drewN | apply Kd.S_drew)); exact (Kd.S_mono (Kd.S_far (p := ⟨gb195, 3, none⟩) (Kd.S_far (p := ⟨gb195, 2, none⟩) (Kd.S_far (p := ⟨gb195, 1, none⟩) (Kd.S_far (p := ⟨gb195, 0, none⟩) (Kd.S_types HO204.out BK195.out (by decide)) (fun _ hk => hk.2) (.int .i64 t197)) (fun _ hk => hk.2) (.int .i64 t198)) (fun _ hk => hk.2) (.slice Ao14 t199.length co14)) (fun _ hk => hk.2) (.slice Ao15 t202.length co15)) (fun _ h_ => h_.1)))); (case side4 => exact (Kd.S_reads' HO204.out).2.1); rintro e w28 ⟨rfl, hb⟩; refine ⟨_, rfl, ?_⟩; have n0_ := Aside0.mk (Kd.R_below (by (with_reducible repeat (first | apply Kd.R_alloc | apply Kd.R_drewN | apply Kd.R_drew)); exact (Kd.R_mono (Kd.R_far (p := ⟨gb195, 3, none⟩) (Kd.R_far (p := ⟨gb195, 2, none⟩) (Kd.R_far (p := ⟨gb195, 1, none⟩) (Kd.R_far (p := ⟨gb195, 0, none⟩) (Kd.R_types HO201.out BK195.out (by decide)) (fun _ hk => hk.2) (.int .i64 t197)) (fun _ hk => hk.2) (.int .i64 t198)) (fun _ hk => hk.2) (.slice Ao14 t199.length co14)) (fun _ hk => hk.2) (.slice Ao15 t202.length co15)) (fun _ h_ => h_.1))) hb); have n1_ := Aside0.mk (Kd.S_below (by (with_reducible repeat (first | apply Kd.S_alloc | apply Kd.S_drewN | apply Kd.S_drew)); exact (Kd.S_mono (Kd.S_far (p := ⟨gb195, 3, none⟩) (Kd.S_far (p := ⟨gb195, 2, none⟩) (Kd.S_far (p := ⟨gb195, 1, none⟩) (Kd.S_far (p := ⟨gb195, 0, none⟩) (Kd.S_types HO204.out BK195.out (by decide)) (fun _ hk => hk.2) (.int .i64 t197)) (fun _ hk => hk.2) (.int .i64 t198)) (fun _ hk => hk.2) (.slice Ao14 t199.length co14)) (fun _ hk => hk.2) (.slice Ao15 t202.length co15)) (fun _ h_ => h_.1))) hb); have n2_ := Aside0.mk (blk_below (g := gb195) (o := .cells #[.int .i64 t197, .int .i64 t198, .slice Ao14 t199.length co14, .slice Ao15 t202.length co15] 25 (0, 0)) (by (with_reducible repeat (first | refine blk_drewN ?_ _ | refine blk_drew ?_ | refine blk_alloc ?_ _)); refine blk_put (cs := #[.int .i64 t197, .int .i64 t198, .slice Ao14 t199.length co14, .slice A0_3 l0_3.length c0_3]) ?_ 3 _ rfl; (with_reducible repeat (first | refine blk_drewN ?_ _ | refine blk_drew ?_ | refine blk_alloc ?_ _)); refine blk_put (cs := #[.int .i64 t197, .int .i64 t198, .slice A0_2 l0_2.length c0_2, .slice A0_3 l0_3.length c0_3]) ?_ 2 _ rfl; (with_reducible repeat (first | refine blk_drewN ?_ _ | refine blk_drew ?_ | refine blk_alloc ?_ _)); refine blk_put (cs := #[.int .i64 t197, .int .i64 a0_1, .slice A0_2 l0_2.length c0_2, .slice A0_3 l0_3.length c0_3]) ?_ 1 _ rfl; (with_reducible repeat (first | refine blk_drewN ?_ _ | refine blk_drew ?_ | refine blk_alloc ?_ _)); refine blk_put (cs := #[.int .i64 a0_0, .int .i64 a0_1, .slice A0_2 l0_2.length c0_2, .slice A0_3 l0_3.length c0_3]) ?_ 0 _ rfl; (with_reducible repeat (first | refine blk_drewN ?_ _ | refine blk_drew ?_ | refine blk_alloc ?_ _)); exact BK195.out) hb); have n3_ := Aside0.mk (below_step (by repeat (first | (with_reducible first | exact HB.out | apply below_alloc | apply pw_below_drewN | apply below_drew1 | refine below_set ?_ GE195.out) | exact HB.out)) hb); clear HO201; clear HO204; clear BK195; clear HB; have HO201 := n0_; have HO204 := n1_; have BK195 := n2_; have HB := n3_; clear n0_ n1_ n2_ n3_; (try clear hb); (try clear hb2); (try clear hk); (try clear hi); have hcz29_0 : w28.cell? ⟨gb195, 0, none⟩ = some (.int .i64 t197) := (blk_cell BK195.out 0).trans rfl; have hcz29_1 : w28.cell? ⟨gb195, 1, none⟩ = some (.int .i64 t198) := (blk_cell BK195.out 1).trans rfl; have hcz29_2 : w28.cell? ⟨gb195, 2, none⟩ = some (.slice Ao14 t199.length co14) := (blk_cell BK195.out 2).trans rfl; have hcz29_3 : w28.cell? ⟨gb195, 3, none⟩ = some (.slice Ao15 t202.length co15) := (blk_cell BK195.out 3).trans rfl; have hfz29_0 := blk_frozen BK195.out 0; have hfz29_1 := blk_frozen BK195.out 1; have hfz29_2 := blk_frozen BK195.out 2; have hfz29_3 := blk_frozen BK195.out 3) | (go_at_call 30; (with_reducible refine (reach_Begins.calls t197 t198 _ _ t199 _ _ t202 a2 a3 false _ ?side1 ?side2 ?side3 ?side4 A18.out).mono ?_); (case side1 => repeat (first | exact (Kd.R_reads' HO201.out).2.2 | (with_reducible refine Kd.C_alloc ?_ _) | (with_reducible refine Kd.C_drewN ?_ _) | (with_reducible refine Kd.C_drew ?_))); (case side2 => exact (Kd.R_reads' HO201.out).2.1); (case side3 => repeat (first | exact (Kd.S_reads' HO204.out).2.2 | (with_reducible refine Kd.C_alloc ?_ _) | (with_reducible refine Kd.C_drewN ?_ _) | (with_reducible refine Kd.C_drew ?_))); (case side4 => exact (Kd.S_reads' HO204.out).2.1); rintro e w30 ⟨rfl, hb⟩; have n0_ := Aside0.mk (Kd.R_below (by (with_reducible repeat (first | apply Kd.R_alloc | apply Kd.R_drewN | apply Kd.R_drew)); exact HO201.out) hb); have n1_ := Aside0.mk (Kd.S_below (by (with_reducible repeat (first | apply Kd.S_alloc | apply Kd.S_drewN | apply Kd.S_drew)); exact HO204.out) hb); have n2_ := Aside0.mk (blk_below (g := gb195) (o := .cells #[.int .i64 t197, .int .i64 t198, .slice Ao14 t199.length co14, .slice Ao15 t202.length co15] 25 (0, 0)) (by (with_reducible repeat (first | refine blk_drewN ?_ _ | refine blk_drew ?_ | refine blk_alloc ?_ _)); exact BK195.out) hb); have n3_ := Aside0.mk (below_step (by repeat (first | (with_reducible first | exact HB.out | apply below_alloc | apply pw_below_drewN | apply below_drew1 | refine below_set ?_ GE195.out) | exact HB.out)) hb); clear HO201; clear HO204; clear BK195; clear HB; have HO201 := n0_; have HO204 := n1_; have BK195 := n2_; have HB := n3_; clear n0_ n1_ n2_ n3_; (try clear hb); (try clear hb2); (try clear hk); (try clear hi)))
          go_meet
          case rel => exact ⟨_, (false), (by first | rfl | (simp; done) | (simp [*]; done)), H', ⟨by first | omega | exact Nat.le_refl _⟩, ⟨by (with_reducible repeat (first | apply Kd.R_alloc | apply Kd.R_drewN | apply Kd.R_drew)); exact HO201.out⟩, ⟨by (with_reducible repeat (first | apply Kd.S_alloc | apply Kd.S_drewN | apply Kd.S_drew)); exact HO204.out⟩, ⟨by (with_reducible repeat (first | refine blk_drewN ?_ _ | refine blk_drew ?_ | refine blk_alloc ?_ _)); exact BK195.out⟩, ⟨by repeat (first | (with_reducible first | exact HB.out | apply below_alloc | apply pw_below_drewN | apply below_drew1 | refine below_set ?_ GE195.out) | exact HB.out)⟩⟩
      · replace c17 := Bool.eq_false_iff.mpr c17
        subst c17
        have H1 : (gramaryelaw11_ReachOver.j0 k a1 false t197 t198 t199 t202) = some r := by rw [if_neg (show ¬ (false = true) by decide)] at H; exact H
        clear H
        have H := H1
        clear H1
        have H' := Aside0.mk H
        clear H
        have hcz31_0 : w12.cell? ⟨gb195, 0, none⟩ = some (.int .i64 a0_0) := (blk_cell BK195.out 0).trans rfl
        have hcz31_1 : w12.cell? ⟨gb195, 1, none⟩ = some (.int .i64 a0_1) := (blk_cell BK195.out 1).trans rfl
        have hcz31_2 : w12.cell? ⟨gb195, 2, none⟩ = some (.slice A0_2 l0_2.length c0_2) := (blk_cell BK195.out 2).trans rfl
        have hcz31_3 : w12.cell? ⟨gb195, 3, none⟩ = some (.slice A0_3 l0_3.length c0_3) := (blk_cell BK195.out 3).trans rfl
        have hfz31_0 := blk_frozen BK195.out 0
        have hfz31_1 := blk_frozen BK195.out 1
        have hfz31_2 := blk_frozen BK195.out 2
        have hfz31_3 := blk_frozen BK195.out 3
        go_wp2_with (first | ((with_reducible refine gate_callee (f := 30) rfl ?_); refine goesL_ (some 18) rfl rfl Try.func30 (by kernel_rfl) rfl #[.agg #[.int .i64 t197, .int .i64 t198, .slice Ao14 t199.length co14, .slice Ao15 t202.length co15], .int .i64 a1, .int .i64 a2] rfl (by (try simp only [List.map_toArray, List.map_cons, List.map_nil]); first | done | rfl | (simp only [List.length_drop, List.length_take]; rfl)) ?_; (with_reducible refine (reach_Begins.calls t197 t198 _ _ t199 _ _ t202 a1 a2 false _ ?side1 ?side2 ?side3 ?side4 A16.out).mono ?_); (case side1 => refine (Kd.R_reads' (e := 3) (base := w.heap.size) (ok := fun k_ => True) (n := t199.length) (c := co14) ?_).2.2; exact (by (with_reducible repeat (first | apply Kd.R_alloc | apply Kd.R_drewN | apply Kd.R_drew)); exact (Kd.R_mono (Kd.R_far (p := ⟨gb195, 3, none⟩) (Kd.R_far (p := ⟨gb195, 2, none⟩) (Kd.R_far (p := ⟨gb195, 1, none⟩) (Kd.R_far (p := ⟨gb195, 0, none⟩) (Kd.R_types HO201.out BK195.out (by decide)) (fun _ hk => hk.2) (.int .i64 t197)) (fun _ hk => hk.2) (.int .i64 t198)) (fun _ hk => hk.2) (.slice Ao14 t199.length co14)) (fun _ hk => hk.2) (.slice Ao15 t202.length co15)) (fun _ h_ => h_.1)))); (case side2 => exact (Kd.R_reads' HO201.out).2.1); (case side3 => refine (Kd.S_reads' (e := 51) (base := w.heap.size) (ok := fun k_ => True) (n := t202.length) (c := co15) ?_).2.2; exact (by (with_reducible repeat (first | apply Kd.S_alloc | apply Kd.S_drewN | apply Kd.S_drew)); exact (Kd.S_mono (Kd.S_far (p := ⟨gb195, 3, none⟩) (Kd.S_far (p := ⟨gb195, 2, none⟩) (Kd.S_far (p := ⟨gb195, 1, none⟩) (Kd.S_far (p := ⟨gb195, 0, none⟩) (Kd.S_types HO204.out BK195.out (by decide)) (fun _ hk => hk.2) (.int .i64 t197)) (fun _ hk => hk.2) (.int .i64 t198)) (fun _ hk => hk.2) (.slice Ao14 t199.length co14)) (fun _ hk => hk.2) (.slice Ao15 t202.length co15)) (fun _ h_ => h_.1)))); (case side4 => exact (Kd.S_reads' HO204.out).2.1); rintro e w32 ⟨rfl, hb⟩; refine ⟨_, rfl, ?_⟩; have n0_ := Aside0.mk (Kd.R_below (by (with_reducible repeat (first | apply Kd.R_alloc | apply Kd.R_drewN | apply Kd.R_drew)); exact (Kd.R_mono (Kd.R_far (p := ⟨gb195, 3, none⟩) (Kd.R_far (p := ⟨gb195, 2, none⟩) (Kd.R_far (p := ⟨gb195, 1, none⟩) (Kd.R_far (p := ⟨gb195, 0, none⟩) (Kd.R_types HO201.out BK195.out (by decide)) (fun _ hk => hk.2) (.int .i64 t197)) (fun _ hk => hk.2) (.int .i64 t198)) (fun _ hk => hk.2) (.slice Ao14 t199.length co14)) (fun _ hk => hk.2) (.slice Ao15 t202.length co15)) (fun _ h_ => h_.1))) hb); have n1_ := Aside0.mk (Kd.S_below (by (with_reducible repeat (first | apply Kd.S_alloc | apply Kd.S_drewN | apply Kd.S_drew)); exact (Kd.S_mono (Kd.S_far (p := ⟨gb195, 3, none⟩) (Kd.S_far (p := ⟨gb195, 2, none⟩) (Kd.S_far (p := ⟨gb195, 1, none⟩) (Kd.S_far (p := ⟨gb195, 0, none⟩) (Kd.S_types HO204.out BK195.out (by decide)) (fun _ hk => hk.2) (.int .i64 t197)) (fun _ hk => hk.2) (.int .i64 t198)) (fun _ hk => hk.2) (.slice Ao14 t199.length co14)) (fun _ hk => hk.2) (.slice Ao15 t202.length co15)) (fun _ h_ => h_.1))) hb); have n2_ := Aside0.mk (blk_below (g := gb195) (o := .cells #[.int .i64 t197, .int .i64 t198, .slice Ao14 t199.length co14, .slice Ao15 t202.length co15] 25 (0, 0)) (by (with_reducible repeat (first | refine blk_drewN ?_ _ | refine blk_drew ?_ | refine blk_alloc ?_ _)); refine blk_put (cs := #[.int .i64 t197, .int .i64 t198, .slice Ao14 t199.length co14, .slice A0_3 l0_3.length c0_3]) ?_ 3 _ rfl; (with_reducible repeat (first | refine blk_drewN ?_ _ | refine blk_drew ?_ | refine blk_alloc ?_ _)); refine blk_put (cs := #[.int .i64 t197, .int .i64 t198, .slice A0_2 l0_2.length c0_2, .slice A0_3 l0_3.length c0_3]) ?_ 2 _ rfl; (with_reducible repeat (first | refine blk_drewN ?_ _ | refine blk_drew ?_ | refine blk_alloc ?_ _)); refine blk_put (cs := #[.int .i64 t197, .int .i64 a0_1, .slice A0_2 l0_2.length c0_2, .slice A0_3 l0_3.length c0_3]) ?_ 1 _ rfl; (with_reducible repeat (first | refine blk_drewN ?_ _ | refine blk_drew ?_ | refine blk_alloc ?_ _)); refine blk_put (cs := #[.int .i64 a0_0, .int .i64 a0_1, .slice A0_2 l0_2.length c0_2, .slice A0_3 l0_3.length c0_3]) ?_ 0 _ rfl; (with_reducible repeat (first | refine blk_drewN ?_ _ | refine blk_drew ?_ | refine blk_alloc ?_ _)); exact BK195.out) hb); have n3_ := Aside0.mk (below_step (by repeat (first | (with_reducible first | exact HB.out | apply below_alloc | apply pw_below_drewN | apply below_drew1 | refine below_set ?_ GE195.out) | exact HB.out)) hb); clear HO201; clear HO204; clear BK195; clear HB; have HO201 := n0_; have HO204 := n1_; have BK195 := n2_; have HB := n3_; clear n0_ n1_ n2_ n3_; (try clear hb); (try clear hb2); (try clear hk); (try clear hi)))
        go_meet
        case rel => exact ⟨_, (false), (by first | rfl | (simp; done) | (simp [*]; done)), H', ⟨by first | omega | exact Nat.le_refl _⟩, ⟨by (with_reducible repeat (first | apply Kd.R_alloc | apply Kd.R_drewN | apply Kd.R_drew)); exact HO201.out⟩, ⟨by (with_reducible repeat (first | apply Kd.S_alloc | apply Kd.S_drewN | apply Kd.S_drew)); exact HO204.out⟩, ⟨by (with_reducible repeat (first | refine blk_drewN ?_ _ | refine blk_drew ?_ | refine blk_alloc ?_ _)); exact BK195.out⟩, ⟨by repeat (first | (with_reducible first | exact HB.out | apply below_alloc | apply pw_below_drewN | apply below_drew1 | refine below_set ?_ GE195.out) | exact HB.out)⟩⟩
    case rest =>
      clear HC8
      try clear c1
      try clear c2
      try clear p2
      try clear c3
      try clear c6
      try clear c8
      try clear c17
      try clear c19
      try clear c23
      try clear c26
      try clear c30
      try clear hcz11_0
      try clear hcz11_1
      try clear hcz11_2
      try clear hcz11_3
      try clear hcz13_0
      try clear hcz13_1
      try clear hcz13_2
      try clear hcz13_3
      try clear hcz21_0
      try clear hcz21_1
      try clear hcz21_2
      try clear hcz21_3
      try clear hcz23_0
      try clear hcz23_1
      try clear hcz23_2
      try clear hcz23_3
      try clear hcz25_0
      try clear hcz25_1
      try clear hcz25_2
      try clear hcz25_3
      try clear hcz27_0
      try clear hcz27_1
      try clear hcz27_2
      try clear hcz27_3
      try clear hcz29_0
      try clear hcz29_1
      try clear hcz29_2
      try clear hcz29_3
      try clear hcz31_0
      try clear hcz31_1
      try clear hcz31_2
      try clear hcz31_3
      try clear hfz11_0
      try clear hfz11_1
      try clear hfz11_2
      try clear hfz11_3
      try clear hfz13_0
      try clear hfz13_1
      try clear hfz13_2
      try clear hfz13_3
      try clear hfz21_0
      try clear hfz21_1
      try clear hfz21_2
      try clear hfz21_3
      try clear hfz23_0
      try clear hfz23_1
      try clear hfz23_2
      try clear hfz23_3
      try clear hfz25_0
      try clear hfz25_1
      try clear hfz25_2
      try clear hfz25_3
      try clear hfz27_0
      try clear hfz27_1
      try clear hfz27_2
      try clear hfz27_3
      try clear hfz29_0
      try clear hfz29_1
      try clear hfz29_2
      try clear hfz29_3
      try clear hfz31_0
      try clear hfz31_1
      try clear hfz31_2
      try clear hfz31_3
      obtain ⟨kq, x31_7, rfl, HA, HJ7, HO_196002, HO_196003, BK195, HB⟩ := hcut
      cases kq with
      | zero => exact absurd HA.out (by simp [gramaryelaw11_ReachOver.j0])
      | succ kj7 =>
        have H := HA.out
        clear HA
        simp only [gramaryelaw11_ReachOver.j0] at H
        by_cases c33 : x31_7 = true
        · subst c33
          have H1 : (some false) = some r := by rw [if_pos rfl] at H; exact H
          clear H
          have H := H1
          clear H1
          obtain rfl := Option.some.inj H
          go_wp2
          go_ret
          exact ⟨by first | rfl | (simp [errW_none, errW_some] <;> rfl) | (simp [*, errW_none, errW_some] <;> rfl), by repeat (first | (with_reducible first | exact HB.out | apply below_alloc | apply pw_below_drewN | apply below_drew1 | refine below_set ?_ GE195.out) | exact HB.out)⟩
        · replace c33 := Bool.eq_false_iff.mpr c33
          subst c33
          have H1 : ((reach_Way.f t197 t198 t199 t202 a1).bind fun t208 => (gramaryelaw11_ReachOver.l0 kj7 t208 0 t197 t198 t199 t202)) = some r := by rw [if_neg (show ¬ (false = true) by decide)] at H; exact H
          clear H
          have H := H1
          clear H1
          replace H := Option.bind_eq_some_iff.mp H
          obtain ⟨t208, A340, H⟩ := H
          replace H : (gramaryelaw11_ReachOver.l0 kj7 t208 0 t197 t198 t199 t202) = some r := H
          have A34 := Aside0.mk A340
          clear A340
          have H' := Aside0.mk H
          clear H
          have hcz35_0 : wc.cell? ⟨gb195, 0, none⟩ = some (.int .i64 t197) := (blk_cell BK195.out 0).trans rfl
          have hcz35_1 : wc.cell? ⟨gb195, 1, none⟩ = some (.int .i64 t198) := (blk_cell BK195.out 1).trans rfl
          have hcz35_2 : wc.cell? ⟨gb195, 2, none⟩ = some (.slice Ao14 t199.length co14) := (blk_cell BK195.out 2).trans rfl
          have hcz35_3 : wc.cell? ⟨gb195, 3, none⟩ = some (.slice Ao15 t202.length co15) := (blk_cell BK195.out 3).trans rfl
          have hfz35_0 := blk_frozen BK195.out 0
          have hfz35_1 := blk_frozen BK195.out 1
          have hfz35_2 := blk_frozen BK195.out 2
          have hfz35_3 := blk_frozen BK195.out 3
          go_wp2_with (first | ((with_reducible refine gate_callee (f := 24) rfl ?_); refine goesL_ (some 34) rfl rfl Try.func24 (by kernel_rfl) rfl #[.agg #[.int .i64 t197, .int .i64 t198, .slice Ao14 t199.length co14, .slice Ao15 t202.length co15], .int .i64 a1] rfl (by (try simp only [List.map_toArray, List.map_cons, List.map_nil]); first | done | rfl | (simp only [List.length_drop, List.length_take]; rfl)) ?_; (with_reducible refine (reach_Way.calls t197 t198 _ _ t199 _ _ t202 a1 t208 _ ?side1 ?side2 ?side3 ?side4 A34.out).mono ?_); (case side1 => repeat (first | exact (Kd.R_reads' HO_196002.out).2.2 | (with_reducible refine Kd.C_alloc ?_ _) | (with_reducible refine Kd.C_drewN ?_ _) | (with_reducible refine Kd.C_drew ?_))); (case side2 => exact (Kd.R_reads' HO_196002.out).2.1); (case side3 => repeat (first | exact (Kd.S_reads' HO_196003.out).2.2 | (with_reducible refine Kd.C_alloc ?_ _) | (with_reducible refine Kd.C_drewN ?_ _) | (with_reducible refine Kd.C_drew ?_))); (case side4 => exact (Kd.S_reads' HO_196003.out).2.1); rintro e w36 ⟨v209, rfl, ho0, hb⟩; refine ⟨_, rfl, ?_⟩; have n0_ := Aside0.mk (Kd.R_elder' (by (with_reducible repeat (first | apply Kd.R_alloc | apply Kd.R_drewN | apply Kd.R_drew)); exact HO_196002.out) (Kd.R_base ho0) hb); have n1_ := Aside0.mk (Kd.S_below (by (with_reducible repeat (first | apply Kd.S_alloc | apply Kd.S_drewN | apply Kd.S_drew)); exact HO_196003.out) hb); have n2_ := Aside0.mk (Kd.R_lower (Kd.R_new' ho0 (Kd.R_lt (by (with_reducible repeat (first | apply Kd.R_alloc | apply Kd.R_drewN | apply Kd.R_drew)); exact HO_196002.out))) (below_size (by repeat (first | (with_reducible first | exact HB.out | apply below_alloc | apply pw_below_drewN | apply below_drew1 | refine below_set ?_ GE195.out) | exact HB.out)))); have n3_ := Aside0.mk (blk_below (g := gb195) (o := .cells #[.int .i64 t197, .int .i64 t198, .slice Ao14 t199.length co14, .slice Ao15 t202.length co15] 25 (0, 0)) (by (with_reducible repeat (first | refine blk_drewN ?_ _ | refine blk_drew ?_ | refine blk_alloc ?_ _)); exact BK195.out) hb); have n4_ := Aside0.mk (below_step (by repeat (first | (with_reducible first | exact HB.out | apply below_alloc | apply pw_below_drewN | apply below_drew1 | refine below_set ?_ GE195.out) | exact HB.out)) hb); clear HO_196002; clear HO_196003; clear BK195; clear HB; have HO_196002 := n0_; have HO_196003 := n1_; have HO210 := n2_; have BK195 := n3_; have HB := n4_; clear n0_ n1_ n2_ n3_ n4_; (try clear hb); (try clear hb2); (try clear hk); (try clear hi); (try clear ho0)))
          (try (with_reducible (show Code.wp _ _ _ (Act.put _ _ _) _); go_simp))
          go_loopg [10] kj7 (fun kq v10 w' => ∃ (x10_2 : Int), v10 = .int .i64 x10_2 ∧ Aside0 (gramaryelaw11_ReachOver.l0 kq t208 x10_2 t197 t198 t199 t202 = some r) ∧ Aside0 (kq ≤ kj7) ∧ Aside0 (Kd.R (Kd.int .i64) 3 w' w.heap.size (fun k_ => some k_ ≠ ((.slice Ao14 t199.length co14) : Value).ownBlock) v209 t208) ∧ Aside0 (Kd.R (Kd.int .i64) 3 w' w.heap.size (fun k_ => some k_ ≠ (v209 : Value).ownBlock) (.slice Ao14 t199.length co14) t199) ∧ Aside0 (Kd.S k51 51 w' w.heap.size (fun _ => True) (.slice Ao15 t202.length co15) t202) ∧ Aside0 (w'.heap[gb195]? = some (.cells #[.int .i64 t197, .int .i64 t198, (.slice Ao14 t199.length co14), (.slice Ao15 t202.length co15)] 25 (0, 0))) ∧ Aside0 (Below w.heap.size w w'))
          case atStart => exact ⟨(0), (by first | rfl | (simp; done) | (simp [*]; done)), H', ⟨Nat.le_refl _⟩, ⟨by (with_reducible repeat (first | apply Kd.R_alloc | apply Kd.R_drewN | apply Kd.R_drew)); exact Kd.R_mono HO210.out (fun _ hk => hk.2)⟩, ⟨by (with_reducible repeat (first | apply Kd.R_alloc | apply Kd.R_drewN | apply Kd.R_drew)); exact Kd.R_mono HO_196002.out (fun _ hk => hk.2)⟩, ⟨by (with_reducible repeat (first | apply Kd.S_alloc | apply Kd.S_drewN | apply Kd.S_drew)); exact HO_196003.out⟩, ⟨by (with_reducible repeat (first | refine blk_drewN ?_ _ | refine blk_drew ?_ | refine blk_alloc ?_ _)); exact BK195.out⟩, ⟨by repeat (first | (with_reducible first | exact HB.out | apply below_alloc | apply pw_below_drewN | apply below_drew1 | refine below_set ?_ GE195.out) | exact HB.out)⟩⟩
          case round =>
            clear H'
            try clear c1
            try clear c2
            try clear p2
            try clear c3
            try clear c6
            try clear c8
            try clear c17
            try clear c19
            try clear c23
            try clear c24
            try clear c26
            try clear c30
            try clear c33
            try clear hcz11_0
            try clear hcz11_1
            try clear hcz11_2
            try clear hcz11_3
            try clear hcz13_0
            try clear hcz13_1
            try clear hcz13_2
            try clear hcz13_3
            try clear hcz21_0
            try clear hcz21_1
            try clear hcz21_2
            try clear hcz21_3
            try clear hcz23_0
            try clear hcz23_1
            try clear hcz23_2
            try clear hcz23_3
            try clear hcz25_0
            try clear hcz25_1
            try clear hcz25_2
            try clear hcz25_3
            try clear hcz27_0
            try clear hcz27_1
            try clear hcz27_2
            try clear hcz27_3
            try clear hcz29_0
            try clear hcz29_1
            try clear hcz29_2
            try clear hcz29_3
            try clear hcz31_0
            try clear hcz31_1
            try clear hcz31_2
            try clear hcz31_3
            try clear hcz35_0
            try clear hcz35_1
            try clear hcz35_2
            try clear hcz35_3
            try clear hfz11_0
            try clear hfz11_1
            try clear hfz11_2
            try clear hfz11_3
            try clear hfz13_0
            try clear hfz13_1
            try clear hfz13_2
            try clear hfz13_3
            try clear hfz21_0
            try clear hfz21_1
            try clear hfz21_2
            try clear hfz21_3
            try clear hfz23_0
            try clear hfz23_1
            try clear hfz23_2
            try clear hfz23_3
            try clear hfz25_0
            try clear hfz25_1
            try clear hfz25_2
            try clear hfz25_3
            try clear hfz27_0
            try clear hfz27_1
            try clear hfz27_2
            try clear hfz27_3
            try clear hfz29_0
            try clear hfz29_1
            try clear hfz29_2
            try clear hfz29_3
            try clear hfz31_0
            try clear hfz31_1
            try clear hfz31_2
            try clear hfz31_3
            try clear hfz35_0
            try clear hfz35_1
            try clear hfz35_2
            try clear hfz35_3
            try clear p2
            obtain ⟨x10_2, rfl, HA, HK2, HO_9, HO_196002, HO_196003, BK195, HB⟩ := hrel
            cases gk with
            | zero => exact absurd HA.out (by simp [gramaryelaw11_ReachOver.l0])
            | succ k2 =>
              have H := HA.out
              clear HA
              simp only [gramaryelaw11_ReachOver.l0] at H
              by_cases c37 : x10_2 < (t208.length : Int)
              · rw [if_pos c37] at H
                have c37b0 : decide (x10_2 < (t208.length : Int)) = true := decide_eq_true c37
                clear c37
                by_cases c38 : 0 ≤ x10_2
                · rw [if_pos c38] at H
                  have c38b0 : decide (0 ≤ x10_2) = true := decide_eq_true c38
                  clear c38
                  replace H := Option.bind_eq_some_iff.mp H
                  obtain ⟨t213, A390, H⟩ := H
                  replace H : (if t213 = true then (gramaryelaw11_ReachOver.l0 k2 t208 (wrap64 (x10_2 + 1)) t197 t198 t199 t202) else (some false)) = some r := H
                  have A39 := Aside0.mk A390
                  clear A390
                  by_cases c40 : t213 = true
                  · subst c40
                    have H1 : (gramaryelaw11_ReachOver.l0 k2 t208 (wrap64 (x10_2 + 1)) t197 t198 t199 t202) = some r := by rw [if_pos rfl] at H; exact H
                    clear H
                    have H := H1
                    clear H1
                    have H' := Aside0.mk H
                    clear H
                    obtain ⟨Ao41, co41, eo41⟩ := Kd.R_slice HO_9.out
                    subst eo41
                    try go_wp2
                    have n0_ := Aside0.mk (Kd.R_drew HO_9.out)
                    have n1_ := Aside0.mk (Kd.R_drew HO_196002.out)
                    have n2_ := Aside0.mk (Kd.S_drew HO_196003.out)
                    have n3_ := Aside0.mk (blk_drew BK195.out)
                    have n4_ := Aside0.mk (below_drew1 HB.out)
                    clear HO_9
                    clear HO_196002
                    clear HO_196003
                    clear BK195
                    clear HB
                    have HO_9 := n0_
                    have HO_196002 := n1_
                    have HO_196003 := n2_
                    have BK195 := n3_
                    have HB := n4_
                    clear n0_ n1_ n2_ n3_ n4_
                    have p211 : 0 ≤ (x10_2 : Int) := of_decide_eq_true (by first | (with_reducible assumption) | assumption)
                    have q211 : x10_2 < (t208.length : Int) := of_decide_eq_true (by first | (with_reducible assumption) | assumption)
                    obtain ⟨ad211, e211, hx211_0⟩ := Kd.at_int (Kd.R_reads' HO_9.out).2.2 x10_2 p211 q211
                    cases e211
                    replace p211 := eq_true p211
                    replace q211 := eq_true q211
                    have p212 : 0 ≤ (x10_2 : Int) := of_decide_eq_true (by first | (with_reducible assumption) | assumption)
                    have q212 : x10_2 < (t208.length : Int) := of_decide_eq_true (by first | (with_reducible assumption) | assumption)
                    obtain ⟨ad212, e212, hx212_0⟩ := Kd.at_int (Kd.R_reads' HO_9.out).2.2 x10_2 p212 q212
                    obtain rfl : ad211 = ad212 := (by injection e212)
                    replace p212 := eq_true p212
                    replace q212 := eq_true q212
                    refine start_ (n := 11) (S := fun w' => w'.cell? ⟨gb195, 0, none⟩ = some (.int .i64 t197) ∧ w'.cell? ⟨gb195, 1, none⟩ = some (.int .i64 t198) ∧ w'.cell? ⟨gb195, 2, none⟩ = some (.slice Ao14 t199.length co14) ∧ w'.cell? ⟨gb195, 3, none⟩ = some (.slice Ao15 t202.length co15) ∧ w'.cell? (ad211.add (x10_2).toNat) = some (.int .i64 (rd t208 x10_2)) ∧ w'.cell? (ad211.add (x10_2).toNat) = some (.int .i64 (rd t208 x10_2))) (ds := []) #[false, false, false, false, false, false, false, false, false, false, false] (by kernel_rfl) rfl rfl ⟨(blk_cell BK195.out 0).trans rfl, (blk_cell BK195.out 1).trans rfl, (blk_cell BK195.out 2).trans rfl, (blk_cell BK195.out 3).trans rfl, hx211_0, hx212_0⟩ (fun hHeld => ?_); refine with_tabW gramaryelaw11_ReachOver.tab10 gramaryelaw11_ReachOver.bits10 (fun HT_ HW_ => ?_)
                    generalize wr.drew = w42 at HO_9 HO_196002 HO_196003 BK195 HB hx211_0 hx212_0 hHeld ⊢
                    refine pure_ (i := 1) (N := some 42) (v := ?_) (a' := ?_) #[false, true, false, false, false, false, false, false, false, false, false] rfl rfl (any_of HT_.out (by kernel_rfl)) (fun _ _ _ h => h) (Or.inl ⟨by rfl, ?_⟩) ?_ ?_
                    rotate_left
                    · intro w'
                      go_simp
                      with_reducible rfl
                    rotate_left
                    · simp only [Act.put, List.setIfInBounds_toArray, List.set_cons_zero, List.set_cons_succ, i64_w, i32_w]
                      rfl
                    refine pure_ (i := 2) (N := some 43) (v := ?_) (a' := ?_) #[false, true, true, false, false, false, false, false, false, false, false] rfl rfl (any_of HT_.out (by kernel_rfl)) (fun _ _ _ h => h) (Or.inl ⟨by rfl, ?_⟩) ?_ ?_
                    rotate_left
                    · intro w'
                      go_simp
                      with_reducible rfl
                    rotate_left
                    · simp only [Act.put, List.setIfInBounds_toArray, List.set_cons_zero, List.set_cons_succ, i64_w, i32_w]
                      rfl
                    refine pure_ (i := 3) (N := some 44) (v := ?_) (a' := ?_) #[false, true, true, true, false, false, false, false, false, false, false] rfl rfl (any_of HT_.out (by kernel_rfl)) (fun _ _ _ h => h) (Or.inl ⟨by rfl, ?_⟩) ?_ ?_
                    rotate_left
                    · intro w'
                      go_simp
                      with_reducible rfl
                    rotate_left
                    · simp only [Act.put, List.setIfInBounds_toArray, List.set_cons_zero, List.set_cons_succ, i64_w, i32_w]
                      rfl
                    refine pure_ (i := 5) (N := some 46) (v := ?_) (a' := ?_) #[false, true, true, true, false, true, false, false, false, false, false] rfl rfl (any_of HT_.out (by kernel_rfl)) (fun _ _ _ h => h) (Or.inl ⟨by rfl, ?_⟩) ?_ ?_
                    rotate_left
                    · intro w'
                      go_simp
                      with_reducible rfl
                    rotate_left
                    · simp only [Act.put, List.setIfInBounds_toArray, List.set_cons_zero, List.set_cons_succ, i64_w, i32_w]
                      rfl
                    refine pure_ (i := 6) (N := some 47) (v := ?_) (a' := ?_) #[false, true, true, true, false, true, true, false, false, false, false] rfl rfl (any_of HT_.out (by kernel_rfl)) (fun _ _ _ h => h) (Or.inl ⟨by rfl, ?_⟩) ?_ ?_
                    rotate_left
                    · intro w'
                      go_simp
                      with_reducible rfl
                    rotate_left
                    · simp only [Act.put, List.setIfInBounds_toArray, List.set_cons_zero, List.set_cons_succ, i64_w, i32_w]
                      rfl
                    refine pure_ (i := 7) (N := some 48) (v := ?_) (a' := ?_) #[false, true, true, true, false, true, true, true, false, false, false] rfl rfl (any_of HT_.out (by kernel_rfl)) (fun _ _ _ h => h) (Or.inl ⟨by rfl, ?_⟩) ?_ ?_
                    rotate_left
                    · intro w'
                      go_simp
                      with_reducible rfl
                    rotate_left
                    · simp only [Act.put, List.setIfInBounds_toArray, List.set_cons_zero, List.set_cons_succ, i64_w, i32_w]
                      rfl
                    refine take_ (i := 0) (N := some 41) (v := ?_) (a' := ?_) #[true, true, true, true, false, true, true, true, false, false, false] rfl rfl (take_ofW HT_.out HW_.out (by kernel_rfl)) (fun _ _ _ h => h) (Or.inl ⟨by rfl, ?_⟩) hHeld ?_ ?_
                    rotate_left
                    · rintro w' ⟨s0, s1, s2, s3, s4, s5⟩
                      go_simp
                      with_reducible rfl
                    rotate_left
                    · simp only [Act.put, List.setIfInBounds_toArray, List.set_cons_zero, List.set_cons_succ, i64_w, i32_w]
                      rfl
                    refine take_ (i := 4) (N := some 45) (v := ?_) (a' := ?_) #[true, true, true, true, true, true, true, true, false, false, false] rfl rfl (take_ofW HT_.out HW_.out (by kernel_rfl)) (fun _ _ _ h => h) (Or.inl ⟨by rfl, ?_⟩) hHeld ?_ ?_
                    rotate_left
                    · rintro w' ⟨s0, s1, s2, s3, s4, s5⟩
                      go_simp
                      with_reducible rfl
                    rotate_left
                    · simp only [Act.put, List.setIfInBounds_toArray, List.set_cons_zero, List.set_cons_succ, i64_w, i32_w]
                      rfl
                    refine take_ (i := 8) (N := some 49) (v := ?_) (a' := ?_) #[true, true, true, true, true, true, true, true, true, false, false] rfl rfl (take_ofW HT_.out HW_.out (by kernel_rfl)) (fun _ _ _ h => h) (Or.inl ⟨by rfl, ?_⟩) hHeld ?_ ?_
                    rotate_left
                    · rintro w' ⟨s0, s1, s2, s3, s4, s5⟩
                      go_simp
                      with_reducible rfl
                    rotate_left
                    · simp only [Act.put, List.setIfInBounds_toArray, List.set_cons_zero, List.set_cons_succ, i64_w, i32_w]
                      rfl
                    refine one_ (i := 9) (N := some 50) #[true, true, true, true, true, true, true, true, true, true, false] rfl rfl (one_of HT_.out (by kernel_rfl)) (by decide) (fun K hK => ?_)
                    refine goes_ Try.func30 (by kernel_rfl) rfl #[.agg #[.int .i64 t197, .int .i64 t198, .slice Ao14 t199.length co14, .slice Ao15 t202.length co15], .int .i64 (rd t208 x10_2), .int .i64 (rd t208 x10_2)] (by rfl) rfl rfl (by (try simp only [List.map_toArray, List.map_cons, List.map_nil]); first | done | rfl | (simp only [List.length_drop, List.length_take]; rfl)) ?_
                    with_reducible refine (reach_Begins.calls t197 t198 _ _ t199 _ _ t202 (rd t208 x10_2) (rd t208 x10_2) true _ ?side1 ?side2 ?side3 ?side4 A39.out).mono ?_
                    (case side1 => repeat (first | exact (Kd.R_reads' HO_196002.out).2.2 | (with_reducible refine Kd.C_alloc ?_ _) | (with_reducible refine Kd.C_drewN ?_ _) | (with_reducible refine Kd.C_drew ?_)))
                    (case side2 => exact (Kd.R_reads' HO_196002.out).2.1)
                    (case side3 => repeat (first | exact (Kd.S_reads' HO_196003.out).2.2 | (with_reducible refine Kd.C_alloc ?_ _) | (with_reducible refine Kd.C_drewN ?_ _) | (with_reducible refine Kd.C_drew ?_)))
                    (case side4 => exact (Kd.S_reads' HO_196003.out).2.1)
                    rintro e w43 ⟨rfl, hb⟩
                    have HS4_ := (hb.cell (World.block_lt_of_cell? _ _ (hHeld.2.2.2.2.1))).trans (hHeld.2.2.2.2.1)
                    have HS5_ := (hb.cell (World.block_lt_of_cell? _ _ (hHeld.2.2.2.2.2))).trans (hHeld.2.2.2.2.2)
                    refine ⟨_, rfl, ?_⟩
                    have n0_ := Aside0.mk (Kd.R_below (by (with_reducible repeat (first | apply Kd.R_alloc | apply Kd.R_drewN | apply Kd.R_drew)); exact HO_9.out) hb)
                    have n1_ := Aside0.mk (Kd.R_below (by (with_reducible repeat (first | apply Kd.R_alloc | apply Kd.R_drewN | apply Kd.R_drew)); exact HO_196002.out) hb)
                    have n2_ := Aside0.mk (Kd.S_below (by (with_reducible repeat (first | apply Kd.S_alloc | apply Kd.S_drewN | apply Kd.S_drew)); exact HO_196003.out) hb)
                    have n3_ := Aside0.mk (blk_below (g := gb195) (o := .cells #[.int .i64 t197, .int .i64 t198, .slice Ao14 t199.length co14, .slice Ao15 t202.length co15] 25 (0, 0)) (by (with_reducible repeat (first | refine blk_drewN ?_ _ | refine blk_drew ?_ | refine blk_alloc ?_ _)); exact BK195.out) hb)
                    have n4_ := Aside0.mk (below_step (by repeat (first | (with_reducible first | exact HB.out | apply below_alloc | apply pw_below_drewN | apply below_drew1 | refine below_set ?_ GE195.out) | exact HB.out)) hb)
                    clear HO_9
                    clear HO_196002
                    clear HO_196003
                    clear BK195
                    clear HB
                    have HO_9 := n0_
                    have HO_196002 := n1_
                    have HO_196003 := n2_
                    have BK195 := n3_
                    have HB := n4_
                    clear n0_ n1_ n2_ n3_ n4_
                    (try clear hb)
                    (try clear hb2)
                    (try clear hk)
                    (try clear hi)
                    refine hK.out _ _ ⟨(blk_cell BK195.out 0).trans rfl, (blk_cell BK195.out 1).trans rfl, (blk_cell BK195.out 2).trans rfl, (blk_cell BK195.out 3).trans rfl, HS4_, HS5_⟩ (fun hHeld => ?_)
                    clear hK K
                    refine norm_ (a' := ?_) ?_ ?_
                    rotate_left
                    · show Act.put _ (some 50) _ = _
                      simp only [Act.put, List.setIfInBounds_toArray, List.set_cons_zero, List.set_cons_succ, i64_w, i32_w]
                      rfl
                    refine pure_ (i := 10) (N := some 51) (v := ?_) (a' := ?_) #[true, true, true, true, true, true, true, true, true, true, true] rfl rfl (any_of HT_.out (by kernel_rfl)) (fun _ _ _ h => h) (Or.inl ⟨by rfl, ?_⟩) ?_ ?_
                    rotate_left
                    · intro w'
                      go_simp
                      with_reducible rfl
                    rotate_left
                    · simp only [Act.put, List.setIfInBounds_toArray, List.set_cons_zero, List.set_cons_succ, i64_w, i32_w]
                      rfl
                    refine done_ (done_of HT_.out (by kernel_rfl)) ?_
                    try go_wp2
                    go_roundg k2
                    case measure => have := HJ7.out; have := HK2.out; omega
                    case rel => exact ⟨(wrap64 (x10_2 + 1)), (by first | rfl | (simp; done) | (simp [*]; done)), H', ⟨by have := HJ7.out; have := HK2.out; omega⟩, ⟨by (with_reducible repeat (first | apply Kd.R_alloc | apply Kd.R_drewN | apply Kd.R_drew)); exact HO_9.out⟩, ⟨by (with_reducible repeat (first | apply Kd.R_alloc | apply Kd.R_drewN | apply Kd.R_drew)); exact HO_196002.out⟩, ⟨by (with_reducible repeat (first | apply Kd.S_alloc | apply Kd.S_drewN | apply Kd.S_drew)); exact HO_196003.out⟩, ⟨by (with_reducible repeat (first | refine blk_drewN ?_ _ | refine blk_drew ?_ | refine blk_alloc ?_ _)); exact BK195.out⟩, ⟨by repeat (first | (with_reducible first | exact HB.out | apply below_alloc | apply pw_below_drewN | apply below_drew1 | refine below_set ?_ GE195.out) | exact HB.out)⟩⟩
                  · replace c40 := Bool.eq_false_iff.mpr c40
                    subst c40
                    have H1 : (some false) = some r := by rw [if_neg (show ¬ (false = true) by decide)] at H; exact H
                    clear H
                    have H := H1
                    clear H1
                    obtain rfl := Option.some.inj H
                    obtain ⟨Ao44, co44, eo44⟩ := Kd.R_slice HO_9.out
                    subst eo44
                    try go_wp2
                    have n0_ := Aside0.mk (Kd.R_drew HO_9.out)
                    have n1_ := Aside0.mk (Kd.R_drew HO_196002.out)
                    have n2_ := Aside0.mk (Kd.S_drew HO_196003.out)
                    have n3_ := Aside0.mk (blk_drew BK195.out)
                    have n4_ := Aside0.mk (below_drew1 HB.out)
                    clear HO_9
                    clear HO_196002
                    clear HO_196003
                    clear BK195
                    clear HB
                    have HO_9 := n0_
                    have HO_196002 := n1_
                    have HO_196003 := n2_
                    have BK195 := n3_
                    have HB := n4_
                    clear n0_ n1_ n2_ n3_ n4_
                    have p211 : 0 ≤ (x10_2 : Int) := of_decide_eq_true (by first | (with_reducible assumption) | assumption)
                    have q211 : x10_2 < (t208.length : Int) := of_decide_eq_true (by first | (with_reducible assumption) | assumption)
                    obtain ⟨ad211, e211, hx211_0⟩ := Kd.at_int (Kd.R_reads' HO_9.out).2.2 x10_2 p211 q211
                    cases e211
                    replace p211 := eq_true p211
                    replace q211 := eq_true q211
                    have p212 : 0 ≤ (x10_2 : Int) := of_decide_eq_true (by first | (with_reducible assumption) | assumption)
                    have q212 : x10_2 < (t208.length : Int) := of_decide_eq_true (by first | (with_reducible assumption) | assumption)
                    obtain ⟨ad212, e212, hx212_0⟩ := Kd.at_int (Kd.R_reads' HO_9.out).2.2 x10_2 p212 q212
                    obtain rfl : ad211 = ad212 := (by injection e212)
                    replace p212 := eq_true p212
                    replace q212 := eq_true q212
                    refine start_ (n := 11) (S := fun w' => w'.cell? ⟨gb195, 0, none⟩ = some (.int .i64 t197) ∧ w'.cell? ⟨gb195, 1, none⟩ = some (.int .i64 t198) ∧ w'.cell? ⟨gb195, 2, none⟩ = some (.slice Ao14 t199.length co14) ∧ w'.cell? ⟨gb195, 3, none⟩ = some (.slice Ao15 t202.length co15) ∧ w'.cell? (ad211.add (x10_2).toNat) = some (.int .i64 (rd t208 x10_2)) ∧ w'.cell? (ad211.add (x10_2).toNat) = some (.int .i64 (rd t208 x10_2))) (ds := []) #[false, false, false, false, false, false, false, false, false, false, false] (by kernel_rfl) rfl rfl ⟨(blk_cell BK195.out 0).trans rfl, (blk_cell BK195.out 1).trans rfl, (blk_cell BK195.out 2).trans rfl, (blk_cell BK195.out 3).trans rfl, hx211_0, hx212_0⟩ (fun hHeld => ?_); refine with_tabW gramaryelaw11_ReachOver.tab10 gramaryelaw11_ReachOver.bits10 (fun HT_ HW_ => ?_)
                    generalize wr.drew = w45 at HO_9 HO_196002 HO_196003 BK195 HB hx211_0 hx212_0 hHeld ⊢
                    refine pure_ (i := 1) (N := some 42) (v := ?_) (a' := ?_) #[false, true, false, false, false, false, false, false, false, false, false] rfl rfl (any_of HT_.out (by kernel_rfl)) (fun _ _ _ h => h) (Or.inl ⟨by rfl, ?_⟩) ?_ ?_
                    rotate_left
                    · intro w'
                      go_simp
                      with_reducible rfl
                    rotate_left
                    · simp only [Act.put, List.setIfInBounds_toArray, List.set_cons_zero, List.set_cons_succ, i64_w, i32_w]
                      rfl
                    refine pure_ (i := 2) (N := some 43) (v := ?_) (a' := ?_) #[false, true, true, false, false, false, false, false, false, false, false] rfl rfl (any_of HT_.out (by kernel_rfl)) (fun _ _ _ h => h) (Or.inl ⟨by rfl, ?_⟩) ?_ ?_
                    rotate_left
                    · intro w'
                      go_simp
                      with_reducible rfl
                    rotate_left
                    · simp only [Act.put, List.setIfInBounds_toArray, List.set_cons_zero, List.set_cons_succ, i64_w, i32_w]
                      rfl
                    refine pure_ (i := 3) (N := some 44) (v := ?_) (a' := ?_) #[false, true, true, true, false, false, false, false, false, false, false] rfl rfl (any_of HT_.out (by kernel_rfl)) (fun _ _ _ h => h) (Or.inl ⟨by rfl, ?_⟩) ?_ ?_
                    rotate_left
                    · intro w'
                      go_simp
                      with_reducible rfl
                    rotate_left
                    · simp only [Act.put, List.setIfInBounds_toArray, List.set_cons_zero, List.set_cons_succ, i64_w, i32_w]
                      rfl
                    refine pure_ (i := 5) (N := some 46) (v := ?_) (a' := ?_) #[false, true, true, true, false, true, false, false, false, false, false] rfl rfl (any_of HT_.out (by kernel_rfl)) (fun _ _ _ h => h) (Or.inl ⟨by rfl, ?_⟩) ?_ ?_
                    rotate_left
                    · intro w'
                      go_simp
                      with_reducible rfl
                    rotate_left
                    · simp only [Act.put, List.setIfInBounds_toArray, List.set_cons_zero, List.set_cons_succ, i64_w, i32_w]
                      rfl
                    refine pure_ (i := 6) (N := some 47) (v := ?_) (a' := ?_) #[false, true, true, true, false, true, true, false, false, false, false] rfl rfl (any_of HT_.out (by kernel_rfl)) (fun _ _ _ h => h) (Or.inl ⟨by rfl, ?_⟩) ?_ ?_
                    rotate_left
                    · intro w'
                      go_simp
                      with_reducible rfl
                    rotate_left
                    · simp only [Act.put, List.setIfInBounds_toArray, List.set_cons_zero, List.set_cons_succ, i64_w, i32_w]
                      rfl
                    refine pure_ (i := 7) (N := some 48) (v := ?_) (a' := ?_) #[false, true, true, true, false, true, true, true, false, false, false] rfl rfl (any_of HT_.out (by kernel_rfl)) (fun _ _ _ h => h) (Or.inl ⟨by rfl, ?_⟩) ?_ ?_
                    rotate_left
                    · intro w'
                      go_simp
                      with_reducible rfl
                    rotate_left
                    · simp only [Act.put, List.setIfInBounds_toArray, List.set_cons_zero, List.set_cons_succ, i64_w, i32_w]
                      rfl
                    refine take_ (i := 0) (N := some 41) (v := ?_) (a' := ?_) #[true, true, true, true, false, true, true, true, false, false, false] rfl rfl (take_ofW HT_.out HW_.out (by kernel_rfl)) (fun _ _ _ h => h) (Or.inl ⟨by rfl, ?_⟩) hHeld ?_ ?_
                    rotate_left
                    · rintro w' ⟨s0, s1, s2, s3, s4, s5⟩
                      go_simp
                      with_reducible rfl
                    rotate_left
                    · simp only [Act.put, List.setIfInBounds_toArray, List.set_cons_zero, List.set_cons_succ, i64_w, i32_w]
                      rfl
                    refine take_ (i := 4) (N := some 45) (v := ?_) (a' := ?_) #[true, true, true, true, true, true, true, true, false, false, false] rfl rfl (take_ofW HT_.out HW_.out (by kernel_rfl)) (fun _ _ _ h => h) (Or.inl ⟨by rfl, ?_⟩) hHeld ?_ ?_
                    rotate_left
                    · rintro w' ⟨s0, s1, s2, s3, s4, s5⟩
                      go_simp
                      with_reducible rfl
                    rotate_left
                    · simp only [Act.put, List.setIfInBounds_toArray, List.set_cons_zero, List.set_cons_succ, i64_w, i32_w]
                      rfl
                    refine take_ (i := 8) (N := some 49) (v := ?_) (a' := ?_) #[true, true, true, true, true, true, true, true, true, false, false] rfl rfl (take_ofW HT_.out HW_.out (by kernel_rfl)) (fun _ _ _ h => h) (Or.inl ⟨by rfl, ?_⟩) hHeld ?_ ?_
                    rotate_left
                    · rintro w' ⟨s0, s1, s2, s3, s4, s5⟩
                      go_simp
                      with_reducible rfl
                    rotate_left
                    · simp only [Act.put, List.setIfInBounds_toArray, List.set_cons_zero, List.set_cons_succ, i64_w, i32_w]
                      rfl
                    refine one_ (i := 9) (N := some 50) #[true, true, true, true, true, true, true, true, true, true, false] rfl rfl (one_of HT_.out (by kernel_rfl)) (by decide) (fun K hK => ?_)
                    refine goes_ Try.func30 (by kernel_rfl) rfl #[.agg #[.int .i64 t197, .int .i64 t198, .slice Ao14 t199.length co14, .slice Ao15 t202.length co15], .int .i64 (rd t208 x10_2), .int .i64 (rd t208 x10_2)] (by rfl) rfl rfl (by (try simp only [List.map_toArray, List.map_cons, List.map_nil]); first | done | rfl | (simp only [List.length_drop, List.length_take]; rfl)) ?_
                    with_reducible refine (reach_Begins.calls t197 t198 _ _ t199 _ _ t202 (rd t208 x10_2) (rd t208 x10_2) false _ ?side1 ?side2 ?side3 ?side4 A39.out).mono ?_
                    (case side1 => repeat (first | exact (Kd.R_reads' HO_196002.out).2.2 | (with_reducible refine Kd.C_alloc ?_ _) | (with_reducible refine Kd.C_drewN ?_ _) | (with_reducible refine Kd.C_drew ?_)))
                    (case side2 => exact (Kd.R_reads' HO_196002.out).2.1)
                    (case side3 => repeat (first | exact (Kd.S_reads' HO_196003.out).2.2 | (with_reducible refine Kd.C_alloc ?_ _) | (with_reducible refine Kd.C_drewN ?_ _) | (with_reducible refine Kd.C_drew ?_)))
                    (case side4 => exact (Kd.S_reads' HO_196003.out).2.1)
                    rintro e w46 ⟨rfl, hb⟩
                    have HS4_ := (hb.cell (World.block_lt_of_cell? _ _ (hHeld.2.2.2.2.1))).trans (hHeld.2.2.2.2.1)
                    have HS5_ := (hb.cell (World.block_lt_of_cell? _ _ (hHeld.2.2.2.2.2))).trans (hHeld.2.2.2.2.2)
                    refine ⟨_, rfl, ?_⟩
                    have n0_ := Aside0.mk (Kd.R_below (by (with_reducible repeat (first | apply Kd.R_alloc | apply Kd.R_drewN | apply Kd.R_drew)); exact HO_9.out) hb)
                    have n1_ := Aside0.mk (Kd.R_below (by (with_reducible repeat (first | apply Kd.R_alloc | apply Kd.R_drewN | apply Kd.R_drew)); exact HO_196002.out) hb)
                    have n2_ := Aside0.mk (Kd.S_below (by (with_reducible repeat (first | apply Kd.S_alloc | apply Kd.S_drewN | apply Kd.S_drew)); exact HO_196003.out) hb)
                    have n3_ := Aside0.mk (blk_below (g := gb195) (o := .cells #[.int .i64 t197, .int .i64 t198, .slice Ao14 t199.length co14, .slice Ao15 t202.length co15] 25 (0, 0)) (by (with_reducible repeat (first | refine blk_drewN ?_ _ | refine blk_drew ?_ | refine blk_alloc ?_ _)); exact BK195.out) hb)
                    have n4_ := Aside0.mk (below_step (by repeat (first | (with_reducible first | exact HB.out | apply below_alloc | apply pw_below_drewN | apply below_drew1 | refine below_set ?_ GE195.out) | exact HB.out)) hb)
                    clear HO_9
                    clear HO_196002
                    clear HO_196003
                    clear BK195
                    clear HB
                    have HO_9 := n0_
                    have HO_196002 := n1_
                    have HO_196003 := n2_
                    have BK195 := n3_
                    have HB := n4_
                    clear n0_ n1_ n2_ n3_ n4_
                    (try clear hb)
                    (try clear hb2)
                    (try clear hk)
                    (try clear hi)
                    refine hK.out _ _ ⟨(blk_cell BK195.out 0).trans rfl, (blk_cell BK195.out 1).trans rfl, (blk_cell BK195.out 2).trans rfl, (blk_cell BK195.out 3).trans rfl, HS4_, HS5_⟩ (fun hHeld => ?_)
                    clear hK K
                    refine norm_ (a' := ?_) ?_ ?_
                    rotate_left
                    · show Act.put _ (some 50) _ = _
                      simp only [Act.put, List.setIfInBounds_toArray, List.set_cons_zero, List.set_cons_succ, i64_w, i32_w]
                      rfl
                    refine pure_ (i := 10) (N := some 51) (v := ?_) (a' := ?_) #[true, true, true, true, true, true, true, true, true, true, true] rfl rfl (any_of HT_.out (by kernel_rfl)) (fun _ _ _ h => h) (Or.inl ⟨by rfl, ?_⟩) ?_ ?_
                    rotate_left
                    · intro w'
                      go_simp
                      with_reducible rfl
                    rotate_left
                    · simp only [Act.put, List.setIfInBounds_toArray, List.set_cons_zero, List.set_cons_succ, i64_w, i32_w]
                      rfl
                    refine done_ (done_of HT_.out (by kernel_rfl)) ?_
                    try go_wp2
                    go_ret
                    exact ⟨by first | rfl | (simp [errW_none, errW_some] <;> rfl) | (simp [*, errW_none, errW_some] <;> rfl), by repeat (first | (with_reducible first | exact HB.out | apply below_alloc | apply pw_below_drewN | apply below_drew1 | refine below_set ?_ GE195.out) | exact HB.out)⟩
                · rw [if_neg c38] at H
                  exact absurd H (by simp)
              · rw [if_neg c37] at H
                have c37b0 : decide (x10_2 < (t208.length : Int)) = false := decide_eq_false c37
                clear c37
                obtain rfl := Option.some.inj H
                obtain ⟨Ao47, co47, eo47⟩ := Kd.R_slice HO_9.out
                subst eo47
                go_wp2
                go_ret
                exact ⟨by first | rfl | (simp [errW_none, errW_some] <;> rfl) | (simp [*, errW_none, errW_some] <;> rfl), by repeat (first | (with_reducible first | exact HB.out | apply below_alloc | apply pw_below_drewN | apply below_drew1 | refine below_set ?_ GE195.out) | exact HB.out)⟩
  · replace c6 := Bool.eq_false_iff.mpr c6
    subst c6
    have H1 : (some false) = some r := by rw [if_neg (show ¬ (false = true) by decide)] at H; exact H
    clear H
    have H := H1
    clear H1
    obtain rfl := Option.some.inj H
    go_enter Try.func8, Try.ntmps8
    go_wp2_with (first | ((with_reducible refine gate_dst (N := 4) rfl ?_); refine box_event ?hg (N := 4) ?hd (cs := #[.int .i64 a0_0, .int .i64 a0_1, .slice A0_2 l0_2.length c0_2, .slice A0_3 l0_3.length c0_3]) (t := 25) ?hr ?_; (case hd => rfl); (case hg => rfl); (case hr => first | (go_simp; done) | (go_simp; rfl)); intro gb195 hg w48 hbox hb; have n0_ := Aside0.mk (below_step (by repeat (first | (with_reducible first | exact HB.out | apply below_alloc | apply pw_below_drewN | apply below_drew1) | exact HB.out)) hb); have n1_ := Aside0.mk (hbox); have n2_ := Aside0.mk ((by rw [hg]; exact (below_size (by repeat (first | (with_reducible first | exact HB.out | apply below_alloc | apply pw_below_drewN | apply below_drew1) | exact HB.out))) : w.heap.size ≤ gb195)); have n3_ := Aside0.mk ((by rw [hg]; exact (below_size (by repeat (first | (with_reducible first | exact HB.out | apply below_alloc | apply pw_below_drewN | apply below_drew1) | exact HB.out))) : w.heap.size ≤ gb195)); clear HB; have HB := n0_; have BK195 := n1_; have GW195 := n2_; have GE195 := n3_; clear n0_ n1_ n2_ n3_; clear hb hbox hg) | ((with_reducible refine gate_callee (f := 26) rfl ?_); refine goesL_ (some 11) rfl rfl Try.func26 (by kernel_rfl) rfl #[] rfl (by (try simp only [List.map_toArray, List.map_cons, List.map_nil]); first | done | rfl | (simp only [List.length_drop, List.length_take]; rfl)) ?_; (with_reducible refine (gramaryelaw11_works.calls k  false _ A5.out).mono ?_); rintro e w49 ⟨rfl, hb⟩; refine ⟨_, rfl, ?_⟩; have n0_ := Aside0.mk (blk_below (g := gb195) (o := .cells #[.int .i64 a0_0, .int .i64 a0_1, .slice A0_2 l0_2.length c0_2, .slice A0_3 l0_3.length c0_3] 25 (0, 0)) (by (with_reducible repeat (first | refine blk_drewN ?_ _ | refine blk_drew ?_ | refine blk_alloc ?_ _)); exact BK195.out) hb); have n1_ := Aside0.mk (below_step (by repeat (first | (with_reducible first | exact HB.out | apply below_alloc | apply pw_below_drewN | apply below_drew1 | refine below_set ?_ GE195.out) | exact HB.out)) hb); clear BK195; clear HB; have BK195 := n0_; have HB := n1_; clear n0_ n1_; (try clear hb); (try clear hb2); (try clear hk); (try clear hi)))
    go_ret
    exact ⟨by first | rfl | (simp [errW_none, errW_some] <;> rfl) | (simp [*, errW_none, errW_some] <;> rfl), by repeat (first | (with_reducible first | exact HB.out | apply below_alloc | apply pw_below_drewN | apply below_drew1 | refine below_set ?_ GE195.out) | exact HB.out)⟩
end Go.Proofs.Ytmpdilifoblnaaa.MReachOver
end
section
namespace Go.Proofs.Ytmpdilifoblnaaa.MReachOver
open Go.RowKit Go.Proofs.YtmpdilifoblnaaaW.PrintWords Go.Proofs.Ytmpdilifoblnaaa.Reads
set_option linter.unusedVariables false
def Good59 (x : S59) : Prop := (True) ∧ ((Lit.int .i64 x.f1).wf = true)
theorem fits59 : Fits Try.prog k59 Good59 59 :=
  fits_iso (fun x : S59 => (x.f0, x.f1)) (fun x_ => ⟨x_.1, x_.2⟩) (fun _ => rfl) (fits_struct Try.underlying59 (by kernel_rfl) (fitsF_cons 0 (fits_bool Try.prog Try.underlying4) rfl (by kernel_rfl) (fitsF_one 1 (fits_int Try.prog .i64 Try.underlying3) rfl (by kernel_rfl))))
def Good51 (x : S51) : Prop := ((Lit.int .i64 x.f0).wf = true) ∧ (x.f1.length * 16 ≤ 140737488351232 ∧ x.f1.length ≤ 9223372036854775807 ∧ ∀ x_ ∈ x.f1, Good59 x_)
theorem fits51 : Fits Try.prog k51 Good51 51 :=
  fits_iso (fun x : S51 => (x.f0, x.f1)) (fun x_ => ⟨x_.1, x_.2⟩) (fun _ => rfl) (fits_struct Try.underlying51 (by kernel_rfl) (fitsF_cons 0 (fits_int Try.prog .i64 Try.underlying3) rfl (by kernel_rfl) (fitsF_one 1 (fits_slice 59 16 Try.underlying38 (by kernel_rfl) (by kernel_rfl) fits59) rfl (by kernel_rfl))))
def gramaryelaw11_ReachOver.PureG : Prop := ∀ (a0_0 : Int) (a0_1 : Int) (l0_2 : List Int) (l0_3 : List (S51)) (a1 : Int) (a2 : Int) (a3 : Int), ((Lit.int .i64 a0_0).wf = true) → ((Lit.int .i64 a0_1).wf = true) → (l0_2.length * 8 ≤ 140737488351232 ∧ l0_2.length ≤ 9223372036854775807 ∧ ∀ x_ ∈ l0_2, (Lit.int .i64 x_).wf = true) → (l0_3.length * 32 ≤ 140737488351232 ∧ l0_3.length ≤ 9223372036854775807 ∧ ∀ x_ ∈ l0_3, Good51 x_) → ((Lit.int .i64 a1).wf = true) → ((Lit.int .i64 a2).wf = true) → ((Lit.int .i64 a3).wf = true) → ∃ k, gramaryelaw11_ReachOver.f k a0_0 a0_1 l0_2 l0_3 a1 a2 a3 = some true
end Go.Proofs.Ytmpdilifoblnaaa.MReachOver
end
