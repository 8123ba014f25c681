/-
The package-level tables of texts that this seat's laws read: what a world that holds them keeps.
-/
import Derived.Test.YtmpdilifoblnaaaDoorProg
import Derived.Test.YtmpdilifoblnaaaDoorWWords
import Derived.Test.YtmpdilifoblnaaaDoorWMore
import Derived.OpenShut
import Derived.LaidLaws
import Derived.WideShapes
namespace Go.Proofs.YtmpdilifoblnaaaDoor.Glob
open Go.RowKit Go.Proofs.YtmpdilifoblnaaaDoorW.PrintWords

/-- 'a[i]' of an array by value, its elements of one cell each. -/
theorem run_index_row {P : Program} (t e : TypeId) (n : Nat) (cs : Array Value) (k : IntKind) (i : Int) (w : World) (h : P.underlying t = some (.array n e)) (h0 : 0 ≤ i) (h1 : i < (n : Int))
    (hsz : (sizeOf e).run P w = .ok 1 w) (hag : (isAgg e).run P w = .ok false w) (v : Value) (hv : cs[i.toNat]? = some v) :
    (Instr.index t (.agg cs) (.int k i)).run P w = .ok v w := by
  simp [Instr.index, run_underlying h, asIntOf, go_sem, h0, h1, hsz, hag, hv]

theorem run_tab {P : Program} (t e : TypeId) (n : Nat) (L : List ByteArray) (hL : L.length = n) (h : P.underlying t = some (.array n e)) (hsz : ∀ w, (sizeOf e).run P w = .ok 1 w) (hag : ∀ w, (isAgg e).run P w = .ok false w)
    (k : Nat) (hk : k < L.length) (w : World) : (Instr.index t (.agg (L.map Value.string).toArray) (.int .i64 (k : Int))).run P w = .ok (.string L[k]) w :=
  run_index_row t e n _ .i64 (k : Int) w h (by omega) (by omega) (hsz w) (hag w) _ (by simp [hk])

/-- A variable's whole row. -/
structure Holds (g : Nat) (cs : Array Value) (w : World) : Prop where mk :: (out : ∃ t fr, w.heap[g]? = some (.cells cs t fr))
theorem Holds.lt {g : Nat} {cs : Array Value} {w : World} (h : Holds g cs w) : g < w.heap.size := by
  obtain ⟨t, fr, h⟩ := h.out
  rcases Nat.lt_or_ge g w.heap.size with h' | h'
  · exact h'
  · rw [Array.getElem?_eq_none h'] at h; cases h
theorem Holds.below {g : Nat} {cs : Array Value} {w W : World} (h : Holds g cs w) (hb : Below w.heap.size w W) : Holds g cs W := by
  obtain ⟨t, fr, hh⟩ := h.out
  exact ⟨t, fr, by rw [hb.block g h.lt]; exact hh⟩
theorem Holds.alloc {g : Nat} {cs : Array Value} {w : World} (h : Holds g cs w) (o : Obj) : Holds g cs (w.alloc o) := h.below ((Below.refl _ _).alloc (Nat.le_refl _) _)
theorem Holds.drewN {g : Nat} {cs : Array Value} {w : World} (h : Holds g cs w) (n : Nat) : Holds g cs (w.drewN n) := h.below (pw_below_drewN (Below.refl _ _) n)
theorem Holds.drew {g : Nat} {cs : Array Value} {w : World} (h : Holds g cs w) : Holds g cs w.drew := h.below (below_drew1 (Below.refl _ _))
theorem Holds.aside {g : Nat} {cs : Array Value} {w W : World} (h : Holds g cs w) (hb : Aside0 (Below w.heap.size w W)) : Holds g cs W := h.below hb.out
theorem Holds.drawn {g : Nat} {cs : Array Value} {w W : World} (h : Holds g cs w) (hb : Drawn0 w W) : Holds g cs W := h.below hb.below
/-- What a row that lists a variable gives. -/
theorem holds_of_var {P : Program} {w : World} {name : String} {g : Nat} {cs : Array Value} (hg : P.globalNamed name = some g) (h : w.var? P name = some cs) : Holds g cs w := by
  unfold World.var? at h
  rw [hg] at h
  simp only [Option.bind_some] at h
  split at h
  · rename_i c t fr heq
    cases h
    exact ⟨t, fr, heq⟩
  · cases h

/-- An array of texts that reads as a list of texts holds them. -/
theorem strtab {H : Type} {enc : TypeId × Value → H} {P : Program} {w : World} {base : Nat} {spare : Nat → Bool} {held : Bool} {fuel : Nat} {t e : TypeId} {k : Nat} {cs : List Value} {p : List MemPlace} (L : List ByteArray)
    (hu : P.underlying t = some (.array k e)) (he : P.underlying e = some .string) (hc : P.cellsOf e = 1) (hct : P.cellsOf t = k) (hl : L.length = k)
    (h : DataW.trod enc P w base spare held fuel t cs = some (.agg (L.map fun s => .lit (.string s.data.toList)), p)) : cs = L.map Value.string := by
  obtain ⟨xs, m, rfl, hx, hlen, hxl, hel⟩ := DataW.trod_array hu h
  obtain ⟨hagg, _⟩ := Prod.mk.inj hx
  have hagg2 : (L.map fun s => DataW.lit (H := H) (.string s.data.toList)) = xs.map (·.1) := by injection hagg
  rw [hct] at hlen
  apply List.ext_getElem
  · simp [hlen, hl]
  · intro i h1 h2
    have hi : i < k := by omega
    have h3 := hel i hi
    rw [hc, Nat.mul_one] at h3
    have hd : (cs.drop i).take 1 = [cs[i]] := by rw [List.drop_eq_getElem_cons h1]; rfl
    rw [hd, List.getElem?_eq_getElem (by omega)] at h3
    obtain ⟨s, hs, hxs, _⟩ := DataW.trod_string he h3
    have h4 : (L.map fun s => DataW.lit (H := H) (.string s.data.toList))[i]? = (xs.map (·.1))[i]? := by rw [hagg2]
    rw [List.getElem?_map, List.getElem?_map, List.getElem?_eq_getElem (by omega), List.getElem?_eq_getElem (by omega), hxs] at h4
    simp only [Option.map_some, Option.some.injEq, DataW.lit.injEq, Lit.string.injEq] at h4
    have e1 : L[i] = s := Go.WideShapes.bytes_inj h4
    simp only [List.cons.injEq, and_true] at hs
    rw [hs]; simp [e1]

theorem var_of_laid {P : Program} {w : World} : ∀ {l : List (String × DataW Unit)} {ps : List MemPlace}, DataW.LaidVars P w l ps → ∀ {n : String} {d : DataW Unit}, (n, d) ∈ l →
    ∃ g t cs fuel p, P.globalNamed n = some g ∧ (P.globals[g]?).map (·.type) = some t ∧ w.var? P n = some cs ∧ DataW.trod (fun _ => ()) P w 0 (fun _ => true) false fuel t cs.toList = some (d, p)
  | [], _, _, _, _, hm => by cases hm
  | (n0, d0) :: r, ps, h, n, d, hm => by
    obtain ⟨g, t, cs, fuel, p, q, h1, h2, h3, h4, h5, _⟩ := h
    rcases List.mem_cons.1 hm with e | hm
    · cases e; exact ⟨g, t, cs, fuel, p, h1, h2, h3, h4⟩
    · exact var_of_laid h5 hm

/-- What a row that lists a table of texts gives. -/
theorem holds_of_laid {P : Program} {W : World} {laid : List (String × DataW Unit)} (hL : laidMetH P laid W) (hnil : (laid.filter fun x => x.2.handleName?.isSome) = []) {n : String} {g : Nat} {t e : TypeId} {k : Nat} (L : List ByteArray)
    (hm : (n, DataW.agg (L.map fun s => .lit (.string s.data.toList))) ∈ laid) (hg : P.globalNamed n = some g) (ht : (P.globals[g]?).map (·.type) = some t) (hu : P.underlying t = some (.array k e)) (he : P.underlying e = some .string) (hc : P.cellsOf e = 1) (hct : P.cellsOf t = k) (hl : L.length = k) :
    Holds g (L.map Value.string).toArray W := by
  unfold laidMetH at hL
  rw [hnil] at hL
  obtain ⟨ps, hv, _⟩ := hL
  obtain ⟨g', t', cs, fuel, p, h1, h2, h3, h4⟩ := var_of_laid hv hm
  obtain rfl : g' = g := Option.some.inj (h1.symm.trans hg)
  obtain rfl : t' = t := Option.some.inj (h2.symm.trans ht)
  have := strtab L hu he hc hct hl h4
  obtain rfl : cs = (L.map Value.string).toArray := by rw [← this]
  exact holds_of_var hg h3

def resvL : List ByteArray := [⟨#[98, 111, 111, 108]⟩, ⟨#[99, 97, 115, 101]⟩, ⟨#[100, 101, 102, 97, 117, 108, 116]⟩, ⟨#[101, 108, 115, 101]⟩, ⟨#[102, 97, 108, 115, 101]⟩, ⟨#[102, 111, 114]⟩, ⟨#[102, 117, 110, 99]⟩, ⟨#[105, 102]⟩, ⟨#[105, 110, 116]⟩, ⟨#[108, 111, 111, 107]⟩, ⟨#[110, 101, 119]⟩, ⟨#[110, 105, 108]⟩, ⟨#[112, 97, 99, 107, 97, 103, 101]⟩, ⟨#[114, 101, 116, 117, 114, 110]⟩, ⟨#[115, 116, 114, 117, 99, 116]⟩, ⟨#[115, 119, 105, 116, 99, 104]⟩, ⟨#[116, 114, 117, 101]⟩, ⟨#[116, 121, 112, 101]⟩]
def GResv (w : World) : Prop := Holds 0 (resvL.map Value.string).toArray w

end Go.Proofs.YtmpdilifoblnaaaDoor.Glob
