-- A text of this claim (written by this repo's wip/myprint.py).
import Derived.Test.YtmpdilifoblnaaaDoorMTokenAgainx0
import Derived.Test.YtmpdilifoblnaaaDoorMTokenAgainx1
namespace Go.Proofs.YtmpdilifoblnaaaDoor.MTokenAgain
open Go.RowKit Go.Proofs.YtmpdilifoblnaaaDoorW.PrintWords Go.Proofs.YtmpdilifoblnaaaDoorW.PrintLast Go.Proofs.YtmpdilifoblnaaaDoorW.PrintMore Go.Proofs.YtmpdilifoblnaaaDoor.Fun Go.Proofs.YtmpdilifoblnaaaDoor.Glob
attribute [local go_sem] max2_int min2_int max_two min_two max_three min_three max_four min_four   -- for this text's walks alone
set_option linter.unusedVariables false
set_option linter.unusedSimpArgs false

/-! ### token_scanner_piece: function 13 -/
/-- The scanner's block, what lay ahead of it, and all else. -/
structure Sx (w0 w W : World) (g : Nat) (s : ByteArray) (at_ fr ln kd : Int) (ts : ByteArray) (tn tp er : Int) : Prop where
  is : IsS36 w0 W g s at_ fr ln kd ts tn tp er
  below : Below w0.heap.size w0 W
  keep : KeepBut w W g none
section
variable {w0 w W : World} {g : Nat} {s : ByteArray} {at_ fr ln kd : Int} {ts : ByteArray} {tn tp er : Int}
theorem Sx.drewN (h : Sx w0 w W g s at_ fr ln kd ts tn tp er) (n : Nat) : Sx w0 w (W.drewN n) g s at_ fr ln kd ts tn tp er := ⟨h.is.drewN n, pw_below_drewN h.below n, keep_drewN h.keep n⟩
theorem Sx.drew (h : Sx w0 w W g s at_ fr ln kd ts tn tp er) : Sx w0 w W.drew g s at_ fr ln kd ts tn tp er := ⟨h.is.drew, below_drew1 h.below, keep_drew h.keep⟩
theorem Sx.set1 (h : Sx w0 w W g s at_ fr ln kd ts tn tp er) (x : Int) : Sx w0 w (W.setCell ⟨g, 1, none⟩ (.int .i64 x)) g s x fr ln kd ts tn tp er := ⟨h.is.set_1 x, below_set h.below h.is.ge, h.keep.set_ 1 _⟩
theorem Sx.set2 (h : Sx w0 w W g s at_ fr ln kd ts tn tp er) (x : Int) : Sx w0 w (W.setCell ⟨g, 2, none⟩ (.int .i64 x)) g s at_ x ln kd ts tn tp er := ⟨h.is.set_2 x, below_set h.below h.is.ge, h.keep.set_ 2 _⟩
theorem Sx.set3 (h : Sx w0 w W g s at_ fr ln kd ts tn tp er) (x : Int) : Sx w0 w (W.setCell ⟨g, 3, none⟩ (.int .i64 x)) g s at_ fr x kd ts tn tp er := ⟨h.is.set_3 x, below_set h.below h.is.ge, h.keep.set_ 3 _⟩
theorem Sx.set4 (h : Sx w0 w W g s at_ fr ln kd ts tn tp er) (x : Int) : Sx w0 w (W.setCell ⟨g, 4, none⟩ (.int .i64 x)) g s at_ fr ln x ts tn tp er := ⟨h.is.set_4 x, below_set h.below h.is.ge, h.keep.set_ 4 _⟩
theorem Sx.set5 (h : Sx w0 w W g s at_ fr ln kd ts tn tp er) (x : ByteArray) : Sx w0 w (W.setCell ⟨g, 5, none⟩ (.string x)) g s at_ fr ln kd x tn tp er := ⟨h.is.set_5 x, below_set h.below h.is.ge, h.keep.set_ 5 _⟩
theorem Sx.set6 (h : Sx w0 w W g s at_ fr ln kd ts tn tp er) (x : Int) : Sx w0 w (W.setCell ⟨g, 6, none⟩ (.int .i64 x)) g s at_ fr ln kd ts x tp er := ⟨h.is.set_6 x, below_set h.below h.is.ge, h.keep.set_ 6 _⟩
theorem Sx.set7 (h : Sx w0 w W g s at_ fr ln kd ts tn tp er) (x : Int) : Sx w0 w (W.setCell ⟨g, 7, none⟩ (.int .i64 x)) g s at_ fr ln kd ts tn x er := ⟨h.is.set_7 x, below_set h.below h.is.ge, h.keep.set_ 7 _⟩
theorem Sx.set8 (h : Sx w0 w W g s at_ fr ln kd ts tn tp er) (x : Int) : Sx w0 w (W.setCell ⟨g, 8, none⟩ (.int .i64 x)) g s at_ fr ln kd ts tn tp x := ⟨h.is.set_8 x, below_set h.below h.is.ge, h.keep.set_ 8 _⟩
theorem Sx.c (h : Sx w0 w W g s at_ fr ln kd ts tn tp er) (k : Nat) : W.cell? ⟨g, k, none⟩ = (#[Value.string s, .int .i64 at_, .int .i64 fr, .int .i64 ln, .int .i64 kd, .string ts, .int .i64 tn, .int .i64 tp, .int .i64 er] : Array Value)[k]? := by
  obtain ⟨hb, _⟩ := h.is
  simp [World.cell?, hb]
theorem Sx.f (h : Sx w0 w W g s at_ fr ln kd ts tn tp er) (k : Nat) : W.frozen? ⟨g, k, none⟩ = false := by
  obtain ⟨hb, _⟩ := h.is
  simp [World.frozen?, hb]
end

def resvB (s : ByteArray) : Bool := resvL.any fun t => t.toList == s.toList
theorem resv_S {w0 w W : World} {g : Nat} {s : ByteArray} {at_ fr ln kd : Int} {ts : ByteArray} {tn tp er : Int} (x : ByteArray) (hS : Sx w0 w W g s at_ fr ln kd ts tn tp er) (hG : GResv w0) :
    Calls Tryd.prog 31 #[.string x] W fun e W' => e = .returned (.bool (resvB x)) ∧ Sx w0 w W' g s at_ fr ln kd ts tn tp er :=
  (word_Reserved.calls x (resvB x) W rfl (Holds.below hG hS.below)).mono fun e W' h => by
    obtain ⟨he, n, rfl⟩ := h
    exact ⟨he, hS.drewN n⟩
/-- What named leaves: the kind, the text, the error; and what it tells. -/
def namedK (x : ByteArray) : Int := if resvB x then 1 else 2
def namedE (x : ByteArray) (er : Int) : Int := if resvB x then er else if x.size > 40 then 5 else er

set_option maxHeartbeats 2000000 in
theorem named_calls (w0 w W : World) (g : Nat) (s : ByteArray) (at_ fr ln kd : Int) (ts : ByteArray) (tn tp er : Int) (hS : Sx w0 w W g s at_ fr ln kd ts tn tp er) (hG : GResv w0) (h0 : 0 ≤ fr) (h1 : fr ≤ at_) (h2 : at_ ≤ (s.size : Int)) :
    Calls Tryd.prog 21 #[.pointer (some ⟨g, 0, none⟩)] W fun e W' => e = .returned (.bool (namedE (s.extract fr.toNat at_.toNat) er == 0)) ∧
      Sx w0 w W' g s at_ fr ln (namedK (s.extract fr.toNat at_.toNat)) (s.extract fr.toNat at_.toNat) tn tp (namedE (s.extract fr.toNat at_.toNat) er) := by
  have c0 := hS.c 0
  have c1 := hS.c 1
  have c2 := hS.c 2
  have c4 := hS.c 4
  have c5 := hS.c 5
  have f4 := hS.f 4
  have f5 := hS.f 5
  simp at c0 c1 c2 c4 c5
  have HS := Aside0.mk hS
  clear hS
  go_enter Tryd.func21, Tryd.ntmps21
  go_wp2
  go_region
  go_wp2_with fail
  refine (resv_S _ ((HS.out.set4 2).set5 (s.extract fr.toNat at_.toNat)).drew hG).mono ?_
  rintro e W2 ⟨rfl, hS2⟩
  clear c0 c1 c2 c4 c5 f4 f5 HS h0 h1 h2
  generalize hx : s.extract fr.toNat at_.toNat = x at hS2
  have HX := Aside0.mk hx
  clear hx
  have c4 := hS2.c 4
  have c5 := hS2.c 5
  have c8 := hS2.c 8
  have f4 := hS2.f 4
  have f8 := hS2.f 8
  simp at c4 c5 c8
  have HS := Aside0.mk hS2
  clear hS2
  generalize hr : resvB x = q
  have HR := Aside0.mk hr
  clear hr
  cases q with
  | true =>
    go_wp2_with fail
    go_ret
    rw [HX.out]
    unfold namedK namedE
    rw [HR.out]
    exact ⟨rfl, HS.out.set4 1⟩
  | false =>
    by_cases hl : 40 < x.size
    · have hl1 : decide (40 < (x.size : Int)) = true := decide_eq_true (by omega)
      have hl2 : decide (40 < x.size) = true := decide_eq_true hl
      go_wp2_with fail
      go_ret
      rw [HX.out]
      unfold namedK namedE
      rw [HR.out]
      refine ⟨?_, ?_⟩
      · simp [hl]
      · have := HS.out.set8 5
        simpa [hl] using this
    · have hl1 : decide (40 < (x.size : Int)) = false := decide_eq_false (by omega)
      have hl2 : decide (40 < x.size) = false := decide_eq_false hl
      go_wp2_with fail
      go_ret
      rw [HX.out]
      unfold namedK namedE
      rw [HR.out]
      refine ⟨?_, ?_⟩
      · simp [hl]
      · have := HS.out
        simpa [hl] using this

/-! sign -/
def twoL : List (List UInt8) := [[58, 61], [61, 61], [33, 61], [60, 61], [124, 124], [38, 38]]
def oneI (c : Int) : Int := Lib.indexByte (⟨#[60, 61, 43, 45, 42, 33, 46, 40, 41, 123, 125, 44, 58]⟩ : ByteArray).data.toList c.toNat.toUInt8
def signN (r : ByteArray) : Int := if 1 < r.size ∧ (twoL.any fun t => decide ((r.extract 0 2).toList = t)) = true then 2 else if 0 ≤ oneI (bt r 0) then 1 else 0
theorem strings_IndexByte_is (c : Int) : strings_IndexByte.f (⟨#[60, 61, 43, 45, 42, 33, 46, 40, 41, 123, 125, 44, 58]⟩ : ByteArray) c = some (oneI c) := rfl
theorem one_S {w0 w W : World} {g : Nat} {s : ByteArray} {at_ fr ln kd : Int} {ts : ByteArray} {tn tp er : Int} (c : Int) (hS : Sx w0 w W g s at_ fr ln kd ts tn tp er) :
    Calls Tryd.prog 30 #[.string (⟨#[60, 61, 43, 45, 42, 33, 46, 40, 41, 123, 125, 44, 58]⟩ : ByteArray), .int .u8 c] W fun e W' => e = .returned (.int .i64 (oneI c)) ∧ Sx w0 w W' g s at_ fr ln kd ts tn tp er :=
  (strings_IndexByte.calls _ c (oneI c) W (strings_IndexByte_is c)).mono fun e W' h => by
    obtain ⟨he, n, rfl⟩ := h
    exact ⟨he, hS.drewN n⟩
def SignPost (w0 w : World) (g : Nat) (s : ByteArray) (at_ fr ln kd : Int) (ts : ByteArray) (tn tp er : Int) (R : ByteArray) (e : Ending) (W' : World) : Prop :=
  e = .returned (.bool (decide (signN R ≠ 0))) ∧
      (if signN R = 0 then Sx w0 w W' g s at_ fr ln kd ts tn tp 5
        else Sx w0 w W' g s (at_ + signN R) fr ln 5 (R.extract 0 (signN R).toNat) tn tp er)
set_option maxHeartbeats 8000000 in
theorem sign_calls (w0 w W : World) (g : Nat) (s : ByteArray) (at_ fr ln kd : Int) (ts : ByteArray) (tn tp er : Int) (hS : Sx w0 w W g s at_ fr ln kd ts tn tp er) (h0 : 0 ≤ at_) (h1 : at_ < (s.size : Int)) (h2 : s.size ≤ 140737488351232) :
    Calls Tryd.prog 20 #[.pointer (some ⟨g, 0, none⟩)] W (SignPost w0 w g s at_ fr ln kd ts tn tp er (s.extract at_.toNat s.size)) := by
  have c0 := hS.c 0
  have c1 := hS.c 1
  have c4 := hS.c 4
  have c5 := hS.c 5
  have c8 := hS.c 8
  have f1 := hS.f 1
  have f4 := hS.f 4
  have f5 := hS.f 5
  have f8 := hS.f 8
  simp at c0 c1 c4 c5 c8
  have HS := Aside0.mk hS
  clear hS
  go_enter Tryd.func20, Tryd.ntmps20
  go_wp2
  go_region
  have hrs : (s.extract at_.toNat s.size).size = s.size - at_.toNat := by
    have e : (s.extract at_.toNat s.size).data.toList = (s.data.toList.take s.size).drop at_.toNat := by
      rw [ByteArray.data_extract, Array.toList_extract]; simp only [List.extract_eq_drop_take']
    rw [← data_length, e, List.length_drop, List.length_take, data_length]; omega
  generalize hx : s.extract at_.toNat s.size = R at hrs
  have HX := Aside0.mk hx
  have hR0 : 0 < R.size := by omega
  have hRb : R.size ≤ 140737488351232 := by omega
  have HB := Aside0.mk (And.intro h0 h1)
  have HZ := Aside0.mk h2
  clear hx hrs
  have q0 : (0 < R.size) = True := eq_true hR0
  have hx0 : ∀ h : 0 < R.size, ((R[0]'h).toNat : Int) = bt R 0 := bt_at R 0
  clear c0 c1 c4 c5 c8 f1 f4 f5 f8 h0 h1 h2
  have HS1 := Aside0.mk HS.out.drew
  generalize W.drew = W1 at HS1
  clear HS
  by_cases h2 : 1 < R.size
  · have h2a : decide (1 < (R.size : Int)) = true := decide_eq_true (by omega)
    have h2b : decide (1 < R.size) = true := decide_eq_true h2
    have h2c : 2 ≤ R.size := h2
    by_cases b0 : (R.extract 0 2).toList = [58, 61]
    · have b0b : ((R.extract 0 2).toList == ([58, 61] : List UInt8)) = true := beq_iff_eq.2 b0
      have Bk := Aside0.mk b0
      clear b0
      have c1 := HS1.out.c 1
      have c4 := HS1.out.c 4
      have c5 := HS1.out.c 5
      have f1 := HS1.out.f 1
      have f4 := HS1.out.f 4
      have f5 := HS1.out.f 5
      simp at c1 c4 c5
      have hb0 : 0 ≤ at_ + 2 := by have := HB.out; omega
      have ha0 : 0 ≤ at_ := HB.out.1
      have ha1 : at_ < 140737488351232 := by have := HB.out; have := HZ.out; omega
      go_wp2_with fail
      go_region
      go_wp2_with fail
      go_ret
      rw [HX.out]
      unfold SignPost
      have hN : signN R = 2 := by unfold signN twoL; rw [if_pos ⟨h2, by rw [Bk.out]; decide⟩]
      rw [hN]
      refine ⟨rfl, ?_⟩
      rw [if_neg (by decide)]
      exact (((HS1.out.set1 (at_ + 2)).set4 5).set5 _).drew
    · have b0b : ((R.extract 0 2).toList == ([58, 61] : List UInt8)) = false := beq_eq_false_iff_ne.2 b0
      have B0 := Aside0.mk b0
      clear b0
      by_cases b1 : (R.extract 0 2).toList = [61, 61]
      · have b1b : ((R.extract 0 2).toList == ([61, 61] : List UInt8)) = true := beq_iff_eq.2 b1
        have Bk := Aside0.mk b1
        clear b1
        have c1 := HS1.out.c 1
        have c4 := HS1.out.c 4
        have c5 := HS1.out.c 5
        have f1 := HS1.out.f 1
        have f4 := HS1.out.f 4
        have f5 := HS1.out.f 5
        simp at c1 c4 c5
        have hb0 : 0 ≤ at_ + 2 := by have := HB.out; omega
        have ha0 : 0 ≤ at_ := HB.out.1
        have ha1 : at_ < 140737488351232 := by have := HB.out; have := HZ.out; omega
        go_wp2_with fail
        go_region
        go_wp2_with fail
        go_ret
        rw [HX.out]
        unfold SignPost
        have hN : signN R = 2 := by unfold signN twoL; rw [if_pos ⟨h2, by rw [Bk.out]; decide⟩]
        rw [hN]
        refine ⟨rfl, ?_⟩
        rw [if_neg (by decide)]
        exact (((HS1.out.set1 (at_ + 2)).set4 5).set5 _).drew
      · have b1b : ((R.extract 0 2).toList == ([61, 61] : List UInt8)) = false := beq_eq_false_iff_ne.2 b1
        have B1 := Aside0.mk b1
        clear b1
        by_cases b2 : (R.extract 0 2).toList = [33, 61]
        · have b2b : ((R.extract 0 2).toList == ([33, 61] : List UInt8)) = true := beq_iff_eq.2 b2
          have Bk := Aside0.mk b2
          clear b2
          have c1 := HS1.out.c 1
          have c4 := HS1.out.c 4
          have c5 := HS1.out.c 5
          have f1 := HS1.out.f 1
          have f4 := HS1.out.f 4
          have f5 := HS1.out.f 5
          simp at c1 c4 c5
          have hb0 : 0 ≤ at_ + 2 := by have := HB.out; omega
          have ha0 : 0 ≤ at_ := HB.out.1
          have ha1 : at_ < 140737488351232 := by have := HB.out; have := HZ.out; omega
          go_wp2_with fail
          go_region
          go_wp2_with fail
          go_ret
          rw [HX.out]
          unfold SignPost
          have hN : signN R = 2 := by unfold signN twoL; rw [if_pos ⟨h2, by rw [Bk.out]; decide⟩]
          rw [hN]
          refine ⟨rfl, ?_⟩
          rw [if_neg (by decide)]
          exact (((HS1.out.set1 (at_ + 2)).set4 5).set5 _).drew
        · have b2b : ((R.extract 0 2).toList == ([33, 61] : List UInt8)) = false := beq_eq_false_iff_ne.2 b2
          have B2 := Aside0.mk b2
          clear b2
          by_cases b3 : (R.extract 0 2).toList = [60, 61]
          · have b3b : ((R.extract 0 2).toList == ([60, 61] : List UInt8)) = true := beq_iff_eq.2 b3
            have Bk := Aside0.mk b3
            clear b3
            have c1 := HS1.out.c 1
            have c4 := HS1.out.c 4
            have c5 := HS1.out.c 5
            have f1 := HS1.out.f 1
            have f4 := HS1.out.f 4
            have f5 := HS1.out.f 5
            simp at c1 c4 c5
            have hb0 : 0 ≤ at_ + 2 := by have := HB.out; omega
            have ha0 : 0 ≤ at_ := HB.out.1
            have ha1 : at_ < 140737488351232 := by have := HB.out; have := HZ.out; omega
            go_wp2_with fail
            go_region
            go_wp2_with fail
            go_ret
            rw [HX.out]
            unfold SignPost
            have hN : signN R = 2 := by unfold signN twoL; rw [if_pos ⟨h2, by rw [Bk.out]; decide⟩]
            rw [hN]
            refine ⟨rfl, ?_⟩
            rw [if_neg (by decide)]
            exact (((HS1.out.set1 (at_ + 2)).set4 5).set5 _).drew
          · have b3b : ((R.extract 0 2).toList == ([60, 61] : List UInt8)) = false := beq_eq_false_iff_ne.2 b3
            have B3 := Aside0.mk b3
            clear b3
            by_cases b4 : (R.extract 0 2).toList = [124, 124]
            · have b4b : ((R.extract 0 2).toList == ([124, 124] : List UInt8)) = true := beq_iff_eq.2 b4
              have Bk := Aside0.mk b4
              clear b4
              have c1 := HS1.out.c 1
              have c4 := HS1.out.c 4
              have c5 := HS1.out.c 5
              have f1 := HS1.out.f 1
              have f4 := HS1.out.f 4
              have f5 := HS1.out.f 5
              simp at c1 c4 c5
              have hb0 : 0 ≤ at_ + 2 := by have := HB.out; omega
              have ha0 : 0 ≤ at_ := HB.out.1
              have ha1 : at_ < 140737488351232 := by have := HB.out; have := HZ.out; omega
              go_wp2_with fail
              go_region
              go_wp2_with fail
              go_ret
              rw [HX.out]
              unfold SignPost
              have hN : signN R = 2 := by unfold signN twoL; rw [if_pos ⟨h2, by rw [Bk.out]; decide⟩]
              rw [hN]
              refine ⟨rfl, ?_⟩
              rw [if_neg (by decide)]
              exact (((HS1.out.set1 (at_ + 2)).set4 5).set5 _).drew
            · have b4b : ((R.extract 0 2).toList == ([124, 124] : List UInt8)) = false := beq_eq_false_iff_ne.2 b4
              have B4 := Aside0.mk b4
              clear b4
              by_cases b5 : (R.extract 0 2).toList = [38, 38]
              · have b5b : ((R.extract 0 2).toList == ([38, 38] : List UInt8)) = true := beq_iff_eq.2 b5
                have Bk := Aside0.mk b5
                clear b5
                have c1 := HS1.out.c 1
                have c4 := HS1.out.c 4
                have c5 := HS1.out.c 5
                have f1 := HS1.out.f 1
                have f4 := HS1.out.f 4
                have f5 := HS1.out.f 5
                simp at c1 c4 c5
                have hb0 : 0 ≤ at_ + 2 := by have := HB.out; omega
                have ha0 : 0 ≤ at_ := HB.out.1
                have ha1 : at_ < 140737488351232 := by have := HB.out; have := HZ.out; omega
                go_wp2_with fail
                go_region
                go_wp2_with fail
                go_ret
                rw [HX.out]
                unfold SignPost
                have hN : signN R = 2 := by unfold signN twoL; rw [if_pos ⟨h2, by rw [Bk.out]; decide⟩]
                rw [hN]
                refine ⟨rfl, ?_⟩
                rw [if_neg (by decide)]
                exact (((HS1.out.set1 (at_ + 2)).set4 5).set5 _).drew
              · have b5b : ((R.extract 0 2).toList == ([38, 38] : List UInt8)) = false := beq_eq_false_iff_ne.2 b5
                have B5 := Aside0.mk b5
                clear b5
                have hN0 : signN R = if 0 ≤ oneI (bt R 0) then 1 else 0 := by unfold signN; rw [if_neg (fun h => by have h' := h.2; unfold twoL at h'; simp [B0.out, B1.out, B2.out, B3.out, B4.out, B5.out] at h')]
                have HN := Aside0.mk hN0
                clear hN0
                go_wp2_with fail
                refine (one_S _ HS1.out).mono ?_
                rintro e W2 ⟨rfl, hS2⟩
                have HS2 := Aside0.mk hS2
                clear hS2
                generalize oneI (bt R 0) = q at HN
                by_cases hq : 0 ≤ q
                · have hq1 : decide (0 ≤ q) = true := decide_eq_true hq
                  have c1 := HS2.out.c 1
                  have c4 := HS2.out.c 4
                  have c5 := HS2.out.c 5
                  have f1 := HS2.out.f 1
                  have f4 := HS2.out.f 4
                  have f5 := HS2.out.f 5
                  simp at c1 c4 c5
                  have hb0 : 0 ≤ at_ + 1 := by have := HB.out; omega
                  have ha0 : 0 ≤ at_ := HB.out.1
                  have ha1 : at_ < 140737488351232 := by have := HB.out; have := HZ.out; omega
                  go_wp2_with fail
                  go_region
                  go_wp2_with fail
                  go_ret
                  rw [HX.out]
                  unfold SignPost
                  have hN : signN R = 1 := by rw [HN.out, if_pos hq]
                  rw [hN]
                  refine ⟨rfl, ?_⟩
                  rw [if_neg (by decide)]
                  exact (((HS2.out.set1 (at_ + 1)).set4 5).set5 _).drew
                · have hq1 : decide (0 ≤ q) = false := decide_eq_false hq
                  have c8 := HS2.out.c 8
                  have f8 := HS2.out.f 8
                  simp at c8
                  go_wp2_with fail
                  go_ret
                  rw [HX.out]
                  unfold SignPost
                  have hN : signN R = 0 := by rw [HN.out, if_neg (by have := hq; omega)]
                  rw [hN]
                  exact ⟨rfl, by rw [if_pos rfl]; exact HS2.out.set8 5⟩
  · have h2a : decide (1 < (R.size : Int)) = false := decide_eq_false (by omega)
    have h2b : decide (1 < R.size) = false := decide_eq_false h2
    have H2 := Aside0.mk h2
    clear h2
    have hN0 : signN R = if 0 ≤ oneI (bt R 0) then 1 else 0 := by unfold signN; rw [if_neg (fun h => H2.out h.1)]
    have HN := Aside0.mk hN0
    clear hN0
    go_wp2_with fail
    refine (one_S _ HS1.out).mono ?_
    rintro e W2 ⟨rfl, hS2⟩
    have HS2 := Aside0.mk hS2
    clear hS2
    generalize oneI (bt R 0) = q at HN
    by_cases hq : 0 ≤ q
    · have hq1 : decide (0 ≤ q) = true := decide_eq_true hq
      have c1 := HS2.out.c 1
      have c4 := HS2.out.c 4
      have c5 := HS2.out.c 5
      have f1 := HS2.out.f 1
      have f4 := HS2.out.f 4
      have f5 := HS2.out.f 5
      simp at c1 c4 c5
      have hb0 : 0 ≤ at_ + 1 := by have := HB.out; omega
      have ha0 : 0 ≤ at_ := HB.out.1
      have ha1 : at_ < 140737488351232 := by have := HB.out; have := HZ.out; omega
      go_wp2_with fail
      go_region
      go_wp2_with fail
      go_ret
      rw [HX.out]
      unfold SignPost
      have hN : signN R = 1 := by rw [HN.out, if_pos hq]
      rw [hN]
      refine ⟨rfl, ?_⟩
      rw [if_neg (by decide)]
      exact (((HS2.out.set1 (at_ + 1)).set4 5).set5 _).drew
    · have hq1 : decide (0 ≤ q) = false := decide_eq_false hq
      have c8 := HS2.out.c 8
      have f8 := HS2.out.f 8
      simp at c8
      go_wp2_with fail
      go_ret
      rw [HX.out]
      unfold SignPost
      have hN : signN R = 0 := by rw [HN.out, if_neg (by have := hq; omega)]
      rw [hN]
      exact ⟨rfl, by rw [if_pos rfl]; exact HS2.out.set8 5⟩

/-! piece -/
def Jumps (J : Nat → Act → World → Prop) (Q : Exit → Act → World → Prop) : Exit → Act → World → Prop
  | .goto l, a, w => J l a w
  | e, a, w => Q e a w
section
variable {P : Program} {a : Act} {w : World} {Q : Exit → Act → World → Prop}
theorem Jumps.ret (J : Nat → Act → World → Prop) : Jumps J Q .ret a w = Q .ret a w := rfl
theorem Jumps.goto (J : Nat → Act → World → Prop) (l : Nat) : Jumps J Q (.goto l) a w = J l a w := rfl
theorem wp_scope_many {c : Code} (R : Nat → Code) (J : Nat → Act → World → Prop) (μ : Nat → Act → World → Nat)
    (hf : ∀ l a w, J l a w → findLabel c l = some (R l))
    (first : c.wp P (Jumps J Q) a w)
    (pass : ∀ l a w, J l a w → (R l).wp P (Jumps (fun l' a' w' => J l' a' w' ∧ μ l' a' w' < μ l a w) Q) a w) : (Code.scope c).wp P Q a w := by
  intro b k cs
  have hg : ∀ l a w, J l a w → gotoIn l (.inScope c :: k) = some (.code (R l) :: .inScope c :: k) := fun l a w h => by simp [gotoIn, hf l a w h]
  have key : ∀ n l a w, μ l a w = n → J l a w → ∃ e a' w', Q e a' w' ∧ Arrives P (lone (b.at a (.code (R l) :: .inScope c :: k)) cs w) b k cs e a' w' := by
    intro n
    induction n using Nat.strongRecOn with
    | _ n ih =>
      intro l a w hn hJ
      obtain ⟨e, a₁, w₁, hq, harr⟩ := pass l a w hJ b (.inScope c :: k) cs
      cases e with
      | normal => exact ⟨.normal, a₁, w₁, hq, Steps.trans harr (.one step_inScope)⟩
      | exit id => exact ⟨.exit id, a₁, w₁, hq, fun k' hk => harr k' (by simp [exitTo, hk])⟩
      | goto l' =>
        obtain ⟨hJ', hlt⟩ := hq
        obtain ⟨e₂, a₂, w₂, hq₂, harr₂⟩ := ih _ (by omega) l' a₁ w₁ rfl hJ'
        exact ⟨e₂, a₂, w₂, hq₂, .of_steps (harr _ (hg l' a₁ w₁ hJ')) harr₂⟩
      | ret => exact ⟨_, a₁, w₁, hq, harr⟩
      | panic ch => exact ⟨_, a₁, w₁, hq, harr⟩
      | outgrown => exact ⟨_, a₁, w₁, hq, harr⟩
  obtain ⟨e, a₁, w₁, hq, harr⟩ := first b (.inScope c :: k) cs
  cases e with
  | normal => exact ⟨.normal, a₁, w₁, hq, .head step_scope (Steps.trans harr (.one step_inScope))⟩
  | exit id => exact ⟨.exit id, a₁, w₁, hq, fun k' hk => .head step_scope (harr k' (by simp [exitTo, hk]))⟩
  | goto l' =>
    obtain ⟨e₂, a₂, w₂, hq₂, harr₂⟩ := key _ l' a₁ w₁ rfl hq
    exact ⟨e₂, a₂, w₂, hq₂, .of_steps (.head step_scope (harr _ (hg l' a₁ w₁ hq))) harr₂⟩
  | ret => exact ⟨_, a₁, w₁, hq, .of_steps (.one step_scope) harr⟩
  | panic ch => exact ⟨_, a₁, w₁, hq, .of_steps (.one step_scope) harr⟩
  | outgrown => exact ⟨_, a₁, w₁, hq, .of_steps (.one step_scope) harr⟩
end

def nx (s : ByteArray) (i : Int) : Int := if i < (s.size : Int) then bt s i else 0
def letB (c : Int) : Bool := (token_letter.f c).getD false
def numB (c : Int) : Bool := (token_num.f c).getD false
theorem letB_is (c : Int) : token_letter.f c = some (letB c) := by
  unfold letB token_letter.f
  by_cases a : c ≥ 97 <;> by_cases b : c ≤ 122 <;> by_cases d : c ≥ 65 <;> by_cases e : c ≤ 90 <;> simp only [a, b, d, e, if_true, if_false] <;> rfl
theorem numB_is (c : Int) : token_num.f c = some (numB c) := by
  unfold numB token_num.f
  by_cases a : c ≥ 48 <;> simp only [a, if_true, if_false] <;> rfl
def wordB (c : Int) : Bool := letB c || numB c
def skipG (s : ByteArray) : Nat → Int → Int → Int × Int
  | 0, i, l => (i, l)
  | k + 1, i, l => if bt s i = 10 then skipG s k (i + 1) (if l < 0 then i else l) else if bt s i = 32 ∨ bt s i = 9 ∨ bt s i = 13 then skipG s k (i + 1) l else (i, l)
def skipF (s : ByteArray) (i l : Int) : Int × Int := skipG s ((s.size : Int) - i).toNat i l
theorem skipF_end (s : ByteArray) (i l : Int) (h : (s.size : Int) ≤ i) : skipF s i l = (i, l) := by
  unfold skipF
  have : ((s.size : Int) - i).toNat = 0 := by omega
  rw [this]
  rfl
theorem skipF_step (s : ByteArray) (i l : Int) (h : i < (s.size : Int)) : skipF s i l = if bt s i = 10 then skipF s (i + 1) (if l < 0 then i else l) else if bt s i = 32 ∨ bt s i = 9 ∨ bt s i = 13 then skipF s (i + 1) l else (i, l) := by
  unfold skipF
  have : ((s.size : Int) - i).toNat = ((s.size : Int) - (i + 1)).toNat + 1 := by omega
  rw [this]
  rfl
def runG (p : Int → Bool) (s : ByteArray) : Nat → Int → Int
  | 0, i => i
  | k + 1, i => if p (bt s i) = true then runG p s k (i + 1) else i
def runF (p : Int → Bool) (s : ByteArray) (i : Int) : Int := runG p s ((s.size : Int) - i).toNat i
theorem runF_end (p : Int → Bool) (s : ByteArray) (i : Int) (h : (s.size : Int) ≤ i) : runF p s i = i := by
  unfold runF
  have : ((s.size : Int) - i).toNat = 0 := by omega
  rw [this]
  rfl
theorem runF_step (p : Int → Bool) (s : ByteArray) (i : Int) (h : i < (s.size : Int)) : runF p s i = if p (bt s i) = true then runF p s (i + 1) else i := by
  unfold runF
  have : ((s.size : Int) - i).toNat = ((s.size : Int) - (i + 1)).toNat + 1 := by omega
  rw [this]
  rfl
theorem runF_yes (p : Int → Bool) (hp : p 0 = false) (s : ByteArray) (i : Int) (h : p (nx s i) = true) : i < (s.size : Int) ∧ runF p s i = runF p s (i + 1) := by
  unfold nx at h
  split at h
  · rename_i h1
    exact ⟨h1, by rw [runF_step p s i h1, if_pos h]⟩
  · rw [hp] at h
    exact absurd h (by decide)
theorem runF_no (p : Int → Bool) (s : ByteArray) (i : Int) (h : p (nx s i) = false) : runF p s i = i := by
  unfold nx at h
  split at h
  · rename_i h1
    rw [runF_step p s i h1, if_neg (by rw [h]; decide)]
  · exact runF_end p s i (by omega)
abbrev PR := Bool × Int × Int × Int × Int × ByteArray × Int × Int × Int
def nameR (s : ByteArray) (b fr ln er : Int) : Option PR :=
  some (namedE (s.extract fr.toNat b.toNat) er == 0, b, fr, ln, namedK (s.extract fr.toNat b.toNat), s.extract fr.toNat b.toNat, 0, fr, namedE (s.extract fr.toNat b.toNat) er)
def digR (k : Nat) (s : ByteArray) (b fr ln : Int) : Option PR :=
  match digit_Parse.f k (s.extract fr.toNat b.toNat) with
  | some (n, e) => some (e == 0, b, fr, ln, 4, ByteArray.empty, n, fr, e)
  | none => none
def signR (s : ByteArray) (a ln er : Int) : Option PR :=
  if signN (s.extract a.toNat s.size) = 0 then some (false, a, a, ln, 0, ByteArray.empty, 0, a, 5)
  else some (true, a + signN (s.extract a.toNat s.size), a, ln, 5, (s.extract a.toNat s.size).extract 0 (signN (s.extract a.toNat s.size)).toNat, 0, a, er)
def atR (k : Nat) (s : ByteArray) (a fr ln kd : Int) (ts : ByteArray) (tn tp er : Int) : Option PR :=
  if (s.size : Int) ≤ a then some (false, a, fr, ln, kd, ts, tn, tp, er)
  else if letB (bt s a) = true then nameR s (runF wordB s (a + 1)) a ln er
  else if numB (bt s a) = true then digR k s (runF numB s (a + 1)) a ln
  else signR s a ln er
def startR (k : Nat) (s : ByteArray) (at_ fr ln kd : Int) (ts : ByteArray) (tn tp er : Int) : Option PR :=
  atR k s (skipF s at_ ln).1 fr (skipF s at_ ln).2 kd ts tn tp er
/-- A frame of piece. -/
def Fr (g : Nat) (a : Act) : Prop := ∃ u : Nat → Value, a = { tmps := #[Value.pointer (some ⟨g, 0, none⟩), u 1, u 2, u 3, u 4, u 5, u 6, u 7, u 8, u 9, u 10, u 11, u 12, u 13, u 14, u 15, u 16, u 17, u 18, u 19, u 20, u 21, u 22, u 23, u 24, u 25, u 26, u 27, u 28, u 29, u 30, u 31, u 32, u 33, u 34, u 35, u 36, u 37, u 38, u 39, u 40, u 41, u 42, u 43, u 44, u 45, u 46, u 47, u 48, u 49, u 50, u 51, u 52, u 53, u 54, u 55, u 56, u 57, u 58, u 59, u 60, u 61, u 62, u 63, u 64, u 65, u 66, u 67, u 68, u 69, u 70, u 71, u 72, u 73, u 74, u 75, u 76, u 77, u 78, u 79, u 80, u 81, u 82, u 83, u 84, u 85, u 86, u 87, u 88, u 89, u 90, u 91, u 92, u 93, u 94, u 95, u 96, u 97, u 98, u 99, u 100, u 101, u 102, u 103, u 104, u 105, u 106, u 107, u 108, u 109, u 110, u 111, u 112, u 113, u 114, u 115, u 116, u 117, u 118, u 119, u 120, u 121, u 122, u 123, u 124, u 125, u 126, u 127, u 128, u 129, u 130, u 131, u 132, u 133, u 134, u 135, u 136, u 137, u 138, u 139, u 140, u 141, u 142], defers := [] }
theorem map_range_get {α : Type} (d : α) : ∀ (l : List α), (List.range l.length).map (fun i => l.getD i d) = l := by
  intro l
  apply List.ext_getElem
  · simp
  · intro i h1 h2
    simp [h2]
set_option maxRecDepth 100000 in
theorem Fr.of (g : Nat) (t : List Value) (h : t.length = 143) (h0 : t.getD 0 undef = Value.pointer (some ⟨g, 0, none⟩)) : Fr g { tmps := ⟨t⟩, defers := [] } := by
  refine ⟨fun i => t.getD i undef, ?_⟩
  have e := map_range_get undef t
  rw [h] at e
  rw [← h0]
  exact congrArg (fun l => ({ tmps := ⟨l⟩, defers := [] } : Act)) e.symm
def PieceJ (k : Nat) (w0 w : World) (g : Nat) (s : ByteArray) (fr kd : Int) (ts : ByteArray) (tn tp er : Int) (r : PR) (l : Nat) (W : World) : Prop :=
  match l with
  | 0 => ∃ at_ ln, 0 ≤ at_ ∧ at_ ≤ (s.size : Int) ∧ Sx w0 w W g s at_ fr ln kd ts tn tp er ∧ startR k s at_ fr ln kd ts tn tp er = some r
  | 1 => ∃ at_ ln, 0 ≤ at_ ∧ at_ < (s.size : Int) ∧ Sx w0 w W g s at_ fr ln kd ts tn tp er ∧ startR k s (at_ + 1) fr (if ln < 0 then at_ else ln) kd ts tn tp er = some r
  | 2 => ∃ b f ln, 0 ≤ f ∧ f ≤ b ∧ b < (s.size : Int) ∧ Sx w0 w W g s b f ln 0 ByteArray.empty 0 f er ∧ nameR s (runF wordB s (b + 1)) f ln er = some r
  | 3 => ∃ b f ln, 0 ≤ f ∧ f ≤ b ∧ b < (s.size : Int) ∧ Sx w0 w W g s b f ln 0 ByteArray.empty 0 f er ∧ digR k s (runF numB s (b + 1)) f ln = some r
  | _ => False
def PiecePost (w0 w : World) (g : Nat) (s : ByteArray) (r : PR) (e : Ending) (W : World) : Prop :=
  e = .returned (.bool r.1) ∧ Sx w0 w W g s r.2.1 r.2.2.1 r.2.2.2.1 r.2.2.2.2.1 r.2.2.2.2.2.1 r.2.2.2.2.2.2.1 r.2.2.2.2.2.2.2.1 r.2.2.2.2.2.2.2.2
def atOf (g : Nat) (W : World) : Int := match W.cell? ⟨g, 1, none⟩ with | some (.int _ q) => q | _ => 0
def PieceM (g : Nat) (s : ByteArray) (l : Nat) (W : World) : Nat := 4 * ((s.size : Int) - atOf g W).toNat + (match l with | 0 => 3 | 1 => 2 | _ => 1)
theorem Sx.at_ {w0 w W : World} {g : Nat} {s : ByteArray} {at_ fr ln kd : Int} {ts : ByteArray} {tn tp er : Int} (h : Sx w0 w W g s at_ fr ln kd ts tn tp er) : atOf g W = at_ := by
  unfold atOf
  rw [h.c 1]
  rfl

theorem next_S {w0 w W : World} {g : Nat} {s : ByteArray} {at_ fr ln kd : Int} {ts : ByteArray} {tn tp er : Int} (hS : Sx w0 w W g s at_ fr ln kd ts tn tp er) (h0 : 0 ≤ at_) :
    Calls Tryd.prog 17 #[.pointer (some ⟨g, 0, none⟩)] W fun e W' => e = .returned (.int .u8 (nx s at_)) ∧ Sx w0 w W' g s at_ fr ln kd ts tn tp er := by
  have h : token_scanner_next.f s at_ fr ln kd ts tn tp er = some (nx s at_, s, at_, fr, ln, kd, ts, tn, tp, er) := by
    unfold token_scanner_next.f nx
    by_cases c : at_ < (s.size : Int)
    · rw [if_neg (by omega), if_pos h0, if_pos c, if_pos c]
    · rw [if_pos (by omega), if_neg c]
  refine (token_scanner_next.calls g s at_ fr ln kd ts tn tp er _ _ _ _ _ _ _ _ _ _ w0 W hS.is hS.below h).mono ?_
  rintro e W' ⟨he, h1, h2, h3⟩
  exact ⟨he, h1, h2, KeepBut.trans hS.keep h3 (.inl rfl)⟩
theorem let_S {w0 w W : World} {g : Nat} {s : ByteArray} {at_ fr ln kd : Int} {ts : ByteArray} {tn tp er : Int} (c : Int) (hS : Sx w0 w W g s at_ fr ln kd ts tn tp er) :
    Calls Tryd.prog 18 #[.int .u8 c] W fun e W' => e = .returned (.bool (letB c)) ∧ Sx w0 w W' g s at_ fr ln kd ts tn tp er :=
  (token_letter.calls c (letB c) W (letB_is c)).mono fun e W' h => by
    obtain ⟨he, n, rfl⟩ := h
    exact ⟨he, hS.drewN n⟩
theorem num_S {w0 w W : World} {g : Nat} {s : ByteArray} {at_ fr ln kd : Int} {ts : ByteArray} {tn tp er : Int} (c : Int) (hS : Sx w0 w W g s at_ fr ln kd ts tn tp er) :
    Calls Tryd.prog 19 #[.int .u8 c] W fun e W' => e = .returned (.bool (numB c)) ∧ Sx w0 w W' g s at_ fr ln kd ts tn tp er :=
  (token_num.calls c (numB c) W (numB_is c)).mono fun e W' h => by
    obtain ⟨he, n, rfl⟩ := h
    exact ⟨he, hS.drewN n⟩
theorem parse_S {w0 w W : World} {g : Nat} {s : ByteArray} {at_ fr ln kd : Int} {ts : ByteArray} {tn tp er : Int} (k : Nat) (x : ByteArray) (n e1 : Int) (h : digit_Parse.f k x = some (n, e1)) (hS : Sx w0 w W g s at_ fr ln kd ts tn tp er) :
    Calls Tryd.prog 22 #[.string x] W fun e W' => e = .returned (.tuple #[.int .i64 n, .int .i64 e1]) ∧ Sx w0 w W' g s at_ fr ln kd ts tn tp er :=
  (digit_Parse.calls k x n e1 W h).mono fun e W' h => by
    obtain ⟨he, n, rfl⟩ := h
    exact ⟨he, hS.drewN n⟩
theorem wp_scope_4 {P : Program} {a : Act} {w : World} {Q : Exit → Act → World → Prop} {c X R0 R1 R2 R3 : Code} (J : Nat → Act → World → Prop) (μ : Nat → Act → World → Nat)
    (f0 : findLabel c 0 = some R0) (f1 : findLabel c 1 = some R1) (f2 : findLabel c 2 = some R2) (f3 : findLabel c 3 = some R3)
    (hJ : ∀ l a w, J l a w → l ≤ 3)
    (hc : c = (Code.label 0).seq X) (hx : R0 = Code.skip.seq X) (h0 : J 0 a w)
    (p0 : ∀ a w, J 0 a w → X.wp P (Jumps (fun l' a' w' => J l' a' w' ∧ μ l' a' w' < μ 0 a w) Q) a w)
    (p1 : ∀ a w, J 1 a w → R1.wp P (Jumps (fun l' a' w' => J l' a' w' ∧ μ l' a' w' < μ 1 a w) Q) a w)
    (p2 : ∀ a w, J 2 a w → R2.wp P (Jumps (fun l' a' w' => J l' a' w' ∧ μ l' a' w' < μ 2 a w) Q) a w)
    (p3 : ∀ a w, J 3 a w → R3.wp P (Jumps (fun l' a' w' => J l' a' w' ∧ μ l' a' w' < μ 3 a w) Q) a w) : (Code.scope c).wp P Q a w := by
  have key : ∀ l, l ≤ 3 → l = 0 ∨ l = 1 ∨ l = 2 ∨ l = 3 := fun l h => by omega
  refine wp_scope_many (fun l => match l with | 0 => R0 | 1 => R1 | 2 => R2 | _ => R3) J μ ?_ (by
    rw [hc]
    apply wp_seq
    apply wp_label
    exact wp_mono (p0 a w h0) (fun e a w h => by cases e <;> first | exact h | exact h.1)) ?_
  · intro l a w h
    rcases key l (hJ l a w h) with rfl | rfl | rfl | rfl
    · exact f0
    · exact f1
    · exact f2
    · exact f3
  · intro l a w h
    rcases key l (hJ l a w h) with rfl | rfl | rfl | rfl
    · show R0.wp P _ a w
      rw [hx]
      exact wp_seq (wp_skip (p0 a w h))
    · exact p1 a w h
    · exact p2 a w h
    · exact p3 a w h
theorem meas {g : Nat} {s : ByteArray} {l l' : Nat} {W W' : World} {a a' : Int} (h' : atOf g W' = a') (h : atOf g W = a) (hlt : 4 * ((s.size : Int) - a').toNat + (match l' with | 0 => 3 | 1 => 2 | _ => 1) < 4 * ((s.size : Int) - a).toNat + (match l with | 0 => 3 | 1 => 2 | _ => 1)) : PieceM g s l' W' < PieceM g s l W := by
  unfold PieceM
  rw [h, h']
  exact hlt
set_option maxHeartbeats 16000000 in
set_option maxRecDepth 100000 in
theorem piece_S (k : Nat) (w0 w : World) (g : Nat) (s : ByteArray) (at_ fr ln kd : Int) (ts : ByteArray) (tn tp er : Int) (hS : Sx w0 w w g s at_ fr ln kd ts tn tp er) (h0 : 0 ≤ at_) (h1 : at_ ≤ (s.size : Int)) (hz : s.size ≤ 140737488351232) (hG : GResv w0) (r : PR) (hR : startR k s at_ fr ln kd ts tn tp er = some r) :
    Calls Tryd.prog 13 #[.pointer (some ⟨g, 0, none⟩)] w (PiecePost w0 w g s r) := by
  have HZ := Aside0.mk hz
  clear hz
  have HG := Aside0.mk hG
  clear hG
  go_enter Tryd.func13, Tryd.ntmps13
  go_wp2_with fail
  refine wp_scope_4 (X := ?X) (R0 := ?R0) (R1 := ?R1) (R2 := ?R2) (R3 := ?R3) (fun l a W => Fr g a ∧ PieceJ k w0 w g s fr kd ts tn tp er r l W) (fun l _ W => PieceM g s l W) ?f0 ?f1 ?f2 ?f3 ?_ ?hc ?hx ?_ ?_ ?_ ?_ ?_
  case f0 => rfl
  case f1 => rfl
  case f2 => rfl
  case f3 => rfl
  case hc => rfl
  case hx => rfl
  · rintro l a W ⟨_, h⟩
    unfold PieceJ at h
    split at h <;> first | omega | exact h.elim
  · exact ⟨by exact Fr.of _ _ rfl rfl, at_, ln, h0, h1, hS, hR⟩
  · rintro a W ⟨⟨u, rfl⟩, at_, ln, h0, h1, hS, hR⟩
    have hz := HZ.out
    have c0 := hS.c 0
    have c1 := hS.c 1
    have f1 := hS.f 1
    simp at c0 c1
    by_cases hs : at_ < (s.size : Int)
    · have hs1 : decide (at_ ≥ (s.size : Int)) = false := decide_eq_false (by omega)
      have hs2 : decide ((s.size : Int) ≤ at_) = false := decide_eq_false (by omega)
      have HS := Aside0.mk hS
      have HRR := Aside0.mk hR
      clear hS hR
      have hnx : nx s at_ = bt s at_ := if_pos hs
      have HNX := Aside0.mk hnx
      clear hnx
      go_wp2_with fail
      go_region
      go_wp2_with fail
      have HM := Aside0.mk (Sx.at_ HS.out)
      refine (next_S HS.out.drew (by have := h0; omega)).mono ?_
      rintro e W2 ⟨rfl, hS2⟩
      clear HS c0 c1 f1
      rw [HNX.out]
      have HS := Aside0.mk hS2
      clear hS2
      generalize hc : bt s at_ = c
      have HC := Aside0.mk hc
      clear hc
      have c0 := HS.out.c 0
      have c1 := HS.out.c 1
      have f1 := HS.out.f 1
      simp at c0 c1
      by_cases h10 : c = 10
      · have b10 : (c == 10) = true := beq_iff_eq.2 h10
        have d10 : decide (c = 10) = true := decide_eq_true h10
        have H10 := Aside0.mk h10
        clear h10
        go_wp2_with fail
        apply wp_goto
        show (Fr _ _ ∧ PieceJ _ _ _ _ _ _ _ _ _ _ _ _ 1 _) ∧ PieceM _ _ 1 _ < PieceM _ _ 0 _
        refine And.intro (And.intro (by exact Fr.of _ _ rfl rfl) ?_) ?_
        · exact ⟨at_, ln, h0, hs, HS.out, by have := HRR.out; unfold startR at this ⊢; rwa [skipF_step s at_ ln hs, if_pos (by rw [HC.out]; exact H10.out)] at this⟩
        · exact meas (Sx.at_ HS.out) HM.out (by simp only []; omega)
      · have b10 : (c == 10) = false := beq_eq_false_iff_ne.2 h10
        have d10 : decide (c = 10) = false := decide_eq_false h10
        have H10 := Aside0.mk h10
        clear h10
        by_cases hbl : c = 32 ∨ c = 9 ∨ c = 13
        · have HBL := Aside0.mk hbl
          have hz2 := HZ.out
          rcases hbl with h | h | h
          · have n0 : (c == 32) = true := by rw [h]; rfl
            have m0 : decide (c = 32) = true := by rw [h]; rfl
            have n1 : (c == 9) = false := by rw [h]; rfl
            have m1 : decide (c = 9) = false := by rw [h]; rfl
            have n2 : (c == 13) = false := by rw [h]; rfl
            have m2 : decide (c = 13) = false := by rw [h]; rfl
            have H := Aside0.mk h
            clear h
            go_wp2_with fail
            apply wp_goto
            show (Fr _ _ ∧ PieceJ _ _ _ _ _ _ _ _ _ _ _ _ 0 _) ∧ PieceM _ _ 0 _ < PieceM _ _ 0 _
            refine And.intro (And.intro (by exact Fr.of _ _ rfl rfl) ?_) ?_
            · exact ⟨at_ + 1, ln, by omega, by omega, HS.out.set1 (at_ + 1), by have := HRR.out; unfold startR at this ⊢; rwa [skipF_step s at_ ln hs, if_neg (by rw [HC.out]; exact H10.out), if_pos (by rw [HC.out]; exact HBL.out)] at this⟩
            · exact meas (Sx.at_ (HS.out.set1 (at_ + 1))) HM.out (by simp only []; omega)
          · have n0 : (c == 32) = false := by rw [h]; rfl
            have m0 : decide (c = 32) = false := by rw [h]; rfl
            have n1 : (c == 9) = true := by rw [h]; rfl
            have m1 : decide (c = 9) = true := by rw [h]; rfl
            have n2 : (c == 13) = false := by rw [h]; rfl
            have m2 : decide (c = 13) = false := by rw [h]; rfl
            have H := Aside0.mk h
            clear h
            go_wp2_with fail
            apply wp_goto
            show (Fr _ _ ∧ PieceJ _ _ _ _ _ _ _ _ _ _ _ _ 0 _) ∧ PieceM _ _ 0 _ < PieceM _ _ 0 _
            refine And.intro (And.intro (by exact Fr.of _ _ rfl rfl) ?_) ?_
            · exact ⟨at_ + 1, ln, by omega, by omega, HS.out.set1 (at_ + 1), by have := HRR.out; unfold startR at this ⊢; rwa [skipF_step s at_ ln hs, if_neg (by rw [HC.out]; exact H10.out), if_pos (by rw [HC.out]; exact HBL.out)] at this⟩
            · exact meas (Sx.at_ (HS.out.set1 (at_ + 1))) HM.out (by simp only []; omega)
          · have n0 : (c == 32) = false := by rw [h]; rfl
            have m0 : decide (c = 32) = false := by rw [h]; rfl
            have n1 : (c == 9) = false := by rw [h]; rfl
            have m1 : decide (c = 9) = false := by rw [h]; rfl
            have n2 : (c == 13) = true := by rw [h]; rfl
            have m2 : decide (c = 13) = true := by rw [h]; rfl
            have H := Aside0.mk h
            clear h
            go_wp2_with fail
            apply wp_goto
            show (Fr _ _ ∧ PieceJ _ _ _ _ _ _ _ _ _ _ _ _ 0 _) ∧ PieceM _ _ 0 _ < PieceM _ _ 0 _
            refine And.intro (And.intro (by exact Fr.of _ _ rfl rfl) ?_) ?_
            · exact ⟨at_ + 1, ln, by omega, by omega, HS.out.set1 (at_ + 1), by have := HRR.out; unfold startR at this ⊢; rwa [skipF_step s at_ ln hs, if_neg (by rw [HC.out]; exact H10.out), if_pos (by rw [HC.out]; exact HBL.out)] at this⟩
            · exact meas (Sx.at_ (HS.out.set1 (at_ + 1))) HM.out (by simp only []; omega)
        · have n1 : (c == 32) = false := beq_eq_false_iff_ne.2 (fun h => hbl (.inl h))
          have n2 : (c == 9) = false := beq_eq_false_iff_ne.2 (fun h => hbl (.inr (.inl h)))
          have n3 : (c == 13) = false := beq_eq_false_iff_ne.2 (fun h => hbl (.inr (.inr h)))
          have m1 : decide (c = 32) = false := decide_eq_false (fun h => hbl (.inl h))
          have m2 : decide (c = 9) = false := decide_eq_false (fun h => hbl (.inr (.inl h)))
          have m3 : decide (c = 13) = false := decide_eq_false (fun h => hbl (.inr (.inr h)))
          have hsk := HRR.out
          unfold startR at hsk
          rw [skipF_step s at_ ln hs, if_neg (by rw [HC.out]; exact H10.out), if_neg (by rw [HC.out]; exact hbl)] at hsk
          unfold atR at hsk
          rw [if_neg (by simp only []; omega)] at hsk
          simp only [] at hsk
          have HSK := Aside0.mk hsk
          have HBL := Aside0.mk hbl
          clear hsk hbl HRR
          have hS2 := HS.out.set2 at_
          have c2 := HS.out.c 2
          have f2 := HS.out.f 2
          have k1 := hS2.c 1
          have k4 := hS2.c 4
          have k5 := hS2.c 5
          have k6 := hS2.c 6
          have k7 := hS2.c 7
          have l4 := hS2.f 4
          have l5 := hS2.f 5
          have l6 := hS2.f 6
          have l7 := hS2.f 7
          simp at c2 k1 k4 k5 k6 k7
          have HS2 := Aside0.mk hS2
          clear hS2
          go_wp2_with fail
          refine (next_S ((((HS2.out.set4 0).set5 ⟨#[]⟩).set6 0).set7 at_) h0).mono ?_
          rintro e W3 ⟨rfl, hS3⟩
          rw [HNX.out, HC.out]
          clear HS HS2 c0 c1 f1 f2 c2 k1 k4 k5 k6 k7 l4 l5 l6 l7 n1 n2 n3 m1 m2 m3 b10 d10
          have hsk := HSK.out
          rw [HC.out] at hsk
          clear HSK
          have HSK := Aside0.mk hsk
          clear hsk
          have HS := Aside0.mk hS3
          clear hS3
          go_wp2_with fail
          refine (let_S c HS.out).mono ?_
          rintro e W4 ⟨rfl, hS4⟩
          clear HS
          have HS := Aside0.mk hS4
          clear hS4
          generalize hq : letB c = q at HSK
          have HQ := Aside0.mk hq
          clear hq
          cases q with
          | true =>
            go_wp2_with fail
            apply wp_goto
            show (Fr _ _ ∧ PieceJ _ _ _ _ _ _ _ _ _ _ _ _ 2 _) ∧ PieceM _ _ 2 _ < PieceM _ _ 0 _
            refine And.intro (And.intro (by exact Fr.of _ _ rfl rfl) ?_) ?_
            · exact ⟨at_, at_, ln, h0, Int.le_refl _, hs, HS.out, by have := HSK.out; simp only [Bool.false_eq_true, if_true, if_false] at this; exact this⟩
            · exact meas (Sx.at_ HS.out) HM.out (by simp only []; omega)
          | false =>
            go_wp2_with fail
            refine (num_S c HS.out).mono ?_
            rintro e W5 ⟨rfl, hS5⟩
            clear HS
            have HS := Aside0.mk hS5
            clear hS5
            generalize hq : numB c = q at HSK
            have HN := Aside0.mk hq
            clear hq
            cases q with
            | true =>
              go_wp2_with fail
              apply wp_goto
              show (Fr _ _ ∧ PieceJ _ _ _ _ _ _ _ _ _ _ _ _ 3 _) ∧ PieceM _ _ 3 _ < PieceM _ _ 0 _
              refine And.intro (And.intro (by exact Fr.of _ _ rfl rfl) ?_) ?_
              · exact ⟨at_, at_, ln, h0, Int.le_refl _, hs, HS.out, by have := HSK.out; simp only [Bool.false_eq_true, if_true, if_false] at this; exact this⟩
              · exact meas (Sx.at_ HS.out) HM.out (by simp only []; omega)
            | false =>
              go_wp2_with fail
              refine (sign_calls w0 w _ g s at_ at_ ln 0 ⟨#[]⟩ 0 at_ er HS.out h0 hs HZ.out).mono ?_
              intro e W6 hP
              have hr := HSK.out
              simp only [Bool.false_eq_true, if_true, if_false] at hr
              have HP : ∃ q, e = .returned (.bool q) ∧ PiecePost w0 w g s r (.returned (.bool q)) W6 := by
                obtain ⟨he, hx⟩ := hP
                refine ⟨_, he, ?_⟩
                unfold signR at hr
                by_cases hz0 : signN (s.extract at_.toNat s.size) = 0
                · rw [if_pos hz0] at hr hx
                  injection hr with hr
                  rw [← hr]
                  exact ⟨by rw [hz0]; rfl, hx⟩
                · rw [if_neg hz0] at hr hx
                  injection hr with hr
                  rw [← hr]
                  exact ⟨by rw [decide_eq_true hz0], hx⟩
              obtain ⟨q, rfl, HP⟩ := HP
              have HPP := Aside0.mk HP
              clear HP hP hr HSK
              go_wp2_with fail
              go_ret
              exact HPP.out
    · have hs1 : decide (at_ ≥ (s.size : Int)) = true := decide_eq_true (by omega)
      have hs2 : decide ((s.size : Int) ≤ at_) = true := decide_eq_true (by omega)
      have HS := Aside0.mk hS
      unfold startR at hR
      rw [skipF_end s at_ ln (by omega)] at hR
      unfold atR at hR
      rw [if_pos (by simp only []; omega)] at hR
      injection hR with hR
      have HRR := Aside0.mk hR
      clear hS hR
      go_wp2_with fail
      go_region
      go_wp2_with fail
      go_ret
      rw [← HRR.out]
      exact ⟨rfl, HS.out.drew⟩
  · rintro a W ⟨⟨u, rfl⟩, at_, ln, h0, h1, hS, hR⟩
    have hz := HZ.out
    by_cases hl : ln < 0
    · have hl1 : decide (ln < 0) = true := decide_eq_true hl
      have hS1 := hS.set3 at_
      have c3 := hS.c 3
      have f3 := hS.f 3
      have c1 := hS.c 1
      have f1 := hS.f 1
      have d1 := hS1.c 1
      have e1 := hS1.f 1
      simp at c1 c3 d1
      have HM := Aside0.mk (Sx.at_ hS)
      have HS := Aside0.mk hS1
      have HRR := Aside0.mk hR
      clear hS hS1 hR
      go_wp2_with fail
      apply wp_goto
      show (Fr _ _ ∧ PieceJ _ _ _ _ _ _ _ _ _ _ _ _ 0 _) ∧ PieceM _ _ 0 _ < PieceM _ _ 1 _
      refine And.intro (And.intro (by exact Fr.of _ _ rfl rfl) ?_) ?_
      · exact ⟨at_ + 1, at_, by omega, by omega, HS.out.set1 (at_ + 1), by have := HRR.out; rwa [if_pos hl] at this⟩
      · exact meas (Sx.at_ (HS.out.set1 (at_ + 1))) HM.out (by simp only []; omega)
    · have hl1 : decide (ln < 0) = false := decide_eq_false hl
      have c3 := hS.c 3
      have f3 := hS.f 3
      have c1 := hS.c 1
      have f1 := hS.f 1
      simp at c1 c3
      have HS := Aside0.mk hS
      have HRR := Aside0.mk hR
      clear hS hR
      go_wp2_with fail
      apply wp_goto
      show (Fr _ _ ∧ PieceJ _ _ _ _ _ _ _ _ _ _ _ _ 0 _) ∧ PieceM _ _ 0 _ < PieceM _ _ 1 _
      refine And.intro (And.intro (by exact Fr.of _ _ rfl rfl) ?_) ?_
      · exact ⟨at_ + 1, ln, by omega, by omega, HS.out.set1 (at_ + 1), by have := HRR.out; rwa [if_neg (by have := hl; omega)] at this⟩
      · exact meas (Sx.at_ (HS.out.set1 (at_ + 1))) (Sx.at_ HS.out) (by simp only []; omega)
  · rintro a W ⟨⟨u, rfl⟩, b, f, ln, h0, h1, h2, hS, hR⟩
    have hz := HZ.out
    have c1 := hS.c 1
    have f1 := hS.f 1
    simp at c1
    have HS := Aside0.mk hS
    have HRR := Aside0.mk hR
    clear hS hR
    go_wp2_with fail
    refine (next_S (HS.out.set1 (b + 1)) (by have := h0; have := h1; omega)).mono ?_
    rintro e W2 ⟨rfl, hS2⟩
    have HM := Aside0.mk (Sx.at_ HS.out)
    clear HS c1 f1
    have HS := Aside0.mk hS2
    clear hS2
    generalize hc : nx s (b + 1) = c
    have HC := Aside0.mk hc
    clear hc
    go_wp2_with fail
    refine (let_S c HS.out).mono ?_
    rintro e W3 ⟨rfl, hS3⟩
    clear HS
    have HS := Aside0.mk hS3
    clear hS3
    generalize hq : letB c = q
    have HQ := Aside0.mk hq
    clear hq
    cases q with
    | true =>
      go_wp2_with fail
      have hy := runF_yes wordB (by rfl) s (b + 1) (by rw [HC.out]; unfold wordB; rw [HQ.out]; rfl)
      apply wp_goto
      show (Fr _ _ ∧ PieceJ _ _ _ _ _ _ _ _ _ _ _ _ 2 _) ∧ PieceM _ _ 2 _ < PieceM _ _ 2 _
      refine And.intro (And.intro (by exact Fr.of _ _ rfl rfl) ?_) ?_
      · exact ⟨b + 1, f, ln, h0, by omega, hy.1, HS.out, by have := HRR.out; rwa [hy.2] at this⟩
      · exact meas (Sx.at_ HS.out) HM.out (by simp only []; omega)
    | false =>
      go_wp2_with fail
      refine (num_S c HS.out).mono ?_
      rintro e W4 ⟨rfl, hS4⟩
      clear HS
      have HS := Aside0.mk hS4
      clear hS4
      generalize hq : numB c = q
      have HN := Aside0.mk hq
      clear hq
      cases q with
      | true =>
        go_wp2_with fail
        have hy := runF_yes wordB (by rfl) s (b + 1) (by rw [HC.out]; unfold wordB; rw [HQ.out, HN.out]; rfl)
        apply wp_goto
        show (Fr _ _ ∧ PieceJ _ _ _ _ _ _ _ _ _ _ _ _ 2 _) ∧ PieceM _ _ 2 _ < PieceM _ _ 2 _
        refine And.intro (And.intro (by exact Fr.of _ _ rfl rfl) ?_) ?_
        · exact ⟨b + 1, f, ln, h0, by omega, hy.1, HS.out, by have := HRR.out; rwa [hy.2] at this⟩
        · exact meas (Sx.at_ HS.out) HM.out (by simp only []; omega)
      | false =>
        go_wp2_with fail
        have hn := runF_no wordB s (b + 1) (by rw [HC.out]; unfold wordB; rw [HQ.out, HN.out]; rfl)
        refine (named_calls w0 w _ g s (b + 1) f ln 0 ByteArray.empty 0 f er HS.out HG.out h0 (by omega) (by omega)).mono ?_
        rintro e W5 ⟨rfl, hS5⟩
        have hr := HRR.out
        rw [hn] at hr
        unfold nameR at hr
        injection hr with hr
        have HP : PiecePost w0 w g s r (.returned (.bool (namedE (s.extract f.toNat (b + 1).toNat) er == 0))) W5 := by
          rw [← hr]
          exact ⟨rfl, hS5⟩
        have HPP := Aside0.mk HP
        clear HP hS5 HS hr
        generalize (namedE (s.extract f.toNat (b + 1).toNat) er == 0) = q at HPP
        go_wp2_with fail
        go_ret
        exact HPP.out
  · rintro a W ⟨⟨u, rfl⟩, b, f, ln, h0, h1, h2, hS, hR⟩
    have hz := HZ.out
    have c1 := hS.c 1
    have f1 := hS.f 1
    simp at c1
    have HS := Aside0.mk hS
    have HRR := Aside0.mk hR
    clear hS hR
    go_wp2_with fail
    refine (next_S (HS.out.set1 (b + 1)) (by have := h0; have := h1; omega)).mono ?_
    rintro e W2 ⟨rfl, hS2⟩
    have HM := Aside0.mk (Sx.at_ HS.out)
    clear HS c1 f1
    have HS := Aside0.mk hS2
    clear hS2
    generalize hc : nx s (b + 1) = c
    have HC := Aside0.mk hc
    clear hc
    go_wp2_with fail
    refine (num_S c HS.out).mono ?_
    rintro e W3 ⟨rfl, hS3⟩
    clear HS
    have HS := Aside0.mk hS3
    clear hS3
    generalize hq : numB c = q
    have HN := Aside0.mk hq
    clear hq
    cases q with
    | true =>
      go_wp2_with fail
      have hy := runF_yes numB (by rfl) s (b + 1) (by rw [HC.out]; exact HN.out)
      apply wp_goto
      show (Fr _ _ ∧ PieceJ _ _ _ _ _ _ _ _ _ _ _ _ 3 _) ∧ PieceM _ _ 3 _ < PieceM _ _ 3 _
      refine And.intro (And.intro (by exact Fr.of _ _ rfl rfl) ?_) ?_
      · exact ⟨b + 1, f, ln, h0, by omega, hy.1, HS.out, by have := HRR.out; rwa [hy.2] at this⟩
      · exact meas (Sx.at_ HS.out) HM.out (by simp only []; omega)
    | false =>
      have hn := runF_no numB s (b + 1) (by rw [HC.out]; exact HN.out)
      have hr := HRR.out
      rw [hn] at hr
      unfold digR at hr
      have hb : f ≤ b + 1 := by omega
      have hbs : b + 1 ≤ (s.size : Int) := by omega
      have hb0 : 0 ≤ b + 1 := by omega
      cases hp : digit_Parse.f k (s.extract f.toNat (b + 1).toNat) with
      | none => rw [hp] at hr; exact absurd hr (by simp)
      | some ne =>
        obtain ⟨n, e1⟩ := ne
        rw [hp] at hr
        injection hr with hr
        have HRE := Aside0.mk hr
        have HPA := Aside0.mk hp
        clear hr hp HRR HN HC hn
        have hS4 := HS.out.set4 4
        have c0 := HS.out.c 0
        have c2 := HS.out.c 2
        have c4 := HS.out.c 4
        have f4 := HS.out.f 4
        have d0 := hS4.c 0
        have d1 := hS4.c 1
        have d2 := hS4.c 2
        have d6 := hS4.c 6
        have d8 := hS4.c 8
        have g6 := hS4.f 6
        have g8 := hS4.f 8
        simp at c0 c2 c4 d0 d1 d2 d6 d8
        have HS4 := Aside0.mk hS4
        clear hS4
        go_wp2_with fail
        go_region_with (go_at_call 22; refine (parse_S k _ n e1 HPA.out HS4.out.drew).mono ?_; rintro e W5 ⟨rfl, hS5⟩; have q6 := hS5.c 6; have q8 := hS5.c 8; have v6 := hS5.f 6; have v8 := hS5.f 8; simp at q6 q8; have HS5 := Aside0.mk hS5; clear hS5)
        all_goals
          go_wp2_with fail
          go_ret
          rw [← HRE.out]
          exact ⟨rfl, (HS5.out.set6 n).set8 e1⟩
def token_scanner_piece.f (k : Nat) (s0_0 : ByteArray) (s0_1 : Int) (s0_2 : Int) (s0_3 : Int) (s0_4 : Int) (s0_5 : ByteArray) (s0_6 : Int) (s0_7 : Int) (s0_8 : Int) : Option (Bool × ByteArray × Int × Int × Int × Int × ByteArray × Int × Int × Int) :=
  if 0 ≤ s0_1 ∧ s0_1 ≤ (s0_0.size : Int) ∧ s0_0.size ≤ 140737488351232 then
    match startR k s0_0 s0_1 s0_2 s0_3 s0_4 s0_5 s0_6 s0_7 s0_8 with
    | some r => some (r.1, s0_0, r.2)
    | none => none
  else none
theorem token_scanner_piece.calls (k : Nat) (g : Nat) (s0_0 : ByteArray) (s0_1 : Int) (s0_2 : Int) (s0_3 : Int) (s0_4 : Int) (s0_5 : ByteArray) (s0_6 : Int) (s0_7 : Int) (s0_8 : Int) (r1 : Bool) (r2 : ByteArray) (r3 : Int) (r4 : Int) (r5 : Int) (r6 : Int) (r7 : ByteArray) (r8 : Int) (r9 : Int) (r10 : Int) (w0 w : World) (hI : IsS36 w0 w g s0_0 s0_1 s0_2 s0_3 s0_4 s0_5 s0_6 s0_7 s0_8) (hB : Below w0.heap.size w0 w) (h : token_scanner_piece.f k s0_0 s0_1 s0_2 s0_3 s0_4 s0_5 s0_6 s0_7 s0_8 = some (r1, r2, r3, r4, r5, r6, r7, r8, r9, r10)) (hG : GResv w0 := by first | assumption | (unfold GResv at *; repeat (first | assumption | apply Holds.drewN | apply Holds.drew | apply Holds.alloc | exact Holds.drawn (by assumption) (by assumption) | exact Holds.aside (by assumption) (by assumption)))) :
    Calls Tryd.prog 13 #[.pointer (some ⟨g, 0, none⟩)] w fun e w' => e = .returned (.bool r1) ∧ IsS36 w0 w' g r2 r3 r4 r5 r6 r7 r8 r9 r10 ∧ Below w0.heap.size w0 w' ∧ KeepBut w w' g none := by
  unfold token_scanner_piece.f at h
  split at h
  · rename_i hc
    cases hr : startR k s0_0 s0_1 s0_2 s0_3 s0_4 s0_5 s0_6 s0_7 s0_8 with
    | none => rw [hr] at h; exact absurd h (by simp)
    | some r =>
      rw [hr] at h
      injection h with h
      refine (piece_S k w0 w g s0_0 s0_1 s0_2 s0_3 s0_4 s0_5 s0_6 s0_7 s0_8 ⟨hI, hB, KeepBut.refl w g none⟩ hc.1 hc.2.1 hc.2.2 hG r hr).mono ?_
      rintro e w' ⟨he, hS⟩
      obtain ⟨q1, q2, q3, q4, q5, q6, q7, q8, q9⟩ := r
      simp only [Prod.mk.injEq] at h
      obtain ⟨rfl, rfl, rfl, rfl, rfl, rfl, rfl, rfl, rfl, rfl⟩ := h
      exact ⟨he, hS.is, hS.below, hS.keep⟩
  · exact absurd h (by simp)


end Go.Proofs.YtmpdilifoblnaaaDoor.MTokenAgain
