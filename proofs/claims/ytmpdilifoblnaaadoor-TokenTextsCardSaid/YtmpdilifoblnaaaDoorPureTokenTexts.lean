import Derived.Test.YtmpdilifoblnaaaDoorStatTokenTexts
import Derived.Test.YtmpdilifoblnaaaDoorBase
namespace Go.Proofs.YtmpdilifoblnaaaDoor.Pure
open Go.RowKit Go.Proofs.YtmpdilifoblnaaaDoor.MTokenTexts Go.Proofs.YtmpdilifoblnaaaDoorW.PrintWords Go.Proofs.YtmpdilifoblnaaaDoorW.PrintLast Go.Proofs.YtmpdilifoblnaaaDoorW.PrintMore Go.Proofs.YtmpdilifoblnaaaDoor.Base

theorem strOf_cons (x : Int) (l : List Int) : strOfNums [x] ++ strOfNums l = strOfNums (x :: l) := by
  apply ext
  rw [dapp, data_strOfNums, data_strOfNums, data_strOfNums]
  rfl
theorem itoa_l0 : ∀ (d j : Nat) (a n : Int) (acc : List Int), 0 ≤ a → 0 < n → n ≤ 2147483647 → n < 10 ^ d → acc.length + d ≤ 100 → gramaryebase_Itoa.l0 (d + j + 1) a (strOfNums acc) n = some (strOfNums (digit_Print.g d n acc)) := by
  intro d
  induction d with
  | zero => intro j a n acc h0 h1 h2 h3; simp at h3; omega
  | succ d ih =>
    intro j a n acc h0 h1 h2 h3 h4
    have hm : Int.tmod n 10 = n % 10 := Int.tmod_eq_emod_of_nonneg (by omega)
    have hd : Int.tdiv n 10 = n / 10 := Int.tdiv_eq_ediv_of_nonneg (by omega)
    have hw : wrap64 (48 + n % 10) % 256 = 48 + n % 10 := by rw [w64 (by omega) (by omega)]; omega
    have hsz : (strOfNums [48 + n % 10]).size + (strOfNums acc).size ≤ 9223372036854775807 := by rw [size_strOfNums, size_strOfNums]; simp; omega
    have e : d + 1 + j + 1 = (d + j + 1) + 1 := by omega
    rw [e, gramaryebase_Itoa.l0, if_neg (by omega), hm, hd, if_neg (by omega), hw]
    simp only [Option.bind_some]
    rw [if_pos hsz, strOf_cons, w64 (by omega) (by omega)]
    unfold digit_Print.g
    by_cases hz : n / 10 = 0
    · rw [if_pos hz, hz]
      rw [gramaryebase_Itoa.l0, if_pos rfl, if_neg (by omega)]
    · rw [if_neg hz]
      refine ih j a (n / 10) _ h0 (by omega) (by omega) ?_ (by simp; omega)
      have : (10 : Int) ^ (d + 1) = 10 ^ d * 10 := Int.pow_succ 10 d
      omega
theorem print_itoa (n : Int) (k : Nat) (hk : 20 ≤ k) : gramaryeref03_Print.f k n = digit_Print.f n := by
  unfold gramaryeref03_Print.f digit_Print.f gramaryebase_Itoa.f
  have h0 : 0 ≤ mn (mx n 0) 2147483647 := by unfold mn mx; split <;> split <;> omega
  have h1 : mn (mx n 0) 2147483647 ≤ 2147483647 := by unfold mn mx; split <;> split <;> omega
  generalize mn (mx n 0) 2147483647 = m at h0 h1
  by_cases hz : m = 0
  · subst hz
    rfl
  · rw [if_neg hz]
    have := itoa_l0 10 (k - 11) m m [] h0 (by omega) h1 (by omega) (by simp)
    rw [show 10 + (k - 11) + 1 = k by omega] at this
    rw [show (⟨#[]⟩ : ByteArray) = strOfNums [] from rfl, this]
    rfl
theorem works_true : gramaryelaw28_works.f = some true := by decide +kernel

theorem TokenTexts : gramaryelaw28_TokenTexts.PureG := by
  intro a0 a1 a2 a3 _ _ _ _
  refine ⟨20, ?_⟩
  unfold gramaryelaw28_TokenTexts.f gramaryeref28_Text.f token_Text.f
  rw [works_true, print_itoa a2 20 (by omega)]
  by_cases h : a0 = 4
  · obtain ⟨x, hx⟩ : ∃ x, digit_Print.f a2 = some x := ⟨_, rfl⟩
    simp only [if_pos h]
    rw [hx]
    simp
  · simp only [if_neg h]
    simp

end Go.Proofs.YtmpdilifoblnaaaDoor.Pure
