/-
Plain lemmas on bytes, lists and wraps that the pure proofs of this seat share. No program in sight.
-/
import Derived.Test.YtmpdilifoblnaaaWWords
import Derived.Test.YtmpdilifoblnaaaWMore
import Derived.Lib.SmallJoins
import Derived.WideShapes
import Derived.Lib.Strings
namespace Go.Proofs.Ytmpdilifoblnaaa.Base
open Go.RowKit Go.Proofs.YtmpdilifoblnaaaW.PrintWords

theorem w64 {x : Int} (h0 : -9223372036854775808 ≤ x) (h1 : x ≤ 9223372036854775807) : wrap64 x = x := by
  unfold wrap64; omega

theorem ext {a b : ByteArray} (h : a.data.toList = b.data.toList) : a = b := Go.WideShapes.bytes_inj h
theorem tl (s : ByteArray) : s.toList = s.data.toList := ByteArray.toList_eq s
theorem tl_inj {a b : ByteArray} (h : a.toList = b.toList) : a = b := ext (by rw [← tl, ← tl, h])
theorem tl_iff {a b : ByteArray} : a.toList = b.toList ↔ a = b := ⟨tl_inj, fun h => by rw [h]⟩
theorem dlen (s : ByteArray) : s.data.toList.length = s.size := data_length s
theorem dapp (a b : ByteArray) : (a ++ b).data.toList = a.data.toList ++ b.data.toList := by simp
theorem dext (s : ByteArray) (i j : Nat) : (s.extract i j).data.toList = (s.data.toList.take j).drop i := by
  rw [ByteArray.data_extract, Array.toList_extract]
  simp only [List.extract_eq_drop_take']
theorem dext0 (s : ByteArray) (j : Nat) : (s.extract 0 j).data.toList = s.data.toList.take j := by rw [dext]; simp

theorem bt_eq (s : ByteArray) (i : Int) : bt s i = ((s.data.toList[i.toNat]?.map (fun b : UInt8 => (b.toNat : Int))).getD 0) := by
  rw [← rd_bytesOf]; unfold rd bytesOf; simp [List.getD_eq_getElem?_getD]
theorem bt_strOfNums (l : List Int) (i : Int) : bt (strOfNums l) i = (rd l i).toNat % 256 := by
  rw [bt_eq]; unfold strOfNums rd
  simp only [List.getElem?_map, List.getD_eq_getElem?_getD]
  cases l[i.toNat]? with
  | none => simp
  | some x => simp
theorem size_strOfNums (l : List Int) : (strOfNums l).size = l.length := by
  rw [← dlen]; unfold strOfNums; simp
theorem data_strOfNums (l : List Int) : (strOfNums l).data.toList = l.map fun n => UInt8.ofNat n.toNat := by
  unfold strOfNums; simp

theorem bt_lt (s : ByteArray) (i : Int) : 0 ≤ bt s i ∧ bt s i ≤ 255 := bt_range s i

end Go.Proofs.Ytmpdilifoblnaaa.Base
