/- tuple.At and tuple.Text answer as the document says, for every word (cut to 100), place, number, text (cut to 50 bytes) and names (cut to 70), where no name is longer than 1048576 bytes: what strings.Join makes has to fit. -/
import Derived.Lib.SmallJoins
import Derived.WideShapes
import Derived.Lib.Strings
import Derived.Test.YthpiofcjckmifaaZTupleAtWWords
import Derived.Test.YthpiofcjckmifaaZTupleAtWMore
namespace Go.Proofs.Ythpiofcjckmifaa.Base
open Go.RowKit Go.Proofs.YthpiofcjckmifaaW.PrintWords
theorem w64 {x : Int} (h0 : -9223372036854775808 ≤ x) (h1 : x ≤ 9223372036854775807) : wrap64 x = x := by
  unfold wrap64; omega
theorem ext {a b : ByteArray} (h : a.data.toList = b.data.toList) : a = b := Go.WideShapes.bytes_inj h
theorem dlen (s : ByteArray) : s.data.toList.length = s.size := data_length s
theorem dapp (a b : ByteArray) : (a ++ b).data.toList = a.data.toList ++ b.data.toList := by simp
theorem dext (s : ByteArray) (i j : Nat) : (s.extract i j).data.toList = (s.data.toList.take j).drop i := by
  rw [ByteArray.data_extract, Array.toList_extract]
  simp only [List.extract_eq_drop_take']
theorem dext0 (s : ByteArray) (j : Nat) : (s.extract 0 j).data.toList = s.data.toList.take j := by rw [dext]; simp
theorem bt_lt (s : ByteArray) (i : Int) : 0 ≤ bt s i ∧ bt s i ≤ 255 := bt_range s i
end Go.Proofs.Ythpiofcjckmifaa.Base
