/- Walks: words in reverse order. -/
import Derived.Test.YtglleimmmfnhcaaWord
import Derived.Test.YtglleimmmfnhcaaPlain4
import Derived.Test.YtglleimmmfnhcaaBytes
import Derived.Laws.MakeOwn
import Derived.Deep.AppendLies
namespace Go.Proofs.Ytglleimmmfnhcaa
open Go.RowKit

theorem turn_get (l : List UInt8) (k : Nat) (h : k < l.length) : (List.replicate (l.length - k) (Value.int .u8 0) ++ (l.take k).reverse.map byteV)[l.length - 1 - k]? = some (.int .u8 0) := by
  rw [List.getElem?_append_left (by simp; omega), List.getElem?_replicate, if_pos (by omega)]
theorem turn_set (l : List UInt8) (k : Nat) (h : k < l.length) : (List.replicate (l.length - k) (Value.int .u8 0) ++ (l.take k).reverse.map byteV).set (l.length - 1 - k) (byteV l[k]) =
    List.replicate (l.length - (k + 1)) (Value.int .u8 0) ++ (l.take (k + 1)).reverse.map byteV := by
  rw [List.set_append_left _ _ (by simp; omega), show l.length - k = (l.length - (k + 1)) + 1 by omega, List.replicate_succ']
  rw [List.set_append_right _ _ (by simp; omega), List.length_replicate, show l.length - 1 - k - (l.length - (k + 1)) = 0 by omega, List.set_cons_zero, List.take_succ_eq_append_getElem h, List.reverse_append, List.append_assoc]
  rfl
end Go.Proofs.Ytglleimmmfnhcaa
