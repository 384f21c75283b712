/- Walks: the laws' own helpers that measure and copy slices of strings. -/
import Derived.Test.YtciiokegifgbdaaDoorEq
import Derived.Test.YtciiokegifgbdaaDoorPlain1
import Derived.Laws.MakeOwn
namespace Go.Proofs.YtciiokegifgbdaaDoor
open Go.RowKit

/-- all the bytes of a list of strings -/
def bytesOf : List ByteArray → Nat
  | [] => 0
  | s :: r => s.size + bytesOf r
/-- what szStringS returns -/
def szR (xs : List ByteArray) (L : Int) : Int := if (xs.length + bytesOf xs : Int) ≤ L then L - (xs.length + bytesOf xs) else -1
theorem bytesOf_append (xs ys : List ByteArray) : bytesOf (xs ++ ys) = bytesOf xs + bytesOf ys := by
  induction xs with
  | nil => simp [bytesOf]
  | cons a l ih => simp [bytesOf, ih]; omega
theorem bytesOf_step (xs : List ByteArray) (k : Nat) (h : k < xs.length) : bytesOf (xs.take (k + 1)) = bytesOf (xs.take k) + xs[k].size := by
  rw [List.take_succ_eq_append_getElem h, bytesOf_append]; simp [bytesOf]
theorem bytesOf_le (xs : List ByteArray) (k : Nat) : bytesOf (xs.take k) ≤ bytesOf xs := by
  have h : bytesOf xs = bytesOf (xs.take k ++ xs.drop k) := by rw [List.take_append_drop]
  rw [h, bytesOf_append]; omega
theorem bytesOf_mem {xs : List ByteArray} {s : ByteArray} (h : s ∈ xs) : s.size ≤ bytesOf xs := by
  induction xs with
  | nil => cases h
  | cons a l ih =>
    rcases List.mem_cons.1 h with rfl | h
    · simp [bytesOf]
    · have := ih h; simp [bytesOf]; omega
theorem szR_nonneg {xs : List ByteArray} {L : Int} (h : 0 ≤ szR xs L) : (xs.length + bytesOf xs : Int) ≤ L := by
  unfold szR at h; split at h <;> omega

theorem fill_get (xs : List ByteArray) (k : Nat) (h : k < xs.length) : ((xs.take k).map Value.string ++ List.replicate (xs.length - k) (Value.string ByteArray.empty))[k]? = some (Value.string ByteArray.empty) := by
  have hl : ((xs.take k).map Value.string).length = k := by simp; omega
  rw [List.getElem?_append_right (by omega), hl, Nat.sub_self, List.getElem?_replicate, if_pos (by omega)]
theorem fill_set (xs : List ByteArray) (k : Nat) (h : k < xs.length) : ((xs.take k).map Value.string ++ List.replicate (xs.length - k) (Value.string ByteArray.empty)).set k (.string xs[k]) =
    (xs.take (k + 1)).map Value.string ++ List.replicate (xs.length - (k + 1)) (Value.string ByteArray.empty) := by
  have hl : ((xs.take k).map Value.string).length = k := by simp; omega
  rw [List.set_append_right _ _ (by omega), hl, Nat.sub_self, List.take_succ_eq_append_getElem h, show xs.length - k = (xs.length - (k + 1)) + 1 by omega, List.replicate_succ, List.set_cons_zero, List.map_append, List.append_assoc]
  rfl

end Go.Proofs.YtciiokegifgbdaaDoor
