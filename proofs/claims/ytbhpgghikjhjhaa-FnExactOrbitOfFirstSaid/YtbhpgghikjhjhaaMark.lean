/- Walks: the laws' own helpers on slices: compared, marked, held. -/
import Derived.Test.YtbhpgghikjhjhaaEq
import Derived.Test.YtbhpgghikjhjhaaPlain1
import Derived.Deep.RegionWith
import Derived.Laws.IdiomStrings
namespace Go.Proofs.Ytbhpgghikjhjhaa
open Go.RowKit

/-- the marks from k on: n of them -/
def marksI (k : Int) (n : Nat) : List Value := (List.range n).map fun (i : Nat) => .int .i64 (k + (i : Int))
theorem marksI_len (k : Int) (n : Nat) : (marksI k n).length = n := by simp [marksI]
theorem marksI_get (k : Int) (n i : Nat) (h : i < n) : (marksI k n)[i]? = some (.int .i64 (k + i)) := by simp [marksI, h]
theorem marksI_succ (k : Int) (n : Nat) : marksI k (n + 1) = marksI k n ++ [.int .i64 (k + n)] := by simp [marksI, List.range_succ]
theorem marked_get {xs : List Value} {ms : List Value} {k : Nat} (hm : ms.length = k) : (ms ++ xs.drop k)[k]? = xs[k]? := by
  rw [List.getElem?_append_right (by omega), hm, Nat.sub_self, List.getElem?_drop, Nat.add_zero]
theorem marked_set {xs : List Value} {ms : List Value} {k : Nat} (hm : ms.length = k) (h : k < xs.length) (u : Value) : (ms ++ xs.drop k).set k u = (ms ++ [u]) ++ xs.drop (k + 1) := by
  rw [List.set_append_right _ _ (by omega), hm, Nat.sub_self, List.drop_eq_getElem_cons h, List.set_cons_zero, List.append_assoc]
  rfl

theorem grown_below {w a b : World} {row : Option Nat} (h : w.grownBy a row) (hb : Below a.heap.size a b) : w.grownBy b row :=
  ⟨hb.os.trans h.os, hb.tape.trans h.tape, hb.output.trans h.output, Nat.le_trans h.size hb.size, fun j hj hne => (hb.block j (Nat.lt_of_lt_of_le hj h.size)).trans (h.block j hj hne)⟩
theorem grown_trans {w a b : World} {row : Option Nat} (h : w.grownBy a row) (k : a.grownBy b row) : w.grownBy b row :=
  ⟨k.os.trans h.os, k.tape.trans h.tape, k.output.trans h.output, Nat.le_trans h.size k.size, fun j hj hne => (k.block j (Nat.lt_of_lt_of_le hj h.size) hne).trans (h.block j hj hne)⟩

end Go.Proofs.Ytbhpgghikjhjhaa
