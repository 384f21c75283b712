/- Walks: every image of a substitution turned. -/
import Derived.Test.YtglleimmmfnhcaaTurn
import Derived.Test.YtglleimmmfnhcaaOk
import Derived.Test.YtglleimmmfnhcaaSubM
import Derived.Deep.RegionLaw
import Derived.Deep.AppendLies
namespace Go.Proofs.Ytglleimmmfnhcaa
open Go.RowKit
set_option maxRecDepth 20000

theorem info_str2 : (Try.prog.info? 9).map (fun i => (i.zero, i.size, i.bytes)) = some (some (.string ByteArray.empty), 1, 16) := by kernel_rfl
def turnB (s : ByteArray) : ByteArray := ⟨s.data.toList.reverse.toArray⟩
/-- what TurnSubst returns -/
def tsR (xs : List ByteArray) : List ByteArray := if substB xs = true then xs.map turnB else []
theorem ts_no {xs : List ByteArray} (h : substB xs = false) : tsR xs = [] := by unfold tsR; rw [h]; rfl
theorem ts_yes {xs : List ByteArray} (h : substB xs = true) : tsR xs = xs.map turnB := by unfold tsR; rw [if_pos h]
theorem take_map_snoc (f : ByteArray → ByteArray) {xs : List ByteArray} {k : Nat} (h : k < xs.length) : (((xs.map f).take (k + 1)).map Value.string) = ((xs.map f).take k).map Value.string ++ [.string (f xs[k])] := by
  rw [List.take_succ_eq_append_getElem (by simpa using h), List.map_append]; simp
end Go.Proofs.Ytglleimmmfnhcaa
