/- Walks: the indices at which a word begins in another one; the numbers of the letters. -/
import Derived.Test.YtciiokegifgbdaaDoorWord
import Derived.Test.YtciiokegifgbdaaDoorPlain4
import Derived.Test.YtciiokegifgbdaaDoorSl
import Derived.Test.YtciiokegifgbdaaDoorMark
import Derived.Laws.MakeOwn
namespace Go.Proofs.YtciiokegifgbdaaDoor
open Go.RowKit
set_option maxRecDepth 20000

/-- f stands in s at the index i -/
def standsAt (s f : ByteArray) (i : Nat) : Bool := (s.extract i (i + f.size)).toList == f.toList
/-- the indices below k at which f stands -/
def placesL (s f : ByteArray) (k : Nat) : List Int := ((List.range k).filter fun i => standsAt s f i).map fun (i : Nat) => (i : Int)
theorem places_yes {s f : ByteArray} {k : Nat} (h : standsAt s f k = true) : placesL s f (k + 1) = placesL s f k ++ [(k : Int)] := by
  unfold placesL; rw [List.range_succ, List.filter_append]; simp [h]
theorem places_no {s f : ByteArray} {k : Nat} (h : standsAt s f k = false) : placesL s f (k + 1) = placesL s f k := by
  unfold placesL; rw [List.range_succ, List.filter_append]; simp [h]
theorem places_len (s f : ByteArray) (k : Nat) : (placesL s f k).length ≤ k := by
  unfold placesL; rw [List.length_map]; have := List.length_filter_le (fun i => standsAt s f i) (List.range k); simpa using this
/-- what PlacesIn returns -/
def placesR (s f : ByteArray) : List Int := if wordB s.data.toList = true ∧ wordB f.data.toList = true ∧ 0 < f.size then placesL s f (s.size + 1 - f.size) else []
theorem info_int : (Tryd.prog.info? 3).map (fun i => (i.zero, i.size, i.bytes)) = some (some (.int .i64 0), 1, 8) := by kernel_rfl

theorem empty_of {f : ByteArray} (h : f.size = 0) : f = ⟨#[]⟩ := by
  obtain ⟨⟨l⟩⟩ := f
  match l, h with
  | [], _ => rfl
theorem toList_ne {f : ByteArray} (h : 0 < f.size) : f.toList.isEmpty = false := by
  rw [Lib.toList_data]
  rw [Lib.size_eq] at h
  cases hl : f.data.toList with
  | nil => rw [hl] at h; simp at h
  | cons a l => rfl
theorem places_out {s f : ByteArray} (h : ¬ (wordB s.data.toList = true ∧ wordB f.data.toList = true ∧ 0 < f.size)) : placesR s f = [] := by unfold placesR; rw [if_neg h]
theorem places_in {s f : ByteArray} (h : wordB s.data.toList = true ∧ wordB f.data.toList = true ∧ 0 < f.size) : placesR s f = placesL s f (s.size + 1 - f.size) := by unfold placesR; rw [if_pos h]
theorem placesR_len (s f : ByteArray) : (placesR s f).length ≤ s.size + 1 := by
  unfold placesR
  split
  · have := places_len s f (s.size + 1 - f.size); omega
  · simp
end Go.Proofs.YtciiokegifgbdaaDoor
