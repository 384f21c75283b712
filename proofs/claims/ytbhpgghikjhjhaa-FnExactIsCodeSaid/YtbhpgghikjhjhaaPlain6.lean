/- Plain mathematics: images of one length; images none of which begins with another. Conditions: none beyond the hypotheses of each lemma. -/
import Derived.Test.YtbhpgghikjhjhaaPlain5
namespace Go.Proofs.Ytbhpgghikjhjhaa
open Go.RowKit

/-- what IsUniform returns -/
def uniI (xs : List ByteArray) : Int :=
  if substB xs = true then (if (xs.all fun s => decide (s.size = (xs.headD ByteArray.empty).size)) = true then ((xs.headD ByteArray.empty).size : Int) else 0) else -1
theorem headD_get {xs : List ByteArray} (h : 0 < xs.length) : xs.headD ByteArray.empty = xs[0] := by
  cases xs with
  | nil => simp at h
  | cons a l => rfl
theorem uni_bad {xs : List ByteArray} (h : substB xs = false) : uniI xs = -1 := by unfold uniI; rw [h]; rfl
theorem uni_no {xs : List ByteArray} (hx : substB xs = true) {f : ByteArray} (hf : xs.headD ByteArray.empty = f) (k : Nat) (hk : k < xs.length) (hne : ¬ xs[k].size = f.size) : uniI xs = 0 := by
  unfold uniI
  rw [if_pos hx, if_neg]
  intro h
  rw [List.all_eq_true] at h
  have := h _ (List.getElem_mem hk)
  rw [hf] at this
  exact hne (of_decide_eq_true this)
theorem uni_yes {xs : List ByteArray} (hx : substB xs = true) {f : ByteArray} (hf : xs.headD ByteArray.empty = f) (h : ∀ (k : Nat) (hk : k < xs.length), xs[k].size = f.size) : uniI xs = f.size := by
  unfold uniI
  rw [if_pos hx, if_pos, hf]
  rw [List.all_eq_true]
  intro s hs
  obtain ⟨k, hk, rfl⟩ := List.getElem_of_mem hs
  rw [hf]
  exact decide_eq_true (h k hk)

/-- image i begins with image k -/
def preAt (xs : List ByteArray) (i k : Nat) : Bool := Lib.hasPrefix (xs.getD i ByteArray.empty).data.toList (xs.getD k ByteArray.empty).data.toList
def codeB (xs : List ByteArray) : Bool := substB xs && (List.range xs.length).all fun i => (List.range xs.length).all fun k => decide (i = k) || !preAt xs i k
theorem code_bad {xs : List ByteArray} (h : substB xs = false) : codeB xs = false := by unfold codeB; rw [h]; rfl
theorem code_fail {xs : List ByteArray} {i k : Nat} (hi : i < xs.length) (hk : k < xs.length) (hne : i ≠ k) (hp : preAt xs i k = true) : codeB xs = false := by
  rw [Bool.eq_false_iff]
  intro h
  unfold codeB at h
  rw [Bool.and_eq_true, List.all_eq_true] at h
  have h1 := h.2 i (List.mem_range.2 hi)
  rw [List.all_eq_true] at h1
  have h2 := h1 k (List.mem_range.2 hk)
  rw [hp] at h2
  simp [hne] at h2
theorem code_end {xs : List ByteArray} (h : ∀ i k, i < xs.length → k < xs.length → i ≠ k → preAt xs i k = false) : codeB xs = substB xs := by
  unfold codeB
  have e : ((List.range xs.length).all fun i => (List.range xs.length).all fun k => decide (i = k) || !preAt xs i k) = true := by
    rw [List.all_eq_true]
    intro i hi
    rw [List.all_eq_true]
    intro k hk
    by_cases hik : i = k
    · simp [hik]
    · rw [h i k (List.mem_range.1 hi) (List.mem_range.1 hk) hik]; simp
  rw [e, Bool.and_true]
theorem getD_get {xs : List ByteArray} {k : Nat} (h : k < xs.length) : xs.getD k ByteArray.empty = xs[k] := by rw [List.getD_eq_getElem?_getD, List.getElem?_eq_getElem h]; rfl
theorem preAt_get {xs : List ByteArray} {i k : Nat} (hi : i < xs.length) (hk : k < xs.length) : preAt xs i k = (decide (xs[k].size ≤ xs[i].size) && ((xs[i].extract 0 xs[k].size).toList == xs[k].toList)) := by
  unfold preAt; rw [getD_get hi, getD_get hk, Lib.hasPrefix_raw]
end Go.Proofs.Ytbhpgghikjhjhaa
