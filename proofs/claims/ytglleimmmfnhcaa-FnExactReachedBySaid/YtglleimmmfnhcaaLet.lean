/- Walks: how often a letter occurs in a word. -/
import Derived.Test.YtglleimmmfnhcaaOne
import Derived.Test.YtglleimmmfnhcaaCounts
import Derived.Test.YtglleimmmfnhcaaShelf
namespace Go.Proofs.Ytglleimmmfnhcaa
open Go.RowKit

/-- what CountLetter returns -/
def clR (l t : List UInt8) : Int := if wordB l = true ∧ oneB t = true then (countC l (t.getD 0 0) : Int) else -1
theorem count_same (l : List UInt8) (c : UInt8) : Lib.countByte l c = countC l c := by
  unfold Lib.countByte countC; rw [← List.countP_eq_length_filter]; rfl
theorem one_is {t : ByteArray} (h : oneB t.data.toList = true) : ∃ c, t = ⟨#[c]⟩ ∧ wordB [c] = true := by
  obtain ⟨⟨l⟩⟩ := t
  match l, h with
  | [c], h => exact ⟨c, rfl, by rw [← h]; simp [oneB, wordB]⟩
theorem clR_out {l t : List UInt8} (h : ¬ (wordB l = true ∧ oneB t = true)) : clR l t = -1 := by unfold clR; rw [if_neg h]
theorem clR_in {l : List UInt8} {c : UInt8} (h : wordB l = true) (h2 : oneB [c] = true) : clR l [c] = countC l c := by unfold clR; rw [if_pos ⟨h, h2⟩]; rfl
end Go.Proofs.Ytglleimmmfnhcaa
