/- A measure of strings is never more than what was left. Conditions: none beyond the hypotheses of each lemma. -/
import Derived.Test.YtglleimmmfnhcaaSz
namespace Go.Proofs.Ytglleimmmfnhcaa
open Go.RowKit

theorem szR_le (xs : List ByteArray) (L : Int) : szR xs L ≤ L ∨ szR xs L < 0 := by unfold szR; split <;> omega
end Go.Proofs.Ytglleimmmfnhcaa
