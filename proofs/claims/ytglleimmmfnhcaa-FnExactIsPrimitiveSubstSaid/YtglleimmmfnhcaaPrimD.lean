/- Walks: primitive substitutions: what is computed. -/
import Derived.Test.YtglleimmmfnhcaaMat
import Derived.Test.YtglleimmmfnhcaaPrimP
namespace Go.Proofs.Ytglleimmmfnhcaa
open Go.RowKit
set_option maxRecDepth 20000

theorem matR_rows (xs : List ByteArray) : ∀ r ∈ matR xs, r.length = xs.length := by
  intro r hr; simp only [matR, List.mem_map] at hr; obtain ⟨i, _, rfl⟩ := hr; exact rowR_len xs i
/-- what IsPrimitiveSubst returns -/
def primR (xs : List ByteArray) : Bool := substB xs && primGo (matR xs) 16 (matR xs)
theorem primR_no {xs : List ByteArray} (h : substB xs = false) : primR xs = false := by unfold primR; rw [h]; rfl
theorem primR_yes {xs : List ByteArray} (h : substB xs = true) : primR xs = primGo (matR xs) 16 (matR xs) := by unfold primR; rw [h]; rfl
end Go.Proofs.Ytglleimmmfnhcaa
