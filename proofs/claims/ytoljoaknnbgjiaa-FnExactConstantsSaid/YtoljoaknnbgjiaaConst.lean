/- Walk: the constants of the program are those of the document. -/
import Derived.Test.YtoljoaknnbgjiaaRows
import Derived.WalkKit
namespace Go.Proofs.Ytoljoaknnbgjiaa
open Go.RowKit

theorem law_Constants (w : World) : Calls Try.prog 3 #[] w fun e w' => e = .returned (.bool true) ∧ Below w.heap.size w w' := by
  go_enter Try.func3, Try.ntmps3
  go_wp2
  go_ret
  exact ⟨rfl, Below.refl _ _⟩
end Go.Proofs.Ytoljoaknnbgjiaa
