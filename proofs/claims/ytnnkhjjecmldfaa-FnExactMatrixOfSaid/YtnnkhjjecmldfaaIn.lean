/- Walks: a number from a least one to a greatest one. -/
import Derived.Test.YtnnkhjjecmldfaaRows
import Derived.Test.YtnnkhjjecmldfaaPlain1
import Derived.WalkSpells
import Derived.WalkLawsBesides
namespace Go.Proofs.Ytnnkhjjecmldfaa
open Go.RowKit

theorem within_any (n lo hi : Int) (w : World) : Calls Try.prog 60 #[.int .i64 n, .int .i64 lo, .int .i64 hi] w fun e w' => e = .returned (.bool (decide (lo ≤ n) && decide (n ≤ hi))) ∧ w = w' := by
  go_enter Try.func60, Try.ntmps60
  go_wp2_with fail
  all_goals (go_ret; exact ⟨ret_bool (by simp; try omega), rfl⟩)
theorem l01In_any (n lo hi : Int) (w : World) : Calls Try.prog 59 #[.int .i64 n, .int .i64 lo, .int .i64 hi] w fun e w' => e = .returned (.bool (decide (lo ≤ n) && decide (n ≤ hi))) ∧ w = w' := by
  go_enter Try.func59, Try.ntmps59
  go_wp2_with fail
  all_goals (go_ret; exact ⟨ret_bool (by simp; try omega), rfl⟩)
end Go.Proofs.Ytnnkhjjecmldfaa
