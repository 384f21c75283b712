/- Walks: a number from a least one to a greatest one. -/
import Derived.Test.YtglleimmmfnhcaaRows
import Derived.Test.YtglleimmmfnhcaaPlain1
import Derived.WalkSpells
import Derived.WalkLawsBesides
namespace Go.Proofs.Ytglleimmmfnhcaa
open Go.RowKit

theorem within_any (n lo hi : Int) (w : World) : Calls Try.prog 55 #[.int .i64 n, .int .i64 lo, .int .i64 hi] w fun e w' => e = .returned (.bool (decide (lo ≤ n) && decide (n ≤ hi))) ∧ w = w' := by
  go_enter Try.func55, Try.ntmps55
  go_wp2_with fail
  all_goals (go_ret; exact ⟨ret_bool (by simp; try omega), rfl⟩)
theorem l01In_any (n lo hi : Int) (w : World) : Calls Try.prog 50 #[.int .i64 n, .int .i64 lo, .int .i64 hi] w fun e w' => e = .returned (.bool (decide (lo ≤ n) && decide (n ≤ hi))) ∧ w = w' := by
  go_enter Try.func50, Try.ntmps50
  go_wp2_with fail
  all_goals (go_ret; exact ⟨ret_bool (by simp; try omega), rfl⟩)
end Go.Proofs.Ytglleimmmfnhcaa
