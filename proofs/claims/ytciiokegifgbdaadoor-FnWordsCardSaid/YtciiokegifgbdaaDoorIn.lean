/- Walks: a number from a least one to a greatest one. -/
import Derived.Test.YtciiokegifgbdaaDoorRows
import Derived.Test.YtciiokegifgbdaaDoorPlain1
import Derived.WalkSpells
import Derived.WalkLawsBesides
namespace Go.Proofs.YtciiokegifgbdaaDoor
open Go.RowKit

theorem within_any (n lo hi : Int) (w : World) : Calls Tryd.prog 36 #[.int .i64 n, .int .i64 lo, .int .i64 hi] w fun e w' => e = .returned (.bool (decide (lo ≤ n) && decide (n ≤ hi))) ∧ w = w' := by
  go_enter Tryd.func36, Tryd.ntmps36
  go_wp2_with fail
  all_goals (go_ret; exact ⟨ret_bool (by simp; try omega), rfl⟩)
theorem l01In_any (n lo hi : Int) (w : World) : Calls Tryd.prog 52 #[.int .i64 n, .int .i64 lo, .int .i64 hi] w fun e w' => e = .returned (.bool (decide (lo ≤ n) && decide (n ≤ hi))) ∧ w = w' := by
  go_enter Tryd.func52, Tryd.ntmps52
  go_wp2_with fail
  all_goals (go_ret; exact ⟨ret_bool (by simp; try omega), rfl⟩)
end Go.Proofs.YtciiokegifgbdaaDoor
