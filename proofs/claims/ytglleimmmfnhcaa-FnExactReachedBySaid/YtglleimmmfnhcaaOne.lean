/- Walks: words of one letter. -/
import Derived.Test.YtglleimmmfnhcaaWord
import Derived.Test.YtglleimmmfnhcaaPlain7
namespace Go.Proofs.Ytglleimmmfnhcaa
open Go.RowKit
set_option maxRecDepth 20000

set_option maxHeartbeats 400000 in
theorem isLetter_any (s : ByteArray) (w : World) (hs : s.size ≤ maxLen) : Calls Try.prog 76 #[.string s] w fun e w' => e = .returned (.bool (oneB s.data.toList)) ∧ w = w' := by
  by_cases h : s.size = 1
  · have HO := Lib.hid (oneB_one h)
    have b1 : ((s.size : Int) == 1) = true := by rw [h]; rfl
    clear h
    go_enter Try.func76, Try.ntmps76
    go_wp2_with (go_at_call 80; refine (isWord_any _ _ hs).mono ?_; rintro e w' ⟨rfl, rfl⟩)
    go_ret
    exact ⟨ret_bool HO.out.symm, rfl⟩
  · have HO := Lib.hid (oneB_not h)
    have b1 : ((s.size : Int) == 1) = false := by rw [beq_eq_false_iff_ne]; omega
    clear h
    go_enter Try.func76, Try.ntmps76
    go_wp2_with fail
    go_ret
    exact ⟨ret_bool HO.out.symm, rfl⟩
end Go.Proofs.Ytglleimmmfnhcaa
