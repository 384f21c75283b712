/- Walks: the laws' own helpers on a substitution that came back: marked, held. -/
import Derived.Test.YtciiokegifgbdaaDoorMark
import Derived.Test.YtciiokegifgbdaaDoorBox
namespace Go.Proofs.YtciiokegifgbdaaDoor
open Go.RowKit
set_option maxRecDepth 20000

theorem types_box : (36 : TypeId) ≠ 9 := by decide
set_option maxHeartbeats 400000 in
theorem markSubst_any (base hi : Nat) (v : Value) (xs : List Value) (k : Nat) (w : World) (hown : w.ownsRow base 9 1 v xs.length xs) (hu : ∀ g, v.ownBlock = some g → g < hi) (hx : ∀ u ∈ xs, ∃ z, u = .string z) (h0 : 1 ≤ k) (h1 : k + xs.length ≤ 1099511627776) :
    Calls Tryd.prog 21 #[.agg #[v], .int .i64 k] w fun e w' => e = .returned (.int .i64 (k + xs.length : Nat)) ∧ w'.ownsRow base 9 1 v xs.length (marksS k xs.length) ∧ Within base hi w w' := by
  have HM := Lib.hid (markStringS_any base v xs k (w.alloc (.cells #[v] 36)) (own_below hown (bnew _ _)) hx h0 h1)
  have HB := Lib.hid (fun g hg => And.intro (own_lt hown hg).1 (hu g hg))
  clear hown hu hx
  go_enter Tryd.func21, Tryd.ntmps21
  go_wp2_with fail
  refine HM.out.mono ?_
  rintro e w1 ⟨rfl, ho, hg⟩
  have HO := Lib.hid ho; have HG := Lib.hid ((Within.of_below (bnew w (.cells #[v] 36))).trans (Within.of_grown hg HB.out))
  clear ho hg
  go_wp2_with fail
  go_ret
  exact ⟨rfl, HO.out, HG.out⟩
set_option maxHeartbeats 400000 in
theorem heldSubst_any (n : Nat) (v : Value) (k : Nat) (w : World) (ha : Row1 w w.heap.size v (marksS k n)) (h0 : 1 ≤ k) (h1 : k + n ≤ 1099511627776) :
    Calls Tryd.prog 22 #[.agg #[v], .int .i64 k] w fun e w' => e = .returned (.int .i64 (k + n : Nat)) ∧ Below w.heap.size w w' := by
  have HM := Lib.hid (heldStringS_any n v k (w.alloc (.cells #[v] 36)) ((Rd.new ha).on (bnew _ _)).at h0 h1)
  clear ha
  go_enter Tryd.func22, Tryd.ntmps22
  go_wp2_with fail
  refine HM.out.mono ?_
  rintro e w1 ⟨rfl, hb⟩
  have HB := Lib.hid (bthen (bnew w (.cells #[v] 36)) hb)
  clear hb
  go_wp2_with fail
  go_ret
  exact ⟨rfl, HB.out⟩
end Go.Proofs.YtciiokegifgbdaaDoor
