/- Walks: the laws' own helpers on substitutions: measured, copied, compared. -/
import Derived.Test.YtciiokegifgbdaaDoorSz
namespace Go.Proofs.YtciiokegifgbdaaDoor
open Go.RowKit

set_option maxHeartbeats 400000 in
theorem eqSubst_same (xs : List ByteArray) (va vb : Value) (w : World) (ha : Row1 w w.heap.size va (xs.map .string)) (hb : Row1 w w.heap.size vb (xs.map .string)) :
    Calls Tryd.prog 20 #[.agg #[va], .agg #[vb]] w fun e w' => e = .returned (.bool true) ∧ Below w.heap.size w w' := by
  have h1 := eqStringS_same xs va vb ((w.alloc (.cells #[va] 36)).alloc (.cells #[vb] 36)) w.heap.size ((ha.alloc (Nat.le_refl _) _).alloc (by simp) _) ((hb.alloc (Nat.le_refl _) _).alloc (by simp) _)
  have H1 := Lib.hid h1; clear h1
  go_enter Tryd.func20, Tryd.ntmps20
  go_wp2_with (go_at_call 42; refine H1.out.mono ?_; rintro e w' ⟨rfl, n, rfl⟩)
  go_ret
  exact ⟨rfl, below_drewN (((Below.refl _ _).alloc (Nat.le_refl _) _).alloc (by simp) _) _⟩
theorem toSubst_one1 {w w1 : World} {a c : Obj} {T : TypeId} {x : Value} (h : Below ((((w.alloc a).alloc (.cells #[x] T)).alloc c)).heap.size (((w.alloc a).alloc (.cells #[x] T)).alloc c) w1) : One w1 (w.heap.size + 1) T x := by
  have h1 := ((One.new (w.alloc a) T x).alloc c).below h (by simp)
  simpa using h1
theorem toSubst_one2 {w w1 : World} {a b : Obj} {T : TypeId} {x : Value} (h : Below ((((w.alloc a).alloc b).alloc (.cells #[x] T))).heap.size (((w.alloc a).alloc b).alloc (.cells #[x] T)) w1) : One w1 (w.heap.size + 1 + 1) T x := by
  have h1 := (One.new ((w.alloc a).alloc b) T x).below h (by simp)
  simpa using h1
end Go.Proofs.YtciiokegifgbdaaDoor
