/- The state of a walk through a law of one substitution: the box of the argument and the argument itself stand. Conditions: none beyond the hypotheses of each lemma. -/
import Derived.Test.YtciiokegifgbdaaDoorSub
import Derived.Test.YtciiokegifgbdaaDoorOn
namespace Go.Proofs.YtciiokegifgbdaaDoor
open Go.RowKit

/-- the world wc is the law's start with its argument's box, and more: what was there stands -/
def Stands (w : World) (T : TypeId) (va : Value) (wc : World) : Prop := Below (w.heap.size + 1) (w.alloc (.cells #[va] T)) wc
section
variable {w wc w' : World} {T : TypeId} {va : Value} {xs : List Value} {B : Nat}
theorem Stands.start (w : World) (T : TypeId) (va : Value) : Stands w T va (w.alloc (.cells #[va] T)) := Below.refl _ _
theorem Stands.size (h : Stands w T va wc) : w.heap.size + 1 ≤ wc.heap.size := by have := Below.size h; simpa using this
theorem Stands.next (h : Stands w T va wc) (hb : Below B wc w') (hB : w.heap.size + 1 ≤ B) : Stands w T va w' := Below.trans h (hb.mono hB)
theorem Stands.on (h : Stands w T va wc) (hb : Below wc.heap.size wc w') : Stands w T va w' := h.next hb h.size
theorem Stands.alloc (h : Stands w T va wc) (o : Obj) : Stands w T va (wc.alloc o) := Below.alloc h h.size o
theorem Stands.drew (h : Stands w T va wc) : Stands w T va wc.drew := Below.drew h
theorem Stands.drewN (h : Stands w T va wc) (n : Nat) : Stands w T va (wc.drewN n) := below_drewN h n
theorem Stands.below (h : Stands w T va wc) : Below w.heap.size w wc := ((Below.refl _ _).alloc (Nat.le_refl _) _).trans (Below.mono h (Nat.le_succ _))
theorem Stands.box (h : Stands w T va wc) : wc.cell? ⟨w.heap.size, 0, none⟩ = some va := (One.below (One.new w T va) h (Nat.lt_succ_self _)).cell
theorem Stands.row (h : Stands w T va wc) (ha : Row1 w w.heap.size va xs) : Row1 wc wc.heap.size va xs := (ha.below h.below (Nat.le_refl _)).mono h.below.size
end
end Go.Proofs.YtciiokegifgbdaaDoor
