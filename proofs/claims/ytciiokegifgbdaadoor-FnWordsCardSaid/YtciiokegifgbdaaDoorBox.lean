/- Boxes of one cell beside rows that the call has made, over any program. Conditions: none beyond the hypotheses of each lemma. -/
import Derived.Test.YtciiokegifgbdaaDoorCarry
namespace Go.Proofs.YtciiokegifgbdaaDoor
open Go.RowKit

section
variable {w0 w w' : World} {b lo hi base n size : Nat} {T E : TypeId} {x v : Value} {xs : List Value}
/-- a box and a row of another element type lie in other blocks -/
theorem one_ne (h : One w b T x) (ho : w.ownsRow base E size v n xs) (hT : T ≠ E) : v.ownBlock ≠ some b := by
  intro e
  obtain ⟨_, cur, h2⟩ := own_block ho e
  unfold One at h
  rw [h] at h2
  injection h2 with h3
  exact hT (by injection h3)
theorem One.grown {row : Option Nat} (h : One w b T x) (hg : w.grownBy w' row) (hr : row ≠ some b) : One w' b T x := (hg.block b h.lt (fun e => hr e.symm)).trans h
theorem One.grownRow (h : One w b T x) (ho : w.ownsRow base E size v n xs) (hT : T ≠ E) (hg : w.grownBy w' v.ownBlock) : One w' b T x := h.grown hg (one_ne h ho hT)
theorem own_set (ho : w.ownsRow base E size v n xs) (hne : v.ownBlock ≠ some b) (u : Value) : (w.setCell ⟨b, 0, none⟩ u).ownsRow base E size v n xs := by
  refine ho.kept (row := some b) ⟨rfl, rfl, rfl, by simp [World.setCell], fun k _ hn => Below.heap_setCell w _ u k (fun e => hn (by rw [e]))⟩ (.inr hne)
theorem since_set (h : Below w0.heap.size w0 w) (hb : w0.heap.size ≤ b) (u : Value) : Below w0.heap.size w0 (w.setCell ⟨b, 0, none⟩ u) := h.setCell hb u
theorem since_grown {row : Option Nat} (h : Below w0.heap.size w0 w) (hg : w.grownBy w' row) (hr : ∀ g, row = some g → w0.heap.size ≤ g) : Below w0.heap.size w0 w' := h.grown hg h.size hr
end
end Go.Proofs.YtciiokegifgbdaaDoor
