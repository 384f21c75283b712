/- What keeps a slice that reads as a list, over any program, further. Conditions: none beyond the hypotheses of each lemma. -/
import Derived.Test.YtciiokegifgbdaaDoorSl
namespace Go.Proofs.YtciiokegifgbdaaDoor
open Go.RowKit

theorem Row1.drew {w : World} {B : Nat} {v : Value} {xs : List Value} (h : Row1 w B v xs) : Row1 w.drew B v xs := h.drewN 1
theorem Row1.on {w w' : World} {v : Value} {xs : List Value} (h : Row1 w w.heap.size v xs) (hb : Below w.heap.size w w') : Row1 w' w'.heap.size v xs := (h.below hb (Nat.le_refl _)).mono hb.size
theorem One.drew {w : World} {g : Nat} {T : TypeId} {x : Value} (h : One w g T x) : One w.drew g T x := h
theorem One.on {w w' : World} {g : Nat} {T : TypeId} {x : Value} (h : One w g T x) (hb : Below w.heap.size w w') : One w' g T x := h.below hb h.lt
theorem Row1.own {w : World} {base : Nat} {E : TypeId} {v : Value} {n : Nat} {xs : List Value} (h : w.ownsRow base E 1 v n xs) (hn : n = xs.length) : Row1 w w.heap.size v xs := by
  subst hn; exact Row1.of_own h
theorem Row1.openAt {w : World} {B : Nat} {v : Value} {xs : List ByteArray} (h : Row1 w B v (xs.map .string)) (hn : 0 < xs.length) :
    ∃ b o c, v = .slice (some ⟨b, o, none⟩) xs.length c ∧ b < B ∧ xs.length ≤ c ∧ ∀ (k : Nat) (hk : k < xs.length), w.cell? ⟨b, o + k, none⟩ = some (.string xs[k]) := by
  obtain ⟨A, c, rfl, hc, hm, hA⟩ := h
  simp only [List.length_map] at hc
  obtain ⟨b, o, rfl, hb, hcell⟩ := hA (by intro h; rw [List.map_eq_nil_iff] at h; subst h; simp at hn)
  exact ⟨b, o, c, by simp, hb, hc, fun k hk => hcell k _ (map_get Value.string xs k hk)⟩

theorem Row1.shape {w : World} {B : Nat} {v : Value} {xs : List ByteArray} (h : Row1 w B v (xs.map .string)) : ∃ A c, v = .slice A xs.length c := by
  obtain ⟨A, c, rfl, _⟩ := h
  exact ⟨A, c, by simp⟩

end Go.Proofs.YtciiokegifgbdaaDoor
