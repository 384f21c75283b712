/- Words for slices of one-cell elements, over any program: a slice value that reads as a list; what keeps it. Conditions: none beyond the hypotheses of each lemma. -/
import Derived.WalkKit
import Derived.WalkSpells
import Derived.WalkLawsBesides
import Derived.Deep.QuietTactic
import Derived.BigQuiet
import Derived.Lib.Hide
namespace Go.Proofs.YtciiokegifgbdaaDoor
open Go.RowKit

/-- the slice value v reads as the cells xs; it lies below block B -/
def Row1 (w : World) (B : Nat) (v : Value) (xs : List Value) : Prop :=
  ∃ A c, v = .slice A xs.length c ∧ xs.length ≤ c ∧ c ≤ maxLen ∧ (xs ≠ [] → ∃ b o, A = some ⟨b, o, none⟩ ∧ b < B ∧ ∀ (k : Nat) (u : Value), xs[k]? = some u → w.cell? ⟨b, o + k, none⟩ = some u)

section
variable {w w' : World} {B B' : Nat} {v : Value} {xs : List Value}

theorem Row1.keep (h : Row1 w B v xs) (hk : ∀ p : Addr, p.block < B → w'.cell? p = w.cell? p) : Row1 w' B v xs := by
  obtain ⟨A, c, e, hc, hm, ha⟩ := h
  refine ⟨A, c, e, hc, hm, fun hn => ?_⟩
  obtain ⟨b, o, e2, hb, hcell⟩ := ha hn
  exact ⟨b, o, e2, hb, fun k u hu => (hk _ hb).trans (hcell k u hu)⟩
theorem Row1.below (h : Row1 w B v xs) (hb : Below B' w w') (hB : B ≤ B') : Row1 w' B v xs := h.keep fun _ hp => hb.cell (Nat.lt_of_lt_of_le hp hB)
theorem Row1.mono (h : Row1 w B v xs) (hB : B ≤ B') : Row1 w B' v xs := by
  obtain ⟨A, c, e, hc, hm, ha⟩ := h
  refine ⟨A, c, e, hc, hm, fun hn => ?_⟩
  obtain ⟨b, o, e2, hb, hcell⟩ := ha hn
  exact ⟨b, o, e2, by omega, hcell⟩
theorem Row1.alloc (h : Row1 w B v xs) (hB : B ≤ w.heap.size) (o : Obj) : Row1 (w.alloc o) B v xs := h.below ((Below.refl B w).alloc hB o) (Nat.le_refl _)
theorem Row1.drewN (h : Row1 w B v xs) (n : Nat) : Row1 (w.drewN n) B v xs := h.keep fun _ _ => rfl
theorem Row1.grown {row : Option Nat} (h : Row1 w B v xs) (hg : w.grownBy w' row) (hB : B ≤ w.heap.size) (hr : ∀ g, row = some g → B ≤ g) : Row1 w' B v xs :=
  h.keep fun p hp => World.cell?_of_block (hg.block p.block (by omega) (fun e => by have := hr _ e.symm; omega))
theorem Row1.nil (w : World) (B : Nat) : Row1 w B (.slice none 0 0) [] := ⟨none, 0, rfl, Nat.le_refl _, Nat.zero_le _, fun h => absurd rfl h⟩
theorem Row1.of_own {base : Nat} {E : TypeId} (h : w.ownsRow base E 1 v xs.length xs) : Row1 w w.heap.size v xs := by
  have h0 := h
  rcases h.2 with ⟨rfl, hn⟩ | ⟨g, cap, cur, rfl, hb, hg, hnc, hcm, hcs, htake⟩
  · have : xs = [] := List.eq_nil_of_length_eq_zero hn
    subst this
    exact Row1.nil _ _
  · refine ⟨_, _, rfl, hnc, hcm, fun _ => ⟨g, 0, rfl, (h.lt g rfl).2, fun k u hu => ?_⟩⟩
    rw [Nat.zero_add]
    have hk : k < xs.length := (List.getElem?_eq_some_iff.1 hu).1
    rw [h0.cellAt k (by omega), hu]
theorem Row1.len (h : Row1 w B v xs) : xs.length ≤ 9223372036854775807 := by
  obtain ⟨A, c, _, hc, hm, _⟩ := h
  unfold maxLen at hm
  omega
end

theorem own_base {w : World} {base base' : Nat} {E : TypeId} {size n : Nat} {v : Value} {xs : List Value} (h : w.ownsRow base E size v n xs) (hb : base' ≤ base) : w.ownsRow base' E size v n xs := by
  refine ⟨h.1, ?_⟩
  rcases h.2 with h2 | ⟨g, cap, cur, e, h1, r⟩
  · exact .inl h2
  · exact .inr ⟨g, cap, cur, e, by omega, r⟩
theorem own_below {w w' : World} {base : Nat} {E : TypeId} {size n : Nat} {v : Value} {xs : List Value} (h : w.ownsRow base E size v n xs) (hb : Below w.heap.size w w') : w'.ownsRow base E size v n xs := by
  refine h.kept (row := none) ⟨hb.os, hb.tape, hb.output, hb.size, fun k hk _ => hb.block k hk⟩ ?_
  cases v.ownBlock <;> simp
theorem own_drewN {w : World} {base : Nat} {E : TypeId} {size n : Nat} {v : Value} {xs : List Value} (h : w.ownsRow base E size v n xs) (m : Nat) : (w.drewN m).ownsRow base E size v n xs := own_below h (below_drewN (Below.refl _ _) m)

/-- block g is one cell of type T that holds x, not frozen -/
def One (w : World) (g : Nat) (T : TypeId) (x : Value) : Prop := w.heap[g]? = some (.cells #[x] T (0, 0))
section
variable {w w' : World} {g : Nat} {T : TypeId} {x : Value}
theorem One.lt (h : One w g T x) : g < w.heap.size := by
  rcases Nat.lt_or_ge g w.heap.size with hlt | hge
  · exact hlt
  · unfold One at h; rw [Array.getElem?_eq_none hge] at h; cases h
theorem One.cell (h : One w g T x) : w.cell? ⟨g, 0, none⟩ = some x := by rw [cell_of_row w g 0 _ T (0, 0) h]; rfl
theorem One.frozen (h : One w g T x) : w.frozen? ⟨g, 0, none⟩ = false := by unfold One at h; simp [World.frozen?, h]
theorem One.new (w : World) (T : TypeId) (x : Value) : One (w.alloc (.cells #[x] T)) w.heap.size T x := heap_alloc_new w _
theorem One.below {B : Nat} (h : One w g T x) (hb : Below B w w') (hg : g < B) : One w' g T x := (hb.block g hg).trans h
theorem One.alloc (h : One w g T x) (o : Obj) : One (w.alloc o) g T x := (Below.heap_alloc w o g h.lt).trans h
theorem One.drewN (h : One w g T x) (n : Nat) : One (w.drewN n) g T x := h
theorem One.far (h : One w g T x) {p : Addr} (hp : g ≠ p.block) (u : Value) : One (w.setCell p u) g T x := (Below.heap_setCell w p u g hp).trans h
theorem One.set (h : One w g T x) (u : Value) : One (w.setCell ⟨g, 0, none⟩ u) g T u := by
  unfold One at h ⊢
  simp [World.setCell, Array.getElem?_modify, h]
end

theorem map_get {α : Type} (f : α → Value) (l : List α) (k : Nat) (hk : k < l.length) : (l.map f)[k]? = some (f l[k]) := by simp [hk]

end Go.Proofs.YtciiokegifgbdaaDoor
