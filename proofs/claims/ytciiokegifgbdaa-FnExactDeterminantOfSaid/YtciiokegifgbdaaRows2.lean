/- Over any program: an argument that is a slice of slices of integers, opened as rows; a store of a row into rows that the call has made. Conditions: none beyond the hypotheses of each lemma. -/
import Derived.Test.YtciiokegifgbdaaOpen
import Derived.Test.YtciiokegifgbdaaGrid
import Derived.Deep.Matrix
namespace Go.Proofs.Ytciiokegifgbdaa
open Go.ChangeShapes Go.WideShapes Go.ChangeAt Go.RowKit

section
variable {H : Type} {enc : TypeId × Value → H} {P : Program} {w : World} {r : Reach} {b0 : Nat}
theorem open_rows {t e q : TypeId} {v : Value} {d : DataW H} {p : List MemPlace} (ht : P.underlying t = some (.slice e)) (he : P.underlying e = some (.slice q)) (hq : P.underlying q = some (.int .i64)) (ce : P.cellsOf e = 1) (cq : P.cellsOf q = 1)
    (hv : Value.okWide P w r b0 t v) (h : DataW.Trod enc P w 0 (fun _ => true) true t v d p) : ∃ xss : List (List Int), Row2 w w.heap.size v xss ∧ ∀ x ∈ xss, ∀ n ∈ x, (Lit.int .i64 n).wf = true := by
  obtain ⟨a, n, c, rfl⟩ := okWide_slice ht hv
  obtain ⟨fuel, hf⟩ := h
  rcases Go.Deep.open_int_rows ht he hq ce cq (by simpa [Value.cells] using hf) with ⟨hcs, _⟩ | ⟨a, len, cap, A, L, C, Z, hcs, _, hl, hm, _, hr⟩
  · simp only [List.cons.injEq, and_true] at hcs
    rw [hcs]
    exact ⟨[], Row2.nil _ _, fun x hx => by cases hx⟩
  · simp only [List.cons.injEq, and_true] at hcs
    rw [hcs]
    have h1 := row_of_cells (w := w) id undef a len cap ((List.range cap).map fun j => Value.slice (A j) (L j) (C j)) hl hm (by simp) (by
      intro i hi
      have hic : i < cap := by simpa using hi
      rw [(hr i hic).1]
      simp [List.getD, hic])
    rw [List.map_id] at h1
    have hlen : (((List.range cap).map fun j => Value.slice (A j) (L j) (C j)).take len).length = len := by simp; omega
    refine ⟨(List.range len).map fun j => (Z j).take (L j), ⟨_, by rw [hlen]; simp, h1, fun k hk hx => ?_⟩, ?_⟩
    · rw [hlen] at hk
      obtain ⟨_, h2, h3, h4, h5, h6, h7⟩ := hr k (by omega)
      have e1 : (((List.range cap).map fun j => Value.slice (A j) (L j) (C j)).take len)[k]'(by rw [hlen]; exact hk) = .slice (A k) (L k) (C k) := by simp
      have e2 : ((List.range len).map fun j => (Z j).take (L j))[k]'hx = (Z k).take (L k) := by simp
      rw [e1, e2]
      cases hA : A k with
      | none =>
        have hc0 := h6 hA
        have hl0 : L k = 0 := by omega
        rw [hl0, hc0]
        exact Row1.nil _ _
      | some a' => exact row_of_cells (Value.int .i64) 0 a' (L k) (C k) (Z k) h2 h3 h4 (fun i hi => (h7 a' hA).2 i (by omega))
    · intro x hx n hn
      obtain ⟨j, hj, rfl⟩ := List.mem_map.1 hx
      exact (hr j (by have := List.mem_range.1 hj; omega)).2.2.2.2.1 n (List.mem_of_mem_take hn)
end

section
variable {E2 E1 : TypeId} {w0 w1 w' : World} {base : Nat} {v : Value} {vs : List Value} {xss : List (List Int)}
/-- rows of nil -/
theorem OwnV.nils {n : Nat} (h : w0.ownsRow base E2 1 v n (List.replicate n (.slice none 0 0))) : OwnV E2 E1 w0 base v (List.replicate n (.slice none 0 0)) (List.replicate n []) := by
  refine ⟨by simp, by simpa using h, fun k hk hx => ?_, fun i j hi hj _ g hg => ?_⟩
  · simp only [List.getElem_replicate]
    exact ⟨rfl, .inl ⟨rfl, rfl⟩⟩
  · simp only [List.getElem_replicate, Value.ownBlock] at hg; cases hg
/-- behind a store of a row that is younger than all the others -/
theorem OwnV.store {k : Nat} {u : Value} {ys : List Int} (hE : E1 ≠ E2) (h : OwnV E2 E1 w0 base v vs xss) (hB : base ≤ w0.heap.size) (h01 : Below w0.heap.size w0 w1) (hu : w1.ownsRow w0.heap.size E1 1 u ys.length (ints ys))
    (_ : k < vs.length) (hown : w'.ownsRow base E2 1 v xss.length (vs.set k u)) (hg : w1.grownBy w' v.ownBlock) : OwnV E2 E1 w' base v (vs.set k u) (xss.set k ys) := by
  have h1 := h.below h01
  have hlen := h.len
  have hu' : w'.ownsRow base E1 1 u ys.length (ints ys) := (own_base hu hB).kept hg (own_types hE hu h1.own)
  have hold : ∀ (j : Nat) (hj : j < vs.length) (g : Nat), vs[j].ownBlock = some g → g < w0.heap.size := fun j hj g hgj => (own_lt (h.row j hj (by omega)) hgj).2
  refine ⟨by simp [hlen], by rw [List.length_set]; exact hown, fun j hj hx => ?_, fun i j hi hj hij g hgi hgj => ?_⟩
  · rw [List.length_set] at hj hx
    by_cases e : k = j
    · subst e
      rw [List.getElem_set_self, List.getElem_set_self]
      exact hu'
    · rw [List.getElem_set_ne e, List.getElem_set_ne e]
      exact (h1.row j hj hx).kept hg (own_types hE (h1.row j hj hx) h1.own)
  · rw [List.length_set] at hi hj
    by_cases e1 : k = i
    · subst e1
      rw [List.getElem_set_self] at hgi
      rw [List.getElem_set_ne hij] at hgj
      have := (own_lt hu hgi).1
      have := hold j hj g hgj
      omega
    · rw [List.getElem_set_ne e1] at hgi
      by_cases e2 : k = j
      · subst e2
        rw [List.getElem_set_self] at hgj
        have := (own_lt hu hgj).1
        have := hold i hi g hgi
        omega
      · rw [List.getElem_set_ne e2] at hgj
        exact h.apart i j hi hj hij g hgi hgj
end
/-- a row, out of rows -/
theorem Row2.atRow {w : World} {B : Nat} {v : Value} {xss : List (List Int)} (h : Row2 w B v xss) (k : Nat) (hk : k < xss.length) : ∃ b o c u, v = .slice (some ⟨b, o, none⟩) xss.length c ∧ w.cell? ⟨b, o + k, none⟩ = some u ∧ Row1 w B u (ints xss[k]) := by
  obtain ⟨b, o, c, e, _, hu⟩ := h.openAt (by omega)
  obtain ⟨u, hu⟩ := hu k hk
  exact ⟨b, o, c, u, e, hu w (fun _ _ => rfl)⟩
theorem Row1.intAt {w : World} {B : Nat} {u : Value} {xs : List Int} (h : Row1 w B u (ints xs)) : ∃ A c, u = .slice A xs.length c ∧ ∀ (k : Nat) (hk : k < xs.length), ∃ b o, A = some ⟨b, o, none⟩ ∧ w.cell? ⟨b, o + k, none⟩ = some (.int .i64 xs[k]) := by
  obtain ⟨A, c, e, _, _, hA⟩ := h
  rw [ints_len] at e
  refine ⟨A, c, e, fun k hk => ?_⟩
  obtain ⟨b, o, rfl, _, hcell⟩ := hA (by intro h0; have := congrArg List.length h0; rw [ints_len] at this; simp at this; subst this; simp at hk)
  exact ⟨b, o, rfl, hcell k _ (map_get (Value.int .i64) xs k hk)⟩
end Go.Proofs.Ytciiokegifgbdaa
