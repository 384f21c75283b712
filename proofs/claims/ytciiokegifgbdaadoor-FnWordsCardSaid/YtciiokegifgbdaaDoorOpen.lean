/- Over any program: an argument that is a slice of strings, of integers, or a struct of one slice of strings, opened as a list. Conditions: none beyond the hypotheses of each lemma. -/
import Derived.Test.YtciiokegifgbdaaDoorSl
import Derived.SliceStrings
import Derived.ChangeSame
import Derived.ProofKit
namespace Go.Proofs.YtciiokegifgbdaaDoor
open Go.ChangeShapes Go.WideShapes Go.ChangeAt Go.RowKit

section
variable {H : Type} {enc : TypeId × Value → H} {P : Program} {w : World} {r : Reach} {b0 : Nat}

theorem row_of_cells {α : Type} (f : α → Value) (dflt : α) (a : Addr) (len cap : Nat) (ss : List α) (hl : len ≤ cap) (hm : cap ≤ maxLen) (hz : ss.length = cap)
    (hcell : ∀ i, i < ss.length → w.cell? (a.add i) = some (f (ss.getD i dflt))) : Row1 w w.heap.size (.slice (some a) len cap) ((ss.take len).map f) := by
  have hlen : ((ss.take len).map f).length = len := by simp; omega
  refine ⟨some a, cap, by rw [hlen], by rw [hlen]; exact hl, hm, fun hne => ?_⟩
  have hp : 0 < len := by
    rcases Nat.eq_zero_or_pos len with h | h
    · subst h; simp at hne
    · exact h
  obtain ⟨b, off, spot⟩ := a
  have hspot : spot = none := by simpa [Addr.add] using World.cell?_spot (hcell 0 (by omega))
  subst hspot
  refine ⟨b, off, rfl, ?_, fun k u hu => ?_⟩
  · have := World.block_lt_of_cell? w _ (hcell 0 (by omega))
    simpa [Addr.add] using this
  · have hk : k < len := by have := (List.getElem?_eq_some_iff.1 hu).1; omega
    rw [← Go.WideShapes.add_plain, hcell k (by omega)]
    have e : ((ss.take len).map f)[k]? = some (f (ss.getD k dflt)) := by
      simp [List.getD, hk, show k < ss.length by omega]
    rw [e] at hu
    exact hu

theorem open_strs_cells {t e : TypeId} {fuel : Nat} {v : Value} {x : DataW H × List MemPlace} (ht : P.underlying t = some (.slice e)) (he : P.underlying e = some .string) (hc : P.cellsOf e = 1)
    (h : DataW.trod enc P w 0 (fun _ => true) true fuel t [v] = some x) : ∃ xs : List ByteArray, Row1 w w.heap.size v (xs.map .string) ∧ ∀ s ∈ xs, s.size ≤ maxLen := by
  rcases open_strings ht he hc h with ⟨hcs, _⟩ | ⟨a, len, cap, ss, hcs, _, hl, hm, hz, _, hcell, hws⟩
  · simp only [List.cons.injEq, and_true] at hcs
    subst hcs
    exact ⟨[], Row1.nil _ _, fun s hs => by cases hs⟩
  · simp only [List.cons.injEq, and_true] at hcs
    subst hcs
    exact ⟨ss.take len, row_of_cells Value.string ByteArray.empty a len cap ss hl hm (by simpa using hz) hcell, fun s hs => hws s (List.mem_of_mem_take hs)⟩

theorem open_strs {t e : TypeId} {v : Value} {d : DataW H} {p : List MemPlace} (ht : P.underlying t = some (.slice e)) (he : P.underlying e = some .string) (hc : P.cellsOf e = 1)
    (hv : Value.okWide P w r b0 t v) (h : DataW.Trod enc P w 0 (fun _ => true) true t v d p) : ∃ xs : List ByteArray, Row1 w w.heap.size v (xs.map .string) ∧ ∀ s ∈ xs, s.size ≤ maxLen := by
  obtain ⟨a, n, c, rfl⟩ := okWide_slice ht hv
  obtain ⟨fuel, hf⟩ := h
  exact open_strs_cells ht he hc (by simpa [Value.cells] using hf)

theorem open_intsl {t e : TypeId} {k : IntKind} {v : Value} {d : DataW H} {p : List MemPlace} (ht : P.underlying t = some (.slice e)) (he : P.underlying e = some (.int k)) (hc : P.cellsOf e = 1)
    (hv : Value.okWide P w r b0 t v) (h : DataW.Trod enc P w 0 (fun _ => true) true t v d p) : ∃ xs : List Int, Row1 w w.heap.size v (xs.map (.int k)) ∧ ∀ n ∈ xs, (Lit.int k n).wf = true := by
  obtain ⟨a, n, c, rfl⟩ := okWide_slice ht hv
  obtain ⟨fuel, hf⟩ := h
  rcases open_ints ht he hc (by simpa [Value.cells] using hf) with ⟨hcs, _⟩ | ⟨a, len, cap, ss, hcs, _, hl, hm, hz, _, hcell, hws⟩
  · simp only [List.cons.injEq, and_true] at hcs
    rw [hcs]
    exact ⟨[], Row1.nil _ _, fun s hs => by cases hs⟩
  · simp only [List.cons.injEq, and_true] at hcs
    rw [hcs]
    exact ⟨ss.take len, row_of_cells (Value.int k) 0 a len cap ss hl hm (by simpa using hz) hcell, fun s hs => hws s (List.mem_of_mem_take hs)⟩

theorem open_subst {t e : TypeId} {f0 : Field} {v : Value} {d : DataW H} {p : List MemPlace} (hs : P.underlying t = some (.struct #[f0])) (h0 : f0.offset = 0) (hf : P.underlying f0.type = some (.slice e)) (he : P.underlying e = some .string) (hc : P.cellsOf e = 1)
    (hcf : P.cellsOf f0.type = 1) (hct : P.cellsOf t = 1) (hv : Value.okWide P w r b0 t v) (h : DataW.Trod enc P w 0 (fun _ => true) true t v d p) :
    ∃ (va : Value) (xs : List ByteArray), v = .agg #[va] ∧ Row1 w w.heap.size va (xs.map .string) ∧ ∀ s ∈ xs, s.size ≤ maxLen := by
  obtain ⟨cs, rfl, hsz⟩ := okWide_struct hs hv
  rw [hct] at hsz
  obtain ⟨va, rfl⟩ : ∃ va, cs = #[va] := Array.size_eq_one_iff.1 hsz
  obtain ⟨fuel, hf'⟩ := h
  obtain ⟨y0, n, _, _, hy⟩ := trod_struct1 hs hf'
  rw [h0, hcf] at hy
  obtain ⟨xs, h1, h2⟩ := open_strs_cells hf he hc (v := va) (by simpa [Value.cells] using hy)
  exact ⟨va, xs, rfl, h1, h2⟩
end
end Go.Proofs.YtciiokegifgbdaaDoor
