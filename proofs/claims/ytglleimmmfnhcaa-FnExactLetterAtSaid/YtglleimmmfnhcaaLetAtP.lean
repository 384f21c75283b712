/- Plain mathematics: one letter of the fixed point by the lengths of the images. Conditions: none beyond the hypotheses of each lemma. -/
import Derived.Test.YtglleimmmfnhcaaFixP
import Derived.Test.YtglleimmmfnhcaaGrid
namespace Go.Proofs.Ytglleimmmfnhcaa
open Go.RowKit

theorem capN_le (n : Nat) : capN n ≤ 10001 := by unfold capN; omega
/-- the length of m applications, as the reference counts it -/
def smI (xs : List ByteArray) (m : Nat) (l : List UInt8) : Int := (capN (powL xs m l).length : Int)
theorem smI_bound (xs : List ByteArray) (m : Nat) (l : List UInt8) : 0 ≤ smI xs m l ∧ smI xs m l ≤ 10001 := by
  unfold smI; have := capN_le (powL xs m l).length; omega
theorem powL_nil (xs : List ByteArray) : ∀ m, powL xs m [] = []
  | 0 => rfl
  | m + 1 => by rw [powL, show applyL xs [] = [] from rfl, powL_nil]
theorem smI_nil (xs : List ByteArray) (m : Nat) : smI xs m [] = 0 := by unfold smI; rw [powL_nil]; rfl
theorem smI_add (xs : List ByteArray) (m : Nat) (l r : List UInt8) : smI xs m (l ++ r) = min 10001 (smI xs m l + smI xs m r) := by
  unfold smI; rw [powL_append, List.length_append]; unfold capN; omega
theorem smI_next (xs : List ByteArray) (m : Nat) (c : UInt8) : smI xs m (imgAt xs c).data.toList = smI xs (m + 1) [c] := by
  unfold smI; rw [powL, applyL_one]
theorem smI_zero (xs : List ByteArray) (c : UInt8) : smI xs 0 [c] = 1 := by rfl
/-- at least n letters, or more -/
theorem smI_le {xs : List ByteArray} {m : Nat} {l : List UInt8} {n : Nat} (hn : n ≤ 10000) : smI xs m l ≤ (n : Int) ↔ (powL xs m l).length ≤ n := by
  unfold smI capN; omega
theorem smI_len {xs : List ByteArray} {m : Nat} {l : List UInt8} {n : Nat} (hn : n ≤ 10000) (h : smI xs m l ≤ (n : Int)) : smI xs m l = ((powL xs m l).length : Int) := by
  unfold smI capN at *; omega
def szRow (xs : List ByteArray) (m : Nat) : List Int := (List.range xs.length).map fun j => smI xs m [lc j]
def szRows (xs : List ByteArray) (m : Nat) : List (List Int) := (List.range m).map (szRow xs)
theorem szRow_len (xs : List ByteArray) (m : Nat) : (szRow xs m).length = xs.length := by simp [szRow]
theorem szRows_len (xs : List ByteArray) (m : Nat) : (szRows xs m).length = m := by simp [szRows]
theorem szRows_all (xs : List ByteArray) (m : Nat) : ∀ r ∈ szRows xs m, r.length = xs.length := by
  intro r hr
  obtain ⟨i, _, rfl⟩ := List.mem_map.1 hr
  exact szRow_len xs i
theorem szRows_succ (xs : List ByteArray) (m : Nat) : szRows xs (m + 1) = szRows xs m ++ [szRow xs m] := by unfold szRows; rw [List.range_succ, List.map_append]; rfl
theorem szRows_get (xs : List ByteArray) {m i : Nat} (h : i < m) : (szRows xs m)[i]'(by rw [szRows_len]; exact h) = szRow xs i := by simp [szRows]
theorem szRow_take (xs : List ByteArray) {m j : Nat} (h : j < xs.length) : ints ((szRow xs m).take (j + 1)) = ints ((szRow xs m).take j) ++ [.int .i64 (smI xs m [lc j])] := by
  rw [List.take_succ_eq_append_getElem (by rw [szRow_len]; exact h)]; simp [ints, szRow]
theorem szRow_get (xs : List ByteArray) {m j : Nat} (h : j < xs.length) : (szRow xs m).getD j 0 = smI xs m [lc j] := by
  rw [List.getD_eq_getElem?_getD, List.getElem?_eq_getElem (by rw [szRow_len]; exact h)]; simp [szRow]
theorem szRow_val (xs : List ByteArray) {m j : Nat} (h : j < xs.length) : (ints (szRow xs m))[j]? = some (.int .i64 (smI xs m [lc j])) := by
  rw [List.getElem?_map, List.getElem?_eq_getElem (by rw [szRow_len]; exact h)]; simp [szRow]
theorem szRow_zero (xs : List ByteArray) (k : Nat) (h : k ≤ xs.length) : (szRow xs 0).take k = List.replicate k 1 := by
  apply List.ext_getElem
  · rw [List.length_take, szRow_len, List.length_replicate]; omega
  · intro i h1 h2; simp [szRow, smI_zero]
/-- the letter with the index n is the letter z -/
def Tgt (xs : List ByteArray) (m : Nat) (l : List UInt8) (n : Nat) (z : UInt8) : Prop := (powL xs m l)[n]? = some z
theorem Tgt.lt {xs : List ByteArray} {m : Nat} {l : List UInt8} {n : Nat} {z : UInt8} (h : Tgt xs m l n z) : n < (powL xs m l).length := (List.getElem?_eq_some_iff.1 h).1
theorem Tgt.step {xs : List ByteArray} {m : Nat} {c : UInt8} {n : Nat} {z : UInt8} (h : Tgt xs (m + 1) [c] n z) : Tgt xs m (imgAt xs c).data.toList n z := by
  unfold Tgt at *; rw [powL, applyL_one] at h; exact h
theorem Tgt.pass {xs : List ByteArray} {m : Nat} {c : UInt8} {l : List UInt8} {n : Nat} {z : UInt8} (h : Tgt xs m (c :: l) n z) (hn : (powL xs m [c]).length ≤ n) : Tgt xs m l (n - (powL xs m [c]).length) z := by
  unfold Tgt at *
  rw [show c :: l = [c] ++ l from rfl, powL_append, List.getElem?_append_right hn] at h
  exact h
theorem Tgt.stop {xs : List ByteArray} {m : Nat} {c : UInt8} {l : List UInt8} {n : Nat} {z : UInt8} (h : Tgt xs m (c :: l) n z) (hn : n < (powL xs m [c]).length) : Tgt xs m [c] n z := by
  unfold Tgt at *
  rw [show c :: l = [c] ++ l from rfl, powL_append, List.getElem?_append_left hn] at h
  exact h
theorem Tgt.nil {xs : List ByteArray} {m n : Nat} {z : UInt8} (h : Tgt xs m [] n z) : False := by
  have := h.lt; rw [powL_nil] at this; simp at this
theorem Tgt.zero {xs : List ByteArray} {c : UInt8} {n : Nat} {z : UInt8} (h : Tgt xs 0 [c] n z) : z = c := by
  unfold Tgt at h
  match n, h with
  | 0, h => exact (Option.some.inj h).symm
  | n + 1, h => cases h
/-- more applications of a growing letter have more letters than any bound -/
theorem pow_long {xs : List ByteArray} {c : UInt8} (h : Grows xs c) : ∀ m, m < (powL xs m [c]).length
  | 0 => by show 0 < 1; omega
  | m + 1 => by have := pow_grow h m; have := pow_long h m; omega
/-- the letter with the index n of the fixed point -/
def fxAt (xs : List ByteArray) (c : UInt8) (n : Nat) : UInt8 := (fixIt xs c n).getD n 0
theorem fx_some {xs : List ByteArray} {c : UInt8} (h : Grows xs c) {t n : Nat} (hn : n < (fixIt xs c t).length) : (fixIt xs c t)[n]? = some (fxAt xs c n) := by
  have h1 : n < (fixIt xs c n).length := by have := (fixIt_facts h n).2.2.1; omega
  unfold fxAt
  rw [List.getD_eq_getElem?_getD]
  have e : (fixIt xs c t)[n]? = (fixIt xs c n)[n]? := by
    rcases Nat.le_total t n with h2 | h2
    · obtain ⟨d, rfl⟩ : ∃ d, n = t + d := ⟨n - t, by omega⟩
      exact (pre_get (fixIt_pre xs c t d) hn).symm
    · obtain ⟨d, rfl⟩ : ∃ d, t = n + d := ⟨t - n, by omega⟩
      exact pre_get (fixIt_pre xs c n d) h1
  rw [e, List.getElem?_eq_getElem h1]; rfl
theorem tgt_fx {xs : List ByteArray} {c : UInt8} (h : Grows xs c) {m n : Nat} (hn : n < (powL xs m [c]).length) : Tgt xs m [c] n (fxAt xs c n) := by
  unfold Tgt
  have h1 : n < (fixIt xs c n).length := by have := (fixIt_facts h n).2.2.1; omega
  rw [pow_letter h h1 hn]; exact fx_some h h1
theorem fx_letter {xs : List ByteArray} {c : UInt8} (h : Grows xs c) (n : Nat) : letterB (fxAt xs c n) = true ∧ (fxAt xs c n).toNat - 97 < xs.length := by
  have h1 : n < (fixIt xs c n).length := by have := (fixIt_facts h n).2.2.1; omega
  have h2 := fx_some h h1
  exact (fixIt_facts h n).2.2.2 _ (List.mem_of_getElem? h2)
end Go.Proofs.Ytglleimmmfnhcaa
