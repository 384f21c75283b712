/- Plain mathematics: signs of products of matrices; primitive matrices. Conditions: none beyond the hypotheses of each lemma. -/
import Derived.Test.YtciiokegifgbdaaGrid
namespace Go.Proofs.Ytciiokegifgbdaa
open Go.RowKit

def fullR (r : List Int) : Bool := r.all fun x => decide (0 < x)
def fullB (a : List (List Int)) : Bool := a.all fullR
def hitB (row : List Int) (b : List (List Int)) (k j : Nat) : Bool := decide (0 < row.getD j 0) && decide (0 < (b.getD j []).getD k 0)
def sgnTo (row : List Int) (b : List (List Int)) (k j : Nat) : Int := if (List.range j).any (hitB row b k) = true then 1 else 0
def sgnRow (row : List Int) (b : List (List Int)) : List Int := (List.range b.length).map fun k => sgnTo row b k row.length
def signs (a b : List (List Int)) : List (List Int) := a.map fun row => sgnRow row b
theorem sgn_zero (row : List Int) (b : List (List Int)) (k : Nat) : sgnTo row b k 0 = 0 := by simp [sgnTo]
theorem sgn_hit {row : List Int} {b : List (List Int)} {k j : Nat} (h1 : 0 < row.getD j 0) (h2 : 0 < (b.getD j []).getD k 0) : sgnTo row b k (j + 1) = 1 := by
  unfold sgnTo
  rw [List.range_succ, List.any_append]
  have : hitB row b k j = true := by unfold hitB; rw [decide_eq_true h1, decide_eq_true h2]; rfl
  simp [this]
theorem sgn_miss {row : List Int} {b : List (List Int)} {k j : Nat} (h : ¬ (0 < row.getD j 0 ∧ 0 < (b.getD j []).getD k 0)) : sgnTo row b k (j + 1) = sgnTo row b k j := by
  unfold sgnTo
  rw [List.range_succ, List.any_append]
  have : hitB row b k j = false := by
    unfold hitB
    rw [Bool.and_eq_false_iff, decide_eq_false_iff_not, decide_eq_false_iff_not]
    exact Decidable.not_and_iff_or_not.1 h
  simp [this]
theorem sgnRow_len (row : List Int) (b : List (List Int)) : (sgnRow row b).length = b.length := by simp [sgnRow]
theorem signs_len (a b : List (List Int)) : (signs a b).length = a.length := List.length_map _
theorem signs_rows (a b : List (List Int)) : ∀ r ∈ signs a b, r.length = b.length := by
  intro r hr
  obtain ⟨s, _, rfl⟩ := List.mem_map.1 hr
  exact sgnRow_len s b
theorem sgnRow_take {row : List Int} {b : List (List Int)} {q : Nat} (h : q < b.length) : ints ((sgnRow row b).take (q + 1)) = ints ((sgnRow row b).take q) ++ [.int .i64 (sgnTo row b q row.length)] := by
  rw [List.take_succ_eq_append_getElem (by rw [sgnRow_len]; exact h)]
  simp [ints, sgnRow]
theorem signs_take {a b : List (List Int)} {k : Nat} (h : k < a.length) : (signs a b).take (k + 1) = (signs a b).take k ++ [sgnRow a[k] b] := by
  rw [List.take_succ_eq_append_getElem (by rw [signs_len]; exact h)]
  simp [signs]
/-- a row while the letters up to j are looked at, those below q at j + 1 -/
def sgnPart (row : List Int) (b : List (List Int)) (j q : Nat) : List Int := (List.range b.length).map fun k => if k < q then sgnTo row b k (j + 1) else sgnTo row b k j
theorem sgnPart_len (row : List Int) (b : List (List Int)) (j q : Nat) : (sgnPart row b j q).length = b.length := by simp [sgnPart]
theorem sgnPart_set {row : List Int} {b : List (List Int)} {j q : Nat} : (sgnPart row b j q).set q (sgnTo row b q (j + 1)) = sgnPart row b j (q + 1) := by
  apply List.ext_getElem
  · simp [sgnPart]
  · intro n h1 h2
    rw [List.getElem_set]
    simp only [sgnPart, List.getElem_map, List.getElem_range]
    by_cases e : q = n
    · subst e; simp
    · rw [if_neg e]
      by_cases h3 : n < q
      · rw [if_pos h3, if_pos (by omega)]
      · rw [if_neg h3, if_neg (by omega)]
theorem sgnPart_same {row : List Int} {b : List (List Int)} {j q : Nat} (h : sgnTo row b q (j + 1) = sgnTo row b q j) : sgnPart row b j (q + 1) = sgnPart row b j q := by
  unfold sgnPart
  apply List.map_congr_left
  intro n _
  by_cases e : n = q
  · subst e; simp [h]
  · by_cases h3 : n < q
    · rw [if_pos h3, if_pos (by omega)]
    · rw [if_neg h3, if_neg (by omega)]
theorem sgnPart_end (row : List Int) (b : List (List Int)) (j : Nat) : sgnPart row b j b.length = sgnPart row b (j + 1) 0 := by
  unfold sgnPart
  apply List.map_congr_left
  intro n hn
  rw [if_pos (List.mem_range.1 hn), if_neg (by omega)]
theorem sgnPart_zero (row : List Int) (b : List (List Int)) : sgnPart row b 0 0 = List.replicate b.length 0 := by
  unfold sgnPart
  apply List.ext_getElem
  · simp
  · intro n _ _; simp [sgn_zero]
theorem sgnPart_all (row : List Int) (b : List (List Int)) : sgnPart row b row.length 0 = sgnRow row b := by
  unfold sgnPart sgnRow
  apply List.map_congr_left
  intro n _; simp
theorem sgnPart_get {row : List Int} {b : List (List Int)} {j q n : Nat} (h : n < b.length) : ∃ z, (ints (sgnPart row b j q))[n]? = some (.int .i64 z) :=
  ⟨_, by rw [List.getElem?_map, List.getElem?_eq_getElem (by rw [sgnPart_len]; exact h)]; rfl⟩
/-- within n more powers all entries are positive -/
def primGo (m : List (List Int)) : Nat → List (List Int) → Bool
  | 0, _ => false
  | n + 1, a => if fullB a = true then true else primGo m n (signs a m)
theorem prim_yes {m a : List (List Int)} {n : Nat} (h : fullB a = true) : primGo m (n + 1) a = true := by rw [primGo, if_pos h]
theorem prim_no {m a : List (List Int)} {n : Nat} (h : fullB a = false) : primGo m (n + 1) a = primGo m n (signs a m) := by rw [primGo, if_neg (by simp [h])]
theorem full_step {a : List (List Int)} {k : Nat} (h : k < a.length) : fullB (a.take (k + 1)) = (fullB (a.take k) && fullR a[k]) := by
  unfold fullB; rw [List.take_succ_eq_append_getElem h, List.all_append]; simp
theorem fullR_step {r : List Int} {j : Nat} (h : j < r.length) : fullR (r.take (j + 1)) = (fullR (r.take j) && decide (0 < r.getD j 0)) := by
  unfold fullR; rw [List.take_succ_eq_append_getElem h, List.all_append, List.getD_eq_getElem?_getD, List.getElem?_eq_getElem h]; simp
/-- rows of one length, opened -/
theorem Row2.open2 {w : World} {B : Nat} {v : Value} {xss : List (List Int)} {N : Nat} (h : Row2 w B v xss) (hn : 0 < xss.length) (hN : 0 < N) (hr : ∀ r ∈ xss, r.length = N) :
    ∃ b o c, v = .slice (some ⟨b, o, none⟩) xss.length c ∧ b < B ∧ xss.length ≤ c ∧ ∀ (k : Nat) (hk : k < xss.length), ∃ b' o' c', b' < B ∧ N ≤ c' ∧ w.cell? ⟨b, o + k, none⟩ = some (.slice (some ⟨b', o', none⟩) N c') ∧
      ∀ j, j < N → w.cell? ⟨b', o' + j, none⟩ = some (.int .i64 ((xss[k]).getD j 0)) := by
  obtain ⟨vs, hl, ⟨A, c, e, hc, hm, hA⟩, h2⟩ := h
  obtain ⟨b, o, rfl, hb, hcell⟩ := hA (by intro h; subst h; simp at hl; omega)
  refine ⟨b, o, c, by rw [e, hl], hb, by omega, fun k hk => ?_⟩
  obtain ⟨A', c', e', hc', hm', hA'⟩ := h2 k (by omega) hk
  have hrl := hr _ (List.getElem_mem hk)
  rw [ints_len, hrl] at hc' e'
  obtain ⟨b', o', rfl, hb', hcell'⟩ := hA' (by intro h; have := congrArg List.length h; rw [ints_len, hrl] at this; simp at this; omega)
  refine ⟨b', o', c', hb', hc', ?_, fun j hj => ?_⟩
  · rw [hcell k _ (List.getElem?_eq_getElem (by omega)), e']
  · refine hcell' j _ ?_
    rw [List.getElem?_map, List.getElem?_eq_getElem (by rw [hrl]; exact hj), List.getD_eq_getElem?_getD, List.getElem?_eq_getElem (by rw [hrl]; exact hj)]
    rfl
end Go.Proofs.Ytciiokegifgbdaa
