/- Plain mathematics: numbers of letters after applications of a matrix. Conditions: none beyond the hypotheses of each lemma. -/
import Derived.Test.YtglleimmmfnhcaaPrimP
namespace Go.Proofs.Ytglleimmmfnhcaa
open Go.RowKit

/-- the product of the first k entries -/
def dotTo (row now : List Int) : Nat → Int
  | 0 => 0
  | k + 1 => dotTo row now k + row.getD k 0 * now.getD k 0
def caStep (m : List (List Int)) (now : List Int) : List Int := m.map fun row => dotTo row now row.length
def caOk (l : List Int) : Bool := l.all fun x => decide (x ≤ 1000000000000)
/-- n applications, where each leaves numbers that are not too great -/
def caGo (m : List (List Int)) : Nat → List Int → Option (List Int)
  | 0, now => some now
  | n + 1, now => if caOk (caStep m now) = true then caGo m n (caStep m now) else none
/-- entries of a matrix, numbers of letters -/
def small (B : Int) (l : List Int) : Prop := ∀ x ∈ l, 0 ≤ x ∧ x ≤ B
theorem small_get {B : Int} {l : List Int} (h : small B l) (hB : 0 ≤ B) (k : Nat) : 0 ≤ l.getD k 0 ∧ l.getD k 0 ≤ B := by
  rw [List.getD_eq_getElem?_getD]
  by_cases hk : k < l.length
  · rw [List.getElem?_eq_getElem hk]; exact h _ (List.getElem_mem hk)
  · rw [List.getElem?_eq_none (by omega)]; exact ⟨Int.le_refl _, hB⟩
theorem dot_bound {row now : List Int} (h1 : small 8 row) (h2 : small 1000000000000 now) : ∀ k, 0 ≤ dotTo row now k ∧ dotTo row now k ≤ 8000000000000 * k
  | 0 => by simp [dotTo]
  | k + 1 => by
    have h := dot_bound h1 h2 k
    obtain ⟨a1, a2⟩ := small_get h1 (by omega) k
    obtain ⟨b1, b2⟩ := small_get h2 (by omega) k
    rw [dotTo]
    have c1 := Int.mul_nonneg a1 b1
    have c2 : row.getD k 0 * now.getD k 0 ≤ 8 * 1000000000000 := Int.mul_le_mul a2 b2 b1 (by omega)
    constructor
    · omega
    · simp only [Int.natCast_add, Int.natCast_one]; omega
theorem mul_bound {x y : Int} (h1 : 0 ≤ x ∧ x ≤ 8) (h2 : 0 ≤ y ∧ y ≤ 1000000000000) : 0 ≤ x * y ∧ x * y ≤ 8000000000000 :=
  ⟨Int.mul_nonneg h1.1 h2.1, Int.le_trans (Int.mul_le_mul h1.2 h2.2 h2.1 (by omega)) (by omega)⟩
theorem caStep_len (m : List (List Int)) (now : List Int) : (caStep m now).length = m.length := List.length_map _
theorem caStep_take {m : List (List Int)} {now : List Int} {k : Nat} (h : k < m.length) : (caStep m now).take (k + 1) = (caStep m now).take k ++ [dotTo m[k] now m[k].length] := by
  rw [List.take_succ_eq_append_getElem (by rw [caStep_len]; exact h)]; simp [caStep]
theorem caOk_step {l : List Int} {k : Nat} (h : k < l.length) : caOk (l.take (k + 1)) = (caOk (l.take k) && decide (l[k] ≤ 1000000000000)) := by
  unfold caOk; rw [List.take_succ_eq_append_getElem h, List.all_append]; simp
theorem caOk_fail {l : List Int} {k : Nat} (h : k < l.length) (hb : ¬ l[k] ≤ 1000000000000) : caOk l = false := by
  unfold caOk; rw [List.all_eq_false]
  exact ⟨l[k], List.getElem_mem h, by simpa using hb⟩
theorem caOk_small {l : List Int} (h : caOk l = true) (h0 : ∀ x ∈ l, 0 ≤ x) : small 1000000000000 l := fun x hx => ⟨h0 x hx, by simpa using List.all_eq_true.1 h x hx⟩
theorem caStep_nonneg {m : List (List Int)} {now : List Int} (h1 : ∀ r ∈ m, small 8 r) (h2 : small 1000000000000 now) : ∀ x ∈ caStep m now, 0 ≤ x := by
  intro x hx
  obtain ⟨r, hr, rfl⟩ := List.mem_map.1 hx
  exact (dot_bound (h1 r hr) h2 _).1
theorem ca_yes {m : List (List Int)} {now : List Int} {n : Nat} (h : caOk (caStep m now) = true) : caGo m (n + 1) now = caGo m n (caStep m now) := by rw [caGo, if_pos h]
theorem ca_no {m : List (List Int)} {now : List Int} {n : Nat} (h : caOk (caStep m now) = false) : caGo m (n + 1) now = none := by rw [caGo, if_neg (by simp [h])]
theorem caGo_len (m : List (List Int)) : ∀ (n : Nat) (now r : List Int), now.length = m.length → caGo m n now = some r → r.length = m.length
  | 0, now, r, hl, h => by rw [caGo] at h; cases h; exact hl
  | n + 1, now, r, _, h => by
    rw [caGo] at h
    split at h
    · exact caGo_len m n _ r (caStep_len m now) h
    · cases h
end Go.Proofs.Ytglleimmmfnhcaa
