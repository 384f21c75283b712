/- Plain mathematics: determinants by the first row. Conditions: none beyond the hypotheses of each lemma. -/
import Derived.Test.YtciiokegifgbdaaGrid
namespace Go.Proofs.Ytciiokegifgbdaa
open Go.RowKit

def dropCol (k : Nat) (r : List Int) : List Int := r.take k ++ r.drop (k + 1)
def minorL (xss : List (List Int)) (k : Nat) : List (List Int) := xss.tail.map (dropCol k)
def sgnI (k : Nat) : Int := if k % 2 = 0 then 1 else -1
def sumK (f : Nat → Int) : Nat → Int
  | 0 => 0
  | k + 1 => sumK f k + f k
def detL : Nat → List (List Int) → Int
  | 0, _ => 1
  | n + 1, xss => sumK (fun k => sgnI k * (xss.headD []).getD k 0 * detL n (minorL xss k)) (n + 1)
def EB (xss : List (List Int)) : Prop := ∀ r ∈ xss, ∀ x ∈ r, -100 ≤ x ∧ x ≤ 100
theorem dropCol_len {k N : Nat} {r : List Int} (hr : r.length = N + 1) (hk : k < N + 1) : (dropCol k r).length = N := by
  unfold dropCol; rw [List.length_append, List.length_take, List.length_drop]; omega
theorem minor_len {xss : List (List Int)} {N : Nat} (h : xss.length = N + 1) (k : Nat) : (minorL xss k).length = N := by
  unfold minorL; rw [List.length_map, List.length_tail, h]; rfl
theorem minor_rows {xss : List (List Int)} {N k : Nat} (h : ∀ r ∈ xss, r.length = N + 1) (hk : k < N + 1) : ∀ r ∈ minorL xss k, r.length = N := by
  intro r hr
  obtain ⟨s, hs, rfl⟩ := List.mem_map.1 hr
  exact dropCol_len (h s (List.mem_of_mem_tail hs)) hk
theorem minor_EB {xss : List (List Int)} (h : EB xss) (k : Nat) : EB (minorL xss k) := by
  intro r hr x hx
  obtain ⟨s, hs, rfl⟩ := List.mem_map.1 hr
  refine h s (List.mem_of_mem_tail hs) x ?_
  rcases List.mem_append.1 hx with hx | hx
  · exact List.mem_of_mem_take hx
  · exact List.mem_of_mem_drop hx
theorem minor_take {xss : List (List Int)} {k q : Nat} (h : q + 1 < xss.length) : (minorL xss k).take (q + 1) = (minorL xss k).take q ++ [dropCol k xss[q + 1]] := by
  have hl : q < (minorL xss k).length := by unfold minorL; rw [List.length_map, List.length_tail]; omega
  rw [List.take_succ_eq_append_getElem hl]
  simp [minorL]
theorem head_bound {xss : List (List Int)} (h : EB xss) (k : Nat) : -100 ≤ (xss.headD []).getD k 0 ∧ (xss.headD []).getD k 0 ≤ 100 := by
  rw [List.getD_eq_getElem?_getD]
  match xss, h with
  | [], _ => simp
  | r :: l, h =>
    show -100 ≤ (r[k]?).getD 0 ∧ (r[k]?).getD 0 ≤ 100
    by_cases hk : k < r.length
    · rw [List.getElem?_eq_getElem hk]
      exact h r List.mem_cons_self _ (List.getElem_mem hk)
    · have e0 : r[k]? = none := List.getElem?_eq_none (by omega)
      rw [e0]; exact ⟨by decide, by decide⟩
theorem sgn_cases (k : Nat) : sgnI k = 1 ∨ sgnI k = -1 := by unfold sgnI; split <;> simp
theorem sgn_next (k : Nat) : sgnI (k + 1) = - sgnI k := by unfold sgnI; split <;> split <;> omega
theorem box_mul {A B x y : Int} (h1 : -A ≤ x ∧ x ≤ A) (h2 : -B ≤ y ∧ y ≤ B) : -(A * B) ≤ x * y ∧ x * y ≤ A * B := by
  have a1 : 0 ≤ (A - x) * (B + y) := Int.mul_nonneg (by omega) (by omega)
  have a2 : 0 ≤ (A + x) * (B - y) := Int.mul_nonneg (by omega) (by omega)
  have a3 : 0 ≤ (A - x) * (B - y) := Int.mul_nonneg (by omega) (by omega)
  have a4 : 0 ≤ (A + x) * (B + y) := Int.mul_nonneg (by omega) (by omega)
  simp only [Int.add_mul, Int.mul_add, Int.sub_mul, Int.mul_sub] at a1 a2 a3 a4
  constructor <;> omega
theorem sx_bound {xss : List (List Int)} (h : EB xss) (k : Nat) : -100 ≤ sgnI k * (xss.headD []).getD k 0 ∧ sgnI k * (xss.headD []).getD k 0 ≤ 100 := by
  have := head_bound h k
  rcases sgn_cases k with e | e <;> rw [e] <;> omega
theorem sumK_bound {f : Nat → Int} {M : Int} (h : ∀ j, -M ≤ f j ∧ f j ≤ M) : ∀ k : Nat, -((k : Int) * M) ≤ sumK f k ∧ sumK f k ≤ (k : Int) * M
  | 0 => by simp [sumK]
  | k + 1 => by
    have h1 := sumK_bound h k
    have h2 := h k
    rw [sumK, Int.natCast_add, Int.add_mul]
    simp only [Int.natCast_one, Int.one_mul]
    omega
def dB : Nat → Int
  | 0 => 1
  | n + 1 => ((n + 1 : Nat) : Int) * (100 * dB n)
theorem det_bound : ∀ (n : Nat) (xss : List (List Int)), EB xss → -(dB n) ≤ detL n xss ∧ detL n xss ≤ dB n
  | 0, _, _ => by simp [detL, dB]
  | n + 1, xss, h => by
    rw [detL, dB]
    refine sumK_bound (fun j => ?_) (n + 1)
    exact box_mul (sx_bound h j) (det_bound n _ (minor_EB h j))
theorem dB_le {n : Nat} (h : n ≤ 3) : 0 ≤ dB n ∧ dB n ≤ 6000000 := by
  rcases (show n = 0 ∨ n = 1 ∨ n = 2 ∨ n = 3 by omega) with rfl | rfl | rfl | rfl <;> simp [dB]
theorem det_small {n : Nat} (h : n ≤ 3) {xss : List (List Int)} (hb : EB xss) : -6000000 ≤ detL n xss ∧ detL n xss ≤ 6000000 := by
  have h1 := det_bound n xss hb
  have h2 := dB_le h
  omega
theorem prod_small {x d : Int} (h1 : -100 ≤ x ∧ x ≤ 100) (h2 : -6000000 ≤ d ∧ d ≤ 6000000) : -600000000 ≤ x * d ∧ x * d ≤ 600000000 := by
  have := box_mul (A := 100) (B := 6000000) h1 h2
  omega
theorem part_small {n : Nat} (h : n ≤ 3) {xss : List (List Int)} (hb : EB xss) (k : Nat) : -(600000000 * (k : Int)) ≤ sumK (fun k => sgnI k * (xss.headD []).getD k 0 * detL n (minorL xss k)) k ∧ sumK (fun k => sgnI k * (xss.headD []).getD k 0 * detL n (minorL xss k)) k ≤ 600000000 * (k : Int) := by
  have h1 := sumK_bound (M := 600000000) (fun j => prod_small (sx_bound hb j) (det_small h (minor_EB hb j))) k
  omega
end Go.Proofs.Ytciiokegifgbdaa
