/- Plain mathematics: the marks that are laid into rows of integers, one after the other. Conditions: none beyond the hypotheses of each lemma. -/
import Derived.WalkKit
namespace Go.Proofs.Ytglleimmmfnhcaa
open Go.RowKit

def mkL (k : Int) (n : Nat) : List Int := (List.range n).map fun (i : Nat) => k + (i : Int)
theorem mkL_len (k : Int) (n : Nat) : (mkL k n).length = n := by simp [mkL]
/-- how many cells the rows have -/
def totL : List (List Int) → Nat
  | [] => 0
  | x :: l => x.length + totL l
theorem totL_append : ∀ a b : List (List Int), totL (a ++ b) = totL a + totL b
  | [], b => by simp [totL]
  | x :: a, b => by rw [List.cons_append, totL, totL, totL_append a b]; omega
theorem totL_one (x : List Int) : totL [x] = x.length := by simp [totL]
theorem totL_take (xss : List (List Int)) (n : Nat) (h : n < xss.length) : totL (xss.take (n + 1)) = totL (xss.take n) + xss[n].length := by
  rw [List.take_succ_eq_append_getElem h, totL_append, totL_one]
theorem totL_le (xss : List (List Int)) (n : Nat) : totL (xss.take n) ≤ totL xss := by
  have h : totL xss = totL (xss.take n ++ xss.drop n) := by rw [List.take_append_drop]
  rw [h, totL_append]; omega
theorem totL_step (xss : List (List Int)) (n : Nat) (h : n < xss.length) : totL (xss.take n) + xss[n].length ≤ totL xss := by
  rw [← totL_take xss n h]; exact totL_le _ _
def marks2 (k : Int) : List (List Int) → List (List Int)
  | [] => []
  | x :: l => mkL k x.length :: marks2 (k + x.length) l
theorem marks2_append (b : List (List Int)) : ∀ (a : List (List Int)) (k : Int), marks2 k (a ++ b) = marks2 k a ++ marks2 (k + totL a) b
  | [], k => by simp [marks2, totL]
  | x :: a, k => by
    rw [List.cons_append, marks2, marks2, marks2_append b a, List.cons_append, totL]
    congr 3; simp only [Int.natCast_add]; omega
theorem marks2_len : ∀ (a : List (List Int)) (k : Int), (marks2 k a).length = a.length
  | [], _ => rfl
  | x :: a, k => by rw [marks2, List.length_cons, marks2_len a, List.length_cons]
theorem marks2_tot : ∀ (a : List (List Int)) (k : Int), totL (marks2 k a) = totL a
  | [], _ => rfl
  | x :: a, k => by rw [marks2, totL, totL, marks2_tot a, mkL_len]
theorem marks2_get (xss : List (List Int)) (k : Int) (n : Nat) (h : n < xss.length) : (marks2 k xss)[n]? = some (mkL (k + totL (xss.take n)) xss[n].length) := by
  have e : xss = xss.take n ++ (xss[n] :: xss.drop (n + 1)) := by rw [← List.drop_eq_getElem_cons h, List.take_append_drop]
  have h2 : (marks2 k xss)[n]? = (marks2 k (xss.take n ++ (xss[n] :: xss.drop (n + 1))))[n]? := by rw [← e]
  rw [h2, marks2_append, List.getElem?_append_right (by rw [marks2_len, List.length_take]; omega), marks2_len, List.length_take, show n - min n xss.length = 0 by omega]
  rfl
/-- n rows are marked, the others are as they were -/
def half2 (k : Int) (xss : List (List Int)) (n : Nat) : List (List Int) := marks2 k (xss.take n) ++ xss.drop n
theorem half2_zero (k : Int) (xss : List (List Int)) : half2 k xss 0 = xss := by simp [half2, marks2]
theorem half2_end (k : Int) (xss : List (List Int)) : half2 k xss xss.length = marks2 k xss := by simp [half2]
theorem half2_len (k : Int) (xss : List (List Int)) (n : Nat) : (half2 k xss n).length = xss.length := by
  rw [half2, List.length_append, marks2_len, List.length_take, List.length_drop]; omega
theorem half2_get (k : Int) (xss : List (List Int)) (n : Nat) (h : n < xss.length) : (half2 k xss n)[n]'(by rw [half2_len]; exact h) = xss[n] := by
  have h2 : (half2 k xss n)[n]? = xss[n]? := by
    rw [half2, List.getElem?_append_right (by rw [marks2_len, List.length_take]; omega), marks2_len, List.length_take, List.getElem?_drop]
    congr 1; omega
  rw [List.getElem?_eq_getElem h, List.getElem?_eq_getElem (by rw [half2_len]; exact h)] at h2
  exact Option.some.inj h2
theorem half2_set (k : Int) (xss : List (List Int)) (n : Nat) (h : n < xss.length) : (half2 k xss n).set n (mkL (k + totL (xss.take n)) xss[n].length) = half2 k xss (n + 1) := by
  have hl : (marks2 k (xss.take n)).length = n := by rw [marks2_len, List.length_take]; omega
  rw [half2, List.set_append_right _ _ (by omega), hl, Nat.sub_self, List.drop_eq_getElem_cons h, List.set_cons_zero, half2, List.take_succ_eq_append_getElem h, marks2_append, List.append_assoc]
  rfl
end Go.Proofs.Ytglleimmmfnhcaa
