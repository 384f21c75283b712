/- Walks and plain laws of the functions that a law reaches, several texts in one (part 10). Conditions: none beyond the hypotheses of each lemma. -/
import Derived.Test.YtciiokegifgbdaaG3
import Derived.Test.YtciiokegifgbdaaG4
import Derived.Test.YtciiokegifgbdaaG5
import Derived.Test.YtciiokegifgbdaaG7
import Derived.Test.YtciiokegifgbdaaG8
import Derived.Test.YtciiokegifgbdaaG9
import Derived.Test.YtciiokegifgbdaaG2
/- Plain mathematics: matrices of substitutions, of products, determinants and traces of products, the letters that a primitive substitution reaches. Conditions: none beyond the hypotheses of each lemma. -/
namespace Go.Proofs.Ytciiokegifgbdaa
open Go.RowKit
set_option maxRecDepth 20000

/-! ### sums -/
theorem sumK_congr {f g : Nat → Int} : ∀ n, (∀ j, j < n → f j = g j) → sumK f n = sumK g n
  | 0, _ => rfl
  | n + 1, h => by rw [sumK, sumK, sumK_congr n (fun j hj => h j (by omega)), h n (by omega)]
theorem sumK_add (f g : Nat → Int) : ∀ n, sumK (fun j => f j + g j) n = sumK f n + sumK g n
  | 0 => rfl
  | n + 1 => by simp only [sumK, sumK_add f g n]; omega
theorem sumK_zero : ∀ n, sumK (fun _ => 0) n = 0
  | 0 => rfl
  | n + 1 => by simp only [sumK, sumK_zero n]; rfl
/-- one term alone -/
theorem sumK_pick (a : Nat → Int) (k : Nat) : ∀ n, sumK (fun j => if k = j then a j else 0) n = if k < n then a k else 0
  | 0 => rfl
  | n + 1 => by
    simp only [sumK, sumK_pick a k n]
    by_cases h1 : k < n
    · rw [if_pos h1, if_neg (by omega), if_pos (by omega)]; omega
    · rw [if_neg h1]
      by_cases h2 : k = n
      · rw [if_pos h2, if_pos (by omega), h2]; omega
      · rw [if_neg h2, if_neg (by omega)]; rfl

/-! ### counts -/
theorem countC_cons (c x : UInt8) (l : List UInt8) : (countC (c :: l) x : Int) = (if c = x then 1 else 0) + (countC l x : Int) := by
  unfold countC
  rw [List.filter_cons]
  by_cases h : c = x
  · rw [if_pos (by simpa using h), if_pos h, List.length_cons]; omega
  · rw [if_neg (by simpa using h), if_neg h]; omega
theorem countC_append (l r : List UInt8) (x : UInt8) : (countC (l ++ r) x : Int) = countC l x + countC r x := by
  unfold countC; rw [List.filter_append, List.length_append]; omega
/-- the letters of a list are among the first n -/
def lets (n : Nat) (l : List UInt8) : Prop := ∀ c ∈ l, ∃ j, j < n ∧ c = lc j
theorem count_all {n : Nat} (hn : n ≤ 4) : ∀ {l : List UInt8}, lets n l → sumK (fun i => (countC l (lc i) : Int)) n = (l.length : Int)
  | [], _ => by
    have : (fun i => (countC [] (lc i) : Int)) = fun _ => 0 := by funext i; rfl
    rw [this, sumK_zero]; rfl
  | c :: l, h => by
    obtain ⟨k, hk, rfl⟩ := h c List.mem_cons_self
    have ih := count_all hn (l := l) (fun x hx => h x (List.mem_cons_of_mem _ hx))
    have e : sumK (fun i => (countC (lc k :: l) (lc i) : Int)) n = sumK (fun i => (if k = i then 1 else 0) + (countC l (lc i) : Int)) n := by
      refine sumK_congr n fun j hj => ?_
      rw [countC_cons]
      by_cases hkj : k = j
      · rw [if_pos hkj, if_pos (by rw [hkj])]
      · rw [if_neg hkj, if_neg (fun e => hkj (lc_inj (by omega) (by omega) e))]
    rw [e, sumK_add, sumK_pick (fun _ => 1) k n, if_pos hk, ih, List.length_cons]
    simp only [Int.natCast_add, Int.natCast_one]; omega
theorem subst_lets {xs : List ByteArray} (hx : substB xs = true) {s : ByteArray} (hs : s ∈ xs) : lets xs.length s.data.toList := by
  intro c hc
  obtain ⟨_, h4, hall⟩ := subst_parts hx
  have h := img_in hx s.data.toList (List.mem_map.2 ⟨s, hs, rfl⟩) c hc
  rw [lss_len] at h
  exact ⟨c.toNat - 97, h.2, (lc_of h.1).symm⟩
/-- the numbers of a letter in the images of a list's letters -/
theorem count_apply {xs : List ByteArray} (hn : xs.length ≤ 4) (x : UInt8) : ∀ {l : List UInt8}, lets xs.length l →
    (countC (applyL xs l) x : Int) = sumK (fun j => (countC (xs.getD j ByteArray.empty).data.toList x : Int) * (countC l (lc j) : Int)) xs.length
  | [], _ => by
    have : (fun j => (countC (xs.getD j ByteArray.empty).data.toList x : Int) * (countC [] (lc j) : Int)) = fun _ => 0 := by funext j; exact Int.mul_zero _
    rw [this, sumK_zero]; rfl
  | c :: l, h => by
    obtain ⟨k, hk, rfl⟩ := h c List.mem_cons_self
    have ih := count_apply hn x (l := l) (fun y hy => h y (List.mem_cons_of_mem _ hy))
    have e1 : applyL xs (lc k :: l) = (imgAt xs (lc k)).data.toList ++ applyL xs l := rfl
    have e2 : imgAt xs (lc k) = xs.getD k ByteArray.empty := by unfold imgAt; rw [lc_nat (by omega)]; congr 1; omega
    rw [e1, countC_append, ih, e2]
    have e3 : sumK (fun j => (countC (xs.getD j ByteArray.empty).data.toList x : Int) * (countC (lc k :: l) (lc j) : Int)) xs.length
        = sumK (fun j => (if k = j then (countC (xs.getD j ByteArray.empty).data.toList x : Int) else 0) + (countC (xs.getD j ByteArray.empty).data.toList x : Int) * (countC l (lc j) : Int)) xs.length := by
      refine sumK_congr _ fun j hj => ?_
      rw [countC_cons, Int.mul_add]
      by_cases hkj : k = j
      · rw [if_pos hkj, if_pos (by rw [hkj]), Int.mul_one]
      · rw [if_neg hkj, if_neg (fun e => hkj (lc_inj (by omega) (by omega) e)), Int.mul_zero]
    rw [e3, sumK_add, sumK_pick (fun j => (countC (xs.getD j ByteArray.empty).data.toList x : Int)) k, if_pos hk]
/-! ### the matrix of a substitution -/
theorem matR_at {xs : List ByteArray} {i : Nat} (h : i < xs.length) : (matR xs).getD i [] = rowR xs i := by
  rw [List.getD_eq_getElem?_getD, List.getElem?_eq_getElem (by rw [matR_len]; exact h), matR_get xs i h]; rfl
theorem rowR_at {xs : List ByteArray} {i k : Nat} (h : k < xs.length) : (rowR xs i).getD k 0 = (countC (xs.getD k ByteArray.empty).data.toList (lc i) : Int) := by
  unfold rowR
  rw [List.getD_eq_getElem?_getD, List.getElem?_map, List.getD_eq_getElem?_getD, List.getElem?_eq_getElem h]; rfl
/-- the sum of the first i numbers of a column -/
def colS (xss : List (List Int)) (k : Nat) : Nat → Int := sumK fun i => (xss.getD i []).getD k 0
theorem colS_end {xs : List ByteArray} (hx : substB xs = true) {k : Nat} (hk : k < xs.length) : colS (matR xs) k xs.length = (xs[k].size : Int) := by
  have hmem : xs[k] ∈ xs := List.getElem_mem hk
  have e : colS (matR xs) k xs.length = sumK (fun i => (countC xs[k].data.toList (lc i) : Int)) xs.length := by
    refine sumK_congr _ fun i hi => ?_
    rw [matR_at hi, rowR_at hk, List.getD_eq_getElem?_getD, List.getElem?_eq_getElem hk]; rfl
  rw [e, count_all (subst_parts hx).2.1 (subst_lets hx hmem), ← Lib.size_eq]
theorem count_le (l : List UInt8) (x : UInt8) : countC l x ≤ l.length := List.length_filter_le _ _
theorem mat_small {xs : List ByteArray} (hx : substB xs = true) : ∀ r ∈ matR xs, ∀ x ∈ r, 0 ≤ x ∧ x ≤ 8 := by
  intro r hr x hxr
  simp only [matR, List.mem_map] at hr
  obtain ⟨i, _, rfl⟩ := hr
  simp only [rowR, List.mem_map] at hxr
  obtain ⟨s, hs, rfl⟩ := hxr
  have h1 := count_le s.data.toList (lc i)
  have h2 := ((subst_parts hx).2.2 s hs).2.1
  rw [Lib.size_eq] at h2
  omega
theorem getD_small {xss : List (List Int)} {lo hi : Int} (h0 : lo ≤ 0 ∧ 0 ≤ hi) (h : ∀ r ∈ xss, ∀ x ∈ r, lo ≤ x ∧ x ≤ hi) (i k : Nat) : lo ≤ (xss.getD i []).getD k 0 ∧ (xss.getD i []).getD k 0 ≤ hi := by
  by_cases hi2 : i < xss.length
  · rw [List.getD_eq_getElem?_getD (l := xss), List.getElem?_eq_getElem hi2]
    show lo ≤ (xss[i]).getD k 0 ∧ (xss[i]).getD k 0 ≤ hi
    by_cases hk : k < xss[i].length
    · rw [List.getD_eq_getElem?_getD, List.getElem?_eq_getElem hk]
      exact h _ (List.getElem_mem hi2) _ (List.getElem_mem hk)
    · rw [List.getD_eq_getElem?_getD, List.getElem?_eq_none (by omega)]; exact h0
  · rw [List.getD_eq_getElem?_getD (l := xss), List.getElem?_eq_none (by omega)]; exact h0
theorem colS_bound {xs : List ByteArray} (hx : substB xs = true) (k : Nat) : ∀ i : Nat, 0 ≤ colS (matR xs) k i ∧ colS (matR xs) k i ≤ 8 * (i : Int)
  | 0 => by unfold colS; simp [sumK]
  | i + 1 => by
    have h1 := colS_bound hx k i
    have h2 := getD_small (lo := 0) (hi := 8) (by omega) (mat_small hx) i k
    have e : colS (matR xs) k (i + 1) = colS (matR xs) k i + ((matR xs).getD i []).getD k 0 := rfl
    rw [e]; simp only [Int.natCast_add, Int.natCast_one]; omega
theorem sq_of {xss : List (List Int)} {lo hi : Int} (h1 : 1 ≤ xss.length) (h4 : xss.length ≤ 4) (hr : ∀ r ∈ xss, r.length = xss.length) (hb : ∀ r ∈ xss, ∀ x ∈ r, lo ≤ x ∧ x ≤ hi) (hlo : -100 ≤ lo) (hhi : hi ≤ 100) : sqB xss = true := by
  unfold sqB
  simp only [Bool.and_eq_true, decide_eq_true_eq, List.all_eq_true]
  refine ⟨⟨by omega, by omega⟩, fun r hr2 => ?_⟩
  unfold rowB
  simp only [Bool.and_eq_true, decide_eq_true_eq, List.all_eq_true]
  refine ⟨hr r hr2, fun x hx => ?_⟩
  have := hb r hr2 x hx
  unfold inM
  simp only [Bool.and_eq_true, decide_eq_true_eq]; omega
theorem mat_sq {xs : List ByteArray} (hx : substB xs = true) : sqB (matR xs) = true := by
  obtain ⟨h1, h4, _⟩ := subst_parts hx
  exact sq_of (by rw [matR_len]; exact h1) (by rw [matR_len]; exact h4) (fun r hr => by rw [matR_rows xs r hr, matR_len]) (mat_small hx) (by omega) (by omega)
theorem mat_mm {xs : List ByteArray} (hx : substB xs = true) : mmB (matR xs) (matR xs) = true := mm_in (mat_sq hx) (mat_sq hx) rfl
theorem mulTo_sum (row : List Int) (b : List (List Int)) (k : Nat) : ∀ m, mulTo row b k m = sumK (fun j => row.getD j 0 * (b.getD j []).getD k 0) m
  | 0 => rfl
  | m + 1 => by show mulTo row b k m + _ = _; rw [mulTo_sum row b k m]; rfl
/-- the matrix of a composition is the product -/
theorem mat_comp {xs : List ByteArray} (hx : substB xs = true) : matR (csZ xs xs) = mulM (matR xs) (matR xs) := by
  obtain ⟨h1, h4, _⟩ := subst_parts hx
  have hl : (csZ xs xs).length = xs.length := List.length_map _
  refine List.ext_getElem (by rw [matR_len, mulM_len, matR_len, hl]) fun i hi1 hi2 => ?_
  rw [matR_len, hl] at hi1
  rw [matR_get _ _ (by rw [hl]; exact hi1)]
  have e : (mulM (matR xs) (matR xs))[i] = mulRow (rowR xs i) (matR xs) := by simp only [mulM, List.getElem_map, matR_get xs i hi1]
  rw [e]
  refine List.ext_getElem (by rw [rowR_len, mulRow_len, matR_len, hl]) fun k hk1 hk2 => ?_
  rw [rowR_len, hl] at hk1
  have hmem : xs[k] ∈ xs := List.getElem_mem hk1
  have e1 : (rowR (csZ xs xs) i)[k]'(by rw [rowR_len, hl]; exact hk1) = (countC (applyL xs xs[k].data.toList) (lc i) : Int) := by
    simp only [rowR, csZ, List.getElem_map]; rfl
  have e2 : (mulRow (rowR xs i) (matR xs))[k]'hk2 = mulTo (rowR xs i) (matR xs) k xs.length := by
    simp only [mulRow, List.getElem_map, List.getElem_range, rowR_len]
  rw [e1, e2, count_apply h4 (lc i) (subst_lets hx hmem), mulTo_sum]
  refine sumK_congr _ fun j hj => ?_
  rw [rowR_at hj, matR_at hj, rowR_at hk1, List.getD_eq_getElem?_getD (l := xs) (i := k), List.getElem?_eq_getElem hk1]; rfl
end Go.Proofs.Ytciiokegifgbdaa
/- Plain mathematics: determinants and traces of products of small matrices; the letters that a primitive substitution reaches. Conditions: none beyond the hypotheses of each lemma. -/
namespace Go.Proofs.Ytciiokegifgbdaa
open Go.RowKit
set_option maxRecDepth 20000

theorem len1 {α : Type} {l : List α} (h : l.length = 1) : ∃ a, l = [a] := by
  match l, h with
  | [a], _ => exact ⟨a, rfl⟩
theorem len2 {α : Type} {l : List α} (h : l.length = 2) : ∃ a b, l = [a, b] := by
  match l, h with
  | [a, b], _ => exact ⟨a, b, rfl⟩
theorem len3 {α : Type} {l : List α} (h : l.length = 3) : ∃ a b c, l = [a, b, c] := by
  match l, h with
  | [a, b, c], _ => exact ⟨a, b, c, rfl⟩
theorem det1 (a : Int) : detL 1 [[a]] = a := by simp [detL, sumK, sgnI]
theorem det2 (a b c d : Int) : detL 2 [[a, b], [c, d]] = a * d - b * c := by
  simp [detL, sumK, sgnI, minorL, dropCol]; grind
theorem det3 (a b c d e f g h i : Int) : detL 3 [[a, b, c], [d, e, f], [g, h, i]] = a * (e * i - f * h) - b * (d * i - f * g) + c * (d * h - e * g) := by
  simp [detL, sumK, sgnI, minorL, dropCol]; grind
theorem mul1 (a p : Int) : mulM [[a]] [[p]] = [[a * p]] := by simp [mulM, mulRow, mulTo]
theorem mul2 (a b c d p q r s : Int) : mulM [[a, b], [c, d]] [[p, q], [r, s]] = [[a * p + b * r, a * q + b * s], [c * p + d * r, c * q + d * s]] := by
  simp [mulM, mulRow, mulTo, List.range_succ]
theorem mul3 (a b c d e f g h i p q r s t u v w x : Int) : mulM [[a, b, c], [d, e, f], [g, h, i]] [[p, q, r], [s, t, u], [v, w, x]] =
    [[a * p + b * s + c * v, a * q + b * t + c * w, a * r + b * u + c * x], [d * p + e * s + f * v, d * q + e * t + f * w, d * r + e * u + f * x], [g * p + h * s + i * v, g * q + h * t + i * w, g * r + h * u + i * x]] := by
  simp [mulM, mulRow, mulTo, List.range_succ]
theorem tr1 (a : Int) : trTo [[a]] 1 = a := by simp [trTo]
theorem tr2 (a b c d : Int) : trTo [[a, b], [c, d]] 2 = a + d := by simp [trTo]
theorem tr3 (a b c d e f g h i : Int) : trTo [[a, b, c], [d, e, f], [g, h, i]] 3 = a + e + i := by simp [trTo]
/-- a matrix of n rows of n numbers -/
def sqL (n : Nat) (a : List (List Int)) : Prop := a.length = n ∧ ∀ r ∈ a, r.length = n
theorem mul_laws {n : Nat} {a b : List (List Int)} (h1 : 1 ≤ n) (h3 : n ≤ 3) (ha : sqL n a) (hb : sqL n b) :
    detL n (mulM a b) = detL n a * detL n b ∧ trTo (mulM a b) n = trTo (mulM b a) n := by
  obtain ⟨al, ar⟩ := ha
  obtain ⟨bl, br⟩ := hb
  rcases (show n = 1 ∨ n = 2 ∨ n = 3 by omega) with rfl | rfl | rfl
  · obtain ⟨r1, rfl⟩ := len1 al
    obtain ⟨s1, rfl⟩ := len1 bl
    obtain ⟨x1, rfl⟩ := len1 (ar r1 (by simp))
    obtain ⟨y1, rfl⟩ := len1 (br s1 (by simp))
    rw [mul1, mul1, det1, det1, det1, tr1, tr1]
    exact ⟨rfl, Int.mul_comm _ _⟩
  · obtain ⟨r1, r2, rfl⟩ := len2 al
    obtain ⟨s1, s2, rfl⟩ := len2 bl
    obtain ⟨x1, x2, rfl⟩ := len2 (ar r1 (by simp))
    obtain ⟨x3, x4, rfl⟩ := len2 (ar r2 (by simp))
    obtain ⟨y1, y2, rfl⟩ := len2 (br s1 (by simp))
    obtain ⟨y3, y4, rfl⟩ := len2 (br s2 (by simp))
    rw [mul2, mul2, det2, det2, det2, tr2, tr2]
    exact ⟨by grind, by grind⟩
  · obtain ⟨r1, r2, r3, rfl⟩ := len3 al
    obtain ⟨s1, s2, s3, rfl⟩ := len3 bl
    obtain ⟨x1, x2, x3, rfl⟩ := len3 (ar r1 (by simp))
    obtain ⟨x4, x5, x6, rfl⟩ := len3 (ar r2 (by simp))
    obtain ⟨x7, x8, x9, rfl⟩ := len3 (ar r3 (by simp))
    obtain ⟨y1, y2, y3, rfl⟩ := len3 (br s1 (by simp))
    obtain ⟨y4, y5, y6, rfl⟩ := len3 (br s2 (by simp))
    obtain ⟨y7, y8, y9, rfl⟩ := len3 (br s3 (by simp))
    rw [mul3, mul3, det3, det3, det3, tr3, tr3]
    exact ⟨by clear ar br al bl; grind, by clear ar br al bl; grind⟩
theorem mulTo_box {row : List Int} {b : List (List Int)} (k : Nat) (h1 : ∀ j, -2 ≤ row.getD j 0 ∧ row.getD j 0 ≤ 4) (h2 : ∀ j, -2 ≤ (b.getD j []).getD k 0 ∧ (b.getD j []).getD k 0 ≤ 4) : ∀ m : Nat, -(16 * (m : Int)) ≤ mulTo row b k m ∧ mulTo row b k m ≤ 16 * (m : Int)
  | 0 => by simp [mulTo]
  | m + 1 => by
    have ih := mulTo_box k h1 h2 m
    have e : mulTo row b k (m + 1) = mulTo row b k m + row.getD m 0 * (b.getD m []).getD k 0 := rfl
    have hb := box_mul (A := 4) (B := 4) (x := row.getD m 0) (y := (b.getD m []).getD k 0) (by have := h1 m; omega) (by have := h2 m; omega)
    rw [e]; simp only [Int.natCast_add, Int.natCast_one]; omega
theorem row_box {r : List Int} {lo hi : Int} (h0 : lo ≤ 0 ∧ 0 ≤ hi) (h : ∀ x ∈ r, lo ≤ x ∧ x ≤ hi) (k : Nat) : lo ≤ r.getD k 0 ∧ r.getD k 0 ≤ hi := by
  by_cases hk : k < r.length
  · rw [List.getD_eq_getElem?_getD, List.getElem?_eq_getElem hk]; exact h _ (List.getElem_mem hk)
  · rw [List.getD_eq_getElem?_getD, List.getElem?_eq_none (by omega)]; exact h0
/-- a drawn matrix -/
structure Drawn (n : Nat) (a : List (List Int)) : Prop where
  len : a.length = n
  rows : ∀ r ∈ a, r.length = n
  box : ∀ r ∈ a, ∀ x ∈ r, -2 ≤ x ∧ x ≤ 4
theorem Drawn.sq {n : Nat} {a : List (List Int)} (h : Drawn n a) (h1 : 1 ≤ n) (h3 : n ≤ 3) : sqB a = true :=
  sq_of (by rw [h.len]; exact h1) (by rw [h.len]; omega) (fun r hr => by rw [h.rows r hr, h.len]) h.box (by omega) (by omega)
theorem Drawn.mm {n : Nat} {a b : List (List Int)} (ha : Drawn n a) (hb : Drawn n b) (h1 : 1 ≤ n) (h3 : n ≤ 3) : mmB a b = true := mm_in (ha.sq h1 h3) (hb.sq h1 h3) (by rw [ha.len, hb.len])
theorem Drawn.prod {n : Nat} {a b : List (List Int)} (ha : Drawn n a) (hb : Drawn n b) (h1 : 1 ≤ n) (h3 : n ≤ 3) : sqL n (mulM a b) ∧ sqB (mulM a b) = true := by
  have hr : ∀ r ∈ mulM a b, r.length = n := by
    intro r hr
    obtain ⟨s, hs, rfl⟩ := List.mem_map.1 hr
    rw [mulRow_len, hb.len]
  have hl : (mulM a b).length = n := by rw [mulM_len, ha.len]
  refine ⟨⟨hl, hr⟩, sq_of (lo := -48) (hi := 48) (by omega) (by omega) (fun r h => by rw [hr r h, hl]) ?_ (by omega) (by omega)⟩
  intro r h x hx
  obtain ⟨s, hs, rfl⟩ := List.mem_map.1 h
  obtain ⟨k, hk, rfl⟩ := List.mem_map.1 hx
  have := mulTo_box (row := s) (b := b) k (row_box (by omega) (ha.box s hs)) (fun j => getD_small (by omega) hb.box j k) s.length
  rw [ha.rows s hs] at this
  rw [ha.rows s hs]
  omega
theorem Drawn.det {n : Nat} {a b : List (List Int)} (ha : Drawn n a) (hb : Drawn n b) (h1 : 1 ≤ n) (h3 : n ≤ 3) : dtR (mulM a b) = dtR a * dtR b := by
  obtain ⟨⟨p1, p2⟩, p3⟩ := ha.prod hb h1 h3
  rw [dt_yes p3, dt_yes (ha.sq h1 h3), dt_yes (hb.sq h1 h3), p1, ha.len, hb.len]
  exact (mul_laws h1 h3 ⟨ha.len, ha.rows⟩ ⟨hb.len, hb.rows⟩).1
theorem Drawn.tr {n : Nat} {a b : List (List Int)} (ha : Drawn n a) (hb : Drawn n b) (h1 : 1 ≤ n) (h3 : n ≤ 3) : trR (mulM a b) = trR (mulM b a) := by
  obtain ⟨⟨p1, p2⟩, p3⟩ := ha.prod hb h1 h3
  obtain ⟨⟨q1, q2⟩, q3⟩ := hb.prod ha h1 h3
  rw [tr_yes p3, tr_yes q3, p1, q1]
  exact (mul_laws h1 h3 ⟨ha.len, ha.rows⟩ ⟨hb.len, hb.rows⟩).2
theorem Drawn.small {n : Nat} {a : List (List Int)} (ha : Drawn n a) (h1 : 1 ≤ n) (h3 : n ≤ 3) : -6000000 ≤ dtR a ∧ dtR a ≤ 6000000 := by
  rw [dt_yes (ha.sq h1 h3), ha.len]
  exact det_small h3 (fun r hr x hx => by have := ha.box r hr x hx; omega)
end Go.Proofs.Ytciiokegifgbdaa
/- Plain mathematics: the letters that a substitution reaches, and all of them where it is primitive. Conditions: none beyond the hypotheses of each lemma. -/
namespace Go.Proofs.Ytciiokegifgbdaa
open Go.RowKit
set_option maxRecDepth 20000

theorem rch_trans {ls : List (List UInt8)} {k j i : Nat} (h1 : Rch ls k j) (h2 : Rch ls j i) : Rch ls k i := by
  induction h2 with
  | base => exact h1
  | step _ hc ih => exact Rch.step ih hc
theorem count_mem {l : List UInt8} {x : UInt8} (h : 0 < countC l x) : x ∈ l := by
  unfold countC at h
  obtain ⟨y, hy⟩ := List.exists_mem_of_length_pos h
  rw [List.mem_filter] at hy
  rw [← beq_iff_eq.1 hy.2]; exact hy.1
/-- a positive number in the matrix: one step -/
theorem mat_step {xs : List ByteArray} (hn : xs.length ≤ 4) {i k : Nat} (hi : i < xs.length) (hk : k < xs.length) (h : 0 < ((matR xs).getD i []).getD k 0) : Rch (lss xs) k i := by
  rw [matR_at hi, rowR_at hk, List.getD_eq_getElem?_getD, List.getElem?_eq_getElem hk] at h
  have hm : lc i ∈ (lss xs).getD k [] := by
    rw [lss_get hk]
    exact count_mem (by have : (0 : Int) < (countC xs[k].data.toList (lc i) : Int) := h; omega)
  have := Rch.step (Rch.base (ls := lss xs) (k := k)) hm
  rw [lc_nat (by omega), show 97 + i - 97 = i by omega] at this
  exact this
theorem mat_out {xs : List ByteArray} {j k : Nat} (h : 0 < ((matR xs).getD j []).getD k 0) : j < xs.length := by
  rcases Nat.lt_or_ge j xs.length with h1 | h1
  · exact h1
  · rw [List.getD_eq_getElem?_getD (l := matR xs), List.getElem?_eq_none (by rw [matR_len]; exact h1)] at h
    simp at h
/-- positive numbers tell of letters that are reached -/
def Tells (xs : List ByteArray) (a : List (List Int)) : Prop := a.length = xs.length ∧ (∀ r ∈ a, r.length = xs.length) ∧ ∀ i k, i < xs.length → k < xs.length → 0 < (a.getD i []).getD k 0 → Rch (lss xs) k i
theorem tells_mat {xs : List ByteArray} (hn : xs.length ≤ 4) : Tells xs (matR xs) := ⟨matR_len xs, matR_rows xs, fun _ _ hi hk h => mat_step hn hi hk h⟩
theorem tells_signs {xs : List ByteArray} (hn : xs.length ≤ 4) {a : List (List Int)} (h : Tells xs a) : Tells xs (signs a (matR xs)) := by
  obtain ⟨h1, h2, h3⟩ := h
  refine ⟨by rw [signs_len, h1], fun r hr => by rw [signs_rows a (matR xs) r hr, matR_len], fun i k hi hk hp => ?_⟩
  have hia : i < a.length := by omega
  have e : (signs a (matR xs)).getD i [] = sgnRow a[i] (matR xs) := by
    rw [List.getD_eq_getElem?_getD, List.getElem?_eq_getElem (by rw [signs_len]; exact hia)]
    simp [signs]
  rw [e] at hp
  have e2 : (sgnRow a[i] (matR xs)).getD k 0 = sgnTo a[i] (matR xs) k a[i].length := by
    rw [List.getD_eq_getElem?_getD, List.getElem?_eq_getElem (by rw [sgnRow_len, matR_len]; exact hk)]
    simp [sgnRow]
  rw [e2] at hp
  unfold sgnTo at hp
  split at hp
  · rename_i hany
    obtain ⟨j, hj, hit⟩ := List.any_eq_true.1 hany
    have hja : j < a[i].length := List.mem_range.1 hj
    rw [h2 a[i] (List.getElem_mem hia)] at hja
    unfold hitB at hit
    simp only [Bool.and_eq_true, decide_eq_true_eq] at hit
    have r1 : Rch (lss xs) j i := h3 i j hi hja (by
      rw [List.getD_eq_getElem?_getD (l := a), List.getElem?_eq_getElem hia]; exact hit.1)
    exact rch_trans (mat_step hn (mat_out hit.2) hk hit.2) r1
  · omega
theorem full_all {xs : List ByteArray} {a : List (List Int)} (h : Tells xs a) (hf : fullB a = true) {i k : Nat} (hi : i < xs.length) (hk : k < xs.length) : Rch (lss xs) k i := by
  obtain ⟨h1, h2, h3⟩ := h
  have hia : i < a.length := by omega
  refine h3 i k hi hk ?_
  rw [List.getD_eq_getElem?_getD (l := a), List.getElem?_eq_getElem hia]
  show 0 < (a[i]).getD k 0
  have hm : a[i] ∈ a := List.getElem_mem hia
  unfold fullB at hf
  have h4 := List.all_eq_true.1 hf _ hm
  unfold fullR at h4
  have hka : k < a[i].length := by rw [h2 _ hm]; exact hk
  rw [List.getD_eq_getElem?_getD, List.getElem?_eq_getElem hka]
  have := List.all_eq_true.1 h4 _ (List.getElem_mem hka)
  exact of_decide_eq_true this
theorem prim_all {xs : List ByteArray} (hn : xs.length ≤ 4) : ∀ (f : Nat) (a : List (List Int)), Tells xs a → primGo (matR xs) f a = true → ∀ i k, i < xs.length → k < xs.length → Rch (lss xs) k i
  | 0, _, _, h => by cases h
  | f + 1, a, ht, h => by
    cases hf : fullB a
    · rw [prim_no hf] at h
      exact prim_all hn f _ (tells_signs hn ht) h
    · intro i k hi hk; exact full_all ht hf hi hk
theorem prim_rch {xs : List ByteArray} (h : primR xs = true) {i k : Nat} (hi : i < xs.length) (hk : k < xs.length) : Rch (lss xs) k i := by
  have hx : substB xs = true := by
    cases hb : substB xs
    · rw [primR_no hb] at h; cases h
    · rfl
  rw [primR_yes hx] at h
  have hn := (subst_parts hx).2.1
  exact prim_all hn 16 _ (tells_mat hn) h i k hi hk

/-! ### what ReachedBy answers -/
def abcd : ByteArray := ⟨#[97, 98, 99, 100]⟩
theorem abcd_cut {k : Nat} (h : k < 4) : abcd.extract k (k + 1) = ltr k := by
  rcases (show k = 0 ∨ k = 1 ∨ k = 2 ∨ k = 3 by omega) with rfl | rfl | rfl | rfl <;> decide
theorem img_ltr {xs : List ByteArray} (hn : xs.length ≤ 4) {k : Nat} (hk : k < xs.length) : imgB xs [lc k] = true := by
  have e := lc_nat (show k < 4 by omega)
  unfold imgB
  rw [Bool.and_eq_true, decide_eq_true_eq]
  exact ⟨letter_yes (by omega) (by omega), by omega⟩
theorem rb_ltr {xs : List ByteArray} (hx : substB xs = true) {k : Nat} (hk : k < xs.length) : rbL xs [lc k] = namesOf (rchB (lss xs) k) xs.length := by
  have hn := (subst_parts hx).2.1
  have h1 := img_ltr hn hk
  rw [rb_yes h1 hx, letK_yes h1]
  have e : (((([lc k] : List UInt8).headD 0).toNat : Int) - 97).toNat = k := by
    show (((lc k).toNat : Int) - 97).toNat = k
    rw [lc_nat (by omega)]; omega
  rw [e]
  unfold rbN
  rw [lss_len]
theorem rb_e {xs : List ByteArray} (hx : substB xs = true) : rbL xs [101] = [] := by
  have hn := (subst_parts hx).2.1
  refine rb_no1 ?_
  have : letterB 101 = false := by decide
  show (letterB 101 && decide (((101 : UInt8).toNat : Int) - 97 < xs.length)) = false
  rw [this]; rfl
theorem names_all (n : Nat) (h4 : n ≤ 4) : (⟨(namesOf (fun _ => true) n).toArray⟩ : ByteArray) = abcd.extract 0 n := by
  rcases (show n = 0 ∨ n = 1 ∨ n = 2 ∨ n = 3 ∨ n = 4 by omega) with rfl | rfl | rfl | rfl | rfl <;> decide
theorem rb_prim {xs : List ByteArray} (h : primR xs = true) (hx : substB xs = true) {k : Nat} (hk : k < xs.length) : (⟨(rbL xs [lc k]).toArray⟩ : ByteArray) = abcd.extract 0 xs.length := by
  rw [rb_ltr hx hk, names_congr (q := fun _ => true) (fun j hj => rch_yes (prim_rch h hj hk))]
  exact names_all _ (subst_parts hx).2.1
theorem names_mem {p : Nat → Bool} {n k : Nat} (hk : k < n) (hp : p k = true) : lc k ∈ namesOf p n := by
  unfold namesOf
  exact List.mem_map.2 ⟨k, List.mem_filter.2 ⟨List.mem_range.2 hk, hp⟩, rfl⟩
theorem names_word {p : Nat → Bool} {n : Nat} (h4 : n ≤ 4) : wordB (namesOf p n) = true := by
  unfold wordB
  rw [Bool.and_eq_true, decide_eq_true_eq, List.all_eq_true]
  refine ⟨Nat.le_trans (names_len p n) (by omega), fun c hc => ?_⟩
  unfold namesOf at hc
  obtain ⟨j, hj, rfl⟩ := List.mem_map.1 hc
  have hjn := List.mem_range.1 (List.mem_filter.1 hj).1
  have e := lc_nat (show j < 4 by omega)
  show letterB (lc j) = true
  exact letter_yes (by omega) (by omega)
theorem has_letter {s : ByteArray} {k : Nat} (h : lc k ∈ s.data.toList) : hasB s (ltr k) = true := by
  obtain ⟨i, hi, e⟩ := List.getElem_of_mem h
  have hs : i < s.size := by rw [Lib.size_eq]; exact hi
  refine has_yes (i := i) (by show i + 1 ≤ s.size; omega) ?_
  unfold standsAt
  rw [beq_iff_eq, Lib.toList_data, Lib.toList_data, Lib.extract_data]
  show (s.data.toList.drop i).take (i + 1 - i) = [lc k]
  rw [show i + 1 - i = 1 by omega, List.drop_eq_getElem_cons hi, List.take_succ_cons, List.take_zero, e]
theorem rb_factor {xs : List ByteArray} (hx : substB xs = true) {k : Nat} (hk : k < xs.length) : factB ⟨(rbL xs [lc k]).toArray⟩ (ltr k) = true := by
  have hn := (subst_parts hx).2.1
  unfold factB
  rw [Bool.and_eq_true, Bool.and_eq_true]
  refine ⟨?_, ?_, has_letter ?_⟩
  · show wordB (rbL xs [lc k]) = true
    rw [rb_ltr hx hk]; exact names_word hn
  · show wordB [lc k] = true
    have e := lc_nat (show k < 4 by omega)
    unfold wordB
    rw [Bool.and_eq_true, decide_eq_true_eq, List.all_eq_true]
    refine ⟨by simp, fun c hc => ?_⟩
    rw [List.mem_singleton.1 hc]; exact letter_yes (by omega) (by omega)
  · show lc k ∈ rbL xs [lc k]
    rw [rb_ltr hx hk]; exact names_mem hk (rch_yes Rch.base)
theorem rb_size {xs : List ByteArray} (hx : substB xs = true) {k : Nat} (hk : k < xs.length) : (⟨(rbL xs [lc k]).toArray⟩ : ByteArray).size ≤ xs.length := by
  rw [Lib.size_eq]
  show (rbL xs [lc k]).length ≤ xs.length
  rw [rb_ltr hx hk]; exact names_len _ _
end Go.Proofs.Ytciiokegifgbdaa
/- Walks: two lists of integers that are the same. Conditions: none beyond the hypotheses of each lemma. -/
namespace Go.Proofs.Ytciiokegifgbdaa
open Go.RowKit
set_option maxRecDepth 20000

set_option maxHeartbeats 400000 in
theorem same_same (xs : List Int) (va vb : Value) (w : World) (B : Nat) (ha : Row1 w B va (xs.map (.int .i64))) (hb : Row1 w B vb (xs.map (.int .i64))) :
    Calls Try.prog 22 #[va, vb] w fun e w' => e = .returned (.bool true) ∧ ∃ n, w' = w.drewN n := by
  have hl := ha.len
  simp only [List.length_map] at hl
  obtain ⟨A, c, rfl, hc, hm, hA⟩ := ha
  obtain ⟨A', c', rfl, hc', hm', hA'⟩ := hb
  simp only [List.length_map] at hc hc' ⊢
  rcases Nat.eq_zero_or_pos xs.length with h0 | h0
  · rw [h0]
    go_enter Try.func22, Try.ntmps22
    go_wp2_with fail
    refine wp_loop_rounds 1 ?_
    rw [rounds_succ]
    go_wp2
    go_ret
    exact ⟨rfl, 0, rfl⟩
  · have hne : xs.map (Value.int .i64) ≠ [] := by intro h; rw [List.map_eq_nil_iff] at h; subst h; simp at h0
    obtain ⟨b, o, rfl, _, hcell⟩ := hA hne
    obtain ⟨b', o', rfl, _, hcell'⟩ := hA' hne
    have HC := Lib.hid hcell; have HC' := Lib.hid hcell'; clear hcell hcell' hA hA' hne
    go_enter Try.func22, Try.ntmps22
    go_wp2_with fail
    go_loopw [14] (fun i wr => ∃ k : Nat, k ≤ xs.length ∧ i = .int .i64 k ∧ ∃ n, wr = w.drewN n) (fun i _ => xs.length - (intOf i).toNat)
    case atStart => exact ⟨0, Nat.zero_le _, rfl, 0, rfl⟩
    case round =>
      obtain ⟨k, hk, rfl, n, rfl⟩ := hrel
      by_cases hlt : k < xs.length
      · have g1 := HC.out k _ (map_get (Value.int .i64) xs k hlt)
        have g2 := HC'.out k _ (map_get (Value.int .i64) xs k hlt)
        go_wp2_with fail
        go_wp2
        go_roundw
        case rel => exact ⟨k + 1, by omega, by go_num, _, rfl⟩
        case measure => simp [intOf]; omega
      · go_wp2
        go_ret
        exact ⟨rfl, _, rfl⟩

end Go.Proofs.Ytciiokegifgbdaa
/- Walks: primitive substitutions, the program's own way. -/
namespace Go.Proofs.Ytciiokegifgbdaa
open Go.RowKit
set_option maxRecDepth 20000

set_option maxHeartbeats 8000000 in
theorem implIsPrimitiveSubst_any (xs : List ByteArray) (va : Value) (w : World) (ha : Row1 w w.heap.size va (xs.map .string)) (hs : ∀ s ∈ xs, s.size ≤ maxLen) :
    Calls Try.prog 25 #[.agg #[va]] w fun e w' => e = .returned (.bool (primR xs)) ∧ Below w.heap.size w w' := by
  have s0 := Stands.start w 33 va
  have HOK := Lib.hid (implSubstOk_any xs _ _ (s0.row ha) hs)
  have HS0 := Lib.hid s0
  have HA := Lib.hid ha
  have c0 := s0.box
  clear s0 ha hs
  cases hx : substB xs
  · have HF := Lib.hid (primR_no hx)
    go_enter Try.func25, Try.ntmps25
    go_wp2_with fail
    refine HOK.out.mono ?_
    rw [hx]
    rintro e w1 ⟨rfl, hb1⟩
    have S1 := Lib.hid (HS0.out.on hb1); clear hb1
    go_wp2_with fail
    go_ret
    exact ⟨by rw [HF.out] <;> rfl, S1.out.below⟩
  obtain ⟨i0, hi, hz0, hz1, hz2⟩ := info_parts info_int
  have HI := Lib.hid hi; have HZ0 := Lib.hid hz0; have HZ1 := Lib.hid hz1; have HZ2 := Lib.hid hz2
  clear hi hz0 hz1 hz2
  obtain ⟨i1, hi, hz0, hz1, hz2⟩ := info_parts info_row
  have HJ := Lib.hid hi; have HY0 := Lib.hid hz0; have HY1 := Lib.hid hz1; have HY2 := Lib.hid hz2
  clear hi hz0 hz1 hz2
  have HF := Lib.hid (primR_yes hx)
  obtain ⟨h1x, h4x, hzz⟩ := subst_parts hx
  clear hzz
  have HX := Lib.hid hx; clear hx
  have HML := Lib.hid (matR_len xs); have HMR := Lib.hid (matR_rows xs)
  go_enter Try.func25, Try.ntmps25
  go_wp2_with fail
  refine HOK.out.mono ?_
  rw [HX.out]
  rintro e w1 ⟨rfl, hb1⟩
  have S1 := Lib.hid (HS0.out.on hb1); clear hb1
  have c1 := S1.out.box
  clear c0
  go_wp2_with fail
  refine (implMatrix_any xs va _ (S1.out.row HA.out) HX.out).mono ?_
  rintro e w2 ⟨vm, rfl, ho, hb2⟩
  have S2 := Lib.hid (S1.out.on hb2)
  have M2 := Lib.hid ho.row2; clear ho hb2 c1
  obtain ⟨R, hR⟩ : ∃ R, R = primGo (matR xs) 16 (matR xs) := ⟨_, rfl⟩
  rw [← hR] at HF
  have HR := Lib.hid hR; clear hR
  obtain ⟨mm, hmm⟩ : ∃ mm, mm = matR xs := ⟨_, rfl⟩
  rw [← hmm] at HML HMR M2 HR
  clear hmm
  go_wp2_with fail
  go_loopw [4, 23] (fun v i wr => ∃ (k : Nat) (u : Value) (a : List (List Int)), v = u ∧ k ≤ 16 ∧ i = .int .i64 k ∧ R = primGo mm (16 - k) a ∧ a.length = xs.length ∧ (∀ r ∈ a, r.length = xs.length) ∧ Row2 wr wr.heap.size u a ∧ Row2 wr wr.heap.size vm mm ∧ Stands w 33 va wr) (fun _ i _ => 16 - (intOf i).toNat)
  case atStart => exact ⟨0, _, mm, rfl, Nat.zero_le _, rfl, HR.out, HML.out, HMR.out, M2.out, M2.out, S2.out⟩
  case round =>
    obtain ⟨k, u, a, rfl, hk, rfl, hR, hal, har, h2u, h2m, hst⟩ := hrel
    have HRR := Lib.hid hR; have HAL := Lib.hid hal; have HAR := Lib.hid har; have HU := Lib.hid h2u; have HM := Lib.hid h2m; have HS := Lib.hid hst
    obtain ⟨ba, oa, ca, rfl, hba, hca, hA⟩ := h2u.open2 (by omega) (by omega) har
    have HOA := Lib.hid hA
    rw [hal] at hca ⊢
    clear hR hal har h2u h2m hst hA
    by_cases hlt : k < 16
    · have hlt2 : (k : Int) < 16 := by omega
      go_wp2_with fail
      obtain ⟨wo, rfl⟩ : ∃ wo, wo = wr := ⟨_, rfl⟩
      go_loopw [5, 27] (fun f j w2 => ∃ q : Nat, q ≤ xs.length ∧ j = .int .i64 q ∧ f = .bool (fullB (a.take q)) ∧ w2 = wo) (fun _ j _ => xs.length - (intOf j).toNat)
      case atStart => exact ⟨0, Nat.zero_le _, rfl, rfl, rfl⟩
      case round =>
        obtain ⟨q, hq, rfl, rfl, rfl⟩ := hrel
        by_cases hql : q < xs.length
        · have hqa : q < a.length := by have := HAL.out; omega
          obtain ⟨b1, o1, c1, hb1, hc1, g1, G1⟩ := HOA.out q hqa
          have HG1 := Lib.hid G1
          have HFS := Lib.hid (full_step hqa)
          have HRL := Lib.hid (HAR.out _ (List.getElem_mem hqa))
          obtain ⟨row, hrow⟩ : ∃ row, row = a[q] := ⟨_, rfl⟩
          rw [← hrow] at HG1 HFS HRL
          obtain ⟨f0, hf0⟩ : ∃ f0, f0 = fullB (a.take q) := ⟨_, rfl⟩
          rw [← hf0] at HFS ⊢
          clear G1 hrow hqa hf0
          go_wp2_with fail
          go_loop [5, 33] (fun f j => ∃ m : Nat, m ≤ xs.length ∧ j = .int .i64 m ∧ f = .bool (f0 && fullR (row.take m))) (fun _ j => xs.length - (intOf j).toNat)
          case atStart => exact ⟨0, Nat.zero_le _, rfl, by simp [fullR]⟩
          case round =>
            clear g1
            obtain ⟨m, hm, rfl, rfl⟩ := hrel
            by_cases hml : m < xs.length
            · have g5 := HG1.out m hml
              have HN := Lib.hid (fullR_step (r := row) (j := m) (by have := HRL.out; omega))
              obtain ⟨y, hy⟩ : ∃ y, y = row.getD m 0 := ⟨_, rfl⟩
              rw [← hy] at g5 HN
              obtain ⟨f1, hf1⟩ : ∃ f1, f1 = fullR (row.take m) := ⟨_, rfl⟩
              rw [← hf1] at HN ⊢
              clear hy hf1
              by_cases h1 : 0 < y
              · rw [decide_eq_true h1] at HN
                cases f0 <;> cases f1
                all_goals
                  go_wp2
                  go_round
                  case rel => first | exact ⟨m + 1, by omega, by go_num, by first | rfl | (rw [HN.out] <;> rfl)⟩ | exact ⟨_, _, _, ⟨m + 1, by omega, by go_num, by first | rfl | (rw [HN.out] <;> rfl)⟩, rfl, rfl, rfl⟩
                  case measure => simp [intOf]; omega
              · rw [decide_eq_false h1] at HN
                cases f0 <;> cases f1
                all_goals
                  go_wp2
                  go_round
                  case rel => first | exact ⟨m + 1, by omega, by go_num, by first | rfl | (rw [HN.out] <;> rfl)⟩ | exact ⟨_, _, _, ⟨m + 1, by omega, by go_num, by first | rfl | (rw [HN.out] <;> rfl)⟩, rfl, rfl, rfl⟩
                  case measure => simp [intOf]; omega
            · obtain rfl : m = xs.length := by omega
              have HE := Lib.hid (show row.take xs.length = row from List.take_of_length_le (by have := HRL.out; omega))
              go_wp2
              go_roundw
              case rel => exact ⟨q + 1, by omega, by go_num, by rw [HFS.out, HE.out]; exact ⟨rfl, trivial⟩⟩
              case measure => simp [intOf]; omega
        · obtain rfl : q = xs.length := by omega
          obtain ⟨wz, rfl⟩ : ∃ wz, wz = wr := ⟨_, rfl⟩
          have HE := Lib.hid (show a.take xs.length = a from List.take_of_length_le (by have := HAL.out; omega))
          rw [HE.out]
          have h16 : 16 - k = (16 - (k + 1)) + 1 := by omega
          cases hf : fullB a
          · have HN := Lib.hid (HRR.out.trans (by rw [h16, prim_no hf]))
            clear hf h16
            have HO0 := Lib.hid (World.ownsRow_made (base := wz.heap.size) (e := 37) (size := 1) wz #[] 0 (Nat.le_refl _) (Nat.zero_le _) rfl)
            have HMB := Lib.hid (HM.out.open2 (by have := HML.out; omega) (by omega) HMR.out)
            obtain ⟨bm, om, cm, hvm, hbm, hcm, hB⟩ := HMB.out
            rw [HML.out] at hvm hcm
            subst hvm
            have HBM := Lib.hid hB; clear hB
            go_wp2_with fail
            go_loopw [10, 48] (fun v j w2 => ∃ (q : Nat) (u : Value) (vs : List Value), v = u ∧ q ≤ xs.length ∧ j = .int .i64 q ∧ OwnV 37 3 w2 wz.heap.size u vs ((signs a mm).take q) ∧ Below wz.heap.size wz w2) (fun _ j _ => xs.length - (intOf j).toNat)
            case atStart => exact ⟨0, _, [], rfl, Nat.zero_le _, rfl, OwnV.empty (by simpa using HO0.out), bnew _ _⟩
            case round =>
              obtain ⟨w2, rfl⟩ : ∃ w2, w2 = wr := ⟨_, rfl⟩
              obtain ⟨q, u, vs, rfl, hq, rfl, hov, hbel⟩ := hrel
              have HV := Lib.hid hov; have HW := Lib.hid hbel
              have HLEN := Lib.hid (show ((signs a mm).take q).length = q by rw [List.length_take, signs_len, HAL.out]; omega)
              clear hov hbel
              by_cases hql : q < xs.length
              · have hqa : q < a.length := by have := HAL.out; omega
                obtain ⟨b1, o1, c1, hb1, hc1, g1, G1⟩ := HOA.out q hqa
                have HG1 := Lib.hid G1
                have g1' := (HW.out.cell (p := ⟨ba, oa + q, none⟩) hba).trans g1
                have HRL := Lib.hid (HAR.out _ (List.getElem_mem hqa))
                have HST := Lib.hid (signs_take (b := mm) hqa)
                obtain ⟨row, hrow⟩ : ∃ row, row = a[q] := ⟨_, rfl⟩
                rw [← hrow] at HG1 HRL HST
                clear G1 g1 hrow hqa
                go_wp2_with (at_make; refine wpList_make_full _ rfl _ _ 37 rfl w2.heap.size 3 i0 _ 1 Try.underlying37 HI.out HZ0.out HZ1.out _ _ _ _ xs.length rfl rfl rfl rfl (by rw [HZ2.out]; omega) (by unfold maxLen; omega) (Nat.le_refl _) ?_)
                intro w3 hown3 hgrow3
                rw [toList_madeCells_one] at hown3
                have HO3 := Lib.hid (show w3.ownsRow w2.heap.size 3 1 (.slice (some ⟨w2.heap.size, 0, none⟩) xs.length xs.length) xs.length (ints (sgnPart row mm 0 0)) from by rw [sgnPart_zero, HML.out]; simpa [ints] using hown3)
                have HB3 := Lib.hid ((Below.refl w2.heap.size w2).grown hgrow3 (Nat.le_refl _) (fun g hg => by cases hg))
                clear hown3 hgrow3 g1'
                go_wp2_with fail
                go_loopw [57] (fun j w4 => ∃ m : Nat, m ≤ xs.length ∧ j = .int .i64 m ∧ w4.ownsRow w2.heap.size 3 1 (.slice (some ⟨w2.heap.size, 0, none⟩) xs.length xs.length) xs.length (ints (sgnPart row mm m 0)) ∧ Below w2.heap.size w2 w4) (fun j _ => xs.length - (intOf j).toNat)
                case atStart => exact ⟨0, Nat.zero_le _, rfl, HO3.out, HB3.out⟩
                case round =>
                  clear HO3 HB3
                  obtain ⟨w4, rfl⟩ : ∃ w4, w4 = wr := ⟨_, rfl⟩
                  obtain ⟨m, hm, rfl, ho4, hb4⟩ := hrel
                  have HO4 := Lib.hid ho4; have HB4 := Lib.hid hb4; clear ho4 hb4
                  by_cases hml : m < xs.length
                  · obtain ⟨b3, o3, c3, hb3, hc3, g3, G3⟩ := HBM.out m (by have := HML.out; omega)
                    have HG3 := Lib.hid G3
                    have g5 := ((bthen HW.out HB4.out).cell (p := ⟨b1, o1 + m, none⟩) hb1).trans (HG1.out m hml)
                    have hmd : mm[m]'(by have := HML.out; omega) = mm.getD m [] := by rw [List.getD_eq_getElem?_getD, List.getElem?_eq_getElem (by have := HML.out; omega)]; rfl
                    rw [hmd] at HG3
                    have HH := Lib.hid (fun q h1 h2 => sgn_hit (row := row) (b := mm) (k := q) (j := m) h1 h2)
                    have HMS := Lib.hid (fun q h => sgn_miss (row := row) (b := mm) (k := q) (j := m) h)
                    obtain ⟨y, hy⟩ : ∃ y, y = row.getD m 0 := ⟨_, rfl⟩
                    rw [← hy] at g5 HH HMS
                    have G3' := Lib.hid g3
                    clear G3 g3 hmd hy
                    go_wp2_with fail
                    go_loopw [64] (fun j w5 => ∃ p : Nat, p ≤ xs.length ∧ j = .int .i64 p ∧ w5.ownsRow w2.heap.size 3 1 (.slice (some ⟨w2.heap.size, 0, none⟩) xs.length xs.length) xs.length (ints (sgnPart row mm m p)) ∧ Below w2.heap.size w2 w5) (fun j _ => xs.length - (intOf j).toNat)
                    case atStart => exact ⟨0, Nat.zero_le _, rfl, HO4.out, HB4.out⟩
                    case round =>
                      clear HO4 HB4 g5
                      obtain ⟨w5, rfl⟩ : ∃ w5, w5 = wr := ⟨_, rfl⟩
                      obtain ⟨p, hp, rfl, ho5, hb5⟩ := hrel
                      have HO5 := Lib.hid ho5; have HB5 := Lib.hid hb5; clear ho5 hb5
                      by_cases hpl : p < xs.length
                      · have g6 := ((bthen HW.out HB5.out).cell (p := ⟨bm, om + m, none⟩) hbm).trans G3'.out
                        have g7 := ((bthen HW.out HB5.out).cell (p := ⟨b3, o3 + p, none⟩) hb3).trans (HG3.out p hpl)
                        have HHp := Lib.hid (HH.out p); have HMp := Lib.hid (HMS.out p)
                        obtain ⟨z, hz⟩ : ∃ z, z = (mm.getD m []).getD p 0 := ⟨_, rfl⟩
                        rw [← hz] at g7 HHp HMp
                        clear hz
                        by_cases h1 : 0 < y
                        · by_cases h2 : 0 < z
                          · have HN := Lib.hid (sgnPart_set (row := row) (b := mm) (j := m) (q := p))
                            rw [HHp.out h1 h2] at HN
                            obtain ⟨z0, hz0⟩ := sgnPart_get (row := row) (b := mm) (j := m) (q := p) (n := p) (by have := HML.out; omega)
                            have g8 := HO5.out.cellAt p (by omega)
                            rw [hz0] at g8
                            have g9 := HO5.out.frozenAt p
                            clear hz0
                            go_wp2
                            go_roundw
                            case rel =>
                              have h3 := HO5.out.stored p (.int .i64 1)
                              rw [← List.map_set, HN.out] at h3
                              exact ⟨p + 1, by omega, by go_num, h3.1, HB5.out.grown h3.2 HB5.out.size (fun g hg => by simp at hg; omega)⟩
                            case measure => simp [intOf]; omega
                          · have HN := Lib.hid (sgnPart_same (row := row) (b := mm) (j := m) (q := p) (HMp.out (fun h => h2 h.2)))
                            go_wp2
                            go_roundw
                            case rel => exact ⟨p + 1, by omega, by go_num, by rw [HN.out]; exact HO5.out, HB5.out⟩
                            case measure => simp [intOf]; omega
                        · have HN := Lib.hid (sgnPart_same (row := row) (b := mm) (j := m) (q := p) (HMp.out (fun h => h1 h.1)))
                          go_wp2
                          go_roundw
                          case rel => exact ⟨p + 1, by omega, by go_num, by rw [HN.out]; exact HO5.out, HB5.out⟩
                          case measure => simp [intOf]; omega
                      · obtain rfl : p = xs.length := by omega
                        have HE := Lib.hid (show sgnPart row mm m xs.length = sgnPart row mm (m + 1) 0 from by rw [← HML.out]; exact sgnPart_end _ _ _)
                        rw [HE.out] at HO5
                        go_wp2
                        go_roundw
                        case rel => exact ⟨m + 1, by omega, by go_num, HO5.out, HB5.out⟩
                        case measure => simp [intOf]; omega
                  · obtain rfl : m = xs.length := by omega
                    have HE := Lib.hid (show sgnPart row mm xs.length 0 = sgnRow row mm from by have h := sgnPart_all row mm; rw [HRL.out] at h; exact h)
                    rw [HE.out] at HO4
                    have hrow : w4.ownsRow w2.heap.size 3 1 (.slice (some ⟨w2.heap.size, 0, none⟩) xs.length xs.length) (sgnRow row mm).length (ints (sgnRow row mm)) := by rw [sgnRow_len, HML.out]; exact HO4.out
                    have HROW := Lib.hid hrow; clear hrow
                    have HVB := Lib.hid (HV.out.below HB4.out)
                    go_wp2_with (at_builtin; refine wpList_append_own _ rfl _ _ 22 rfl wz.heap.size 37 i1 (.slice none 0 0) 1 24 Try.underlying22 HJ.out HY0.out HY1.out HY2.out rfl (by decide) _ _ _ rfl (HVB.out.own.alloc _) ⟨_, 0, none⟩ 1 1 [.slice (some ⟨w2.heap.size, 0, none⟩) xs.length xs.length] rfl rfl ?c1 ?c2 ?c3 ?c4 ?c5 ?_)
                    case c1 => exact cell_one_new _ _ _
                    case c2 => intro u hu; simp at hu; subst hu; rfl
                    case c3 => rw [HLEN.out]; unfold maxLen; omega
                    case c4 => rw [HLEN.out]; omega
                    case c5 => have := HB4.out.size; have := HW.out.size; simp; omega
                    intro v' w6 hown' hgrow _
                    have HV3 := Lib.hid (HV.out.push types_apart HW.out.size (bthen HB4.out (bnew _ _)) (HROW.out.alloc _) (by simpa using hown') hgrow)
                    have HS3 := Lib.hid (since_grown (bthen HW.out (bthen HB4.out (bnew _ _))) hgrow (fun g hg => (own_lt HV.out.own hg).1))
                    clear hown' hgrow
                    go_wp2
                    go_roundw
                    case rel => exact ⟨q + 1, v', _, rfl, by omega, by go_num, by rw [HST.out]; exact HV3.out, HS3.out⟩
                    case measure => simp [intOf]; omega
              · obtain rfl : q = xs.length := by omega
                have HE := Lib.hid (show (signs a mm).take xs.length = signs a mm from List.take_of_length_le (by rw [signs_len, HAL.out]; exact Nat.le_refl _))
                rw [HE.out] at HV
                have M3 := Lib.hid (HM.out.on HW.out)
                have S3 := Lib.hid (HS.out.on HW.out)
                have U3 := Lib.hid HV.out.row2
                go_wp2_with fail
                go_roundw
                case rel => exact ⟨k + 1, _, signs a mm, rfl, by omega, by go_num, HN.out, by rw [signs_len]; exact HAL.out, by intro r hr; rw [signs_rows a mm r hr]; exact HML.out, U3.out, M3.out, S3.out⟩
                case measure => simp [intOf]; omega
          · have HN := Lib.hid (HRR.out.trans (by rw [h16, prim_yes hf]))
            clear hf h16
            go_wp2
            go_ret
            exact ⟨by rw [HF.out, HN.out] <;> rfl, HS.out.below⟩
    · obtain rfl : k = 16 := by omega
      have HN := Lib.hid (HRR.out.trans (show primGo mm (16 - 16) a = false from rfl))
      go_wp2
      go_ret
      exact ⟨by rw [HF.out, HN.out] <;> rfl, HS.out.below⟩
end Go.Proofs.Ytciiokegifgbdaa
