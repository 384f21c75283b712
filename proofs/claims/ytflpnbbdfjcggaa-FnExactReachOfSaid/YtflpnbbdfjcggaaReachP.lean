/- Plain mathematics: the longest part between places. Conditions: none beyond the hypotheses of each lemma. -/
import Derived.WalkKit
namespace Go.Proofs.Ytflpnbbdfjcggaa
open Go.RowKit

def imax (a b : Int) : Int := if a < b then b else a
theorem imax_eq (a b : Int) : max a b = imax a b := by unfold imax; rw [Int.max_def]; split <;> split <;> omega
theorem imax_bound {a b lo hi : Int} (h : lo ≤ a ∧ a ≤ hi) (h2 : lo ≤ b ∧ b ≤ hi) : lo ≤ imax a b ∧ imax a b ≤ hi := by unfold imax; split <;> omega
/-- the reference's state behind one more place p: the longest part, and where the next one begins -/
def rstep (n : Int) (st : Int × Int) (p : Int) : Int × Int := (imax st.1 (p + n - 1 - st.2), p + 1)
def rst (n M0 : Int) (ps : List Int) : Int × Int := ps.foldl (rstep n) (M0, 0)
theorem rst_snoc (n M0 : Int) (ps : List Int) (p : Int) : rst n M0 (ps ++ [p]) = rstep n (rst n M0 ps) p := by unfold rst; rw [List.foldl_append]; rfl
/-- the program's longest part behind the first i places -/
def lngTo (n sz : Int) (ps : List Int) : Nat → Int
  | 0 => imax (ps.getD 0 0 + n - 1) (sz - ps.getD (ps.length - 1) 0 - 1)
  | i + 1 => imax (lngTo n sz ps i) (ps.getD (i + 1) 0 - ps.getD i 0 + n - 2)
def lng (n sz : Int) (ps : List Int) : Int := lngTo n sz ps (ps.length - 1)
theorem getD_at {ps : List Int} {i : Nat} (h : i < ps.length) : ps.getD i 0 = ps[i] := by rw [List.getD_eq_getElem?_getD, List.getElem?_eq_getElem h]; rfl
theorem rst_from (n M0 : Int) (ps : List Int) : ∀ i, i < ps.length → (rst n M0 (ps.take (i + 1))).2 = ps.getD i 0 + 1 := by
  intro i h
  rw [List.take_succ_eq_append_getElem h, rst_snoc, getD_at h]; rfl
theorem rst_lng (n sz M0 : Int) (ps : List Int) (h0 : 0 < ps.length) : ∀ i, i < ps.length → imax (rst n M0 (ps.take (i + 1))).1 (sz - ps.getD (ps.length - 1) 0 - 1) = imax M0 (lngTo n sz ps i)
  | 0, h => by
    have e : ps.take 1 = [] ++ [ps[0]] := by rw [List.take_succ_eq_append_getElem h]; rfl
    rw [e, rst_snoc, lngTo, getD_at h]
    simp only [rst, List.foldl_nil, rstep, imax]
    (repeat' split) <;> omega
  | i + 1, h => by
    have ih := rst_lng n sz M0 ps h0 i (by omega)
    have hf := rst_from n M0 ps i (by omega)
    rw [List.take_succ_eq_append_getElem h, rst_snoc, lngTo, rstep, hf, getD_at h]
    generalize (rst n M0 (ps.take (i + 1))).1 = a at *
    generalize lngTo n sz ps i = b at *
    generalize sz - ps.getD (ps.length - 1) 0 - 1 = c at *
    have e : ps[i + 1] + n - 1 - (ps.getD i 0 + 1) = ps[i + 1] - ps.getD i 0 + n - 2 := by omega
    rw [e]
    generalize ps[i + 1] - ps.getD i 0 + n - 2 = d at *
    simp only [imax] at *
    (repeat' split at ih) <;> (repeat' split) <;> omega
theorem rst_end (n sz M0 : Int) (ps : List Int) (h0 : 0 < ps.length) : imax (rst n M0 ps).1 (sz - (rst n M0 ps).2) = imax M0 (lng n sz ps) := by
  have h1 := rst_lng n sz M0 ps h0 (ps.length - 1) (by omega)
  have h2 := rst_from n M0 ps (ps.length - 1) (by omega)
  rw [show ps.length - 1 + 1 = ps.length by omega, List.take_length] at h1 h2
  rw [h2, lng, ← h1]
  congr 1; omega
/-- places are indices of a word of sz letters -/
def inSz (sz : Int) (ps : List Int) : Prop := ∀ p ∈ ps, 0 ≤ p ∧ p ≤ sz
theorem inSz_get {sz : Int} {ps : List Int} (h : inSz sz ps) (hs : 0 ≤ sz) (i : Nat) : 0 ≤ ps.getD i 0 ∧ ps.getD i 0 ≤ sz := by
  rw [List.getD_eq_getElem?_getD]
  by_cases hi : i < ps.length
  · rw [List.getElem?_eq_getElem hi]; exact h _ (List.getElem_mem hi)
  · rw [List.getElem?_eq_none (by omega)]; exact ⟨Int.le_refl _, hs⟩
theorem lng_bound {n sz : Int} {ps : List Int} (h : inSz sz ps) (hs : 0 ≤ sz) (h1 : 1 ≤ n) : ∀ i, 0 ≤ lngTo n sz ps i ∧ lngTo n sz ps i ≤ sz + n
  | 0 => by
    have a := inSz_get h hs 0
    have b := inSz_get h hs (ps.length - 1)
    simp only [lngTo, imax]; split <;> omega
  | i + 1 => by
    have ih := lng_bound h hs h1 i
    have a := inSz_get h hs i
    have b := inSz_get h hs (i + 1)
    simp only [lngTo, imax]; split <;> omega
theorem rstep_bound {n sz : Int} {st : Int × Int} {p : Int} (h : 0 ≤ st.1 ∧ st.1 ≤ sz + n ∧ 0 ≤ st.2 ∧ st.2 ≤ sz + 1) (hp : 0 ≤ p ∧ p ≤ sz) : 0 ≤ (rstep n st p).1 ∧ (rstep n st p).1 ≤ sz + n ∧ 0 ≤ (rstep n st p).2 ∧ (rstep n st p).2 ≤ sz + 1 := by
  simp only [rstep, imax]
  split <;> omega
end Go.Proofs.Ytflpnbbdfjcggaa
