/- Plain mathematics: letters with an image, growing letters. Conditions: none beyond the hypotheses of each lemma. -/
import Derived.Test.YtglleimmmfnhcaaPlain5
namespace Go.Proofs.Ytglleimmmfnhcaa
open Go.RowKit

/-- the letter with the index j, and as a string -/
def lc (j : Nat) : UInt8 := UInt8.ofNat (97 + j)
def ltr (j : Nat) : ByteArray := ⟨#[lc j]⟩
theorem lc_nat {j : Nat} (h : j < 4) : (lc j).toNat = 97 + j := by unfold lc; rw [UInt8.toNat_ofNat']; omega
theorem abcd_at {k : Nat} (h : k < 4) : (⟨#[97, 98, 99, 100]⟩ : ByteArray).extract k (k + 1) = ltr k := by
  rcases (show k = 0 ∨ k = 1 ∨ k = 2 ∨ k = 3 by omega) with rfl | rfl | rfl | rfl <;> decide
theorem ltr_size (j : Nat) : (ltr j).size = 1 := rfl
theorem ltr_data (j : Nat) : (ltr j).data.toList = [lc j] := rfl
theorem lc_of {c : UInt8} (h : 97 ≤ c.toNat) : lc (c.toNat - 97) = c := by
  unfold lc
  rw [show 97 + (c.toNat - 97) = c.toNat by omega]
  exact UInt8.ofNat_toNat
theorem lc_inj {i j : Nat} (hi : i < 4) (hj : j < 4) (h : lc i = lc j) : i = j := by
  have := congrArg UInt8.toNat h
  rw [lc_nat hi, lc_nat hj] at this
  omega

/-- a string that is one letter with an image -/
def imgB (xs : List ByteArray) : List UInt8 → Bool
  | [c] => letterB c && decide ((c.toNat : Int) - 97 < xs.length)
  | _ => false
/-- one letter -/
def oneB : List UInt8 → Bool
  | [c] => letterB c
  | _ => false
theorem list_one {s : ByteArray} (h : s.size = 1) : s.data.toList = [s[0]'(by omega)] := by
  obtain ⟨⟨l⟩⟩ := s
  match l, h with
  | [c], _ => rfl
theorem oneB_one {s : ByteArray} (h : s.size = 1) : oneB s.data.toList = wordB s.data.toList := by
  rw [list_one h]; simp [oneB, wordB]
theorem oneB_not {s : ByteArray} (h : ¬ s.size = 1) : oneB s.data.toList = false := by
  obtain ⟨⟨l⟩⟩ := s
  match l, h with
  | [], _ => rfl
  | [c], h => exact absurd rfl h
  | _ :: _ :: _, _ => rfl
theorem imgB_eq (xs : List ByteArray) (l : List UInt8) : imgB xs l = (oneB l && (inB xs.length l && wordB l)) := by
  match l with
  | [] => rfl
  | [c] => simp only [imgB, oneB, inB, wordB, List.all_cons, List.all_nil, Bool.and_true, List.length_singleton]; cases letterB c <;> simp
  | _ :: _ :: _ => rfl
theorem imgB_letter {xs : List ByteArray} {s : ByteArray} (h : imgB xs s.data.toList = true) : ∃ hs : s.size = 1, (97 : Int) ≤ ((s[0]'(by omega)).toNat : Int) ∧ ((s[0]'(by omega)).toNat : Int) ≤ 100 ∧ ((s[0]'(by omega)).toNat : Int) - 97 < xs.length := by
  by_cases hs : s.size = 1
  · refine ⟨hs, ?_⟩
    rw [list_one hs] at h
    simp only [imgB, letterB, Bool.and_eq_true, decide_eq_true_eq] at h
    exact ⟨h.1.1, h.1.2, h.2⟩
  · rw [imgB_eq, oneB_not hs] at h; cases h

/-- the letter c is growing: its image has more than one letter and begins with it -/
def growC (xs : List ByteArray) (c : UInt8) : Bool := decide ((1 : Int) < ((imgAt xs c).size : Int)) && ((imgAt xs c).data.toList.headD 0 == c)
def growB (xs : List ByteArray) : List UInt8 → Bool
  | [c] => imgB xs [c] && growC xs c
  | _ => false
theorem growB_one (xs : List ByteArray) (c : UInt8) : growB xs [c] = (imgB xs [c] && growC xs c) := rfl
theorem head_get {s : ByteArray} (h : 0 < s.size) : s.data.toList.headD 0 = s[0] := by
  obtain ⟨⟨l⟩⟩ := s
  match l, h with
  | c :: _, _ => rfl
def growIx (xs : List ByteArray) (k : Nat) : List UInt8 := ((List.range k).filter fun j => growC xs (lc j)).map lc
theorem growIx_yes {xs : List ByteArray} {k : Nat} (h : growC xs (lc k) = true) : growIx xs (k + 1) = growIx xs k ++ [lc k] := by
  unfold growIx; rw [List.range_succ, List.filter_append]; simp [h]
theorem growIx_no {xs : List ByteArray} {k : Nat} (h : growC xs (lc k) = false) : growIx xs (k + 1) = growIx xs k := by
  unfold growIx; rw [List.range_succ, List.filter_append]; simp [h]
theorem growIx_len (xs : List ByteArray) (k : Nat) : (growIx xs k).length ≤ k := by
  unfold growIx; rw [List.length_map]; have := List.length_filter_le (fun j => growC xs (lc j)) (List.range k); simpa using this
/-- what GrowingLetters returns -/
def growL (xs : List ByteArray) : List UInt8 := if substB xs = true then growIx xs xs.length else []
end Go.Proofs.Ytglleimmmfnhcaa
