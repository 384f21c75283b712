/- Plain mathematics over lists of bytes: digits, names, parts and turns of words. Conditions: none beyond the hypotheses of each lemma. -/
import Derived.Test.YtciiokegifgbdaaDoorPlain1
namespace Go.Proofs.YtciiokegifgbdaaDoor
open Go.RowKit

def digitB (c : UInt8) : Bool := decide (48 ≤ (c.toNat : Int)) && decide ((c.toNat : Int) ≤ 57)
def digitsB (l : List UInt8) : Bool := l.all digitB && !l.isEmpty
theorem digit_yes {c : UInt8} (h1 : (48 : Int) ≤ (c.toNat : Int)) (h2 : (c.toNat : Int) ≤ 57) : digitB c = true := by simp [digitB, h1, h2]
theorem digit_low {c : UInt8} (h1 : (c.toNat : Int) < 48) : digitB c = false := by unfold digitB; rw [decide_eq_false (by omega)]; rfl
theorem digit_high {c : UInt8} (h1 : (57 : Int) < (c.toNat : Int)) : digitB c = false := by unfold digitB; rw [decide_eq_false (p := (c.toNat : Int) ≤ 57) (by omega)]; simp
theorem digits_fail {l : List UInt8} (h : l.all digitB = false) : digitsB l = false := by simp [digitsB, h]
theorem digits_end {s : ByteArray} (h : s.data.toList.all digitB = true) : digitsB s.data.toList = !s.data.toList.isEmpty := by simp [digitsB, h]

/-- a small letter, from a to z -/
def lowB (c : UInt8) : Bool := decide (97 ≤ (c.toNat : Int)) && decide ((c.toNat : Int) ≤ 122)
theorem low_yes {c : UInt8} (h1 : (97 : Int) ≤ (c.toNat : Int)) (h2 : (c.toNat : Int) ≤ 122) : lowB c = true := by simp [lowB, h1, h2]
theorem low_low {c : UInt8} (h1 : (c.toNat : Int) < 97) : lowB c = false := by unfold lowB; rw [decide_eq_false (by omega)]; rfl
theorem low_high {c : UInt8} (h1 : (122 : Int) < (c.toNat : Int)) : lowB c = false := by unfold lowB; rw [decide_eq_false (p := (c.toNat : Int) ≤ 122) (by omega)]; simp
/-- the byte at index i is let in a name -/
def nameAt (i : Nat) (c : UInt8) : Bool := lowB c || (decide (i ≠ 0) && digitB c)
def nameFrom : Nat → List UInt8 → Bool
  | _, [] => true
  | i, c :: r => nameAt i c && nameFrom (i + 1) r
def nameB (l : List UInt8) : Bool := nameFrom 0 l && (decide (1 ≤ l.length) && decide (l.length ≤ 8))
theorem nameFrom_append (i : Nat) : ∀ l r : List UInt8, nameFrom i (l ++ r) = (nameFrom i l && nameFrom (i + l.length) r) := by
  intro l
  induction l generalizing i with
  | nil => intro r; simp [nameFrom]
  | cons c l ih => intro r; simp only [List.cons_append, nameFrom, ih, List.length_cons, Bool.and_assoc]; rw [show i + 1 + l.length = i + (l.length + 1) by omega]
theorem name_step (s : ByteArray) (k : Nat) (h : k < s.size) (ha : nameFrom 0 (s.data.toList.take k) = true) (hp : nameAt k s[k] = true) : nameFrom 0 (s.data.toList.take (k + 1)) = true := by
  have hl : (s.data.toList.take k).length = k := by rw [List.length_take, ← Lib.size_eq]; omega
  rw [take_snoc s k h, nameFrom_append, ha, hl]; simp [nameFrom, hp]
theorem name_fail (s : ByteArray) (k : Nat) (h : k < s.size) (hp : nameAt k s[k] = false) : nameB s.data.toList = false := by
  have hl : (s.data.toList.take k).length = k := by rw [List.length_take, ← Lib.size_eq]; omega
  have e : nameFrom 0 (s.data.toList.take (k + 1)) = false := by rw [take_snoc s k h, nameFrom_append, hl]; simp [nameFrom, hp]
  have e2 : nameFrom 0 s.data.toList = false := by
    rw [← List.take_append_drop (k + 1) s.data.toList, nameFrom_append, e]; rfl
  simp [nameB, e2]
theorem name_end {s : ByteArray} (h : nameFrom 0 s.data.toList = true) : nameB s.data.toList = (decide (1 ≤ s.size) && decide (s.size ≤ 8)) := by
  unfold nameB; rw [h, ← Lib.size_eq]; rfl
theorem nameAt_low {i : Nat} {c : UInt8} (h : lowB c = true) : nameAt i c = true := by simp [nameAt, h]
theorem nameAt_digit {i : Nat} {c : UInt8} (hi : i ≠ 0) (h : digitB c = true) : nameAt i c = true := by simp [nameAt, h, hi]
theorem nameAt_zero {c : UInt8} (h : lowB c = false) : nameAt 0 c = false := by simp [nameAt, h]
theorem nameAt_not {i : Nat} {c : UInt8} (h : lowB c = false) (hd : digitB c = false) : nameAt i c = false := by simp [nameAt, h, hd]

theorem name_size (n : Nat) : (decide ((1 : Int) ≤ (n : Int)) && decide ((n : Int) ≤ 8)) = (decide (1 ≤ n) && decide (n ≤ 8)) := by
  congr 1 <;> exact decide_eq_decide.2 (by omega)
theorem digits_size (s : ByteArray) : decide (0 < s.size) = !s.data.toList.isEmpty := by
  rw [Lib.size_eq]; cases s.data.toList <;> simp

theorem nameAt_true {i : Nat} {c : UInt8} (h : ((97 : Int) ≤ (c.toNat : Int) ∧ (c.toNat : Int) ≤ 122) ∨ (i ≠ 0 ∧ (48 : Int) ≤ (c.toNat : Int) ∧ (c.toNat : Int) ≤ 57)) : nameAt i c = true := by
  rcases h with ⟨h1, h2⟩ | ⟨h0, h1, h2⟩
  · exact nameAt_low (low_yes h1 h2)
  · exact nameAt_digit h0 (digit_yes h1 h2)
theorem nameAt_false {i : Nat} {c : UInt8} (h : ¬ (((97 : Int) ≤ (c.toNat : Int) ∧ (c.toNat : Int) ≤ 122) ∨ (i ≠ 0 ∧ (48 : Int) ≤ (c.toNat : Int) ∧ (c.toNat : Int) ≤ 57))) : nameAt i c = false := by
  rw [Bool.eq_false_iff]
  intro hn
  apply h
  simp only [nameAt, lowB, digitB, Bool.or_eq_true, Bool.and_eq_true, decide_eq_true_eq] at hn
  rcases hn with hn | hn
  · exact .inl hn
  · exact .inr ⟨hn.1, hn.2⟩
theorem digit_of_low {c : UInt8} (h1 : (97 : Int) ≤ (c.toNat : Int)) : digitB c = false := digit_high (by omega)
theorem digit_of_high {c : UInt8} (h1 : (122 : Int) < (c.toNat : Int)) : digitB c = false := digit_high (by omega)
theorem dec_high {c : UInt8} (h1 : (122 : Int) < (c.toNat : Int)) : decide ((c.toNat : Int) ≤ 122) = false := decide_eq_false (by omega)
theorem byte_case (c : UInt8) : ((97 : Int) ≤ (c.toNat : Int) ∧ (c.toNat : Int) ≤ 122) ∨ ((48 : Int) ≤ (c.toNat : Int) ∧ (c.toNat : Int) ≤ 57) ∨ (c.toNat : Int) < 48 ∨ ((57 : Int) < (c.toNat : Int) ∧ (c.toNat : Int) < 97) ∨ (122 : Int) < (c.toNat : Int) := by omega

end Go.Proofs.YtciiokegifgbdaaDoor
