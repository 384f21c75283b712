/- Plain mathematics over lists of bytes: which strings are words, names, digits. Conditions: none beyond the hypotheses of each lemma. -/
import Derived.WalkKit
import Derived.Lib.Strings
namespace Go.Proofs.YtciiokegifgbdaaDoor
open Go.RowKit

theorem take_snoc (s : ByteArray) (k : Nat) (h : k < s.size) : s.data.toList.take (k + 1) = s.data.toList.take k ++ [s[k]] := by
  rw [List.take_succ_eq_append_getElem (by simpa using h)]; rfl
theorem take_all (s : ByteArray) (k : Nat) (h : s.size ≤ k) : s.data.toList.take k = s.data.toList :=
  List.take_of_length_le (by rw [← Lib.size_eq]; exact h)
theorem ret_bool {a b : Bool} (h : a = b) : Ending.returned (.bool a) = .returned (.bool b) := by rw [h]
theorem ret_int {k : IntKind} {a b : Int} (h : a = b) : Ending.returned (.int k a) = .returned (.int k b) := by rw [h]

/-- one of the letters a, b, c, d -/
def letterB (c : UInt8) : Bool := decide (97 ≤ (c.toNat : Int)) && decide ((c.toNat : Int) ≤ 100)
/-- a word: at most 400 letters -/
def wordB (l : List UInt8) : Bool := decide (l.length ≤ 400) && l.all letterB

theorem all_step (p : UInt8 → Bool) (s : ByteArray) (k : Nat) (h : k < s.size) (ha : (s.data.toList.take k).all p = true) (hp : p s[k] = true) : (s.data.toList.take (k + 1)).all p = true := by
  rw [take_snoc s k h, List.all_append, ha]; simp [hp]
theorem all_fail (p : UInt8 → Bool) (s : ByteArray) (k : Nat) (h : k < s.size) (hp : p s[k] = false) : s.data.toList.all p = false := by
  rw [List.all_eq_false]
  exact ⟨s[k], by rw [ByteArray.getElem_eq_getElem_data, ← Array.getElem_toList]; exact List.getElem_mem _, by simp [hp]⟩
theorem letter_yes {c : UInt8} (h1 : (97 : Int) ≤ (c.toNat : Int)) (h2 : (c.toNat : Int) ≤ 100) : letterB c = true := by simp [letterB, h1, h2]
theorem letter_low {c : UInt8} (h1 : (c.toNat : Int) < 97) : letterB c = false := by unfold letterB; rw [decide_eq_false (by omega)]; rfl
theorem letter_high {c : UInt8} (h1 : (100 : Int) < (c.toNat : Int)) : letterB c = false := by unfold letterB; rw [decide_eq_false (p := (c.toNat : Int) ≤ 100) (by omega)]; simp
theorem word_fail {l : List UInt8} (h : l.all letterB = false) : wordB l = false := by simp [wordB, h]
theorem word_size {s : ByteArray} (h : s.data.toList.all letterB = true) : wordB s.data.toList = decide ((s.size : Int) ≤ 400) := by
  unfold wordB; rw [h, Bool.and_true, ← Lib.size_eq]; congr 1; exact propext (by omega)
theorem word_long {s : ByteArray} (h : 400 < s.size) : wordB s.data.toList = false := by
  unfold wordB; rw [decide_eq_false (by rw [← Lib.size_eq]; omega)]; rfl
theorem word_short {s : ByteArray} (h4 : ¬ 400 < s.size) (h : s.data.toList.all letterB = true) : wordB s.data.toList = true := by
  rw [word_size h]; exact decide_eq_true (by omega)
end Go.Proofs.YtciiokegifgbdaaDoor
