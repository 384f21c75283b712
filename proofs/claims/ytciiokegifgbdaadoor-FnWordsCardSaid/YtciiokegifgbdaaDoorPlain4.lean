/- Plain mathematics: which lists of strings are substitutions. Conditions: none beyond the hypotheses of each lemma. -/
import Derived.Test.YtciiokegifgbdaaDoorPlain1
namespace Go.Proofs.YtciiokegifgbdaaDoor
open Go.RowKit

/-- all letters are among the first n -/
def inB (n : Nat) (l : List UInt8) : Bool := l.all fun c => decide ((c.toNat : Int) - 97 < n)
/-- an image over n letters -/
def okImg (n : Nat) (l : List UInt8) : Bool := (decide ((1 : Int) ≤ (l.length : Int)) && decide ((l.length : Int) ≤ 8)) && (inB n l && wordB l)
/-- a substitution -/
def substB (xs : List ByteArray) : Bool := (xs.all fun s => okImg xs.length s.data.toList) && (decide ((1 : Int) ≤ (xs.length : Int)) && decide ((xs.length : Int) ≤ 4))

theorem inB_step (n : Nat) (s : ByteArray) (k : Nat) (h : k < s.size) (ha : inB n (s.data.toList.take k) = true) (hp : (s[k].toNat : Int) - 97 < n) : inB n (s.data.toList.take (k + 1)) = true :=
  all_step _ s k h ha (by simpa using hp)
theorem inB_fail (n : Nat) (s : ByteArray) (k : Nat) (h : k < s.size) (hp : (n : Int) ≤ (s[k].toNat : Int) - 97) : inB n s.data.toList = false :=
  all_fail _ s k h (by simpa using by omega)
theorem img_step (n : Nat) (xs : List ByteArray) (k : Nat) (h : k < xs.length) (ha : ((xs.take k).all fun s => okImg n s.data.toList) = true) (hp : okImg n xs[k].data.toList = true) :
    ((xs.take (k + 1)).all fun s => okImg n s.data.toList) = true := by
  rw [List.take_succ_eq_append_getElem h, List.all_append, ha]; simp [hp]
theorem img_fail (xs : List ByteArray) (k : Nat) (h : k < xs.length) (hp : okImg xs.length xs[k].data.toList = false) : substB xs = false := by
  have e : (xs.all fun s => okImg xs.length s.data.toList) = false := by
    rw [List.all_eq_false]
    exact ⟨xs[k], List.getElem_mem h, by simp [hp]⟩
  unfold substB; rw [e]; rfl
theorem subst_end (xs : List ByteArray) (ha : ((xs.take xs.length).all fun s => okImg xs.length s.data.toList) = true) : substB xs = (decide ((1 : Int) ≤ (xs.length : Int)) && decide ((xs.length : Int) ≤ 4)) := by
  rw [List.take_length] at ha
  unfold substB; rw [ha, Bool.true_and]
theorem subst_many (xs : List ByteArray) (h : (decide ((1 : Int) ≤ (xs.length : Int)) && decide ((xs.length : Int) ≤ 4)) = false) : substB xs = false := by
  unfold substB; rw [h, Bool.and_false]
theorem subst_parts {xs : List ByteArray} (h : substB xs = true) : 1 ≤ xs.length ∧ xs.length ≤ 4 ∧ ∀ s ∈ xs, 1 ≤ s.size ∧ s.size ≤ 8 ∧ inB xs.length s.data.toList = true ∧ wordB s.data.toList = true := by
  simp only [substB, Bool.and_eq_true, decide_eq_true_eq, List.all_eq_true] at h
  obtain ⟨h1, h2, h3⟩ := h
  refine ⟨by omega, by omega, fun s hs => ?_⟩
  have := h1 s hs
  simp only [okImg, Bool.and_eq_true, decide_eq_true_eq] at this
  rw [← Lib.size_eq] at this
  exact ⟨by omega, by omega, this.2.1, this.2.2⟩
theorem okImg_size (n : Nat) (s : ByteArray) : okImg n s.data.toList = ((decide ((1 : Int) ≤ (s.size : Int)) && decide ((s.size : Int) ≤ 8)) && (inB n s.data.toList && wordB s.data.toList)) := by
  unfold okImg; rw [← Lib.size_eq]
theorem word_letters {l : List UInt8} (h : wordB l = true) : l.all letterB = true := by
  unfold wordB at h; rw [Bool.and_eq_true] at h; exact h.2
theorem word_byte {s : ByteArray} (h : s.data.toList.all letterB = true) (k : Nat) (hk : k < s.size) : (97 : Int) ≤ (s[k].toNat : Int) ∧ (s[k].toNat : Int) ≤ 100 := by
  have hm : s[k] ∈ s.data.toList := by rw [ByteArray.getElem_eq_getElem_data, ← Array.getElem_toList]; exact List.getElem_mem _
  have := List.all_eq_true.1 h _ hm
  simpa [letterB] using this
theorem word_len {s : ByteArray} (h : wordB s.data.toList = true) : s.size ≤ 400 := by
  unfold wordB at h; rw [Bool.and_eq_true, ← Lib.size_eq] at h; simpa using h.1
end Go.Proofs.YtciiokegifgbdaaDoor
