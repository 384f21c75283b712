/- Plain mathematics over lists of bytes: shifted words and common starts. Conditions: none beyond the hypotheses of each lemma. -/
import Derived.Test.YtoljoaknnbgjiaaPlain1
namespace Go.Proofs.Ytoljoaknnbgjiaa
open Go.RowKit

/-- how long the common start of two lists is -/
def commonLen : List UInt8 → List UInt8 → Nat
  | a :: l, b :: r => if a = b then commonLen l r + 1 else 0
  | _, _ => 0

def shiftW (l : List UInt8) (k : Int) : List UInt8 := if wordB l = true ∧ 0 ≤ k ∧ k ≤ l.length then l.drop k.toNat ++ l.take k.toNat else []
theorem shiftW_in (s : ByteArray) (n : Nat) (hw : wordB s.data.toList = true) (hn : n ≤ s.size) : (⟨(shiftW s.data.toList (n : Int)).toArray⟩ : ByteArray) = s.extract n s.size ++ s.extract 0 n := by
  have h2 : (n : Int) ≤ (s.data.toList.length : Int) := by rw [← Lib.size_eq]; omega
  unfold shiftW
  rw [if_pos ⟨hw, by omega, h2⟩, Int.toNat_natCast]
  apply ByteArray.ext
  apply Array.ext'
  simp only [ByteArray.data_append, Array.toList_append, Lib.extract_data, List.drop_zero, Nat.sub_zero]
  rw [List.take_of_length_le (l := s.data.toList.drop n) (by rw [List.length_drop, ← Lib.size_eq]; omega)]
theorem shiftW_out (s : ByteArray) (k : Int) (hk : ¬ (0 ≤ k ∧ k ≤ s.size)) : shiftW s.data.toList k = [] := by
  unfold shiftW
  rw [if_neg]
  rintro ⟨_, h1, h2⟩
  rw [← Lib.size_eq] at h2
  exact hk ⟨h1, h2⟩
theorem common_split : ∀ (k : Nat) (l r : List UInt8), l.take k = r.take k → k ≤ l.length → k ≤ r.length → commonLen l r = k + commonLen (l.drop k) (r.drop k)
  | 0, l, r, _, _, _ => by simp
  | k + 1, [], r, _, h, _ => by simp at h
  | k + 1, a :: l, [], _, _, h => by simp at h
  | k + 1, a :: l, b :: r, h, h1, h2 => by
    simp only [List.take_succ_cons, List.cons.injEq] at h
    simp only [List.length_cons] at h1 h2
    rw [commonLen, if_pos h.1, common_split k l r h.2 (by omega) (by omega)]
    simp only [List.drop_succ_cons]
    omega
theorem drop_byte (s : ByteArray) (k : Nat) (h : k < s.size) : s.data.toList.drop k = s[k] :: s.data.toList.drop (k + 1) := by
  rw [List.drop_eq_getElem_cons (by rw [← Lib.size_eq]; exact h)]; rfl
theorem drop_end (s : ByteArray) (k : Nat) (h : s.size ≤ k) : s.data.toList.drop k = [] := List.drop_eq_nil_of_le (by rw [← Lib.size_eq]; exact h)
theorem common_at (v s : ByteArray) (k : Nat) (h : v.data.toList.take k = s.data.toList.take k) (h1 : k ≤ v.size) (h2 : k ≤ s.size)
    (hd : ¬ (k < v.size) ∨ ¬ (k < s.size) ∨ ∃ (a : k < v.size) (b : k < s.size), ((v[k].toNat : Int) == (s[k].toNat : Int)) = false) : (commonLen v.data.toList s.data.toList : Int) = (k : Int) := by
  rw [common_split k _ _ h (by rw [← Lib.size_eq]; exact h1) (by rw [← Lib.size_eq]; exact h2)]
  have e : commonLen (v.data.toList.drop k) (s.data.toList.drop k) = 0 := by
    rcases hd with hd | hd | ⟨a, b, hd⟩
    · rw [drop_end v k (by omega)]; rfl
    · rw [drop_end s k (by omega)]; cases v.data.toList.drop k <;> rfl
    · rw [drop_byte v k a, drop_byte s k b, commonLen, if_neg]
      intro e; rw [e] at hd; simp at hd
  rw [e]; simp
theorem common_next (v s : ByteArray) (k : Nat) (h : v.data.toList.take k = s.data.toList.take k) (a : k < v.size) (b : k < s.size) (he : ((v[k].toNat : Int) == (s[k].toNat : Int)) = true) :
    v.data.toList.take (k + 1) = s.data.toList.take (k + 1) := by
  rw [take_snoc v k a, take_snoc s k b, h]
  have e : v[k] = s[k] := by
    apply UInt8.toNat_inj.1
    have := beq_iff_eq.1 he
    omega
  rw [e]
end Go.Proofs.Ytoljoaknnbgjiaa
