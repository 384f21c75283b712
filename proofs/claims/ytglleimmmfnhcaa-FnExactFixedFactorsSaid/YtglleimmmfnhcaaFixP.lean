/- Plain mathematics: the fixed point of a growing letter, and one letter of it. Conditions: none beyond the hypotheses of each lemma. -/
import Derived.Test.YtglleimmmfnhcaaPlain7
namespace Go.Proofs.Ytglleimmmfnhcaa
open Go.RowKit

/-- a letter with an image that is growing -/
structure Grows (xs : List ByteArray) (c : UInt8) : Prop where
  ok : substB xs = true
  img : imgB xs [c] = true
  gr : growC xs c = true
/-- the letters of the fixed point after t more images -/
def fixIt (xs : List ByteArray) (c : UInt8) : Nat → List UInt8
  | 0 => (imgAt xs c).data.toList
  | t + 1 => fixIt xs c t ++ (imgAt xs ((fixIt xs c t).getD (t + 1) 0)).data.toList
theorem grows_letters {xs : List ByteArray} {c : UInt8} (h : Grows xs c) : Letters xs [c] := by
  have h1 := h.img
  simp only [imgB, Bool.and_eq_true, decide_eq_true_eq] at h1
  intro a ha
  rw [List.mem_singleton] at ha; subst ha
  have h2 := h1.1
  simp only [letterB, Bool.and_eq_true, decide_eq_true_eq] at h2
  exact ⟨h1.1, by omega⟩
theorem grows_img {xs : List ByteArray} {c : UInt8} (h : Grows xs c) : 2 ≤ (imgAt xs c).data.toList.length ∧ (imgAt xs c).data.toList.take 1 = [c] := by
  have h1 := h.gr
  simp only [growC, Bool.and_eq_true, decide_eq_true_eq, beq_iff_eq] at h1
  obtain ⟨h1, h2⟩ := h1
  rw [Lib.size_eq] at h1
  refine ⟨by omega, ?_⟩
  match hl : (imgAt xs c).data.toList, h1, h2 with
  | a :: l, _, h2 => simp at h2; subst h2; rfl
theorem applyL_one (xs : List ByteArray) (c : UInt8) : applyL xs [c] = (imgAt xs c).data.toList := by simp [applyL]
theorem fixIt_facts {xs : List ByteArray} {c : UInt8} (h : Grows xs c) : ∀ t, fixIt xs c t = applyL xs ((fixIt xs c t).take (t + 1)) ∧ (fixIt xs c t).take 1 = [c] ∧ t + 2 ≤ (fixIt xs c t).length ∧ Letters xs (fixIt xs c t)
  | 0 => by
    obtain ⟨h1, h2⟩ := grows_img h
    refine ⟨by rw [fixIt, h2, applyL_one], h2, h1, ?_⟩
    rw [fixIt, ← applyL_one]
    exact letters_apply h.ok (grows_letters h)
  | t + 1 => by
    obtain ⟨h1, h2, h3, h4⟩ := fixIt_facts h t
    have hlt : t + 1 < (fixIt xs c t).length := by omega
    have hg : (fixIt xs c t).getD (t + 1) 0 = (fixIt xs c t)[t + 1] := by rw [List.getD_eq_getElem?_getD, List.getElem?_eq_getElem hlt]; rfl
    have hm := h4 _ (List.getElem_mem hlt)
    have hi := (imgAt_ok h.ok hm.2)
    have hle : t + 1 + 1 ≤ (fixIt xs c t).length := by omega
    rw [fixIt, hg]
    refine ⟨?_, ?_, ?_, ?_⟩
    · rw [List.take_append_of_le_length hle, List.take_succ_eq_append_getElem hlt, applyL_append, applyL_one, ← h1]
    · rw [List.take_append_of_le_length (by omega), h2]
    · rw [List.length_append, ← Lib.size_eq]; omega
    · intro a ha
      rw [List.mem_append] at ha
      rcases ha with ha | ha
      · exact h4 a ha
      · exact letters_of_word hi.2.2 a ha
theorem fixIt_pre (xs : List ByteArray) (c : UInt8) (t : Nat) : ∀ d, fixIt xs c t <+: fixIt xs c (t + d)
  | 0 => List.prefix_refl _
  | d + 1 => by
    rw [← Nat.add_assoc, fixIt]
    exact (fixIt_pre xs c t d).trans (List.prefix_append _ _)
theorem pre_take {p q : List UInt8} (h : p <+: q) {n : Nat} (hn : n ≤ p.length) : p.take n = q.take n := by
  obtain ⟨r, rfl⟩ := h
  rw [List.take_append_of_le_length hn]
theorem pre_get {p q : List UInt8} (h : p <+: q) {n : Nat} (hn : n < p.length) : q[n]? = p[n]? := by
  obtain ⟨r, rfl⟩ := h
  rw [List.getElem?_append_left hn]
/-- the first n letters of the fixed point -/
def fixR (xs : List ByteArray) (c : UInt8) (n : Nat) : List UInt8 := (fixIt xs c n).take n
theorem fix_take {xs : List ByteArray} {c : UInt8} (h : Grows xs c) {t n : Nat} (hn : n ≤ (fixIt xs c t).length) : (fixIt xs c t).take n = fixR xs c n := by
  unfold fixR
  rcases Nat.le_total t n with h1 | h1
  · obtain ⟨d, rfl⟩ : ∃ d, n = t + d := ⟨n - t, by omega⟩
    exact pre_take (fixIt_pre xs c t d) hn
  · obtain ⟨d, rfl⟩ : ∃ d, t = n + d := ⟨t - n, by omega⟩
    exact (pre_take (fixIt_pre xs c n d) (by have := (fixIt_facts h n).2.2.1; omega)).symm
theorem fixR_len {xs : List ByteArray} {c : UInt8} (h : Grows xs c) (n : Nat) : (fixR xs c n).length = n := by
  unfold fixR; rw [List.length_take]; have := (fixIt_facts h n).2.2.1; omega
theorem fixR_letters {xs : List ByteArray} {c : UInt8} (h : Grows xs c) (n : Nat) : Letters xs (fixR xs c n) := fun a ha => (fixIt_facts h n).2.2.2 a (List.mem_of_mem_take ha)
/-- how far one more image goes -/
theorem fixIt_next {xs : List ByteArray} {c : UInt8} (h : Grows xs c) (t : Nat) (hlt : t + 1 < (fixIt xs c t).length) : fixIt xs c (t + 1) = fixIt xs c t ++ (imgAt xs (fixIt xs c t)[t + 1]).data.toList ∧ letterB (fixIt xs c t)[t + 1] = true ∧ (fixIt xs c t)[t + 1].toNat - 97 < xs.length ∧ (imgAt xs (fixIt xs c t)[t + 1]).size ≤ 8 := by
  have hg : (fixIt xs c t).getD (t + 1) 0 = (fixIt xs c t)[t + 1] := by rw [List.getD_eq_getElem?_getD, List.getElem?_eq_getElem hlt]; rfl
  have hm := (fixIt_facts h t).2.2.2 _ (List.getElem_mem hlt)
  exact ⟨by rw [fixIt, hg], hm.1, hm.2, (imgAt_ok h.ok hm.2).2.1⟩

/-- m applications -/
def powL (xs : List ByteArray) : Nat → List UInt8 → List UInt8
  | 0, l => l
  | m + 1, l => powL xs m (applyL xs l)
theorem powL_append (xs : List ByteArray) : ∀ (m : Nat) (l r : List UInt8), powL xs m (l ++ r) = powL xs m l ++ powL xs m r
  | 0, _, _ => rfl
  | m + 1, l, r => by rw [powL, powL, powL, applyL_append, powL_append]
theorem powL_out (xs : List ByteArray) : ∀ (m : Nat) (l : List UInt8), powL xs (m + 1) l = applyL xs (powL xs m l)
  | 0, _ => rfl
  | m + 1, l => by rw [powL, powL_out xs m (applyL xs l)]; rfl
theorem applyL_pre (xs : List ByteArray) {p q : List UInt8} (h : p <+: q) : applyL xs p <+: applyL xs q := by
  obtain ⟨r, rfl⟩ := h
  rw [applyL_append]; exact List.prefix_append _ _
theorem pow_fix {xs : List ByteArray} {c : UInt8} (h : Grows xs c) (t : Nat) : ∀ m, powL xs m [c] <+: fixIt xs c t ∨ fixIt xs c t <+: powL xs m [c]
  | 0 => by
    refine .inl ?_
    show [c] <+: _
    rw [← (fixIt_facts h t).2.1]
    exact List.take_prefix _ _
  | m + 1 => by
    obtain ⟨h1, _, _, _⟩ := fixIt_facts h t
    have key : powL xs m [c] <+: (fixIt xs c t).take (t + 1) ∨ (fixIt xs c t).take (t + 1) <+: powL xs m [c] := by
      rcases pow_fix h t m with h2 | h2
      · exact List.prefix_or_prefix_of_prefix h2 (List.take_prefix _ _)
      · exact .inr ((List.take_prefix _ _).trans h2)
    rw [powL_out]
    rcases key with h2 | h2
    · refine .inl ?_
      rw [h1]; exact applyL_pre xs h2
    · refine .inr ?_
      rw [h1]; exact applyL_pre xs h2
theorem pow_letter {xs : List ByteArray} {c : UInt8} (h : Grows xs c) {t m n : Nat} (h1 : n < (fixIt xs c t).length) (h2 : n < (powL xs m [c]).length) : (powL xs m [c])[n]? = (fixIt xs c t)[n]? := by
  rcases pow_fix h t m with h3 | h3
  · exact (pre_get h3 h2).symm
  · exact pre_get h3 h1
/-- a length, as the reference counts it -/
def capN (n : Nat) : Nat := min 10001 n
theorem powL_letters {xs : List ByteArray} (hx : substB xs = true) : ∀ (m : Nat) {l : List UInt8}, Letters xs l → Letters xs (powL xs m l)
  | 0, _, h => h
  | m + 1, _, h => powL_letters hx m (letters_apply hx h)
theorem applyL_ge {xs : List ByteArray} (hx : substB xs = true) : ∀ {l : List UInt8}, Letters xs l → l.length ≤ (applyL xs l).length
  | [], _ => Nat.zero_le _
  | c :: l, h => by
    have h1 := applyL_ge hx (l := l) fun a ha => h a (List.mem_cons_of_mem _ ha)
    have h2 := (imgAt_ok hx (h c List.mem_cons_self).2).1
    rw [applyL_cons, List.length_append, ← Lib.size_eq, List.length_cons]; omega
theorem powL_ge {xs : List ByteArray} (hx : substB xs = true) : ∀ (m : Nat) {l : List UInt8}, Letters xs l → l.length ≤ (powL xs m l).length
  | 0, _, _ => Nat.le_refl _
  | m + 1, _, h => Nat.le_trans (applyL_ge hx h) (powL_ge hx m (letters_apply hx h))
/-- a growing letter gets longer each time -/
theorem pow_grow {xs : List ByteArray} {c : UInt8} (h : Grows xs c) (m : Nat) : (powL xs m [c]).length < (powL xs (m + 1) [c]).length := by
  obtain ⟨h1, h2⟩ := grows_img h
  have e : (imgAt xs c).data.toList = [c] ++ (imgAt xs c).data.toList.drop 1 := by rw [← h2, List.take_append_drop]
  rw [powL, applyL_one, e, powL_append, List.length_append]
  have hL : Letters xs ((imgAt xs c).data.toList.drop 1) := by
    intro a ha
    have := letters_apply h.ok (grows_letters h)
    rw [applyL_one] at this
    exact this a (List.mem_of_mem_drop ha)
  have := powL_ge h.ok m hL
  rw [List.length_drop] at this
  omega
end Go.Proofs.Ytglleimmmfnhcaa
