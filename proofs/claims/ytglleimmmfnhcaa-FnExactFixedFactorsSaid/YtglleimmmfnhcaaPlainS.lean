/- Plain mathematics: a list of strings, sorted and each once. Conditions: none beyond the hypotheses of each lemma. -/
import Derived.Lib.SlicesCompact
import Derived.Sort.EncStr
namespace Go.Proofs.Ytglleimmmfnhcaa
open Go

abbrev leB : List UInt8 → List UInt8 → Bool := fun x y => decide (x ≤ y)
theorem leB_trans (a b c : List UInt8) (h : leB a b = true) (k : leB b c = true) : leB a c = true := decide_eq_true (List.le_trans (of_decide_eq_true h) (of_decide_eq_true k))
theorem leB_total (a b : List UInt8) : (leB a b || leB b a) = true := by
  rcases List.le_total a b with h | h <;> simp [leB, h]
theorem lt_of_le_ne {a b : List UInt8} (h : a ≤ b) (hn : a ≠ b) : a < b := by
  rcases Decidable.em (a < b) with h1 | h1
  · exact h1
  · exact absurd (List.le_antisymm h (List.not_lt.1 h1)) hn
/-- sorted, and each once -/
def srt (ss : List (List UInt8)) : List (List UInt8) := Lib.compact (ss.mergeSort leB)

theorem upTo_facts (d : Array (List UInt8)) (hd : ∀ i j, i < j → j < d.size → d[i]! ≤ d[j]!) : ∀ m, m ≤ d.size →
    (Lib.compactUpTo d m).Pairwise (· < ·) ∧ (∀ x ∈ Lib.compactUpTo d m, ∀ j, m ≤ j + 1 → j < d.size → x ≤ d[j]!) ∧ (∀ x, x ∈ Lib.compactUpTo d m ↔ ∃ j, j < m ∧ d[j]! = x)
  | 0, _ => ⟨by simp [Lib.compactUpTo], by intro x hx; simp [Lib.compactUpTo] at hx, by intro x; simp [Lib.compactUpTo]⟩
  | m + 1, hm => by
    obtain ⟨h1, h2, h3⟩ := upTo_facts d hd m (by omega)
    rw [Lib.compactUpTo_succ]
    cases hk : Lib.keeps d m
    · simp only [Bool.false_eq_true, if_false, List.append_nil]
      have hk' : ¬ (m = 0 ∨ d[m]! ≠ d[m - 1]!) := by intro h; simp [Lib.keeps, h] at hk
      have hm0 : m ≠ 0 := fun e => hk' (.inl e)
      have he : d[m]! = d[m - 1]! := Decidable.byContradiction fun e => hk' (.inr e)
      refine ⟨h1, fun x hx j hj hj2 => h2 x hx j (by omega) hj2, fun x => ?_⟩
      rw [h3 x]
      constructor
      · rintro ⟨j, hj, e⟩; exact ⟨j, by omega, e⟩
      · rintro ⟨j, hj, e⟩
        by_cases hjm : j = m
        · subst hjm; exact ⟨j - 1, by omega, by rw [← he]; exact e⟩
        · exact ⟨j, by omega, e⟩
    · simp only [if_true]
      have hk' : m = 0 ∨ d[m]! ≠ d[m - 1]! := of_decide_eq_true hk
      refine ⟨?_, ?_, ?_⟩
      · rw [List.pairwise_append]
        refine ⟨h1, List.pairwise_singleton _ _, fun a ha b hb => ?_⟩
        rw [List.mem_singleton] at hb; subst hb
        obtain ⟨j, hj, e⟩ := (h3 a).1 ha
        rcases hk' with h0 | hne
        · omega
        · refine lt_of_le_ne (h2 a ha m (by omega) (by omega)) fun e2 => ?_
          have h4 := h2 a ha (m - 1) (by omega) (by omega)
          rw [e2] at h4
          exact hne (List.le_antisymm h4 (hd (m - 1) m (by omega) (by omega)))
      · intro x hx j hj hj2
        have hle : d[m]! ≤ d[j]! := by
          by_cases e : j = m
          · subst e; exact List.le_refl _
          · exact hd m j (by omega) hj2
        rw [List.mem_append, List.mem_singleton] at hx
        rcases hx with hx | hx
        · exact List.le_trans (h2 x hx m (by omega) (by omega)) hle
        · subst hx; exact hle
      · intro x
        rw [List.mem_append, List.mem_singleton, h3 x]
        constructor
        · rintro (⟨j, hj, e⟩ | e)
          · exact ⟨j, by omega, e⟩
          · exact ⟨m, by omega, e.symm⟩
        · rintro ⟨j, hj, e⟩
          by_cases hjm : j = m
          · subst hjm; exact .inr e.symm
          · exact .inl ⟨j, by omega, e⟩
theorem srt_facts (ss : List (List UInt8)) : (srt ss).Pairwise (· < ·) ∧ ∀ x, x ∈ srt ss ↔ x ∈ ss := by
  have hp := List.pairwise_mergeSort leB_trans leB_total ss
  have hd : ∀ i j, i < j → j < (ss.mergeSort leB).toArray.size → (ss.mergeSort leB).toArray[i]! ≤ (ss.mergeSort leB).toArray[j]! := by
    intro i j hij hj
    have hj' : j < (ss.mergeSort leB).length := by simpa using hj
    have := List.pairwise_iff_getElem.1 hp i j (by omega) hj' hij
    rw [getElem!_pos _ i (by simp at hj' ⊢; omega), getElem!_pos _ j hj]
    simpa [leB] using this
  have h := upTo_facts _ hd _ (Nat.le_refl _)
  have e : Lib.compactUpTo (ss.mergeSort leB).toArray (ss.mergeSort leB).toArray.size = srt ss := by unfold srt Lib.compact; simp
  rw [e] at h
  refine ⟨h.1, fun x => ?_⟩
  rw [h.2.2 x, ← List.mem_mergeSort (le := leB)]
  constructor
  · rintro ⟨j, hj, hx⟩
    rw [getElem!_pos _ j hj] at hx
    rw [← hx]; simp
  · intro hx
    obtain ⟨j, hj, e⟩ := List.mem_iff_getElem.1 hx
    exact ⟨j, by simpa using hj, by rw [getElem!_pos _ j (by simpa using hj)]; simpa using e⟩
theorem strict_unique : ∀ {l m : List (List UInt8)}, l.Pairwise (· < ·) → m.Pairwise (· < ·) → (∀ x, x ∈ l ↔ x ∈ m) → l = m
  | [], [], _, _, _ => rfl
  | [], b :: m, _, _, h => by have := (h b).2 List.mem_cons_self; cases this
  | a :: l, [], _, _, h => by have := (h a).1 List.mem_cons_self; cases this
  | a :: l, b :: m, hl, hm, h => by
    rw [List.pairwise_cons] at hl hm
    have hab : a = b := by
      have h1 := (h a).1 List.mem_cons_self
      have h2 := (h b).2 List.mem_cons_self
      rw [List.mem_cons] at h1 h2
      rcases h1 with h1 | h1
      · exact h1
      rcases h2 with h2 | h2
      · exact h2.symm
      exact absurd (List.lt_trans (hl.1 b h2) (hm.1 a h1)) (List.lt_irrefl a)
    subst hab
    rw [strict_unique hl.2 hm.2 fun x => ?_]
    have hx := h x
    rw [List.mem_cons, List.mem_cons] at hx
    constructor
    · intro h1
      rcases hx.1 (.inr h1) with e | h2
      · subst e; exact absurd (hl.1 x h1) (List.lt_irrefl x)
      · exact h2
    · intro h1
      rcases hx.2 (.inr h1) with e | h2
      · subst e; exact absurd (hm.1 x h1) (List.lt_irrefl x)
      · exact h2
theorem srt_eq {l ss : List (List UInt8)} (hl : l.Pairwise (· < ·)) (h : ∀ x, x ∈ l ↔ x ∈ ss) : l = srt ss :=
  strict_unique hl (srt_facts ss).1 fun x => (h x).trans ((srt_facts ss).2 x).symm
theorem srt_nil : srt [] = [] := (srt_eq List.Pairwise.nil fun _ => Iff.rfl).symm
/-- the place k, from behind, of the reference's insertion: what follows is greater -/
theorem ins_in {ss l : List (List UInt8)} (hl : l = srt ss) {x : List UInt8} (h : x ∈ l) : srt (ss ++ [x]) = l := by
  refine (srt_eq (by rw [hl]; exact (srt_facts ss).1) fun y => ?_).symm
  rw [hl, (srt_facts ss).2 y, List.mem_append, List.mem_singleton]
  refine ⟨.inl, ?_⟩
  rintro (h1 | h1)
  · exact h1
  · subst h1; rw [hl] at h; exact ((srt_facts ss).2 y).1 h
theorem ins_out {ss l : List (List UInt8)} (hl : l = srt ss) {x : List UInt8} {k : Nat} (hk : k ≤ l.length) (h1 : ∀ j (hj : j < l.length), k ≤ j → x < l[j]) (h2 : ∀ h : 0 < k, l[k - 1] < x) :
    srt (ss ++ [x]) = l.take k ++ [x] ++ l.drop k := by
  have hs := (srt_facts ss).1
  rw [← hl] at hs
  have hpg := List.pairwise_iff_getElem.1 hs
  refine (srt_eq ?_ fun y => ?_).symm
  · have e : (l.take k ++ l.drop k).Pairwise (· < ·) := by rw [List.take_append_drop]; exact hs
    rw [List.pairwise_append] at e
    have hlo : ∀ a ∈ l.take k, a < x := by
      intro a ha
      obtain ⟨j, hj, e⟩ := List.mem_iff_getElem.1 ha
      rw [List.length_take] at hj
      rw [List.getElem_take] at e
      have hk0 : 0 < k := by omega
      have := h2 hk0
      by_cases hj2 : j = k - 1
      · subst hj2; rw [← e]; exact this
      · rw [← e]; exact List.lt_trans (hpg j (k - 1) (by omega) (by omega) (by omega)) this
    have hhi : ∀ a ∈ l.drop k, x < a := by
      intro a ha
      obtain ⟨j, hj, e⟩ := List.mem_iff_getElem.1 ha
      rw [List.getElem_drop] at e
      rw [List.length_drop] at hj
      rw [← e]; exact h1 (k + j) (by omega) (by omega)
    rw [List.append_assoc, List.pairwise_append]
    refine ⟨e.1, ?_, ?_⟩
    · rw [List.singleton_append, List.pairwise_cons]
      exact ⟨hhi, e.2.1⟩
    · intro a ha b hb
      rw [List.singleton_append, List.mem_cons] at hb
      rcases hb with hb | hb
      · subst hb; exact hlo a ha
      · exact e.2.2 a ha b hb
  · have hm : y ∈ ss ↔ y ∈ l.take k ++ l.drop k := by rw [List.take_append_drop, hl]; exact ((srt_facts ss).2 y).symm
    rw [List.mem_append, List.mem_append, List.mem_append, hm, List.mem_append, List.mem_singleton]
    constructor
    · rintro ((h | h) | h)
      · exact .inl (.inl h)
      · exact .inr h
      · exact .inl (.inr h)
    · rintro ((h | h) | h)
      · exact .inl (.inl h)
      · exact .inr h
      · exact .inl (.inr h)
theorem srt_len (ss : List (List UInt8)) : (srt ss).length ≤ ss.length := by
  unfold srt Lib.compact Lib.compactUpTo
  rw [List.length_map]
  refine Nat.le_trans (List.length_filter_le _ _) ?_
  rw [List.length_range, List.length_mergeSort]
  exact Nat.le_refl _
end Go.Proofs.Ytglleimmmfnhcaa
