/- Plain mathematics: images of letters and words under a substitution. Conditions: none beyond the hypotheses of each lemma. -/
import Derived.Test.YtciiokegifgbdaaDoorPlain4
namespace Go.Proofs.YtciiokegifgbdaaDoor
open Go.RowKit

/-- the image of a letter -/
def imgAt (xs : List ByteArray) (c : UInt8) : ByteArray := xs.getD (c.toNat - 97) ByteArray.empty
/-- the images of the letters of a word, one after the other -/
def applyL (xs : List ByteArray) (l : List UInt8) : List UInt8 := l.flatMap fun c => (imgAt xs c).data.toList
/-- n applications, where each leaves a word -/
def iterO (xs : List ByteArray) : Nat → List UInt8 → Option (List UInt8)
  | 0, l => some l
  | n + 1, l => if (applyL xs l).length ≤ 400 then iterO xs n (applyL xs l) else none
def wordIn (xs : List ByteArray) (l : List UInt8) : Bool := inB xs.length l && wordB l
/-- what IterateSubst returns -/
def iterP (xs : List ByteArray) (l : List UInt8) (n : Int) : ByteArray × Bool :=
  if substB xs = true ∧ wordIn xs l = true ∧ 0 ≤ n ∧ n ≤ 20 then (match iterO xs n.toNat l with | some r => (⟨r.toArray⟩, true) | none => (⟨#[]⟩, false)) else (⟨#[]⟩, false)

theorem wordIn_byte {xs : List ByteArray} {s : ByteArray} (h : wordIn xs s.data.toList = true) (k : Nat) (hk : k < s.size) : (97 : Int) ≤ (s[k].toNat : Int) ∧ (s[k].toNat : Int) ≤ 100 ∧ (s[k].toNat : Int) - 97 < xs.length := by
  simp only [wordIn, Bool.and_eq_true] at h
  have h1 := word_byte (word_letters h.2) k hk
  refine ⟨h1.1, h1.2, ?_⟩
  have hm : s[k] ∈ s.data.toList := by rw [ByteArray.getElem_eq_getElem_data, ← Array.getElem_toList]; exact List.getElem_mem _
  have := List.all_eq_true.1 h.1 _ hm
  simpa using this
theorem imgAt_get {xs : List ByteArray} {c : UInt8} (h : c.toNat - 97 < xs.length) : imgAt xs c = xs[c.toNat - 97] := by
  unfold imgAt; rw [List.getD_eq_getElem?_getD, List.getElem?_eq_getElem h]; rfl
theorem imgAt_ok {xs : List ByteArray} (hx : substB xs = true) {c : UInt8} (h : c.toNat - 97 < xs.length) : 1 ≤ (imgAt xs c).size ∧ (imgAt xs c).size ≤ 8 ∧ wordIn xs (imgAt xs c).data.toList = true := by
  rw [imgAt_get h]
  have := (subst_parts hx).2.2 _ (List.getElem_mem h)
  exact ⟨this.1, this.2.1, by unfold wordIn; rw [this.2.2.1, this.2.2.2]; rfl⟩
theorem applyL_snoc (xs : List ByteArray) (s : ByteArray) (k : Nat) (h : k < s.size) : applyL xs (s.data.toList.take (k + 1)) = applyL xs (s.data.toList.take k) ++ (imgAt xs s[k]).data.toList := by
  rw [take_snoc s k h]; simp [applyL]
theorem applyL_append (xs : List ByteArray) (l r : List UInt8) : applyL xs (l ++ r) = applyL xs l ++ applyL xs r := by simp [applyL]
theorem applyL_cons (xs : List ByteArray) (c : UInt8) (l : List UInt8) : applyL xs (c :: l) = (imgAt xs c).data.toList ++ applyL xs l := by simp [applyL]
theorem applyL_take_le (xs : List ByteArray) (l : List UInt8) (k : Nat) : (applyL xs (l.take k)).length ≤ (applyL xs l).length := by
  have h : applyL xs l = applyL xs (l.take k ++ l.drop k) := by rw [List.take_append_drop]
  rw [h, applyL_append, List.length_append]; omega
/-- every letter of a list is a letter with an image -/
def Letters (xs : List ByteArray) (l : List UInt8) : Prop := ∀ c ∈ l, letterB c = true ∧ c.toNat - 97 < xs.length
theorem letters_of_word {xs : List ByteArray} {l : List UInt8} (h : wordIn xs l = true) : Letters xs l := by
  simp only [wordIn, Bool.and_eq_true] at h
  intro c hc
  have h1 := List.all_eq_true.1 (word_letters h.2) c hc
  refine ⟨h1, ?_⟩
  have h2 := List.all_eq_true.1 h.1 c hc
  simp only [letterB, Bool.and_eq_true, decide_eq_true_eq] at h1 h2
  omega
theorem word_of_letters {xs : List ByteArray} {l : List UInt8} (h : Letters xs l) (hl : l.length ≤ 400) : wordIn xs l = true := by
  simp only [wordIn, inB, wordB, Bool.and_eq_true, List.all_eq_true, decide_eq_true_eq]
  refine ⟨fun c hc => ?_, hl, fun c hc => (h c hc).1⟩
  have := h c hc
  simp only [letterB, Bool.and_eq_true, decide_eq_true_eq] at this
  omega
theorem letters_word {xs : List ByteArray} {l : List UInt8} (h : Letters xs l) : wordB l = decide (l.length ≤ 400) := by
  unfold wordB
  rw [List.all_eq_true.2 (fun c hc => (h c hc).1), Bool.and_true]
theorem letters_apply {xs : List ByteArray} (hx : substB xs = true) {l : List UInt8} (h : Letters xs l) : Letters xs (applyL xs l) := by
  intro c hc
  simp only [applyL, List.mem_flatMap] at hc
  obtain ⟨a, ha, hc⟩ := hc
  exact letters_of_word (imgAt_ok hx (h a ha).2).2.2 c hc
theorem applyL_len {xs : List ByteArray} (hx : substB xs = true) : ∀ {l : List UInt8}, Letters xs l → (applyL xs l).length ≤ 8 * l.length
  | [], _ => by simp [applyL]
  | c :: l, h => by
    have h1 := applyL_len hx (l := l) fun a ha => h a (List.mem_cons_of_mem _ ha)
    have h2 := (imgAt_ok hx (h c List.mem_cons_self).2).2.1
    rw [applyL_cons, List.length_append, ← Lib.size_eq, List.length_cons]; omega
theorem iterP_bad {xs : List ByteArray} {l : List UInt8} {n : Int} (h : ¬ (substB xs = true ∧ wordIn xs l = true ∧ 0 ≤ n ∧ n ≤ 20)) : iterP xs l n = (⟨#[]⟩, false) := by unfold iterP; rw [if_neg h]
theorem iterP_some {xs : List ByteArray} {l r : List UInt8} {n : Nat} (h : substB xs = true ∧ wordIn xs l = true ∧ 0 ≤ (n : Int) ∧ (n : Int) ≤ 20) (hr : iterO xs n l = some r) : iterP xs l (n : Int) = (⟨r.toArray⟩, true) := by
  unfold iterP; rw [if_pos h, Int.toNat_natCast, hr]
theorem iterP_none {xs : List ByteArray} {l : List UInt8} {n : Nat} (h : substB xs = true ∧ wordIn xs l = true ∧ 0 ≤ (n : Int) ∧ (n : Int) ≤ 20) (hr : iterO xs n l = none) : iterP xs l (n : Int) = (⟨#[]⟩, false) := by
  unfold iterP; rw [if_pos h, Int.toNat_natCast, hr]
theorem wordIn_parts {xs : List ByteArray} {l : List UInt8} (h : wordIn xs l = true) : inB xs.length l = true ∧ wordB l = true := by simpa only [wordIn, Bool.and_eq_true] using h
/-- what the reference's l03Apply returns: all the images, or more than 400 letters of them -/
def CutOf (xs : List ByteArray) (l : List UInt8) (out : ByteArray) : Prop := (out.data.toList = applyL xs l ∨ 400 < out.size) ∧ ∃ k, out.data.toList = applyL xs (l.take k)
theorem cut_big {xs : List ByteArray} {l : List UInt8} {out : ByteArray} (h : CutOf xs l out) (hb : 400 < out.size) : ¬ (applyL xs l).length ≤ 400 := by
  obtain ⟨_, k, hk⟩ := h
  have := applyL_take_le xs l k
  rw [← hk, ← Lib.size_eq] at this
  omega
theorem cut_small {xs : List ByteArray} {l : List UInt8} {out : ByteArray} (h : CutOf xs l out) (hb : ¬ 400 < out.size) : out.data.toList = applyL xs l ∧ (applyL xs l).length ≤ 400 := by
  rcases h.1 with h1 | h1
  · refine ⟨h1, ?_⟩
    rw [← h1, ← Lib.size_eq]; omega
  · exact absurd h1 hb
theorem iterO_big {xs : List ByteArray} {l : List UInt8} (n : Nat) (h : ¬ (applyL xs l).length ≤ 400) : iterO xs (n + 1) l = none := by rw [iterO, if_neg h]
theorem iterO_small {xs : List ByteArray} {l : List UInt8} (n : Nat) (h : (applyL xs l).length ≤ 400) : iterO xs (n + 1) l = iterO xs n (applyL xs l) := by rw [iterO, if_pos h]
theorem word_apply {xs : List ByteArray} (hx : substB xs = true) {l : List UInt8} (h : wordIn xs l = true) (hl : (applyL xs l).length ≤ 400) : wordIn xs (applyL xs l) = true :=
  word_of_letters (letters_apply hx (letters_of_word h)) hl
theorem mk_list (s : ByteArray) {l : List UInt8} (h : s.data.toList = l) : s = ⟨l.toArray⟩ := by subst h; exact (Lib.mk_data s).symm
theorem data_mk (l : List UInt8) : (⟨l.toArray⟩ : ByteArray).data.toList = l := rfl
theorem size_mk (l : List UInt8) : (⟨l.toArray⟩ : ByteArray).size = l.length := rfl
theorem data_append (a b : ByteArray) : (a ++ b).data.toList = a.data.toList ++ b.data.toList := by rw [ByteArray.data_append, Array.toList_append]
end Go.Proofs.YtciiokegifgbdaaDoor
