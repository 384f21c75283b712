/- Walks: how often a letter occurs in a word. -/
import Derived.Test.YtnnkhjjecmldfaaOne
import Derived.Test.YtnnkhjjecmldfaaCounts
import Derived.Test.YtnnkhjjecmldfaaShelf
namespace Go.Proofs.Ytnnkhjjecmldfaa
open Go.RowKit

/-- what CountLetter returns -/
def clR (l t : List UInt8) : Int := if wordB l = true ∧ oneB t = true then (countC l (t.getD 0 0) : Int) else -1
theorem count_same (l : List UInt8) (c : UInt8) : Lib.countByte l c = countC l c := by
  unfold Lib.countByte countC; rw [← List.countP_eq_length_filter]; rfl
theorem one_is {t : ByteArray} (h : oneB t.data.toList = true) : ∃ c, t = ⟨#[c]⟩ ∧ wordB [c] = true := by
  obtain ⟨⟨l⟩⟩ := t
  match l, h with
  | [c], h => exact ⟨c, rfl, by rw [← h]; simp [oneB, wordB]⟩
theorem clR_out {l t : List UInt8} (h : ¬ (wordB l = true ∧ oneB t = true)) : clR l t = -1 := by unfold clR; rw [if_neg h]
theorem clR_in {l : List UInt8} {c : UInt8} (h : wordB l = true) (h2 : oneB [c] = true) : clR l [c] = countC l c := by unfold clR; rw [if_pos ⟨h, h2⟩]; rfl
set_option maxHeartbeats 400000 in
theorem implCountLetter_any (s t : ByteArray) (w : World) (hs : s.size ≤ maxLen) (ht : t.size ≤ maxLen) :
    Calls Try.prog 45 #[.string s, .string t] w fun e w' => e = .returned (.int .i64 (clR s.data.toList t.data.toList)) ∧ w' = w := by
  cases b1 : wordB s.data.toList
  · have HP := Lib.hid (clR_out (l := s.data.toList) (t := t.data.toList) (by simp [b1]))
    go_enter Try.func45, Try.ntmps45
    go_wp2_with (go_at_call 66; refine (isWord_any _ _ hs).mono ?_; rw [b1]; rintro e w' ⟨rfl, rfl⟩)
    go_ret
    exact ⟨by rw [HP.out] <;> rfl, rfl⟩
  have HB1 := Lib.hid b1
  cases b2 : oneB t.data.toList
  · have HP := Lib.hid (clR_out (l := s.data.toList) (t := t.data.toList) (by simp [b2]))
    clear b1
    go_enter Try.func45, Try.ntmps45
    go_wp2_with fail
    refine (isWord_any _ _ hs).mono ?_
    rw [HB1.out]
    rintro e w' ⟨rfl, rfl⟩
    go_wp2_with fail
    refine (isLetter_any _ _ ht).mono ?_
    rw [b2]
    rintro e w' ⟨rfl, rfl⟩
    go_wp2_with fail
    go_ret
    exact ⟨by rw [HP.out] <;> rfl, rfl⟩
  · obtain ⟨c, rfl, _⟩ := one_is b2
    have HP := Lib.hid (clR_in b1 b2)
    have HB2 := Lib.hid b2
    have HC := Lib.hid (Try.strings_Count_one s c w)
    clear b1 b2
    go_enter Try.func45, Try.ntmps45
    go_wp2_with fail
    refine (isWord_any _ _ hs).mono ?_
    rw [HB1.out]
    rintro e w' ⟨rfl, rfl⟩
    go_wp2_with fail
    refine (isLetter_any _ _ ht).mono ?_
    rw [HB2.out]
    rintro e w' ⟨rfl, rfl⟩
    go_wp2_with fail
    refine HC.out.mono ?_
    rintro e w' ⟨rfl, rfl⟩
    go_wp2_with fail
    go_ret
    exact ⟨by rw [HP.out, ← count_same] <;> rfl, rfl⟩
set_option maxHeartbeats 400000 in
theorem specCountLetter_any (s t : ByteArray) (w : World) (hs : s.size ≤ maxLen) (ht : t.size ≤ maxLen) :
    Calls Try.prog 44 #[.string s, .string t] w fun e w' => e = .returned (.int .i64 (clR s.data.toList t.data.toList)) ∧ w' = w := by
  cases b1 : wordB s.data.toList
  · have HP := Lib.hid (clR_out (l := s.data.toList) (t := t.data.toList) (by simp [b1]))
    go_enter Try.func44, Try.ntmps44
    go_wp2_with (go_at_call 64; refine (specWordOk_any _ _ hs).mono ?_; rw [b1]; rintro e w' ⟨rfl, rfl⟩)
    go_ret
    exact ⟨by rw [HP.out] <;> rfl, rfl⟩
  have HB1 := Lib.hid b1
  by_cases h1 : t.size = 1
  · have h2 := oneB_one h1
    cases b2 : wordB t.data.toList
    · have HP := Lib.hid (clR_out (l := s.data.toList) (t := t.data.toList) (by rw [h2, b2]; simp))
      have HB2 := Lib.hid b2
      clear b1 b2 h2
      go_enter Try.func44, Try.ntmps44
      go_wp2_with fail
      refine (specWordOk_any _ _ hs).mono ?_
      rw [HB1.out]
      rintro e w' ⟨rfl, rfl⟩
      go_wp2_with fail
      refine (specWordOk_any _ _ ht).mono ?_
      rw [HB2.out]
      rintro e w' ⟨rfl, rfl⟩
      go_wp2_with fail
      go_ret
      exact ⟨by rw [HP.out] <;> rfl, rfl⟩
    · rw [b2] at h2
      obtain ⟨c, rfl, _⟩ := one_is h2
      have HP := Lib.hid (clR_in b1 h2)
      have HB2 := Lib.hid b2
      have HC := Lib.hid (l02Count_any s c w hs)
      clear b1 b2 h2 h1
      go_enter Try.func44, Try.ntmps44
      go_wp2_with fail
      refine (specWordOk_any _ _ hs).mono ?_
      rw [HB1.out]
      rintro e w' ⟨rfl, rfl⟩
      go_wp2_with fail
      refine (specWordOk_any _ _ ht).mono ?_
      rw [HB2.out]
      rintro e w' ⟨rfl, rfl⟩
      go_wp2_with fail
      refine HC.out.mono ?_
      rintro e w' ⟨rfl, rfl⟩
      go_wp2_with fail
      go_ret
      exact ⟨by rw [HP.out] <;> rfl, rfl⟩
  · have HP := Lib.hid (clR_out (l := s.data.toList) (t := t.data.toList) (by rw [oneB_not h1]; simp))
    clear b1
    go_enter Try.func44, Try.ntmps44
    go_wp2_with fail
    refine (specWordOk_any _ _ hs).mono ?_
    rw [HB1.out]
    rintro e w' ⟨rfl, rfl⟩
    go_wp2_with fail
    go_ret
    exact ⟨by rw [HP.out] <;> rfl, rfl⟩
set_option maxHeartbeats 400000 in
theorem law_CountLetter (s t : ByteArray) (w : World) (hs : s.size ≤ maxLen) (ht : t.size ≤ maxLen) :
    Calls Try.prog 11 #[.string s, .string t] w fun e w' => e = .returned (.bool true) ∧ Below w.heap.size w w' := by
  obtain ⟨c, hc⟩ : ∃ c : Int, c = clR s.data.toList t.data.toList := ⟨_, rfl⟩
  have h1 := fun W => specCountLetter_any s t W hs ht
  have h2 := fun W => implCountLetter_any s t W hs ht
  rw [← hc] at h1 h2
  have H1 := Lib.hid h1; have H2 := Lib.hid h2; clear h1 h2 hc
  go_enter Try.func11, Try.ntmps11
  go_wp2_with (first
    | (go_at_call 44; refine (H1.out _).mono ?_; rintro e w' ⟨rfl, rfl⟩)
    | (go_at_call 45; refine (H2.out _).mono ?_; rintro e w' ⟨rfl, rfl⟩))
  all_goals (go_ret; exact ⟨rfl, Below.refl _ _⟩)
end Go.Proofs.Ytnnkhjjecmldfaa
