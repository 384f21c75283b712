/- Walks: words before words, shifted words, common starts. -/
import Derived.Test.YtoljoaknnbgjiaaStr
import Derived.Test.YtoljoaknnbgjiaaPlain3
import Derived.Deep.QuietTactic
import Derived.BigQuiet
namespace Go.Proofs.Ytoljoaknnbgjiaa
open Go.RowKit

set_option maxHeartbeats 400000 in
theorem implBeforeWord_any (v s : ByteArray) (w : World) (hv : v.size ≤ maxLen) (hs : s.size ≤ maxLen) :
    Calls Try.prog 22 #[.string v, .string s] w fun e w' => e = .returned (.bool (wordB v.data.toList && (wordB s.data.toList && Op.bytesLess v.toList s.toList))) ∧ w = w' := by
  cases b1 : wordB v.data.toList <;> cases b2 : wordB s.data.toList
  all_goals
    go_enter Try.func22, Try.ntmps22
    go_wp2_with (first
      | (go_at_call 44; refine (isWord_any _ _ (by assumption)).mono ?_; rintro e w' ⟨rfl, rfl⟩))
    go_ret
    exact ⟨rfl, rfl⟩
set_option maxHeartbeats 400000 in
theorem specBeforeWord_any (v s : ByteArray) (w : World) (hv : v.size ≤ maxLen) (hs : s.size ≤ maxLen) :
    Calls Try.prog 21 #[.string v, .string s] w fun e w' => e = .returned (.bool (wordB v.data.toList && (wordB s.data.toList && Op.bytesLess v.toList s.toList))) ∧ w = w' := by
  cases b1 : wordB v.data.toList <;> cases b2 : wordB s.data.toList
  all_goals
    go_enter Try.func21, Try.ntmps21
    go_wp2_with (first
      | (go_at_call 17; refine (specWordOk_any _ _ (by assumption)).mono ?_; rintro e w' ⟨rfl, rfl⟩))
    go_ret
    exact ⟨rfl, rfl⟩
set_option maxHeartbeats 400000 in
theorem implShiftWord_any (s : ByteArray) (k : Int) (w : World) (hs : s.size ≤ maxLen) :
    Calls Try.prog 24 #[.string s, .int .i64 k] w fun e w' => e = .returned (.string ⟨(shiftW s.data.toList k).toArray⟩) ∧ ∃ n, w' = w.drewN n := by
  have hs' := hs
  unfold maxLen at hs'
  cases b1 : wordB s.data.toList
  · have hf : shiftW s.data.toList k = [] := by simp [shiftW, b1]
    have HF := Lib.hid hf; clear hf
    go_enter Try.func24, Try.ntmps24
    go_wp2_with (first
      | (go_at_call 44; refine (isWord_any _ _ (by assumption)).mono ?_; rintro e w' ⟨rfl, rfl⟩))
    go_ret
    exact ⟨by rw [HF.out]; rfl, 0, rfl⟩
  · by_cases hk : 0 ≤ k ∧ k ≤ s.size
    · obtain ⟨k0, k1⟩ := hk
      obtain ⟨n, rfl⟩ := Int.eq_ofNat_of_zero_le k0
      have hn : n ≤ s.size := by omega
      have hf := shiftW_in s n b1 hn
      have HF := Lib.hid hf; clear hf
      go_enter Try.func24, Try.ntmps24
      go_wp2_with (first
        | (go_at_call 44; refine (isWord_any _ _ (by assumption)).mono ?_; rintro e w' ⟨rfl, rfl⟩)
        | (go_at_call 46; refine (within_any _ _ _ _).mono ?_; rintro e w' ⟨rfl, rfl⟩))
      go_quiet (fail)
      go_wp2
      go_ret
      exact ⟨by rw [HF.out]; rfl, _, rfl⟩
    · have hf := shiftW_out s k hk
      have HF := Lib.hid hf; clear hf
      have b2 : (decide (0 ≤ k) && decide (k ≤ s.size)) = false := by rw [Bool.eq_false_iff]; simpa using hk
      go_enter Try.func24, Try.ntmps24
      go_wp2_with (first
        | (go_at_call 44; refine (isWord_any _ _ (by assumption)).mono ?_; rintro e w' ⟨rfl, rfl⟩)
        | (go_at_call 46; refine (within_any _ _ _ _).mono ?_; rw [b2]; rintro e w' ⟨rfl, rfl⟩))
      all_goals (go_ret; exact ⟨by rw [HF.out]; rfl, 0, rfl⟩)
set_option maxHeartbeats 400000 in
theorem specShiftWord_any (s : ByteArray) (k : Int) (w : World) (hs : s.size ≤ maxLen) :
    Calls Try.prog 23 #[.string s, .int .i64 k] w fun e w' => e = .returned (.string ⟨(shiftW s.data.toList k).toArray⟩) ∧ ∃ n, w' = w.drewN n := by
  have hs' := hs
  unfold maxLen at hs'
  cases b1 : wordB s.data.toList
  · have hf : shiftW s.data.toList k = [] := by simp [shiftW, b1]
    have HF := Lib.hid hf; clear hf
    go_enter Try.func23, Try.ntmps23
    go_wp2_with (first
      | (go_at_call 17; refine (specWordOk_any _ _ (by assumption)).mono ?_; rintro e w' ⟨rfl, rfl⟩))
    go_ret
    exact ⟨by rw [HF.out]; rfl, 0, rfl⟩
  · by_cases hk : 0 ≤ k ∧ k ≤ s.size
    · obtain ⟨k0, k1⟩ := hk
      obtain ⟨n, rfl⟩ := Int.eq_ofNat_of_zero_le k0
      have hn : n ≤ s.size := by omega
      have hf := shiftW_in s n b1 hn
      have HF := Lib.hid hf; clear hf
      go_enter Try.func23, Try.ntmps23
      go_wp2_with (first
        | (go_at_call 17; refine (specWordOk_any _ _ (by assumption)).mono ?_; rintro e w' ⟨rfl, rfl⟩)
        | (go_at_call 45; refine (l01In_any _ _ _ _).mono ?_; rintro e w' ⟨rfl, rfl⟩))
      go_quiet (fail)
      go_wp2
      go_ret
      exact ⟨by rw [HF.out]; rfl, _, rfl⟩
    · have hf := shiftW_out s k hk
      have HF := Lib.hid hf; clear hf
      have b2 : (decide (0 ≤ k) && decide (k ≤ s.size)) = false := by rw [Bool.eq_false_iff]; simpa using hk
      go_enter Try.func23, Try.ntmps23
      go_wp2_with (first
        | (go_at_call 17; refine (specWordOk_any _ _ (by assumption)).mono ?_; rintro e w' ⟨rfl, rfl⟩)
        | (go_at_call 45; refine (l01In_any _ _ _ _).mono ?_; rw [b2]; rintro e w' ⟨rfl, rfl⟩))
      all_goals (go_ret; exact ⟨by rw [HF.out]; rfl, 0, rfl⟩)
set_option maxHeartbeats 400000 in
theorem implCommonStart_any (v s : ByteArray) (w : World) (hv : v.size ≤ maxLen) (hs : s.size ≤ maxLen) :
    Calls Try.prog 26 #[.string v, .string s] w fun e w' => e = .returned (.int .i64 (if wordB v.data.toList = true ∧ wordB s.data.toList = true then (commonLen v.data.toList s.data.toList : Int) else -1)) ∧ ∃ n, w' = w.drewN n := by
  have hv' := hv
  have hs' := hs
  unfold maxLen at hv' hs'
  cases b1 : wordB v.data.toList <;> cases b2 : wordB s.data.toList
  all_goals
    go_enter Try.func26, Try.ntmps26
    go_wp2_with (first
    | (go_at_call 44; refine (isWord_any _ _ (by assumption)).mono ?_; rintro e w' ⟨rfl, rfl⟩))
  all_goals try (go_ret; exact ⟨rfl, 0, rfl⟩)
  go_loopw [5] (fun i wr => ∃ k : Nat, k ≤ v.size ∧ k ≤ s.size ∧ v.data.toList.take k = s.data.toList.take k ∧ i = .int .i64 k ∧ ∃ n, wr = w.drewN n) (fun i _ => s.size - (intOf i).toNat)
  case atStart => exact ⟨0, Nat.zero_le _, Nat.zero_le _, rfl, rfl, 0, rfl⟩
  case round =>
    obtain ⟨k, hk1, hk2, he, rfl, n, rfl⟩ := hrel
    have HE := Lib.hid he; clear he
    by_cases h1 : k < v.size
    · by_cases h2 : k < s.size
      · cases h3 : ((v[k].toNat : Int) == (s[k].toNat : Int))
        · go_wp2_with fail
          go_quiet (fail)
          go_wp2
          go_ret
          exact ⟨ret_int (common_at v s k HE.out hk1 hk2 (.inr (.inr ⟨h1, h2, h3⟩))).symm, _, rfl⟩
        · go_wp2_with fail
          go_quiet (fail)
          go_wp2
          go_roundw
          case rel => exact ⟨k + 1, by omega, by omega, common_next v s k HE.out h1 h2 h3, by go_num, _, rfl⟩
          case measure => simp [intOf]; omega
      · have d2 : decide ((k : Int) < (s.size : Int)) = false := decide_eq_false (by omega)
        go_wp2_with fail
        go_quiet (fail)
        go_wp2
        go_ret
        exact ⟨ret_int (common_at v s k HE.out hk1 hk2 (.inr (.inl h2))).symm, _, rfl⟩
    · have d1 : decide ((k : Int) < (v.size : Int)) = false := decide_eq_false (by omega)
      go_wp2_with fail
      go_quiet (fail)
      go_wp2
      go_ret
      exact ⟨ret_int (common_at v s k HE.out hk1 hk2 (.inl h1)).symm, _, rfl⟩
set_option maxHeartbeats 400000 in
theorem specCommonStart_any (v s : ByteArray) (w : World) (hv : v.size ≤ maxLen) (hs : s.size ≤ maxLen) :
    Calls Try.prog 25 #[.string v, .string s] w fun e w' => e = .returned (.int .i64 (if wordB v.data.toList = true ∧ wordB s.data.toList = true then (commonLen v.data.toList s.data.toList : Int) else -1)) ∧ ∃ n, w' = w.drewN n := by
  have hv' := hv
  have hs' := hs
  unfold maxLen at hv' hs'
  cases b1 : wordB v.data.toList <;> cases b2 : wordB s.data.toList
  all_goals
    go_enter Try.func25, Try.ntmps25
    go_wp2_with (first
    | (go_at_call 17; refine (specWordOk_any _ _ (by assumption)).mono ?_; rintro e w' ⟨rfl, rfl⟩))
  all_goals try (go_ret; exact ⟨rfl, 0, rfl⟩)
  go_loopw [5] (fun i wr => ∃ k : Nat, k ≤ v.size ∧ k ≤ s.size ∧ v.data.toList.take k = s.data.toList.take k ∧ i = .int .i64 k ∧ ∃ n, wr = w.drewN n) (fun i _ => s.size - (intOf i).toNat)
  case atStart => exact ⟨0, Nat.zero_le _, Nat.zero_le _, rfl, rfl, 0, rfl⟩
  case round =>
    obtain ⟨k, hk1, hk2, he, rfl, n, rfl⟩ := hrel
    have HE := Lib.hid he; clear he
    by_cases h1 : k < v.size
    · by_cases h2 : k < s.size
      · cases h3 : ((v[k].toNat : Int) == (s[k].toNat : Int))
        · go_wp2_with fail
          go_quiet (fail)
          go_wp2
          go_ret
          exact ⟨ret_int (common_at v s k HE.out hk1 hk2 (.inr (.inr ⟨h1, h2, h3⟩))).symm, _, rfl⟩
        · go_wp2_with fail
          go_quiet (fail)
          go_wp2
          go_roundw
          case rel => exact ⟨k + 1, by omega, by omega, common_next v s k HE.out h1 h2 h3, by go_num, _, rfl⟩
          case measure => simp [intOf]; omega
      · have d2 : decide ((k : Int) < (s.size : Int)) = false := decide_eq_false (by omega)
        go_wp2_with fail
        go_quiet (fail)
        go_wp2
        go_ret
        exact ⟨ret_int (common_at v s k HE.out hk1 hk2 (.inr (.inl h2))).symm, _, rfl⟩
    · have d1 : decide ((k : Int) < (v.size : Int)) = false := decide_eq_false (by omega)
      go_wp2_with fail
      go_quiet (fail)
      go_wp2
      go_ret
      exact ⟨ret_int (common_at v s k HE.out hk1 hk2 (.inl h1)).symm, _, rfl⟩

set_option maxHeartbeats 400000 in
theorem law_IsDigits (s : ByteArray) (w : World) (hs : s.size ≤ maxLen) :
    Calls Try.prog 4 #[.string s] w fun e w' => e = .returned (.bool true) ∧ Below w.heap.size w w' := by
  have hs' := hs
  unfold maxLen at hs'
  go_enter Try.func4, Try.ntmps4
  go_wp2_with (first
    | (go_at_call 15; refine (specIsDigits_any _ _ hs).mono ?_; rintro e w' ⟨rfl, rfl⟩)
    | (go_at_call 16; refine (implIsDigits_any _ _ hs).mono ?_; rintro e w' ⟨rfl, rfl⟩))
  all_goals (go_ret; exact ⟨rfl, Below.refl _ _⟩)
set_option maxHeartbeats 400000 in
theorem law_IsName (s : ByteArray) (w : World) (hs : s.size ≤ maxLen) :
    Calls Try.prog 6 #[.string s] w fun e w' => e = .returned (.bool true) ∧ Below w.heap.size w w' := by
  have hs' := hs
  unfold maxLen at hs'
  go_enter Try.func6, Try.ntmps6
  go_wp2_with (first
    | (go_at_call 19; refine (specIsName_any _ _ hs).mono ?_; rintro e w' ⟨rfl, rfl⟩)
    | (go_at_call 20; refine (implIsName_any _ _ hs).mono ?_; rintro e w' ⟨rfl, rfl⟩))
  all_goals (go_ret; exact ⟨rfl, Below.refl _ _⟩)
set_option maxHeartbeats 400000 in
theorem law_BeforeWord (v s : ByteArray) (w : World) (hv : v.size ≤ maxLen) (hs : s.size ≤ maxLen) :
    Calls Try.prog 7 #[.string v, .string s] w fun e w' => e = .returned (.bool true) ∧ Below w.heap.size w w' := by
  go_enter Try.func7, Try.ntmps7
  go_wp2_with (first
    | (go_at_call 21; refine (specBeforeWord_any _ _ _ hv hs).mono ?_; rintro e w' ⟨rfl, rfl⟩)
    | (go_at_call 22; refine (implBeforeWord_any _ _ _ hv hs).mono ?_; rintro e w' ⟨rfl, rfl⟩))
  all_goals (go_ret; exact ⟨rfl, Below.refl _ _⟩)
set_option maxHeartbeats 400000 in
theorem law_ShiftWord (s : ByteArray) (k : Int) (w : World) (hs : s.size ≤ maxLen) (_ : (Lit.int .i64 k).wf = true) :
    Calls Try.prog 8 #[.string s, .int .i64 k] w fun e w' => e = .returned (.bool true) ∧ Below w.heap.size w w' := by
  go_enter Try.func8, Try.ntmps8
  go_wp2_with (first
    | (go_at_call 23; refine (specShiftWord_any _ _ _ hs).mono ?_; rintro e w' ⟨rfl, n, rfl⟩)
    | (go_at_call 24; refine (implShiftWord_any _ _ _ hs).mono ?_; rintro e w' ⟨rfl, m, rfl⟩))
  all_goals (go_ret; exact ⟨rfl, by first | exact Below.refl _ _ | exact below_drewN (Below.refl _ _) _ | exact below_drewN (below_drewN (Below.refl _ _) _) _⟩)
set_option maxHeartbeats 400000 in
theorem law_CommonStart (v s : ByteArray) (w : World) (hv : v.size ≤ maxLen) (hs : s.size ≤ maxLen) :
    Calls Try.prog 9 #[.string v, .string s] w fun e w' => e = .returned (.bool true) ∧ Below w.heap.size w w' := by
  obtain ⟨c, hc⟩ : ∃ c : Int, c = (if wordB v.data.toList = true ∧ wordB s.data.toList = true then (commonLen v.data.toList s.data.toList : Int) else -1) := ⟨_, rfl⟩
  have h1 := fun W => specCommonStart_any v s W hv hs
  have h2 := fun W => implCommonStart_any v s W hv hs
  rw [← hc] at h1 h2
  have H1 := Lib.hid h1; have H2 := Lib.hid h2; clear h1 h2 hc
  go_enter Try.func9, Try.ntmps9
  go_wp2_with (first
    | (go_at_call 25; refine (H1.out _).mono ?_; rintro e w' ⟨rfl, n, rfl⟩)
    | (go_at_call 26; refine (H2.out _).mono ?_; rintro e w' ⟨rfl, m, rfl⟩))
  all_goals (go_ret; exact ⟨rfl, by first | exact Below.refl _ _ | exact below_drewN (Below.refl _ _) _ | exact below_drewN (below_drewN (Below.refl _ _) _) _⟩)
end Go.Proofs.Ytoljoaknnbgjiaa
