/- Walks: digits and names. -/
import Derived.Test.YtoljoaknnbgjiaaWord
import Derived.Test.YtoljoaknnbgjiaaPlain2
namespace Go.Proofs.Ytoljoaknnbgjiaa
open Go.RowKit

theorem isDigit_any (c : UInt8) (w : World) : Calls Try.prog 43 #[.int .u8 c.toNat] w fun e w' => e = .returned (.bool (digitB c)) ∧ w = w' := by
  have := c.toNat_lt
  go_enter Try.func43, Try.ntmps43
  go_wp2_with fail
  all_goals (go_ret; exact ⟨ret_bool (by simp [digitB]; try omega), rfl⟩)
set_option maxHeartbeats 400000 in
theorem implIsDigits_any (s : ByteArray) (w : World) (hs : s.size ≤ maxLen) :
    Calls Try.prog 16 #[.string s] w fun e w' => e = .returned (.bool (digitsB s.data.toList)) ∧ w = w' := by
  unfold maxLen at hs
  go_enter Try.func16, Try.ntmps16
  go_wp2_with fail
  go_loop [6] (fun i => ∃ k : Nat, k ≤ s.size ∧ (s.data.toList.take k).all digitB = true ∧ i = .int .i64 k) (fun i => s.size - (intOf i).toNat)
  case atStart => exact ⟨0, Nat.zero_le _, rfl, rfl⟩
  case round =>
    obtain ⟨k, hk, ha, rfl⟩ := hrel
    have HA := Lib.hid ha; clear ha
    by_cases hlt : k < s.size
    · by_cases hd : digitB s[k] = true
      · go_wp2_with (go_at_call 43; refine (isDigit_any _ _).mono ?_; rintro e w' ⟨rfl, rfl⟩)
        go_round
        case rel => exact ⟨k + 1, by omega, all_step _ s k hlt HA.out hd, by go_num⟩
        case measure => simp [intOf]; omega
      · have hd' : digitB s[k] = false := by simpa using hd
        clear hd
        go_wp2_with (go_at_call 43; refine (isDigit_any _ _).mono ?_; rintro e w' ⟨rfl, rfl⟩)
        go_ret
        exact ⟨ret_bool (digits_fail (all_fail _ s k hlt hd')).symm, rfl⟩
    · have e := take_all s k (by omega)
      go_wp2_with fail
      go_ret
      exact ⟨ret_bool (by rw [digits_end (by rw [← e]; exact HA.out), Lib.toList_data]), rfl⟩
set_option maxHeartbeats 400000 in
theorem specIsDigits_any (s : ByteArray) (w : World) (hs : s.size ≤ maxLen) :
    Calls Try.prog 15 #[.string s] w fun e w' => e = .returned (.bool (digitsB s.data.toList)) ∧ w = w' := by
  unfold maxLen at hs
  go_enter Try.func15, Try.ntmps15
  go_wp2_with fail
  go_loop [3] (fun i => ∃ k : Nat, k ≤ s.size ∧ (s.data.toList.take k).all digitB = true ∧ i = .int .i64 k) (fun i => s.size - (intOf i).toNat)
  case atStart => exact ⟨0, Nat.zero_le _, rfl, rfl⟩
  case round =>
    obtain ⟨k, hk, ha, rfl⟩ := hrel
    have HA := Lib.hid ha; clear ha
    go_wp2
    all_goals first
      | (have hlt : k < s.size := by assumption
         have h1 : (48 : Int) ≤ (s[k].toNat : Int) ∧ (s[k].toNat : Int) ≤ 57 := by assumption
         go_round
         case rel => exact ⟨k + 1, by omega, all_step _ s k hlt HA.out (digit_yes h1.1 h1.2), by go_num⟩
         case measure => simp [intOf]; omega)
      | (have hlt : k < s.size := by assumption
         go_ret
         exact ⟨ret_bool (digits_fail (all_fail _ s k hlt (by first | exact digit_low (by omega) | exact digit_high (by omega)))).symm, rfl⟩)
      | (have hge : ¬ k < s.size := by assumption
         go_ret
         have e := take_all s k (by omega)
         exact ⟨ret_bool (by rw [digits_end (by rw [← e]; exact HA.out)]; exact digits_size s), rfl⟩)
theorem within_any (n lo hi : Int) (w : World) : Calls Try.prog 46 #[.int .i64 n, .int .i64 lo, .int .i64 hi] w fun e w' => e = .returned (.bool (decide (lo ≤ n) && decide (n ≤ hi))) ∧ w = w' := by
  go_enter Try.func46, Try.ntmps46
  go_wp2_with fail
  all_goals (go_ret; exact ⟨ret_bool (by simp; try omega), rfl⟩)
theorem l01In_any (n lo hi : Int) (w : World) : Calls Try.prog 45 #[.int .i64 n, .int .i64 lo, .int .i64 hi] w fun e w' => e = .returned (.bool (decide (lo ≤ n) && decide (n ≤ hi))) ∧ w = w' := by
  go_enter Try.func45, Try.ntmps45
  go_wp2_with fail
  all_goals (go_ret; exact ⟨ret_bool (by simp; try omega), rfl⟩)
set_option maxHeartbeats 400000 in
theorem implIsName_any (s : ByteArray) (w : World) (hs : s.size ≤ maxLen) :
    Calls Try.prog 20 #[.string s] w fun e w' => e = .returned (.bool (nameB s.data.toList)) ∧ w = w' := by
  unfold maxLen at hs
  go_enter Try.func20, Try.ntmps20
  go_wp2_with fail
  go_loop [7] (fun i => ∃ k : Nat, k ≤ s.size ∧ nameFrom 0 (s.data.toList.take k) = true ∧ i = .int .i64 k) (fun i => s.size - (intOf i).toNat)
  case atStart => exact ⟨0, Nat.zero_le _, rfl, rfl⟩
  case round =>
    obtain ⟨k, hk, ha, rfl⟩ := hrel
    have HA := Lib.hid ha; clear ha
    by_cases hlt : k < s.size
    · rcases byte_case s[k] with ⟨q1, q2⟩ | ⟨q1, q2⟩ | q1 | ⟨q1, q2⟩ | q1 <;> rcases Nat.eq_zero_or_pos k with rfl | q0
      all_goals
        first | have hd := digit_yes q1 q2 | have hd := digit_low q1 | have hd := digit_high q1 | have hd := digit_of_low q1 | have hd := digit_of_high q1
        try have b1 := dec_high q1
        go_wp2_with (go_at_call 43; refine (isDigit_any _ _).mono ?_; rintro e w' ⟨rfl, rfl⟩)
        all_goals first
          | (go_round
             case rel => exact ⟨_, by omega, name_step s _ hlt HA.out (nameAt_true (by omega)), by go_num⟩
             case measure => simp [intOf]; omega)
          | (go_ret
             exact ⟨ret_bool (name_fail s _ hlt (nameAt_false (by omega))).symm, rfl⟩)
          | (exfalso; simp_all; done)
          | (exfalso; simp_all; omega)
    · have e := take_all s k (by omega)
      go_wp2_with (go_at_call 46; refine (within_any _ _ _ _).mono ?_; rintro e w' ⟨rfl, rfl⟩)
      go_ret
      exact ⟨ret_bool (by rw [name_end (by rw [← e]; exact HA.out)]; exact name_size _), rfl⟩
set_option maxHeartbeats 400000 in
theorem specIsName_any (s : ByteArray) (w : World) (hs : s.size ≤ maxLen) :
    Calls Try.prog 19 #[.string s] w fun e w' => e = .returned (.bool (nameB s.data.toList)) ∧ w = w' := by
  unfold maxLen at hs
  go_enter Try.func19, Try.ntmps19
  go_wp2_with fail
  go_loop [3] (fun i => ∃ k : Nat, k ≤ s.size ∧ nameFrom 0 (s.data.toList.take k) = true ∧ i = .int .i64 k) (fun i => s.size - (intOf i).toNat)
  case atStart => exact ⟨0, Nat.zero_le _, rfl, rfl⟩
  case round =>
    obtain ⟨k, hk, ha, rfl⟩ := hrel
    have HA := Lib.hid ha; clear ha
    by_cases hlt : k < s.size
    · rcases byte_case s[k] with ⟨q1, q2⟩ | ⟨q1, q2⟩ | q1 | ⟨q1, q2⟩ | q1 <;> rcases Nat.eq_zero_or_pos k with rfl | q0
      all_goals
        try have b1 := dec_high q1
        go_wp2
        all_goals first
          | (go_round
             case rel => exact ⟨_, by omega, name_step s _ hlt HA.out (nameAt_true (by omega)), by go_num⟩
             case measure => simp [intOf]; omega)
          | (go_ret
             exact ⟨ret_bool (name_fail s _ hlt (nameAt_false (by omega))).symm, rfl⟩)
          | (exfalso; simp_all; done)
          | (exfalso; simp_all; omega)
    · have e := take_all s k (by omega)
      go_wp2_with (go_at_call 45; refine (l01In_any _ _ _ _).mono ?_; rintro e w' ⟨rfl, rfl⟩)
      go_ret
      exact ⟨ret_bool (by rw [name_end (by rw [← e]; exact HA.out)]; exact name_size _), rfl⟩
end Go.Proofs.Ytoljoaknnbgjiaa
