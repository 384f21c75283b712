/- Walks: digits and names. -/
import Derived.Test.YtciiokegifgbdaaDoorWord
import Derived.Test.YtciiokegifgbdaaDoorIn
import Derived.Test.YtciiokegifgbdaaDoorPlain2
namespace Go.Proofs.YtciiokegifgbdaaDoor
open Go.RowKit

theorem isDigit_any (c : UInt8) (w : World) : Calls Tryd.prog 35 #[.int .u8 c.toNat] w fun e w' => e = .returned (.bool (digitB c)) ∧ w = w' := by
  have := c.toNat_lt
  go_enter Tryd.func35, Tryd.ntmps35
  go_wp2_with fail
  all_goals (go_ret; exact ⟨ret_bool (by simp [digitB]; try omega), rfl⟩)
set_option maxHeartbeats 400000 in
theorem specIsDigits_any (s : ByteArray) (w : World) (hs : s.size ≤ maxLen) :
    Calls Tryd.prog 26 #[.string s] w fun e w' => e = .returned (.bool (digitsB s.data.toList)) ∧ w = w' := by
  unfold maxLen at hs
  go_enter Tryd.func26, Tryd.ntmps26
  go_wp2_with fail
  go_loop [3] (fun i => ∃ k : Nat, k ≤ s.size ∧ (s.data.toList.take k).all digitB = true ∧ i = .int .i64 k) (fun i => s.size - (intOf i).toNat)
  case atStart => exact ⟨0, Nat.zero_le _, rfl, rfl⟩
  case round =>
    obtain ⟨k, hk, ha, rfl⟩ := hrel
    have HA := Lib.hid ha; clear ha
    go_wp2
    all_goals first
      | (have hlt : k < s.size := by assumption
         have h1 : (48 : Int) ≤ (s[k].toNat : Int) ∧ (s[k].toNat : Int) ≤ 57 := by assumption
         go_round
         case rel => exact ⟨k + 1, by omega, all_step _ s k hlt HA.out (digit_yes h1.1 h1.2), by go_num⟩
         case measure => simp [intOf]; omega)
      | (have hlt : k < s.size := by assumption
         go_ret
         exact ⟨ret_bool (digits_fail (all_fail _ s k hlt (by first | exact digit_low (by omega) | exact digit_high (by omega)))).symm, rfl⟩)
      | (have hge : ¬ k < s.size := by assumption
         go_ret
         have e := take_all s k (by omega)
         exact ⟨ret_bool (by rw [digits_end (by rw [← e]; exact HA.out)]; exact digits_size s), rfl⟩)
set_option maxHeartbeats 400000 in
theorem implIsName_any (s : ByteArray) (w : World) (hs : s.size ≤ maxLen) :
    Calls Tryd.prog 16 #[.string s] w fun e w' => e = .returned (.bool (nameB s.data.toList)) ∧ w = w' := by
  unfold maxLen at hs
  go_enter Tryd.func16, Tryd.ntmps16
  go_wp2_with fail
  go_loop [7] (fun i => ∃ k : Nat, k ≤ s.size ∧ nameFrom 0 (s.data.toList.take k) = true ∧ i = .int .i64 k) (fun i => s.size - (intOf i).toNat)
  case atStart => exact ⟨0, Nat.zero_le _, rfl, rfl⟩
  case round =>
    obtain ⟨k, hk, ha, rfl⟩ := hrel
    have HA := Lib.hid ha; clear ha
    by_cases hlt : k < s.size
    · rcases byte_case s[k] with ⟨q1, q2⟩ | ⟨q1, q2⟩ | q1 | ⟨q1, q2⟩ | q1 <;> rcases Nat.eq_zero_or_pos k with rfl | q0
      all_goals
        first | have hd := digit_yes q1 q2 | have hd := digit_low q1 | have hd := digit_high q1 | have hd := digit_of_low q1 | have hd := digit_of_high q1
        try have b1 := dec_high q1
        go_wp2_with (go_at_call 35; refine (isDigit_any _ _).mono ?_; rintro e w' ⟨rfl, rfl⟩)
        all_goals first
          | (go_round
             case rel => exact ⟨_, by omega, name_step s _ hlt HA.out (nameAt_true (by omega)), by go_num⟩
             case measure => simp [intOf]; omega)
          | (go_ret
             exact ⟨ret_bool (name_fail s _ hlt (nameAt_false (by omega))).symm, rfl⟩)
          | (exfalso; simp_all; done)
          | (exfalso; simp_all; omega)
    · have e := take_all s k (by omega)
      go_wp2_with (go_at_call 36; refine (within_any _ _ _ _).mono ?_; rintro e w' ⟨rfl, rfl⟩)
      go_ret
      exact ⟨ret_bool (by rw [name_end (by rw [← e]; exact HA.out)]; exact name_size _), rfl⟩
end Go.Proofs.YtciiokegifgbdaaDoor
