/- Walks: which strings the program and the reference take for words. -/
import Derived.Test.YtciiokegifgbdaaDoorRows
import Derived.Test.YtciiokegifgbdaaDoorPlain1
import Derived.WalkSpells
import Derived.WalkLawsBesides
import Derived.Lib.Hide
namespace Go.Proofs.YtciiokegifgbdaaDoor
open Go.RowKit
set_option maxRecDepth 20000

set_option maxHeartbeats 400000 in
theorem isWord_any (s : ByteArray) (w : World) (hs : s.size ≤ maxLen) :
    Calls Tryd.prog 71 #[.string s] w fun e w' => e = .returned (.bool (wordB s.data.toList)) ∧ w = w' := by
  unfold maxLen at hs
  go_enter Tryd.func71, Tryd.ntmps71
  go_wp2_with fail
  go_loop [6] (fun i => ∃ k : Nat, k ≤ s.size ∧ (s.data.toList.take k).all letterB = true ∧ i = .int .i64 k) (fun i => s.size - (intOf i).toNat)
  case atStart => exact ⟨0, Nat.zero_le _, rfl, rfl⟩
  case round =>
    obtain ⟨k, hk, ha, rfl⟩ := hrel
    have HA := Lib.hid ha; clear ha
    go_wp2
    all_goals first
      | (have hlt : k < s.size := by assumption
         have h1 : (97 : Int) ≤ (s[k].toNat : Int) ∧ (s[k].toNat : Int) ≤ 100 := by assumption
         go_round
         case rel => exact ⟨k + 1, by omega, all_step _ s k hlt HA.out (letter_yes h1.1 h1.2), by go_num⟩
         case measure => simp [intOf]; omega)
      | (have hlt : k < s.size := by assumption
         go_ret
         exact ⟨ret_bool (word_fail (all_fail _ s k hlt (by first | exact letter_low (by omega) | exact letter_high (by omega)))).symm, rfl⟩)
      | (have hge : ¬ k < s.size := by assumption
         go_ret
         have e := take_all s k (by omega)
         exact ⟨ret_bool (word_size (by rw [← e]; exact HA.out)).symm, rfl⟩)

set_option maxHeartbeats 400000 in
theorem specWordOk_any (s : ByteArray) (w : World) (hs : s.size ≤ maxLen) :
    Calls Tryd.prog 53 #[.string s] w fun e w' => e = .returned (.bool (wordB s.data.toList)) ∧ w = w' := by
  unfold maxLen at hs
  by_cases h4 : 400 < s.size
  · go_enter Tryd.func53, Tryd.ntmps53
    go_wp2_with fail
    go_ret
    exact ⟨ret_bool (word_long h4).symm, rfl⟩
  go_enter Tryd.func53, Tryd.ntmps53
  go_wp2_with fail
  go_loop [3] (fun i => ∃ k : Nat, k ≤ s.size ∧ (s.data.toList.take k).all letterB = true ∧ i = .int .i64 k) (fun i => s.size - (intOf i).toNat)
  case atStart => exact ⟨0, Nat.zero_le _, rfl, rfl⟩
  case round =>
    obtain ⟨k, hk, ha, rfl⟩ := hrel
    have HA := Lib.hid ha; clear ha
    go_wp2
    all_goals first
      | (have hlt : k < s.size := by assumption
         have h1 : (97 : Int) ≤ (s[k].toNat : Int) ∧ (s[k].toNat : Int) ≤ 100 := by assumption
         go_round
         case rel => exact ⟨k + 1, by omega, all_step _ s k hlt HA.out (letter_yes h1.1 h1.2), by go_num⟩
         case measure => simp [intOf]; omega)
      | (have hlt : k < s.size := by assumption
         go_ret
         exact ⟨ret_bool (word_fail (all_fail _ s k hlt (by first | exact letter_low (by omega) | exact letter_high (by omega)))).symm, rfl⟩)
      | (have hge : ¬ k < s.size := by assumption
         go_ret
         have e := take_all s k (by omega)
         exact ⟨ret_bool (word_short h4 (by rw [← e]; exact HA.out)).symm, rfl⟩)


end Go.Proofs.YtciiokegifgbdaaDoor
