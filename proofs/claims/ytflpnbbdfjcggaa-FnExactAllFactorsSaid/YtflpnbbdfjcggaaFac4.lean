/- Walks: the number of all factors. -/
import Derived.Test.YtflpnbbdfjcggaaFac3
namespace Go.Proofs.Ytflpnbbdfjcggaa
open Go.RowKit
set_option maxRecDepth 20000

def afTo (s : ByteArray) : Nat → Int
  | 0 => 0
  | k + 1 => afTo s k + ((facR s (k + 1)).length : Int)
/-- what AllFactors returns -/
def afR (s : ByteArray) : Int := if (wordB s.data.toList && decide ((s.size : Int) ≤ 60)) = true then afTo s s.size else -1
theorem af_no {s : ByteArray} (h : (wordB s.data.toList && decide ((s.size : Int) ≤ 60)) = false) : afR s = -1 := by unfold afR; rw [h]; rfl
theorem af_yes {s : ByteArray} (h : (wordB s.data.toList && decide ((s.size : Int) ≤ 60)) = true) : afR s = afTo s s.size := by unfold afR; rw [if_pos h]
theorem afTo_bound (s : ByteArray) : ∀ k : Nat, 0 ≤ afTo s k ∧ afTo s k ≤ (s.size + 1 : Int) * k
  | 0 => by simp [afTo]
  | k + 1 => by
    have h1 := afTo_bound s k
    have h2 := facR_len s (k + 1)
    rw [afTo]
    have h3 : ((s.size + 1 : Int)) * ((k + 1 : Nat) : Int) = (s.size + 1 : Int) * k + (s.size + 1) := by simp only [Int.natCast_add, Int.natCast_one, Int.mul_add, Int.mul_one]
    rw [h3]; omega
theorem isShort_any (s : ByteArray) (w : World) (hs : s.size ≤ maxLen) :
    Calls Try.prog 56 #[.string s] w fun e w' => e = .returned (.bool (wordB s.data.toList && decide ((s.size : Int) ≤ 60))) ∧ w' = w := by
  cases b1 : wordB s.data.toList
  · go_enter Try.func56, Try.ntmps56
    go_wp2_with (go_at_call 48; refine (isWord_any _ _ hs).mono ?_; rw [b1]; rintro e w' ⟨rfl, rfl⟩)
    go_ret
    exact ⟨rfl, rfl⟩
  · have HB1 := Lib.hid b1; clear b1
    have hs' := hs
    unfold maxLen at hs'
    go_enter Try.func56, Try.ntmps56
    go_wp2_with (go_at_call 48; refine (isWord_any _ _ hs).mono ?_; rw [HB1.out]; rintro e w' ⟨rfl, rfl⟩)
    go_ret
    exact ⟨by simp, rfl⟩
set_option maxHeartbeats 1000000 in
theorem implAllFactors_any (s : ByteArray) (w : World) (hs : s.size ≤ maxLen) :
    Calls Try.prog 23 #[.string s] w fun e w' => e = .returned (.int .i64 (afR s)) ∧ Below w.heap.size w w' := by
  cases hq : (wordB s.data.toList && decide ((s.size : Int) ≤ 60))
  · have HP := Lib.hid (af_no hq)
    go_enter Try.func23, Try.ntmps23
    go_wp2_with (go_at_call 56; refine (isShort_any _ _ hs).mono ?_; rw [hq]; rintro e w' ⟨rfl, hww⟩; cases hww.symm)
    go_ret
    exact ⟨by rw [HP.out] <;> rfl, Below.refl _ _⟩
  have HP := Lib.hid (af_yes hq)
  have h60 : (s.size : Int) ≤ 60 := by rw [Bool.and_eq_true, decide_eq_true_eq] at hq; exact hq.2
  have HQ := Lib.hid hq; clear hq
  go_enter Try.func23, Try.ntmps23
  go_wp2_with (go_at_call 56; refine (isShort_any _ _ hs).mono ?_; rw [HQ.out]; rintro e w' ⟨rfl, hww⟩; cases hww.symm)
  go_loopw [3, 4] (fun x j wr => ∃ k : Nat, k ≤ s.size ∧ j = .int .i64 ((k + 1 : Nat) : Int) ∧ x = .int .i64 (afTo s k) ∧ Below w.heap.size w wr) (fun _ j _ => s.size + 1 - (intOf j).toNat)
  case atStart => exact ⟨0, Nat.zero_le _, rfl, rfl, Below.refl _ _⟩
  case round =>
    obtain ⟨k, hk, rfl, rfl, hb⟩ := hrel
    have HB := Lib.hid hb; clear hb
    obtain ⟨a1, a2⟩ := afTo_bound s k
    have a3 : afTo s k ≤ 61 * 61 := Int.le_trans a2 (Int.mul_le_mul (by omega) (by omega) (by omega) (by omega))
    clear a2
    have HS := Lib.hid (show afTo s (k + 1) = afTo s k + ((facR s (k + 1)).length : Int) from rfl)
    have hfl := facR_len s (k + 1)
    obtain ⟨d, hd⟩ : ∃ d, d = afTo s k := ⟨_, rfl⟩
    rw [← hd] at HS a1 a3 ⊢
    have HD := Lib.hid hd
    clear hd
    by_cases hlt : k < s.size
    · have HC := Lib.hid (factorsOf_any s (k + 1) wr (by omega) (by omega) (by omega))
      go_wp2_with fail
      refine HC.out.mono ?_
      rintro e w1 ⟨g, c, rfl, ho, hb1⟩
      have HB1 := Lib.hid (bthen HB.out hb1); clear ho hb1
      go_wp2_with fail
      go_roundw
      case rel => exact ⟨k + 1, by omega, by go_num, by rw [HS.out], HB1.out⟩
      case measure => simp [intOf]; omega
    · obtain rfl : k = s.size := by omega
      go_wp2_with fail
      go_ret
      exact ⟨by rw [HP.out, ← HD.out] <;> rfl, HB.out⟩
set_option maxHeartbeats 1000000 in
theorem specAllFactors_any (s : ByteArray) (w : World) (hs : s.size ≤ maxLen) :
    Calls Try.prog 22 #[.string s] w fun e w' => e = .returned (.int .i64 (afR s)) ∧ Below w.heap.size w w' := by
  have hs' := hs
  unfold maxLen at hs'
  cases hw : wordB s.data.toList
  · have HP := Lib.hid (af_no (s := s) (by rw [hw]; rfl))
    go_enter Try.func22, Try.ntmps22
    go_wp2_with (go_at_call 46; refine (specWordOk_any _ _ hs).mono ?_; rw [hw]; rintro e w' ⟨rfl, rfl⟩)
    go_ret
    exact ⟨by rw [HP.out] <;> rfl, Below.refl _ _⟩
  have HW := Lib.hid hw
  by_cases h60 : (s.size : Int) ≤ 60
  case neg =>
    have HP := Lib.hid (af_no (s := s) (by rw [decide_eq_false h60]; simp))
    clear hw
    go_enter Try.func22, Try.ntmps22
    go_wp2_with (go_at_call 46; refine (specWordOk_any _ _ hs).mono ?_; rw [HW.out]; rintro e w' ⟨rfl, rfl⟩)
    go_ret
    exact ⟨by rw [HP.out] <;> rfl, Below.refl _ _⟩
  have HP := Lib.hid (af_yes (s := s) (by rw [hw, decide_eq_true h60]; rfl))
  clear hw
  go_enter Try.func22, Try.ntmps22
  go_wp2_with (go_at_call 46; refine (specWordOk_any _ _ hs).mono ?_; rw [HW.out]; rintro e w' ⟨rfl, rfl⟩)
  go_loopw [3, 4] (fun x j wr => ∃ k : Nat, k ≤ s.size ∧ j = .int .i64 ((k + 1 : Nat) : Int) ∧ x = .int .i64 (afTo s k) ∧ Below w.heap.size w wr) (fun _ j _ => s.size + 1 - (intOf j).toNat)
  case atStart => exact ⟨0, Nat.zero_le _, rfl, rfl, Below.refl _ _⟩
  case round =>
    obtain ⟨k, hk, rfl, rfl, hb⟩ := hrel
    have HB := Lib.hid hb; clear hb
    obtain ⟨a1, a2⟩ := afTo_bound s k
    have a3 : afTo s k ≤ 61 * 61 := Int.le_trans a2 (Int.mul_le_mul (by omega) (by omega) (by omega) (by omega))
    clear a2
    have HS := Lib.hid (show afTo s (k + 1) = afTo s k + ((facR s (k + 1)).length : Int) from rfl)
    have hfl := facR_len s (k + 1)
    obtain ⟨d, hd⟩ : ∃ d, d = afTo s k := ⟨_, rfl⟩
    rw [← hd] at HS a1 a3 ⊢
    have HD := Lib.hid hd
    clear hd
    by_cases hlt : k < s.size
    · have HC := Lib.hid (l05Factors_any s (k + 1) wr (by omega) (by omega) (by omega))
      go_wp2_with fail
      refine HC.out.mono ?_
      rintro e w1 ⟨g, c, rfl, ho, hb1⟩
      have HB1 := Lib.hid (bthen HB.out hb1); clear ho hb1
      go_wp2_with fail
      go_roundw
      case rel => exact ⟨k + 1, by omega, by go_num, by rw [HS.out], HB1.out⟩
      case measure => simp [intOf]; omega
    · obtain rfl : k = s.size := by omega
      go_wp2_with fail
      go_ret
      exact ⟨by rw [HP.out, ← HD.out] <;> rfl, HB.out⟩
end Go.Proofs.Ytflpnbbdfjcggaa
