/- Walks: is a word a factor of another one. -/
import Derived.Test.YtflpnbbdfjcggaaPlaces
import Derived.Test.YtflpnbbdfjcggaaPlain7
namespace Go.Proofs.Ytflpnbbdfjcggaa
open Go.RowKit

/-- f stands somewhere in s -/
def hasB (s f : ByteArray) : Bool := (List.range (s.size + 1 - f.size)).any (standsAt s f)
theorem has_yes {s f : ByteArray} {i : Nat} (h : i + f.size ≤ s.size) (h2 : standsAt s f i = true) : hasB s f = true :=
  List.any_eq_true.2 ⟨i, List.mem_range.2 (by omega), h2⟩
theorem has_no {s f : ByteArray} (h : ∀ i, i + f.size ≤ s.size → standsAt s f i = false) : hasB s f = false := by
  rw [← Bool.not_eq_true]
  intro h2
  obtain ⟨i, hi, hst⟩ := List.any_eq_true.1 h2
  rw [h i (by have := List.mem_range.1 hi; omega)] at hst
  cases hst
set_option maxHeartbeats 1000000 in
theorem l02Has_any (s f : ByteArray) (w : World) (hs : s.size ≤ 1000) (hf : f.size ≤ 1000) :
    Calls Try.prog 47 #[.string s, .string f] w fun e w' => e = .returned (.bool (hasB s f)) ∧ w' = w := by
  go_enter Try.func47, Try.ntmps47
  go_wp2_with fail
  go_loop [5] (fun i => ∃ k : Nat, k ≤ s.size + 1 ∧ i = .int .i64 k ∧ ∀ j, j < k → j + f.size ≤ s.size → standsAt s f j = false) (fun i => s.size + 1 - (intOf i).toNat)
  case atStart => exact ⟨0, Nat.zero_le _, rfl, fun j hj => absurd hj (Nat.not_lt_zero _)⟩
  case round =>
    obtain ⟨k, hk, rfl, hno⟩ := hrel
    have HNO := Lib.hid hno; clear hno
    by_cases hlt : k + f.size ≤ s.size
    · cases hst : standsAt s f k
      · have HST := Lib.hid hst
        unfold standsAt at hst
        go_wp2
        go_round
        case rel => exact ⟨k + 1, by omega, by go_num, fun j hj hr => by
          rcases Nat.lt_succ_iff_lt_or_eq.1 hj with h | rfl
          · exact HNO.out j h hr
          · exact HST.out⟩
        case measure => simp [intOf]; omega
      · have HY := Lib.hid (has_yes hlt hst)
        unfold standsAt at hst
        go_wp2
        go_ret
        exact ⟨by rw [HY.out] <;> rfl, rfl⟩
    · have HY := Lib.hid (has_no (s := s) (f := f) (fun i hi => HNO.out i (by omega) hi))
      go_wp2
      go_ret
      exact ⟨by rw [HY.out] <;> rfl, rfl⟩
end Go.Proofs.Ytflpnbbdfjcggaa
