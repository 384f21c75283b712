/- Walks: the laws' own helpers on slices of strings and of integers: equal slices compare as equal. -/
import Derived.Test.YtciiokegifgbdaaDoorRows
import Derived.Test.YtciiokegifgbdaaDoorSl
namespace Go.Proofs.YtciiokegifgbdaaDoor
open Go.RowKit

set_option maxHeartbeats 400000 in
theorem eqStringS_same (xs : List ByteArray) (va vb : Value) (w : World) (B : Nat) (ha : Row1 w B va (xs.map .string)) (hb : Row1 w B vb (xs.map .string)) :
    Calls Tryd.prog 42 #[va, vb] w fun e w' => e = .returned (.bool true) ∧ ∃ n, w' = w.drewN n := by
  have hl := ha.len
  simp only [List.length_map] at hl
  obtain ⟨A, c, rfl, hc, hm, hA⟩ := ha
  obtain ⟨A', c', rfl, hc', hm', hA'⟩ := hb
  simp only [List.length_map] at hc hc' ⊢
  rcases Nat.eq_zero_or_pos xs.length with h0 | h0
  · rw [h0]
    go_enter Tryd.func42, Tryd.ntmps42
    go_wp2_with fail
    refine wp_loop_rounds 1 ?_
    rw [rounds_succ]
    go_wp2
    go_ret
    exact ⟨rfl, 0, rfl⟩
  · have hne : xs.map Value.string ≠ [] := by intro h; rw [List.map_eq_nil_iff] at h; subst h; simp at h0
    obtain ⟨b, o, rfl, _, hcell⟩ := hA hne
    obtain ⟨b', o', rfl, _, hcell'⟩ := hA' hne
    have HC := Lib.hid hcell; have HC' := Lib.hid hcell'; clear hcell hcell' hA hA' hne
    go_enter Tryd.func42, Tryd.ntmps42
    go_wp2_with fail
    go_loopw [5] (fun i wr => ∃ k : Nat, k ≤ xs.length ∧ i = .int .i64 k ∧ ∃ n, wr = w.drewN n) (fun i _ => xs.length - (intOf i).toNat)
    case atStart => exact ⟨0, Nat.zero_le _, rfl, 0, rfl⟩
    case round =>
      obtain ⟨k, hk, rfl, n, rfl⟩ := hrel
      by_cases hlt : k < xs.length
      · have g1 := HC.out k _ (map_get Value.string xs k hlt)
        have g2 := HC'.out k _ (map_get Value.string xs k hlt)
        go_wp2_with fail
        go_quiet (fail)
        go_wp2
        go_roundw
        case rel => exact ⟨k + 1, by omega, by go_num, _, rfl⟩
        case measure => simp [intOf]; omega
      · go_wp2
        go_ret
        exact ⟨rfl, _, rfl⟩
end Go.Proofs.YtciiokegifgbdaaDoor
