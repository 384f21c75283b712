/- Walks: images none of which begins with another one. -/
import Derived.Test.YtbhpgghikjhjhaaUni
namespace Go.Proofs.Ytbhpgghikjhjhaa
open Go.RowKit

set_option maxHeartbeats 400000 in
theorem hasPrefix_any (s p : ByteArray) (w : World) :
    Calls Try.prog 50 #[.string s, .string p] w fun e w' => e = .returned (.bool (decide (p.size ≤ s.size) && ((s.extract 0 p.size).toList == p.toList))) ∧ w = w' := by
  by_cases hle : p.size ≤ s.size
  · go_enter Try.func50, Try.ntmps50
    go_wp2
    go_ret
    exact ⟨ret_bool (by rw [decide_eq_true hle]; simp), rfl⟩
  · go_enter Try.func50, Try.ntmps50
    go_wp2
    go_ret
    exact ⟨ret_bool (by rw [decide_eq_false hle]; rfl), rfl⟩
set_option maxHeartbeats 1000000 in
theorem implIsCode_any (xs : List ByteArray) (va : Value) (w : World) (ha : Row1 w w.heap.size va (xs.map .string)) (hs : ∀ s ∈ xs, s.size ≤ maxLen) :
    Calls Try.prog 23 #[.agg #[va]] w fun e w' => e = .returned (.bool (codeB xs)) ∧ Below w.heap.size w w' := by
  have hl := ha.len
  simp only [List.length_map] at hl
  have s0 := Stands.start w 27 va
  have HOK := Lib.hid (implSubstOk_any xs va _ (s0.row ha) hs)
  rcases Nat.eq_zero_or_pos xs.length with h0 | h0
  · obtain rfl : xs = [] := List.eq_nil_of_length_eq_zero h0
    obtain ⟨A, cp, rfl⟩ := ha.shape
    have HF := Lib.hid (code_bad (xs := []) rfl)
    have HS0 := Lib.hid s0
    have c0 := s0.box
    clear s0 ha hs
    go_enter Try.func23, Try.ntmps23
    go_wp2_with fail
    refine wp_loop_rounds 1 ?_
    rw [rounds_succ]
    go_wp2_with fail
    refine HOK.out.mono ?_
    rw [show substB [] = false from rfl]
    rintro e w1 ⟨rfl, hb1⟩
    have S1 := Lib.hid (HS0.out.on hb1); clear hb1
    go_wp2_with fail
    go_ret
    exact ⟨by rw [HF.out] <;> rfl, S1.out.below⟩
  obtain ⟨b, o, cp, rfl, hbB, hc, hcell⟩ := ha.openAt h0
  have HC := Lib.hid (fun (k : Nat) (hk : k < xs.length) => (s0.below.cell (p := ⟨b, o + k, none⟩) hbB).trans (hcell k hk))
  have c0 := s0.box
  have HS0 := Lib.hid s0
  clear ha hs hcell s0
  go_enter Try.func23, Try.ntmps23
  go_wp2_with fail
  go_loop [10] (fun i => ∃ n : Nat, n ≤ xs.length ∧ (∀ i k, i < n → k < xs.length → i ≠ k → preAt xs i k = false) ∧ i = .int .i64 n) (fun i => xs.length - (intOf i).toNat)
  case atStart => exact ⟨0, Nat.zero_le _, fun i k h => absurd h (Nat.not_lt_zero _), rfl⟩
  case round =>
    obtain ⟨n, hn, hall, rfl⟩ := hrel
    have HALL := Lib.hid hall; clear hall
    by_cases hlt : n < xs.length
    · have g1 := HC.out n hlt
      go_wp2_with fail
      go_loop [18] (fun i => ∃ k : Nat, k ≤ xs.length ∧ (∀ j, j < k → n ≠ j → preAt xs n j = false) ∧ i = .int .i64 k) (fun i => xs.length - (intOf i).toNat)
      case atStart => exact ⟨0, Nat.zero_le _, fun j h => absurd h (Nat.not_lt_zero _), rfl⟩
      case round =>
        obtain ⟨k, hk, hin, rfl⟩ := hrel
        have HIN := Lib.hid hin; clear hin
        by_cases hkt : k < xs.length
        · have g2 := HC.out k hkt
          by_cases hnk : n = k
          · subst hnk
            go_wp2
            go_round
            case rel => exact ⟨n + 1, by omega, fun j hj hne => HIN.out j (by omega) hne, by go_num⟩
            case measure => simp [intOf]; omega
          · have HP := Lib.hid (fun W => hasPrefix_any xs[n] xs[k] W)
            cases hp : preAt xs n k
            · have HPA := Lib.hid hp
              have hp2 := preAt_get hlt hkt
              rw [hp] at hp2
              have HP2 := Lib.hid hp2.symm
              clear hp hp2
              go_wp2_with (go_at_call 50; refine (HP.out _).mono ?_; rw [HP2.out]; rintro e w' ⟨rfl, rfl⟩)
              go_round
              case rel =>
                refine ⟨k + 1, by omega, fun j hj hne => ?_, by go_num⟩
                by_cases e : j = k
                · subst e; exact HPA.out
                · exact HIN.out j (by omega) hne
              case measure => simp [intOf]; omega
            · have HE := Lib.hid (code_fail hlt hkt hnk hp)
              have hp2 := preAt_get hlt hkt
              rw [hp] at hp2
              have HP2 := Lib.hid hp2.symm
              clear hp hp2
              go_wp2_with (go_at_call 50; refine (HP.out _).mono ?_; rw [HP2.out]; rintro e w' ⟨rfl, rfl⟩)
              go_ret
              exact ⟨by rw [HE.out] <;> rfl, HS0.out.below⟩
        · go_wp2
          go_round
          case rel =>
            refine ⟨n + 1, by omega, fun i k' hi hk' hne => ?_, by go_num⟩
            by_cases e : i = n
            · subst e; exact HIN.out k' (by omega) hne
            · exact HALL.out i k' (by omega) hk' hne
          case measure => simp [intOf]; omega
    · have HE := Lib.hid (code_end (xs := xs) (fun i k hi hk hne => HALL.out i k (by omega) hk hne))
      go_wp2_with fail
      refine HOK.out.mono ?_
      rintro e w1 ⟨rfl, hb1⟩
      have S1 := Lib.hid (HS0.out.on hb1); clear hb1
      go_wp2_with fail
      go_ret
      exact ⟨by rw [HE.out] <;> rfl, S1.out.below⟩
set_option maxHeartbeats 1000000 in
theorem specIsCode_any (xs : List ByteArray) (va : Value) (w : World) (ha : Row1 w w.heap.size va (xs.map .string)) (hs : ∀ s ∈ xs, s.size ≤ maxLen) :
    Calls Try.prog 22 #[.agg #[va]] w fun e w' => e = .returned (.bool (codeB xs)) ∧ Below w.heap.size w w' := by
  have s0 := Stands.start w 27 va
  have HOK := Lib.hid (specSubstOk_any xs va _ (s0.row ha) hs)
  have c0 := s0.box
  cases hx : substB xs
  · have HF := Lib.hid (code_bad hx)
    have HS0 := Lib.hid s0
    clear s0 ha hs
    go_enter Try.func22, Try.ntmps22
    go_wp2_with fail
    refine HOK.out.mono ?_
    rw [hx]
    rintro e w1 ⟨rfl, hb1⟩
    have S1 := Lib.hid (HS0.out.on hb1); clear hb1
    go_wp2_with fail
    go_ret
    exact ⟨by rw [HF.out] <;> rfl, S1.out.below⟩
  have hp := subst_parts hx
  have h0 := hp.1
  have h4 := hp.2.1
  obtain ⟨b, o, cp, rfl, hbB, hc, hcell⟩ := ha.openAt h0
  have HC := Lib.hid hcell
  have HP8 := Lib.hid (fun (k : Nat) (hk : k < xs.length) => (hp.2.2 _ (List.getElem_mem hk)).2.1)
  have HX := Lib.hid hx
  have HS0 := Lib.hid s0
  clear ha hs hcell s0 hp hx
  go_enter Try.func22, Try.ntmps22
  go_wp2_with fail
  refine HOK.out.mono ?_
  rw [HX.out]
  rintro e w1 ⟨rfl, hb1⟩
  have S1 := Lib.hid (HS0.out.on hb1); clear hb1
  have c1 := S1.out.box
  clear c0
  go_wp2_with fail
  go_loop [13] (fun i => ∃ n : Nat, n ≤ xs.length ∧ (∀ i k, i < n → k < xs.length → i ≠ k → preAt xs k i = false) ∧ i = .int .i64 n) (fun i => xs.length - (intOf i).toNat)
  case atStart => exact ⟨0, Nat.zero_le _, fun i k h => absurd h (Nat.not_lt_zero _), rfl⟩
  case round =>
    obtain ⟨n, hn, hall, rfl⟩ := hrel
    have HALL := Lib.hid hall; clear hall
    by_cases hlt : n < xs.length
    · have g1 := (S1.out.below.cell (p := ⟨b, o + n, none⟩) hbB).trans (HC.out n hlt)
      have s1 := HP8.out n hlt
      go_wp2_with fail
      go_loop [21] (fun i => ∃ k : Nat, k ≤ xs.length ∧ (∀ j, j < k → n ≠ j → preAt xs j n = false) ∧ i = .int .i64 k) (fun i => xs.length - (intOf i).toNat)
      case atStart => exact ⟨0, Nat.zero_le _, fun j h => absurd h (Nat.not_lt_zero _), rfl⟩
      case round =>
        obtain ⟨k, hk, hin, rfl⟩ := hrel
        have HIN := Lib.hid hin; clear hin
        by_cases hkt : k < xs.length
        · have g2 := (S1.out.below.cell (p := ⟨b, o + k, none⟩) hbB).trans (HC.out k hkt)
          have s2 := HP8.out k hkt
          by_cases hnk : n = k
          · subst hnk
            go_wp2
            go_round
            case rel => exact ⟨n + 1, by omega, fun j hj hne => HIN.out j (by omega) hne, by go_num⟩
            case measure => simp [intOf]; omega
          · have hp2 := preAt_get hkt hlt
            by_cases hle : xs[n].size ≤ xs[k].size
            · rw [decide_eq_true hle, Bool.true_and] at hp2
              cases hp : preAt xs k n
              · have HPA := Lib.hid hp
                rw [hp] at hp2
                have q1 := hp2.symm
                clear hp hp2
                go_wp2
                go_round
                case rel =>
                  refine ⟨k + 1, by omega, fun j hj hne => ?_, by go_num⟩
                  by_cases e : j = k
                  · subst e; exact HPA.out
                  · exact HIN.out j (by omega) hne
                case measure => simp [intOf]; omega
              · have HE := Lib.hid (code_fail hkt hlt (Ne.symm hnk) hp)
                rw [hp] at hp2
                have q1 := hp2.symm
                clear hp hp2
                go_wp2
                go_ret
                exact ⟨by rw [HE.out] <;> rfl, S1.out.below⟩
            · rw [decide_eq_false hle, Bool.false_and] at hp2
              have HPA := Lib.hid hp2
              clear hp2
              go_wp2
              go_round
              case rel =>
                refine ⟨k + 1, by omega, fun j hj hne => ?_, by go_num⟩
                by_cases e : j = k
                · subst e; exact HPA.out
                · exact HIN.out j (by omega) hne
              case measure => simp [intOf]; omega
        · go_wp2
          go_round
          case rel =>
            refine ⟨n + 1, by omega, fun i k' hi hk' hne => ?_, by go_num⟩
            by_cases e : i = n
            · subst e; exact HIN.out k' (by omega) hne
            · exact HALL.out i k' (by omega) hk' hne
          case measure => simp [intOf]; omega
    · have HE := Lib.hid (code_end (xs := xs) (fun i k hi hk hne => HALL.out k i (by omega) hi (Ne.symm hne)))
      rw [HX.out] at HE
      go_wp2
      go_ret
      exact ⟨by rw [HE.out] <;> rfl, S1.out.below⟩
end Go.Proofs.Ytbhpgghikjhjhaa
