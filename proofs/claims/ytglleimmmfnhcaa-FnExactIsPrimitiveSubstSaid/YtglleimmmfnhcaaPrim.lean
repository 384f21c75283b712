/- Walks: primitive substitutions, the reference. -/
import Derived.Test.YtglleimmmfnhcaaSigns
namespace Go.Proofs.Ytglleimmmfnhcaa
open Go.RowKit
set_option maxRecDepth 20000

set_option maxHeartbeats 8000000 in
theorem specIsPrimitiveSubst_any (xs : List ByteArray) (va : Value) (w : World) (ha : Row1 w w.heap.size va (xs.map .string)) (hs : ∀ s ∈ xs, s.size ≤ maxLen) :
    Calls Try.prog 28 #[.agg #[va]] w fun e w' => e = .returned (.bool (primR xs)) ∧ Below w.heap.size w w' := by
  have s0 := Stands.start w 28 va
  have HOK := Lib.hid (specSubstOk_any xs _ _ (s0.row ha) hs)
  have HS0 := Lib.hid s0
  have HA := Lib.hid ha
  have c0 := s0.box
  clear s0 ha hs
  cases hx : substB xs
  · have HF := Lib.hid (primR_no hx)
    go_enter Try.func28, Try.ntmps28
    go_wp2_with fail
    refine HOK.out.mono ?_
    rw [hx]
    rintro e w1 ⟨rfl, hb1⟩
    have S1 := Lib.hid (HS0.out.on hb1); clear hb1
    go_wp2_with fail
    go_ret
    exact ⟨by rw [HF.out] <;> rfl, S1.out.below⟩
  have HF := Lib.hid (primR_yes hx)
  obtain ⟨h1x, h4x, hzz⟩ := subst_parts hx
  clear hzz
  have HX := Lib.hid hx; clear hx
  have HML := Lib.hid (matR_len xs); have HMR := Lib.hid (matR_rows xs)
  go_enter Try.func28, Try.ntmps28
  go_wp2_with fail
  refine HOK.out.mono ?_
  rw [HX.out]
  rintro e w1 ⟨rfl, hb1⟩
  have S1 := Lib.hid (HS0.out.on hb1); clear hb1
  have c1 := S1.out.box
  clear c0
  go_wp2_with fail
  refine (specMatrix_any xs va _ (S1.out.row HA.out) HX.out).mono ?_
  rintro e w2 ⟨vm, rfl, ho, hb2⟩
  have S2 := Lib.hid (S1.out.on hb2)
  have M2 := Lib.hid ho.row2; clear ho hb2 c1
  obtain ⟨R, hR⟩ : ∃ R, R = primGo (matR xs) 16 (matR xs) := ⟨_, rfl⟩
  rw [← hR] at HF
  have HR := Lib.hid hR; clear hR
  obtain ⟨mm, hmm⟩ : ∃ mm, mm = matR xs := ⟨_, rfl⟩
  rw [← hmm] at HML HMR M2 HR
  clear hmm
  go_wp2_with fail
  go_loopw [4, 5] (fun v i wr => ∃ (k : Nat) (u : Value) (a : List (List Int)), v = u ∧ k ≤ 16 ∧ i = .int .i64 k ∧ R = primGo mm (16 - k) a ∧ a.length = xs.length ∧ (∀ r ∈ a, r.length = xs.length) ∧ Row2 wr wr.heap.size u a ∧ Row2 wr wr.heap.size vm mm ∧ Stands w 28 va wr) (fun _ i _ => 16 - (intOf i).toNat)
  case atStart => exact ⟨0, _, mm, rfl, Nat.zero_le _, rfl, HR.out, HML.out, HMR.out, M2.out, M2.out, S2.out⟩
  case round =>
    obtain ⟨k, u, a, rfl, hk, rfl, hR, hal, har, h2u, h2m, hst⟩ := hrel
    have HRR := Lib.hid hR; have HAL := Lib.hid hal; have HAR := Lib.hid har; have HU := Lib.hid h2u; have HM := Lib.hid h2m; have HS := Lib.hid hst
    obtain ⟨ba, oa, ca, rfl, hba, hca, hA⟩ := h2u.open2 (by omega) (by omega) har
    have HOA := Lib.hid hA
    rw [hal] at hca ⊢
    clear hR hal har h2u h2m hst hA
    by_cases hlt : k < 16
    · have hlt2 : (k : Int) < 16 := by omega
      go_wp2_with fail
      obtain ⟨wo, rfl⟩ : ∃ wo, wo = wr := ⟨_, rfl⟩
      go_loopw [6, 23] (fun f j w2 => ∃ q : Nat, q ≤ xs.length ∧ j = .int .i64 q ∧ f = .bool (fullB (a.take q)) ∧ w2 = wo) (fun _ j _ => xs.length - (intOf j).toNat)
      case atStart => exact ⟨0, Nat.zero_le _, rfl, rfl, rfl⟩
      case round =>
        obtain ⟨q, hq, rfl, rfl, rfl⟩ := hrel
        by_cases hql : q < xs.length
        · have hqa : q < a.length := by have := HAL.out; omega
          obtain ⟨b1, o1, c1, hb1, hc1, g1, G1⟩ := HOA.out q hqa
          have HG1 := Lib.hid G1
          have HFS := Lib.hid (full_step hqa)
          have HRL := Lib.hid (HAR.out _ (List.getElem_mem hqa))
          obtain ⟨row, hrow⟩ : ∃ row, row = a[q] := ⟨_, rfl⟩
          rw [← hrow] at HG1 HFS HRL
          obtain ⟨f0, hf0⟩ : ∃ f0, f0 = fullB (a.take q) := ⟨_, rfl⟩
          rw [← hf0] at HFS ⊢
          clear G1 hrow hqa hf0
          go_wp2_with fail
          go_loop [6, 29] (fun f j => ∃ m : Nat, m ≤ xs.length ∧ j = .int .i64 m ∧ f = .bool (f0 && fullR (row.take m))) (fun _ j => xs.length - (intOf j).toNat)
          case atStart => exact ⟨0, Nat.zero_le _, rfl, by simp [fullR]⟩
          case round =>
            clear g1
            obtain ⟨m, hm, rfl, rfl⟩ := hrel
            by_cases hml : m < xs.length
            · have g5 := HG1.out m hml
              have HN := Lib.hid (fullR_step (r := row) (j := m) (by have := HRL.out; omega))
              obtain ⟨y, hy⟩ : ∃ y, y = row.getD m 0 := ⟨_, rfl⟩
              rw [← hy] at g5 HN
              obtain ⟨f1, hf1⟩ : ∃ f1, f1 = fullR (row.take m) := ⟨_, rfl⟩
              rw [← hf1] at HN ⊢
              clear hy hf1
              by_cases h1 : 0 < y
              · rw [decide_eq_true h1] at HN
                cases f0 <;> cases f1
                all_goals
                  go_wp2
                  go_round
                  case rel => first | exact ⟨m + 1, by omega, by go_num, by first | rfl | (rw [HN.out] <;> rfl)⟩ | exact ⟨_, _, _, ⟨m + 1, by omega, by go_num, by first | rfl | (rw [HN.out] <;> rfl)⟩, rfl, rfl, rfl⟩
                  case measure => simp [intOf]; omega
              · rw [decide_eq_false h1] at HN
                cases f0 <;> cases f1
                all_goals
                  go_wp2
                  go_round
                  case rel => first | exact ⟨m + 1, by omega, by go_num, by first | rfl | (rw [HN.out] <;> rfl)⟩ | exact ⟨_, _, _, ⟨m + 1, by omega, by go_num, by first | rfl | (rw [HN.out] <;> rfl)⟩, rfl, rfl, rfl⟩
                  case measure => simp [intOf]; omega
            · obtain rfl : m = xs.length := by omega
              have HE := Lib.hid (show row.take xs.length = row from List.take_of_length_le (by have := HRL.out; omega))
              go_wp2
              go_roundw
              case rel => exact ⟨q + 1, by omega, by go_num, by rw [HFS.out, HE.out]; exact ⟨rfl, trivial⟩⟩
              case measure => simp [intOf]; omega
        · obtain rfl : q = xs.length := by omega
          have HE := Lib.hid (show a.take xs.length = a from List.take_of_length_le (by have := HAL.out; omega))
          rw [HE.out]
          have h16 : 16 - k = (16 - (k + 1)) + 1 := by omega
          cases hf : fullB a
          · have HN := Lib.hid (HRR.out.trans (by rw [h16, prim_no hf]))
            clear hf h16
            go_wp2_with fail
            have HU2 := Lib.hid (show Row2 wr wr.heap.size (.slice (some ⟨ba, oa, none⟩) xs.length ca) a from by have h := HU.out; rw [HAL.out] at h; exact h)
            (with_reducible refine (l04Signs_any a mm _ _ xs.length _ HU2.out HM.out HAL.out HML.out (by omega) (by omega) HAR.out HMR.out).mono ?_)
            rintro e w3 ⟨v3, rfl, ho3, hb3⟩
            have M3 := Lib.hid (HM.out.on hb3)
            have S3 := Lib.hid (HS.out.on hb3)
            have U3 := Lib.hid ho3.row2
            clear ho3 hb3
            go_wp2_with fail
            go_roundw
            case rel => exact ⟨k + 1, v3, signs a mm, rfl, by omega, by go_num, HN.out, by rw [signs_len]; exact HAL.out, by intro r hr; rw [signs_rows a mm r hr]; exact HML.out, U3.out, M3.out, S3.out⟩
            case measure => simp [intOf]; omega
          · have HN := Lib.hid (HRR.out.trans (by rw [h16, prim_yes hf]))
            clear hf h16
            go_wp2
            go_ret
            exact ⟨by rw [HF.out, HN.out] <;> rfl, HS.out.below⟩
    · obtain rfl : k = 16 := by omega
      have HN := Lib.hid (HRR.out.trans (show primGo mm (16 - 16) a = false from rfl))
      go_wp2
      go_ret
      exact ⟨by rw [HF.out, HN.out] <;> rfl, HS.out.below⟩
end Go.Proofs.Ytglleimmmfnhcaa
