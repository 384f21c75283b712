/- Walks: primitive substitutions, the program's own way. -/
import Derived.Test.YtglleimmmfnhcaaPrimD
namespace Go.Proofs.Ytglleimmmfnhcaa
open Go.RowKit
set_option maxRecDepth 20000

set_option maxHeartbeats 8000000 in
theorem implIsPrimitiveSubst_any (xs : List ByteArray) (va : Value) (w : World) (ha : Row1 w w.heap.size va (xs.map .string)) (hs : ∀ s ∈ xs, s.size ≤ maxLen) :
    Calls Try.prog 29 #[.agg #[va]] w fun e w' => e = .returned (.bool (primR xs)) ∧ Below w.heap.size w w' := by
  have s0 := Stands.start w 28 va
  have HOK := Lib.hid (implSubstOk_any xs _ _ (s0.row ha) hs)
  have HS0 := Lib.hid s0
  have HA := Lib.hid ha
  have c0 := s0.box
  clear s0 ha hs
  cases hx : substB xs
  · have HF := Lib.hid (primR_no hx)
    go_enter Try.func29, Try.ntmps29
    go_wp2_with fail
    refine HOK.out.mono ?_
    rw [hx]
    rintro e w1 ⟨rfl, hb1⟩
    have S1 := Lib.hid (HS0.out.on hb1); clear hb1
    go_wp2_with fail
    go_ret
    exact ⟨by rw [HF.out] <;> rfl, S1.out.below⟩
  obtain ⟨i0, hi, hz0, hz1, hz2⟩ := info_parts info_int
  have HI := Lib.hid hi; have HZ0 := Lib.hid hz0; have HZ1 := Lib.hid hz1; have HZ2 := Lib.hid hz2
  clear hi hz0 hz1 hz2
  obtain ⟨i1, hi, hz0, hz1, hz2⟩ := info_parts info_row
  have HJ := Lib.hid hi; have HY0 := Lib.hid hz0; have HY1 := Lib.hid hz1; have HY2 := Lib.hid hz2
  clear hi hz0 hz1 hz2
  have HF := Lib.hid (primR_yes hx)
  obtain ⟨h1x, h4x, hzz⟩ := subst_parts hx
  clear hzz
  have HX := Lib.hid hx; clear hx
  have HML := Lib.hid (matR_len xs); have HMR := Lib.hid (matR_rows xs)
  go_enter Try.func29, Try.ntmps29
  go_wp2_with fail
  refine HOK.out.mono ?_
  rw [HX.out]
  rintro e w1 ⟨rfl, hb1⟩
  have S1 := Lib.hid (HS0.out.on hb1); clear hb1
  have c1 := S1.out.box
  clear c0
  go_wp2_with fail
  refine (implMatrix_any xs va _ (S1.out.row HA.out) HX.out).mono ?_
  rintro e w2 ⟨vm, rfl, ho, hb2⟩
  have S2 := Lib.hid (S1.out.on hb2)
  have M2 := Lib.hid ho.row2; clear ho hb2 c1
  obtain ⟨R, hR⟩ : ∃ R, R = primGo (matR xs) 16 (matR xs) := ⟨_, rfl⟩
  rw [← hR] at HF
  have HR := Lib.hid hR; clear hR
  obtain ⟨mm, hmm⟩ : ∃ mm, mm = matR xs := ⟨_, rfl⟩
  rw [← hmm] at HML HMR M2 HR
  clear hmm
  go_wp2_with fail
  go_loopw [4, 23] (fun v i wr => ∃ (k : Nat) (u : Value) (a : List (List Int)), v = u ∧ k ≤ 16 ∧ i = .int .i64 k ∧ R = primGo mm (16 - k) a ∧ a.length = xs.length ∧ (∀ r ∈ a, r.length = xs.length) ∧ Row2 wr wr.heap.size u a ∧ Row2 wr wr.heap.size vm mm ∧ Stands w 28 va wr) (fun _ i _ => 16 - (intOf i).toNat)
  case atStart => exact ⟨0, _, mm, rfl, Nat.zero_le _, rfl, HR.out, HML.out, HMR.out, M2.out, M2.out, S2.out⟩
  case round =>
    obtain ⟨k, u, a, rfl, hk, rfl, hR, hal, har, h2u, h2m, hst⟩ := hrel
    have HRR := Lib.hid hR; have HAL := Lib.hid hal; have HAR := Lib.hid har; have HU := Lib.hid h2u; have HM := Lib.hid h2m; have HS := Lib.hid hst
    obtain ⟨ba, oa, ca, rfl, hba, hca, hA⟩ := h2u.open2 (by omega) (by omega) har
    have HOA := Lib.hid hA
    rw [hal] at hca ⊢
    clear hR hal har h2u h2m hst hA
    by_cases hlt : k < 16
    · have hlt2 : (k : Int) < 16 := by omega
      go_wp2_with fail
      obtain ⟨wo, rfl⟩ : ∃ wo, wo = wr := ⟨_, rfl⟩
      go_loopw [5, 27] (fun f j w2 => ∃ q : Nat, q ≤ xs.length ∧ j = .int .i64 q ∧ f = .bool (fullB (a.take q)) ∧ w2 = wo) (fun _ j _ => xs.length - (intOf j).toNat)
      case atStart => exact ⟨0, Nat.zero_le _, rfl, rfl, rfl⟩
      case round =>
        obtain ⟨q, hq, rfl, rfl, rfl⟩ := hrel
        by_cases hql : q < xs.length
        · have hqa : q < a.length := by have := HAL.out; omega
          obtain ⟨b1, o1, c1, hb1, hc1, g1, G1⟩ := HOA.out q hqa
          have HG1 := Lib.hid G1
          have HFS := Lib.hid (full_step hqa)
          have HRL := Lib.hid (HAR.out _ (List.getElem_mem hqa))
          obtain ⟨row, hrow⟩ : ∃ row, row = a[q] := ⟨_, rfl⟩
          rw [← hrow] at HG1 HFS HRL
          obtain ⟨f0, hf0⟩ : ∃ f0, f0 = fullB (a.take q) := ⟨_, rfl⟩
          rw [← hf0] at HFS ⊢
          clear G1 hrow hqa hf0
          go_wp2_with fail
          go_loop [5, 33] (fun f j => ∃ m : Nat, m ≤ xs.length ∧ j = .int .i64 m ∧ f = .bool (f0 && fullR (row.take m))) (fun _ j => xs.length - (intOf j).toNat)
          case atStart => exact ⟨0, Nat.zero_le _, rfl, by simp [fullR]⟩
          case round =>
            clear g1
            obtain ⟨m, hm, rfl, rfl⟩ := hrel
            by_cases hml : m < xs.length
            · have g5 := HG1.out m hml
              have HN := Lib.hid (fullR_step (r := row) (j := m) (by have := HRL.out; omega))
              obtain ⟨y, hy⟩ : ∃ y, y = row.getD m 0 := ⟨_, rfl⟩
              rw [← hy] at g5 HN
              obtain ⟨f1, hf1⟩ : ∃ f1, f1 = fullR (row.take m) := ⟨_, rfl⟩
              rw [← hf1] at HN ⊢
              clear hy hf1
              by_cases h1 : 0 < y
              · rw [decide_eq_true h1] at HN
                cases f0 <;> cases f1
                all_goals
                  go_wp2
                  go_round
                  case rel => first | exact ⟨m + 1, by omega, by go_num, by first | rfl | (rw [HN.out] <;> rfl)⟩ | exact ⟨_, _, _, ⟨m + 1, by omega, by go_num, by first | rfl | (rw [HN.out] <;> rfl)⟩, rfl, rfl, rfl⟩
                  case measure => simp [intOf]; omega
              · rw [decide_eq_false h1] at HN
                cases f0 <;> cases f1
                all_goals
                  go_wp2
                  go_round
                  case rel => first | exact ⟨m + 1, by omega, by go_num, by first | rfl | (rw [HN.out] <;> rfl)⟩ | exact ⟨_, _, _, ⟨m + 1, by omega, by go_num, by first | rfl | (rw [HN.out] <;> rfl)⟩, rfl, rfl, rfl⟩
                  case measure => simp [intOf]; omega
            · obtain rfl : m = xs.length := by omega
              have HE := Lib.hid (show row.take xs.length = row from List.take_of_length_le (by have := HRL.out; omega))
              go_wp2
              go_roundw
              case rel => exact ⟨q + 1, by omega, by go_num, by rw [HFS.out, HE.out]; exact ⟨rfl, trivial⟩⟩
              case measure => simp [intOf]; omega
        · obtain rfl : q = xs.length := by omega
          obtain ⟨wz, rfl⟩ : ∃ wz, wz = wr := ⟨_, rfl⟩
          have HE := Lib.hid (show a.take xs.length = a from List.take_of_length_le (by have := HAL.out; omega))
          rw [HE.out]
          have h16 : 16 - k = (16 - (k + 1)) + 1 := by omega
          cases hf : fullB a
          · have HN := Lib.hid (HRR.out.trans (by rw [h16, prim_no hf]))
            clear hf h16
            have HO0 := Lib.hid (World.ownsRow_made (base := wz.heap.size) (e := 41) (size := 1) wz #[] 0 (Nat.le_refl _) (Nat.zero_le _) rfl)
            have HMB := Lib.hid (HM.out.open2 (by have := HML.out; omega) (by omega) HMR.out)
            obtain ⟨bm, om, cm, hvm, hbm, hcm, hB⟩ := HMB.out
            rw [HML.out] at hvm hcm
            subst hvm
            have HBM := Lib.hid hB; clear hB
            go_wp2_with fail
            go_loopw [10, 48] (fun v j w2 => ∃ (q : Nat) (u : Value) (vs : List Value), v = u ∧ q ≤ xs.length ∧ j = .int .i64 q ∧ OwnV 41 3 w2 wz.heap.size u vs ((signs a mm).take q) ∧ Below wz.heap.size wz w2) (fun _ j _ => xs.length - (intOf j).toNat)
            case atStart => exact ⟨0, _, [], rfl, Nat.zero_le _, rfl, OwnV.empty (by simpa using HO0.out), bnew _ _⟩
            case round =>
              obtain ⟨w2, rfl⟩ : ∃ w2, w2 = wr := ⟨_, rfl⟩
              obtain ⟨q, u, vs, rfl, hq, rfl, hov, hbel⟩ := hrel
              have HV := Lib.hid hov; have HW := Lib.hid hbel
              have HLEN := Lib.hid (show ((signs a mm).take q).length = q by rw [List.length_take, signs_len, HAL.out]; omega)
              clear hov hbel
              by_cases hql : q < xs.length
              · have hqa : q < a.length := by have := HAL.out; omega
                obtain ⟨b1, o1, c1, hb1, hc1, g1, G1⟩ := HOA.out q hqa
                have HG1 := Lib.hid G1
                have g1' := (HW.out.cell (p := ⟨ba, oa + q, none⟩) hba).trans g1
                have HRL := Lib.hid (HAR.out _ (List.getElem_mem hqa))
                have HST := Lib.hid (signs_take (b := mm) hqa)
                obtain ⟨row, hrow⟩ : ∃ row, row = a[q] := ⟨_, rfl⟩
                rw [← hrow] at HG1 HRL HST
                clear G1 g1 hrow hqa
                go_wp2_with (at_make; refine wpList_make_full _ rfl _ _ 41 rfl w2.heap.size 3 i0 _ 1 Try.underlying41 HI.out HZ0.out HZ1.out _ _ _ _ xs.length rfl rfl rfl rfl (by rw [HZ2.out]; omega) (by unfold maxLen; omega) (Nat.le_refl _) ?_)
                intro w3 hown3 hgrow3
                rw [toList_madeCells_one] at hown3
                have HO3 := Lib.hid (show w3.ownsRow w2.heap.size 3 1 (.slice (some ⟨w2.heap.size, 0, none⟩) xs.length xs.length) xs.length (ints (sgnPart row mm 0 0)) from by rw [sgnPart_zero, HML.out]; simpa [ints] using hown3)
                have HB3 := Lib.hid ((Below.refl w2.heap.size w2).grown hgrow3 (Nat.le_refl _) (fun g hg => by cases hg))
                clear hown3 hgrow3 g1'
                go_wp2_with fail
                go_loopw [57] (fun j w4 => ∃ m : Nat, m ≤ xs.length ∧ j = .int .i64 m ∧ w4.ownsRow w2.heap.size 3 1 (.slice (some ⟨w2.heap.size, 0, none⟩) xs.length xs.length) xs.length (ints (sgnPart row mm m 0)) ∧ Below w2.heap.size w2 w4) (fun j _ => xs.length - (intOf j).toNat)
                case atStart => exact ⟨0, Nat.zero_le _, rfl, HO3.out, HB3.out⟩
                case round =>
                  clear HO3 HB3
                  obtain ⟨w4, rfl⟩ : ∃ w4, w4 = wr := ⟨_, rfl⟩
                  obtain ⟨m, hm, rfl, ho4, hb4⟩ := hrel
                  have HO4 := Lib.hid ho4; have HB4 := Lib.hid hb4; clear ho4 hb4
                  by_cases hml : m < xs.length
                  · obtain ⟨b3, o3, c3, hb3, hc3, g3, G3⟩ := HBM.out m (by have := HML.out; omega)
                    have HG3 := Lib.hid G3
                    have g5 := ((bthen HW.out HB4.out).cell (p := ⟨b1, o1 + m, none⟩) hb1).trans (HG1.out m hml)
                    have hmd : mm[m]'(by have := HML.out; omega) = mm.getD m [] := by rw [List.getD_eq_getElem?_getD, List.getElem?_eq_getElem (by have := HML.out; omega)]; rfl
                    rw [hmd] at HG3
                    have HH := Lib.hid (fun q h1 h2 => sgn_hit (row := row) (b := mm) (k := q) (j := m) h1 h2)
                    have HMS := Lib.hid (fun q h => sgn_miss (row := row) (b := mm) (k := q) (j := m) h)
                    obtain ⟨y, hy⟩ : ∃ y, y = row.getD m 0 := ⟨_, rfl⟩
                    rw [← hy] at g5 HH HMS
                    have G3' := Lib.hid g3
                    clear G3 g3 hmd hy
                    go_wp2_with fail
                    go_loopw [64] (fun j w5 => ∃ p : Nat, p ≤ xs.length ∧ j = .int .i64 p ∧ w5.ownsRow w2.heap.size 3 1 (.slice (some ⟨w2.heap.size, 0, none⟩) xs.length xs.length) xs.length (ints (sgnPart row mm m p)) ∧ Below w2.heap.size w2 w5) (fun j _ => xs.length - (intOf j).toNat)
                    case atStart => exact ⟨0, Nat.zero_le _, rfl, HO4.out, HB4.out⟩
                    case round =>
                      clear HO4 HB4 g5
                      obtain ⟨w5, rfl⟩ : ∃ w5, w5 = wr := ⟨_, rfl⟩
                      obtain ⟨p, hp, rfl, ho5, hb5⟩ := hrel
                      have HO5 := Lib.hid ho5; have HB5 := Lib.hid hb5; clear ho5 hb5
                      by_cases hpl : p < xs.length
                      · have g6 := ((bthen HW.out HB5.out).cell (p := ⟨bm, om + m, none⟩) hbm).trans G3'.out
                        have g7 := ((bthen HW.out HB5.out).cell (p := ⟨b3, o3 + p, none⟩) hb3).trans (HG3.out p hpl)
                        have HHp := Lib.hid (HH.out p); have HMp := Lib.hid (HMS.out p)
                        obtain ⟨z, hz⟩ : ∃ z, z = (mm.getD m []).getD p 0 := ⟨_, rfl⟩
                        rw [← hz] at g7 HHp HMp
                        clear hz
                        by_cases h1 : 0 < y
                        · by_cases h2 : 0 < z
                          · have HN := Lib.hid (sgnPart_set (row := row) (b := mm) (j := m) (q := p))
                            rw [HHp.out h1 h2] at HN
                            obtain ⟨z0, hz0⟩ := sgnPart_get (row := row) (b := mm) (j := m) (q := p) (n := p) (by have := HML.out; omega)
                            have g8 := HO5.out.cellAt p (by omega)
                            rw [hz0] at g8
                            have g9 := HO5.out.frozenAt p
                            clear hz0
                            go_wp2
                            go_roundw
                            case rel =>
                              have h3 := HO5.out.stored p (.int .i64 1)
                              rw [← List.map_set, HN.out] at h3
                              exact ⟨p + 1, by omega, by go_num, h3.1, HB5.out.grown h3.2 HB5.out.size (fun g hg => by simp at hg; omega)⟩
                            case measure => simp [intOf]; omega
                          · have HN := Lib.hid (sgnPart_same (row := row) (b := mm) (j := m) (q := p) (HMp.out (fun h => h2 h.2)))
                            go_wp2
                            go_roundw
                            case rel => exact ⟨p + 1, by omega, by go_num, by rw [HN.out]; exact HO5.out, HB5.out⟩
                            case measure => simp [intOf]; omega
                        · have HN := Lib.hid (sgnPart_same (row := row) (b := mm) (j := m) (q := p) (HMp.out (fun h => h1 h.1)))
                          go_wp2
                          go_roundw
                          case rel => exact ⟨p + 1, by omega, by go_num, by rw [HN.out]; exact HO5.out, HB5.out⟩
                          case measure => simp [intOf]; omega
                      · obtain rfl : p = xs.length := by omega
                        have HE := Lib.hid (show sgnPart row mm m xs.length = sgnPart row mm (m + 1) 0 from by rw [← HML.out]; exact sgnPart_end _ _ _)
                        rw [HE.out] at HO5
                        go_wp2
                        go_roundw
                        case rel => exact ⟨m + 1, by omega, by go_num, HO5.out, HB5.out⟩
                        case measure => simp [intOf]; omega
                  · obtain rfl : m = xs.length := by omega
                    have HE := Lib.hid (show sgnPart row mm xs.length 0 = sgnRow row mm from by have h := sgnPart_all row mm; rw [HRL.out] at h; exact h)
                    rw [HE.out] at HO4
                    have hrow : w4.ownsRow w2.heap.size 3 1 (.slice (some ⟨w2.heap.size, 0, none⟩) xs.length xs.length) (sgnRow row mm).length (ints (sgnRow row mm)) := by rw [sgnRow_len, HML.out]; exact HO4.out
                    have HROW := Lib.hid hrow; clear hrow
                    have HVB := Lib.hid (HV.out.below HB4.out)
                    go_wp2_with (at_builtin; refine wpList_append_own _ rfl _ _ 49 rfl wz.heap.size 41 i1 (.slice none 0 0) 1 24 Try.underlying49 HJ.out HY0.out HY1.out HY2.out rfl (by decide) _ _ _ rfl (HVB.out.own.alloc _) ⟨_, 0, none⟩ 1 1 [.slice (some ⟨w2.heap.size, 0, none⟩) xs.length xs.length] rfl rfl ?c1 ?c2 ?c3 ?c4 ?c5 ?_)
                    case c1 => exact cell_one_new _ _ _
                    case c2 => intro u hu; simp at hu; subst hu; rfl
                    case c3 => rw [HLEN.out]; unfold maxLen; omega
                    case c4 => rw [HLEN.out]; omega
                    case c5 => have := HB4.out.size; have := HW.out.size; simp; omega
                    intro v' w6 hown' hgrow _
                    have HV3 := Lib.hid (HV.out.push types_apart HW.out.size (bthen HB4.out (bnew _ _)) (HROW.out.alloc _) (by simpa using hown') hgrow)
                    have HS3 := Lib.hid (since_grown (bthen HW.out (bthen HB4.out (bnew _ _))) hgrow (fun g hg => (own_lt HV.out.own hg).1))
                    clear hown' hgrow
                    go_wp2
                    go_roundw
                    case rel => exact ⟨q + 1, v', _, rfl, by omega, by go_num, by rw [HST.out]; exact HV3.out, HS3.out⟩
                    case measure => simp [intOf]; omega
              · obtain rfl : q = xs.length := by omega
                have HE := Lib.hid (show (signs a mm).take xs.length = signs a mm from List.take_of_length_le (by rw [signs_len, HAL.out]; exact Nat.le_refl _))
                rw [HE.out] at HV
                have M3 := Lib.hid (HM.out.on HW.out)
                have S3 := Lib.hid (HS.out.on HW.out)
                have U3 := Lib.hid HV.out.row2
                go_wp2_with fail
                go_roundw
                case rel => exact ⟨k + 1, _, signs a mm, rfl, by omega, by go_num, HN.out, by rw [signs_len]; exact HAL.out, by intro r hr; rw [signs_rows a mm r hr]; exact HML.out, U3.out, M3.out, S3.out⟩
                case measure => simp [intOf]; omega
          · have HN := Lib.hid (HRR.out.trans (by rw [h16, prim_yes hf]))
            clear hf h16
            go_wp2
            go_ret
            exact ⟨by rw [HF.out, HN.out] <;> rfl, HS.out.below⟩
    · obtain rfl : k = 16 := by omega
      have HN := Lib.hid (HRR.out.trans (show primGo mm (16 - 16) a = false from rfl))
      go_wp2
      go_ret
      exact ⟨by rw [HF.out, HN.out] <;> rfl, HS.out.below⟩
end Go.Proofs.Ytglleimmmfnhcaa
