/- Walks: signs of a product. -/
import Derived.Test.YtglleimmmfnhcaaPrimD
namespace Go.Proofs.Ytglleimmmfnhcaa
open Go.RowKit
set_option maxRecDepth 20000

set_option maxHeartbeats 8000000 in
theorem l04Signs_any (a b : List (List Int)) (va vb : Value) (N : Nat) (w : World) (ha : Row2 w w.heap.size va a) (hb : Row2 w w.heap.size vb b) (hal : a.length = N) (hbl : b.length = N) (hN0 : 0 < N) (hN4 : N ≤ 4) (har : ∀ r ∈ a, r.length = N) (hbr : ∀ r ∈ b, r.length = N) :
    Calls Try.prog 64 #[va, vb] w fun e w' => ∃ v, e = .returned v ∧ OwnG w' w.heap.size w'.heap.size v (signs a b) ∧ Below w.heap.size w w' := by
  obtain ⟨i0, hi, hz0, hz1, hz2⟩ := info_parts info_int
  have HI := Lib.hid hi; have HZ0 := Lib.hid hz0; have HZ1 := Lib.hid hz1; have HZ2 := Lib.hid hz2
  clear hi hz0 hz1 hz2
  obtain ⟨i1, hi, hz0, hz1, hz2⟩ := info_parts info_row
  have HJ := Lib.hid hi; have HY0 := Lib.hid hz0; have HY1 := Lib.hid hz1; have HY2 := Lib.hid hz2
  clear hi hz0 hz1 hz2
  obtain ⟨ba, oa, ca, rfl, hba, hca, hA⟩ := ha.open2 (by omega) hN0 har
  obtain ⟨bb, ob, cb, rfl, hbb, hcb, hB⟩ := hb.open2 (by omega) hN0 hbr
  have HA := Lib.hid hA; have HB := Lib.hid hB; have HAR := Lib.hid har
  rw [hal] at hca ⊢
  rw [hbl] at hcb ⊢
  have HAL := Lib.hid hal; have HBL := Lib.hid hbl
  have HO0 := Lib.hid (World.ownsRow_made (base := w.heap.size) (e := 41) (size := 1) w #[] 0 (Nat.le_refl _) (Nat.zero_le _) rfl)
  have HSL := Lib.hid (signs_len a b)
  clear ha hb hA hB har hbr hal hbl
  go_enter Try.func64, Try.ntmps64
  go_wp2_with fail
  go_loopw [5, 16] (fun v i wr => ∃ (k : Nat) (u : Value) (vs : List Value), v = u ∧ k ≤ N ∧ i = .int .i64 k ∧ OwnV 41 3 wr w.heap.size u vs ((signs a b).take k) ∧ Below w.heap.size w wr) (fun _ i _ => N - (intOf i).toNat)
  case atStart => exact ⟨0, _, [], rfl, Nat.zero_le _, rfl, OwnV.empty (by simpa using HO0.out), bnew _ _⟩
  case round =>
    obtain ⟨wo, rfl⟩ : ∃ wo, wo = wr := ⟨_, rfl⟩
    obtain ⟨k, u, vs, rfl, hk, rfl, hov, hbel⟩ := hrel
    have HV := Lib.hid hov; have HW := Lib.hid hbel
    have HLEN := Lib.hid (show ((signs a b).take k).length = k by rw [List.length_take, HSL.out, HAL.out]; omega)
    clear hov hbel
    by_cases hlt : k < N
    · have hka : k < a.length := by have := HAL.out; omega
      obtain ⟨b1, o1, c1, hb1, hc1, g1, G1⟩ := HA.out k hka
      have HG1 := Lib.hid G1
      have g1' := (HW.out.cell (p := ⟨ba, oa + k, none⟩) hba).trans g1
      have g2' := (bthen HW.out (bnew wo (.cells #[] 3))).cell (p := ⟨ba, oa + k, none⟩) hba
      rw [g1] at g2'
      have HRL := Lib.hid (HAR.out _ (List.getElem_mem hka))
      have HST := Lib.hid (signs_take (b := b) hka)
      obtain ⟨row, hrow⟩ : ∃ row, row = a[k] := ⟨_, rfl⟩
      rw [← hrow] at HG1 HRL HST
      have HR0 := Lib.hid (World.ownsRow_made (base := wo.heap.size) (e := 3) (size := 1) wo #[] 0 (Nat.le_refl _) (Nat.zero_le _) rfl)
      clear G1 g1 hrow hka
      go_wp2_with fail
      go_loopw [8, 23] (fun rv j wr => ∃ (q : Nat) (ru : Value), rv = ru ∧ q ≤ N ∧ j = .int .i64 q ∧ wr.ownsRow wo.heap.size 3 1 ru q (ints ((sgnRow row b).take q)) ∧ Below wo.heap.size wo wr) (fun _ j _ => N - (intOf j).toNat)
      case atStart => exact ⟨0, _, rfl, Nat.zero_le _, rfl, by simpa [ints] using HR0.out, bnew _ _⟩
      case round =>
        clear HR0 g1' g2'
        obtain ⟨q, ru, rfl, hq, rfl, ho, hb⟩ := hrel
        have HO := Lib.hid ho; have HB2 := Lib.hid hb; clear ho hb
        by_cases hql : q < N
        · have HWB := Lib.hid (bthen HW.out HB2.out)
          have HRT := Lib.hid (sgnRow_take (row := row) (b := b) (q := q) (by have := HBL.out; omega))
          rw [HRL.out] at HRT
          go_wp2_with fail
          go_loop [10, 28] (fun x j => ∃ m : Nat, m ≤ N ∧ j = .int .i64 m ∧ x = .int .i64 (sgnTo row b q m)) (fun _ j => N - (intOf j).toNat)
          case atStart => exact ⟨0, Nat.zero_le _, rfl, by rw [sgn_zero]⟩
          case round =>
            obtain ⟨m, hm, rfl, rfl⟩ := hrel
            by_cases hml : m < N
            · obtain ⟨b3, o3, c3, hb3, hc3, g3, G3⟩ := HB.out m (by have := HBL.out; omega)
              have g5 := (HWB.out.cell (p := ⟨b1, o1 + m, none⟩) hb1).trans (HG1.out m hml)
              have g6 := (HWB.out.cell (p := ⟨bb, ob + m, none⟩) hbb).trans g3
              have g7 := (HWB.out.cell (p := ⟨b3, o3 + q, none⟩) hb3).trans (G3 q hql)
              have hbm : b[m]'(by have := HBL.out; omega) = b.getD m [] := by rw [List.getD_eq_getElem?_getD, List.getElem?_eq_getElem (by have := HBL.out; omega)]; rfl
              rw [hbm] at g7
              have HH := Lib.hid (fun h1 h2 => sgn_hit (row := row) (b := b) (k := q) (j := m) h1 h2)
              have HM := Lib.hid (fun h => sgn_miss (row := row) (b := b) (k := q) (j := m) h)
              obtain ⟨y, hy⟩ : ∃ y, y = row.getD m 0 := ⟨_, rfl⟩
              obtain ⟨z, hz⟩ : ∃ z, z = (b.getD m []).getD q 0 := ⟨_, rfl⟩
              rw [← hy] at g5 HH HM
              rw [← hz] at g7 HH HM
              clear G3 g3 hbm hy hz
              by_cases h1 : 0 < y
              · by_cases h2 : 0 < z
                · have HN := Lib.hid (HH.out h1 h2)
                  go_wp2
                  go_round
                  case rel => exact ⟨m + 1, by omega, by go_num, by rw [HN.out]⟩
                  case measure => simp [intOf]; omega
                · have HN := Lib.hid (HM.out (fun h => h2 h.2))
                  go_wp2
                  go_round
                  case rel => exact ⟨m + 1, by omega, by go_num, by rw [HN.out]⟩
                  case measure => simp [intOf]; omega
              · have HN := Lib.hid (HM.out (fun h => h1 h.1))
                go_wp2
                go_round
                case rel => exact ⟨m + 1, by omega, by go_num, by rw [HN.out]⟩
                case measure => simp [intOf]; omega
            · obtain rfl : m = N := by omega
              obtain ⟨x, hx⟩ : ∃ x, x = sgnTo row b q m := ⟨_, rfl⟩
              rw [← hx] at HRT ⊢
              clear hx
              go_wp2_with (at_builtin; refine wpList_append_own _ rfl _ _ 41 rfl wo.heap.size 3 i0 (.int .i64 0) 1 8 Try.underlying41 HI.out HZ0.out HZ1.out HZ2.out rfl (by decide) _ _ _ rfl (HO.out.alloc _) ⟨_, 0, none⟩ 1 1 [.int .i64 x] rfl rfl (cell_one_new _ _ _) (by intro u hu; simp at hu; subst hu; rfl) (by unfold maxLen; omega) (by omega) (by have := HB2.out.size; simp; omega) ?_)
              intro v' w3 hown' hgrow _
              have HB3 := Lib.hid (since_grown (bthen HB2.out (bnew _ _)) hgrow (fun g hg => (own_lt HO.out hg).1))
              have HO3 := Lib.hid hown'
              clear hown' hgrow
              go_wp2
              go_roundw
              case rel => exact ⟨q + 1, v', rfl, by omega, by go_num, by rw [HRT.out]; simpa [ints] using HO3.out, HB3.out⟩
              case measure => simp [intOf]; omega
        · obtain rfl : q = N := by omega
          obtain ⟨A, cr, rfl⟩ := own_shape HO.out
          have hrow : wr.ownsRow wo.heap.size 3 1 (.slice A q cr) (sgnRow row b).length (ints (sgnRow row b)) := by
            have h := HO.out
            rw [List.take_of_length_le (by rw [sgnRow_len, HBL.out]; exact Nat.le_refl _)] at h
            rw [sgnRow_len, HBL.out]; exact h
          have HROW := Lib.hid hrow; clear hrow
          have HVB := Lib.hid (HV.out.below HB2.out)
          go_wp2_with (at_builtin; refine wpList_append_own _ rfl _ _ 49 rfl w.heap.size 41 i1 (.slice none 0 0) 1 24 Try.underlying49 HJ.out HY0.out HY1.out HY2.out rfl (by decide) _ _ _ rfl (HVB.out.own.alloc _) ⟨_, 0, none⟩ 1 1 [.slice A q cr] rfl rfl (cell_one_new _ _ _) (by intro u hu; simp at hu; subst hu; rfl) (by rw [HLEN.out]; unfold maxLen; omega) (by rw [HLEN.out]; omega) (by have := HB2.out.size; have := HW.out.size; simp; omega) ?_)
          intro v' w3 hown' hgrow _
          have HV3 := Lib.hid (HV.out.push types_apart HW.out.size (bthen HB2.out (bnew _ _)) (HROW.out.alloc _) (by simpa using hown') hgrow)
          have HS3 := Lib.hid (since_grown (bthen HW.out (bthen HB2.out (bnew _ _))) hgrow (fun g hg => (own_lt HV.out.own hg).1))
          clear hown' hgrow
          go_wp2
          go_roundw
          case rel => exact ⟨k + 1, v', _, rfl, by omega, by go_num, by rw [HST.out]; exact HV3.out, HS3.out⟩
          case measure => simp [intOf]; omega
    · obtain rfl : k = N := by omega
      have HE := Lib.hid (show (signs a b).take k = signs a b from List.take_of_length_le (by rw [HSL.out, HAL.out]; exact Nat.le_refl _))
      rw [HE.out] at HV
      go_wp2
      go_ret
      exact ⟨_, rfl, HV.out.own2, HW.out⟩
end Go.Proofs.Ytglleimmmfnhcaa
