/- Walks: products of matrices, the program's way. -/
import Derived.Test.YtciiokegifgbdaaMul
import Derived.BigRegion
namespace Go.Proofs.Ytciiokegifgbdaa
open Go.RowKit
set_option maxRecDepth 20000

/-- a row while the factors up to j are in, those below q at j + 1 -/
def mulPart (row : List Int) (b : List (List Int)) (j q : Nat) : List Int := (List.range b.length).map fun k => if k < q then mulTo row b k (j + 1) else mulTo row b k j
theorem mulPart_len (row : List Int) (b : List (List Int)) (j q : Nat) : (mulPart row b j q).length = b.length := by simp [mulPart]
theorem mulPart_set {row : List Int} {b : List (List Int)} {j q : Nat} : (mulPart row b j q).set q (mulTo row b q (j + 1)) = mulPart row b j (q + 1) := by
  apply List.ext_getElem
  · simp [mulPart]
  · intro n h1 h2
    rw [List.getElem_set]
    simp only [mulPart, List.getElem_map, List.getElem_range]
    by_cases e : q = n
    · subst e; simp
    · rw [if_neg e]
      by_cases h3 : n < q
      · rw [if_pos h3, if_pos (by omega)]
      · rw [if_neg h3, if_neg (by omega)]
theorem mulPart_end (row : List Int) (b : List (List Int)) (j : Nat) : mulPart row b j b.length = mulPart row b (j + 1) 0 := by
  unfold mulPart
  apply List.map_congr_left
  intro n hn
  rw [if_pos (List.mem_range.1 hn), if_neg (by omega)]
theorem mulPart_zero (row : List Int) (b : List (List Int)) : mulPart row b 0 0 = List.replicate b.length 0 := by
  unfold mulPart
  apply List.ext_getElem
  · simp
  · intro n _ _; simp [mul_zero0]
theorem mulPart_all (row : List Int) (b : List (List Int)) : mulPart row b row.length 0 = mulRow row b := by
  unfold mulPart mulRow
  apply List.map_congr_left
  intro n _; simp
theorem mulPart_get {row : List Int} {b : List (List Int)} {j q : Nat} (h : q < b.length) : (ints (mulPart row b j q))[q]? = some (.int .i64 (mulTo row b q j)) := by
  rw [List.getElem?_map, List.getElem?_eq_getElem (by rw [mulPart_len]; exact h)]
  simp [mulPart]
set_option maxHeartbeats 4000000 in
theorem implMultiplyMatrices_any (a b : List (List Int)) (va vb : Value) (w : World) (ha : Row2 w w.heap.size va a) (hb : Row2 w w.heap.size vb b) :
    Calls Try.prog 15 #[va, vb] w fun e w' => ∃ v, e = .returned (.tuple #[v, .bool (mmB a b)]) ∧ OwnG w' w.heap.size w'.heap.size v (mmR a b) ∧ Below w.heap.size w w' := by
  obtain ⟨A1, c1, rfl, hs1⟩ := ha.shape
  obtain ⟨A2, c2, rfl, hs2⟩ := hb.shape
  have HSA := Lib.hid (isMatrix_any a _ w _ ha)
  have HSB := Lib.hid (isMatrix_any b _ w _ hb)
  have hla := ha.len
  have hlb := hb.len
  cases hqa : sqB a
  · have HF := Lib.hid (mm_no (mm_no1 (b := b) hqa))
    rw [hqa] at HSA
    clear ha hb hqa
    go_enter Try.func15, Try.ntmps15
    go_wp2_with fail
    refine HSA.out.mono ?_
    rintro e w' ⟨rfl, hww⟩
    cases hww.symm
    go_wp2_with fail
    go_ret2
    exact ⟨_, by rw [HF.out.1] <;> rfl, by rw [HF.out.2]; exact Own2.zero _ _ _, Below.refl _ _⟩
  cases hqb : sqB b
  · have HF := Lib.hid (mm_no (mm_no2 (a := a) hqb))
    rw [hqa] at HSA
    rw [hqb] at HSB
    clear ha hb hqa hqb
    go_enter Try.func15, Try.ntmps15
    go_wp2_with fail
    (with_reducible refine HSA.out.mono ?_)
    rintro e w' ⟨rfl, hww⟩
    cases hww.symm
    go_wp2_with fail
    (with_reducible refine HSB.out.mono ?_)
    rintro e w' ⟨rfl, hww⟩
    cases hww.symm
    go_wp2_with fail
    go_ret2
    exact ⟨_, by rw [HF.out.1] <;> rfl, by rw [HF.out.2]; exact Own2.zero _ _ _, Below.refl _ _⟩
  by_cases hl : a.length = b.length
  case neg =>
    have HF := Lib.hid (mm_no (mm_no3 hl))
    have hne : ((a.length : Int) != (b.length : Int)) = true := by rw [bne_iff_ne]; omega
    rw [hqa] at HSA
    rw [hqb] at HSB
    clear ha hb hqa hqb
    go_enter Try.func15, Try.ntmps15
    go_wp2_with fail
    (with_reducible refine HSA.out.mono ?_)
    rintro e w' ⟨rfl, hww⟩
    cases hww.symm
    go_wp2_with fail
    (with_reducible refine HSB.out.mono ?_)
    rintro e w' ⟨rfl, hww⟩
    cases hww.symm
    go_wp2_with fail
    go_ret2
    exact ⟨_, by rw [HF.out.1] <;> rfl, by rw [HF.out.2]; exact Own2.zero _ _ _, Below.refl _ _⟩
  have HF := Lib.hid (mm_yes (mm_in hqa hqb hl))
  have HQA := Lib.hid hqa
  have HEB := Lib.hid (entry_bound hqb)
  rw [hqa] at HSA
  rw [hqb] at HSB
  obtain ⟨hN0, hN4, har, har4⟩ := sqB_parts hqa
  obtain ⟨hs3, hs4, hbr, hbr4⟩ := sqB_parts hqb
  obtain ⟨N, hal⟩ : ∃ N, a.length = N := ⟨_, rfl⟩
  have hbl : b.length = N := by omega
  have hne : ((N : Int) != (N : Int)) = false := by simp
  rw [hal] at hN0 hN4 har
  rw [hbl] at hbr
  clear har4 hbr4 hqa hqb hl hla hlb
  obtain ⟨i0, hi, hz0, hz1, hz2⟩ := info_parts info_intM
  have HI := Lib.hid hi; have HZ0 := Lib.hid hz0; have HZ1 := Lib.hid hz1; have HZ2 := Lib.hid hz2
  clear hi hz0 hz1 hz2
  obtain ⟨i1, hi, hz0, hz1, hz2⟩ := info_parts info_rowM
  have HJ := Lib.hid hi; have HY0 := Lib.hid hz0; have HY1 := Lib.hid hz1; have HY2 := Lib.hid hz2
  clear hi hz0 hz1 hz2
  obtain ⟨ba, oa, ca, he1, hba, hca, hA⟩ := ha.open2 (by omega) hN0 har
  cases he1
  obtain ⟨bb, ob, cb, he2, hbb, hcb, hB⟩ := hb.open2 (by omega) hN0 hbr
  cases he2
  have HA := Lib.hid hA; have HB := Lib.hid hB; have HAR := Lib.hid har
  rw [hal] at hca HSA ⊢
  rw [hbl] at hcb HSB ⊢
  have HAL := Lib.hid hal; have HBL := Lib.hid hbl
  have HO0 := Lib.hid (World.ownsRow_made (base := w.heap.size) (e := 37) (size := 1) w #[] 0 (Nat.le_refl _) (Nat.zero_le _) rfl)
  have HSL := Lib.hid (mulM_len a b)
  clear ha hb hA hB har hbr hal hbl
  clear hs1 hs2 hs3 hs4
  go_enter Try.func15, Try.ntmps15
  go_wp2_with fail
  (with_reducible refine HSA.out.mono ?_)
  rintro e w' ⟨rfl, hww⟩
  cases hww.symm
  go_wp2_with fail
  (with_reducible refine HSB.out.mono ?_)
  rintro e w' ⟨rfl, hww⟩
  cases hww.symm
  go_wp2_with fail
  go_loopw [6, 31] (fun v j w2 => ∃ (q : Nat) (u : Value) (vs : List Value), v = u ∧ q ≤ N ∧ j = .int .i64 q ∧ OwnV 37 3 w2 w.heap.size u vs ((mulM a b).take q) ∧ Below w.heap.size w w2) (fun _ j _ => N - (intOf j).toNat)
  case atStart => exact ⟨0, _, [], rfl, Nat.zero_le _, rfl, OwnV.empty (by simpa using HO0.out), bnew _ _⟩
  case round =>
    obtain ⟨w2, rfl⟩ : ∃ w2, w2 = wr := ⟨_, rfl⟩
    obtain ⟨q, u, vs, rfl, hq, rfl, hov, hbel⟩ := hrel
    have HV := Lib.hid hov; have HW := Lib.hid hbel
    have HLEN := Lib.hid (show ((mulM a b).take q).length = q by rw [List.length_take, mulM_len, HAL.out]; omega)
    clear hov hbel
    by_cases hql : q < N
    · have hqa : q < a.length := by have := HAL.out; omega
      obtain ⟨b1, o1, c1, hb1, hc1, g1, G1⟩ := HA.out q hqa
      have HG1 := Lib.hid G1
      have g1' := (HW.out.cell (p := ⟨ba, oa + q, none⟩) hba).trans g1
      have HRL := Lib.hid (HAR.out _ (List.getElem_mem hqa))
      have HST := Lib.hid (mulM_take (b := b) hqa)
      obtain ⟨row, hrow⟩ : ∃ row, row = a[q] := ⟨_, rfl⟩
      have hea := fun j => entry_bound HQA.out q j
      rw [show a.getD q [] = a[q] from by rw [List.getD_eq_getElem?_getD, List.getElem?_eq_getElem hqa]; rfl] at hea
      rw [← hrow] at HG1 HRL HST hea
      have HEA := Lib.hid hea; clear hea
      clear G1 g1 hrow hqa
      go_wp2_with (at_make; refine wpList_make_full _ rfl _ _ 37 rfl w2.heap.size 3 i0 _ 1 Try.underlying37 HI.out HZ0.out HZ1.out _ _ _ _ N rfl rfl rfl rfl (by rw [HZ2.out]; omega) (by unfold maxLen; omega) (Nat.le_refl _) ?_)
      intro w3 hown3 hgrow3
      rw [toList_madeCells_one] at hown3
      have HO3 := Lib.hid (show w3.ownsRow w2.heap.size 3 1 (.slice (some ⟨w2.heap.size, 0, none⟩) N N) N (ints (mulPart row b 0 0)) from by rw [mulPart_zero, HBL.out]; simpa [ints] using hown3)
      have HB3 := Lib.hid ((Below.refl w2.heap.size w2).grown hgrow3 (Nat.le_refl _) (fun g hg => by cases hg))
      clear hown3 hgrow3 g1'
      go_wp2_with fail
      go_loopw [40] (fun j w4 => ∃ m : Nat, m ≤ N ∧ j = .int .i64 m ∧ w4.ownsRow w2.heap.size 3 1 (.slice (some ⟨w2.heap.size, 0, none⟩) N N) N (ints (mulPart row b m 0)) ∧ Below w2.heap.size w2 w4) (fun j _ => N - (intOf j).toNat)
      case atStart => exact ⟨0, Nat.zero_le _, rfl, HO3.out, HB3.out⟩
      case round =>
        clear HO3 HB3
        obtain ⟨w4, rfl⟩ : ∃ w4, w4 = wr := ⟨_, rfl⟩
        obtain ⟨m, hm, rfl, ho4, hb4⟩ := hrel
        have HO4 := Lib.hid ho4; have HB4 := Lib.hid hb4; clear ho4 hb4
        by_cases hml : m < N
        · obtain ⟨b3, o3, c3, hb3, hc3, g3, G3⟩ := HB.out m (by have := HBL.out; omega)
          have HG3 := Lib.hid G3
          have g5 := ((bthen HW.out HB4.out).cell (p := ⟨b1, o1 + m, none⟩) hb1).trans (HG1.out m hml)
          have hmd : b[m]'(by have := HBL.out; omega) = b.getD m [] := by rw [List.getD_eq_getElem?_getD, List.getElem?_eq_getElem (by have := HBL.out; omega)]; rfl
          rw [hmd] at HG3
          obtain ⟨y, hy⟩ : ∃ y, y = row.getD m 0 := ⟨_, rfl⟩
          rw [← hy] at g5
          have HY := Lib.hid hy
          have G3' := Lib.hid g3
          clear G3 g3 hmd hy
          go_wp2_with fail
          go_loopw [47] (fun j w5 => ∃ p : Nat, p ≤ N ∧ j = .int .i64 p ∧ w5.ownsRow w2.heap.size 3 1 (.slice (some ⟨w2.heap.size, 0, none⟩) N N) N (ints (mulPart row b m p)) ∧ Below w2.heap.size w2 w5) (fun j _ => N - (intOf j).toNat)
          case atStart => exact ⟨0, Nat.zero_le _, rfl, HO4.out, HB4.out⟩
          case round =>
            clear HO4 HB4 g5
            obtain ⟨w5, rfl⟩ : ∃ w5, w5 = wr := ⟨_, rfl⟩
            obtain ⟨p, hp, rfl, ho5, hb5⟩ := hrel
            have HO5 := Lib.hid ho5; have HB5 := Lib.hid hb5; clear ho5 hb5
            by_cases hpl : p < N
            · have g6 := ((bthen HW.out HB5.out).cell (p := ⟨bb, ob + m, none⟩) hbb).trans G3'.out
              have g7 := ((bthen HW.out HB5.out).cell (p := ⟨b3, o3 + p, none⟩) hb3).trans (HG3.out p hpl)
              have g8 := HO5.out.cellAt p (by omega)
              rw [mulPart_get (by have := HBL.out; omega)] at g8
              have g9 := HO5.out.frozenAt p
              have HST5 := Lib.hid (fun (e : Int) => HO5.out.stored p (.int .i64 e))
              have HSET := Lib.hid (mulPart_set (row := row) (b := b) (j := m) (q := p))
              have HD := Lib.hid (show mulTo row b p (m + 1) = mulTo row b p m + row.getD m 0 * (b.getD m []).getD p 0 from rfl)
              have hb1 := HEA.out m
              have hb2 := HEB.out m p
              obtain ⟨d1, d2⟩ := mul_bound (row := row) (b := b) (k := p) HEA.out HEB.out m
              obtain ⟨p1, p2⟩ := mul_box hb1 hb2
              rw [HD.out] at HSET
              obtain ⟨z, hz⟩ : ∃ z, z = (b.getD m []).getD p 0 := ⟨_, rfl⟩
              obtain ⟨d, hd⟩ : ∃ d, d = mulTo row b p m := ⟨_, rfl⟩
              rw [← HY.out] at hb1 p1 p2 HSET
              rw [← hz] at g7 hb2 p1 p2 HSET
              rw [← hd] at g8 d1 d2 HSET
              clear hz hd HD
              go_wp2_with fail
              go_region
              all_goals
                go_wp2
                go_roundw
                case rel =>
                  obtain ⟨h1, h2⟩ := HST5.out (d + y * z)
                  rw [← List.map_set, HSET.out] at h1
                  exact ⟨p + 1, by omega, by go_num, own_below h1 (bdrew _), ((HB5.out.grown h2 HB5.out.size (fun g hg => by simp at hg; omega)).drew)⟩
                case measure => simp [intOf]; omega
            · obtain rfl : N = p := by omega
              have HE := Lib.hid (show mulPart row b m N = mulPart row b (m + 1) 0 from by rw [← HBL.out]; exact mulPart_end _ _ _)
              rw [HE.out] at HO5
              go_wp2
              go_roundw
              case rel => exact ⟨m + 1, by omega, by go_num, HO5.out, HB5.out⟩
              case measure => simp [intOf]; omega
        · obtain rfl : N = m := by omega
          have HE := Lib.hid (show mulPart row b N 0 = mulRow row b from by have h := mulPart_all row b; rw [HRL.out] at h; exact h)
          rw [HE.out] at HO4
          have hrow : w4.ownsRow w2.heap.size 3 1 (.slice (some ⟨w2.heap.size, 0, none⟩) N N) (mulRow row b).length (ints (mulRow row b)) := by rw [mulRow_len, HBL.out]; exact HO4.out
          have HROW := Lib.hid hrow; clear hrow
          have HVB := Lib.hid (HV.out.below HB4.out)
          go_wp2_with (at_builtin; refine wpList_append_own _ rfl _ _ 22 rfl w.heap.size 37 i1 (.slice none 0 0) 1 24 Try.underlying22 HJ.out HY0.out HY1.out HY2.out rfl (by decide) _ _ _ rfl (HVB.out.own.alloc _) ⟨_, 0, none⟩ 1 1 [.slice (some ⟨w2.heap.size, 0, none⟩) N N] rfl rfl ?c1 ?c2 ?c3 ?c4 ?c5 ?_)
          case c1 => exact cell_one_new _ _ _
          case c2 => intro u hu; simp at hu; subst hu; rfl
          case c3 => rw [HLEN.out]; unfold maxLen; omega
          case c4 => rw [HLEN.out]; omega
          case c5 => have := HB4.out.size; have := HW.out.size; simp; omega
          intro v' w6 hown' hgrow _
          have HV3 := Lib.hid (HV.out.push types_apart HW.out.size (bthen HB4.out (bnew _ _)) (HROW.out.alloc _) (by simpa using hown') hgrow)
          have HS3 := Lib.hid (since_grown (bthen HW.out (bthen HB4.out (bnew _ _))) hgrow (fun g hg => (own_lt HV.out.own hg).1))
          clear hown' hgrow
          go_wp2
          go_roundw
          case rel => exact ⟨q + 1, v', _, rfl, by omega, by go_num, by rw [HST.out]; exact HV3.out, HS3.out⟩
          case measure => simp [intOf]; omega
    · obtain rfl : N = q := by omega
      have HE := Lib.hid (show (mulM a b).take N = mulM a b from List.take_of_length_le (by rw [mulM_len, HAL.out]; exact Nat.le_refl _))
      rw [HE.out] at HV
      go_wp2
      go_ret2
      exact ⟨_, by rw [HF.out.1] <;> rfl, by rw [HF.out.2]; exact HV.out.own2, HW.out⟩
end Go.Proofs.Ytciiokegifgbdaa
