/- Walks: products of matrices. -/
import Derived.Test.YtciiokegifgbdaaSq
namespace Go.Proofs.Ytciiokegifgbdaa
open Go.RowKit
set_option maxRecDepth 20000

theorem own_shapeM {w : World} {base : Nat} {E : TypeId} {size n : Nat} {v : Value} {xs : List Value} (h : w.ownsRow base E size v n xs) : ∃ A c, v = .slice A n c := by
  rcases h.2 with ⟨rfl, rfl⟩ | ⟨g, cap, cur, rfl, _⟩
  · exact ⟨_, _, rfl⟩
  · exact ⟨_, _, rfl⟩
def mulTo (row : List Int) (b : List (List Int)) (k : Nat) : Nat → Int
  | 0 => 0
  | j + 1 => mulTo row b k j + row.getD j 0 * (b.getD j []).getD k 0
theorem mul_zero0 (row : List Int) (b : List (List Int)) (k : Nat) : mulTo row b k 0 = 0 := rfl
def mulRow (row : List Int) (b : List (List Int)) : List Int := (List.range b.length).map fun k => mulTo row b k row.length
def mulM (a b : List (List Int)) : List (List Int) := a.map fun row => mulRow row b
theorem mulRow_len (row : List Int) (b : List (List Int)) : (mulRow row b).length = b.length := by simp [mulRow]
theorem mulM_len (a b : List (List Int)) : (mulM a b).length = a.length := List.length_map _
theorem mulRow_take {row : List Int} {b : List (List Int)} {q : Nat} (h : q < b.length) : ints ((mulRow row b).take (q + 1)) = ints ((mulRow row b).take q) ++ [.int .i64 (mulTo row b q row.length)] := by
  rw [List.take_succ_eq_append_getElem (by rw [mulRow_len]; exact h)]
  simp [ints, mulRow]
theorem mulM_take {a b : List (List Int)} {k : Nat} (h : k < a.length) : (mulM a b).take (k + 1) = (mulM a b).take k ++ [mulRow a[k] b] := by
  rw [List.take_succ_eq_append_getElem (by rw [mulM_len]; exact h)]
  simp [mulM]
theorem mul_box {x y : Int} (h1 : -100 ≤ x ∧ x ≤ 100) (h2 : -100 ≤ y ∧ y ≤ 100) : -10000 ≤ x * y ∧ x * y ≤ 10000 := by
  have a1 : 0 ≤ (x + 100) * (y + 100) := Int.mul_nonneg (by omega) (by omega)
  have a2 : 0 ≤ (100 - x) * (100 - y) := Int.mul_nonneg (by omega) (by omega)
  have a3 : 0 ≤ (x + 100) * (100 - y) := Int.mul_nonneg (by omega) (by omega)
  have a4 : 0 ≤ (100 - x) * (y + 100) := Int.mul_nonneg (by omega) (by omega)
  simp only [Int.add_mul, Int.mul_add, Int.sub_mul, Int.mul_sub] at a1 a2 a3 a4
  have e : x * 100 = 100 * x := Int.mul_comm _ _
  rw [e] at a1 a2 a3 a4
  constructor <;> omega
theorem mul_bound {row : List Int} {b : List (List Int)} {k : Nat} (h1 : ∀ j, -100 ≤ row.getD j 0 ∧ row.getD j 0 ≤ 100) (h2 : ∀ i j, -100 ≤ (b.getD i []).getD j 0 ∧ (b.getD i []).getD j 0 ≤ 100) : ∀ m : Nat, -(10000 * (m : Int)) ≤ mulTo row b k m ∧ mulTo row b k m ≤ 10000 * (m : Int)
  | 0 => by simp [mulTo]
  | m + 1 => by
    have h3 := mul_bound (k := k) h1 h2 m
    have h4 := mul_box (h1 m) (h2 m k)
    rw [mulTo]; simp only [Int.natCast_add, Int.natCast_one]; omega
/-- what MultiplyMatrices returns -/
def mmB (a b : List (List Int)) : Bool := sqB a && sqB b && decide (a.length = b.length)
def mmR (a b : List (List Int)) : List (List Int) := if mmB a b = true then mulM a b else []
theorem mm_no {a b : List (List Int)} (h : mmB a b = false) : mmB a b = false ∧ mmR a b = [] := ⟨h, by unfold mmR; rw [h]; rfl⟩
theorem mm_yes {a b : List (List Int)} (h : mmB a b = true) : mmB a b = true ∧ mmR a b = mulM a b := ⟨h, by unfold mmR; rw [if_pos h]⟩
theorem mm_no1 {a b : List (List Int)} (h : sqB a = false) : mmB a b = false := by unfold mmB; rw [h]; rfl
theorem mm_no2 {a b : List (List Int)} (h : sqB b = false) : mmB a b = false := by unfold mmB; rw [h]; simp
theorem mm_no3 {a b : List (List Int)} (h : ¬ a.length = b.length) : mmB a b = false := by unfold mmB; rw [decide_eq_false h]; simp
theorem mm_in {a b : List (List Int)} (h1 : sqB a = true) (h2 : sqB b = true) (h3 : a.length = b.length) : mmB a b = true := by unfold mmB; rw [h1, h2, decide_eq_true h3]; rfl
set_option maxHeartbeats 4000000 in
theorem specMultiplyMatrices_any (a b : List (List Int)) (va vb : Value) (w : World) (ha : Row2 w w.heap.size va a) (hb : Row2 w w.heap.size vb b) :
    Calls Try.prog 14 #[va, vb] w fun e w' => ∃ v, e = .returned (.tuple #[v, .bool (mmB a b)]) ∧ OwnG w' w.heap.size w'.heap.size v (mmR a b) ∧ Below w.heap.size w w' := by
  obtain ⟨A1, c1, rfl, hs1⟩ := ha.shape
  obtain ⟨A2, c2, rfl, hs2⟩ := hb.shape
  have HSA := Lib.hid (l04Square_any a _ w _ ha)
  have HSB := Lib.hid (l04Square_any b _ w _ hb)
  have hla := ha.len
  have hlb := hb.len
  cases hqa : sqB a
  · have HF := Lib.hid (mm_no (mm_no1 (b := b) hqa))
    rw [hqa] at HSA
    clear ha hb hqa
    go_enter Try.func14, Try.ntmps14
    go_wp2_with fail
    refine HSA.out.mono ?_
    rintro e w' ⟨rfl, hww⟩
    cases hww.symm
    go_wp2_with fail
    go_ret2
    exact ⟨_, by rw [HF.out.1] <;> rfl, by rw [HF.out.2]; exact Own2.zero _ _ _, Below.refl _ _⟩
  cases hqb : sqB b
  · have HF := Lib.hid (mm_no (mm_no2 (a := a) hqb))
    rw [hqa] at HSA
    rw [hqb] at HSB
    clear ha hb hqa hqb
    go_enter Try.func14, Try.ntmps14
    go_wp2_with fail
    (with_reducible refine HSA.out.mono ?_)
    rintro e w' ⟨rfl, hww⟩
    cases hww.symm
    go_wp2_with fail
    (with_reducible refine HSB.out.mono ?_)
    rintro e w' ⟨rfl, hww⟩
    cases hww.symm
    go_wp2_with fail
    go_ret2
    exact ⟨_, by rw [HF.out.1] <;> rfl, by rw [HF.out.2]; exact Own2.zero _ _ _, Below.refl _ _⟩
  by_cases hl : a.length = b.length
  case neg =>
    have HF := Lib.hid (mm_no (mm_no3 hl))
    have hne : ((a.length : Int) != (b.length : Int)) = true := by rw [bne_iff_ne]; omega
    rw [hqa] at HSA
    rw [hqb] at HSB
    clear ha hb hqa hqb
    go_enter Try.func14, Try.ntmps14
    go_wp2_with fail
    (with_reducible refine HSA.out.mono ?_)
    rintro e w' ⟨rfl, hww⟩
    cases hww.symm
    go_wp2_with fail
    (with_reducible refine HSB.out.mono ?_)
    rintro e w' ⟨rfl, hww⟩
    cases hww.symm
    go_wp2_with fail
    go_ret2
    exact ⟨_, by rw [HF.out.1] <;> rfl, by rw [HF.out.2]; exact Own2.zero _ _ _, Below.refl _ _⟩
  have HF := Lib.hid (mm_yes (mm_in hqa hqb hl))
  have HQA := Lib.hid hqa
  have HEB := Lib.hid (entry_bound hqb)
  rw [hqa] at HSA
  rw [hqb] at HSB
  obtain ⟨hN0, hN4, har, har4⟩ := sqB_parts hqa
  obtain ⟨hs3, hs4, hbr, hbr4⟩ := sqB_parts hqb
  obtain ⟨N, hal⟩ : ∃ N, a.length = N := ⟨_, rfl⟩
  have hbl : b.length = N := by omega
  have hne : ((N : Int) != (N : Int)) = false := by simp
  rw [hal] at hN0 hN4 har
  rw [hbl] at hbr
  clear har4 hbr4 hqa hqb hl hla hlb
  obtain ⟨i0, hi, hz0, hz1, hz2⟩ := info_parts info_intM
  have HI := Lib.hid hi; have HZ0 := Lib.hid hz0; have HZ1 := Lib.hid hz1; have HZ2 := Lib.hid hz2
  clear hi hz0 hz1 hz2
  obtain ⟨i1, hi, hz0, hz1, hz2⟩ := info_parts info_rowM
  have HJ := Lib.hid hi; have HY0 := Lib.hid hz0; have HY1 := Lib.hid hz1; have HY2 := Lib.hid hz2
  clear hi hz0 hz1 hz2
  obtain ⟨ba, oa, ca, he1, hba, hca, hA⟩ := ha.open2 (by omega) hN0 har
  cases he1
  obtain ⟨bb, ob, cb, he2, hbb, hcb, hB⟩ := hb.open2 (by omega) hN0 hbr
  cases he2
  have HA := Lib.hid hA; have HB := Lib.hid hB; have HAR := Lib.hid har
  rw [hal] at hca HSA ⊢
  rw [hbl] at hcb HSB ⊢
  have HAL := Lib.hid hal; have HBL := Lib.hid hbl
  have HO0 := Lib.hid (World.ownsRow_made (base := w.heap.size) (e := 37) (size := 1) w #[] 0 (Nat.le_refl _) (Nat.zero_le _) rfl)
  have HSL := Lib.hid (mulM_len a b)
  clear ha hb hA hB har hbr hal hbl
  clear hs1 hs2 hs3 hs4
  go_enter Try.func14, Try.ntmps14
  go_wp2_with fail
  (with_reducible refine HSA.out.mono ?_)
  rintro e w' ⟨rfl, hww⟩
  cases hww.symm
  go_wp2_with fail
  (with_reducible refine HSB.out.mono ?_)
  rintro e w' ⟨rfl, hww⟩
  cases hww.symm
  go_wp2_with fail
  go_loopw [6, 32] (fun v i wr => ∃ (k : Nat) (u : Value) (vs : List Value), v = u ∧ k ≤ N ∧ i = .int .i64 k ∧ OwnV 37 3 wr w.heap.size u vs ((mulM a b).take k) ∧ Below w.heap.size w wr) (fun _ i _ => N - (intOf i).toNat)
  case atStart => exact ⟨0, _, [], rfl, Nat.zero_le _, rfl, OwnV.empty (by simpa using HO0.out), bnew _ _⟩
  case round =>
    obtain ⟨wo, rfl⟩ : ∃ wo, wo = wr := ⟨_, rfl⟩
    obtain ⟨k, u, vs, rfl, hk, rfl, hov, hbel⟩ := hrel
    have HV := Lib.hid hov; have HW := Lib.hid hbel
    have HLEN := Lib.hid (show ((mulM a b).take k).length = k by rw [List.length_take, HSL.out, HAL.out]; omega)
    clear hov hbel
    by_cases hlt : k < N
    · have hka : k < a.length := by have := HAL.out; omega
      obtain ⟨b1, o1, c1, hb1, hc1, g1, G1⟩ := HA.out k hka
      have HG1 := Lib.hid G1
      have g1' := (HW.out.cell (p := ⟨ba, oa + k, none⟩) hba).trans g1
      have g2' := (bthen HW.out (bnew wo (.cells #[] 3))).cell (p := ⟨ba, oa + k, none⟩) hba
      rw [g1] at g2'
      have HRL := Lib.hid (HAR.out _ (List.getElem_mem hka))
      have HST := Lib.hid (mulM_take (b := b) hka)
      obtain ⟨row, hrow⟩ : ∃ row, row = a[k] := ⟨_, rfl⟩
      have hea := fun j => entry_bound HQA.out k j
      rw [show a.getD k [] = a[k] from by rw [List.getD_eq_getElem?_getD, List.getElem?_eq_getElem hka]; rfl] at hea
      rw [← hrow] at HG1 HRL HST hea
      have HEA := Lib.hid hea; clear hea
      have HR0 := Lib.hid (World.ownsRow_made (base := wo.heap.size) (e := 3) (size := 1) wo #[] 0 (Nat.le_refl _) (Nat.zero_le _) rfl)
      clear G1 g1 hrow hka
      go_wp2_with fail
      go_loopw [9, 39] (fun rv j wr => ∃ (q : Nat) (ru : Value), rv = ru ∧ q ≤ N ∧ j = .int .i64 q ∧ wr.ownsRow wo.heap.size 3 1 ru q (ints ((mulRow row b).take q)) ∧ Below wo.heap.size wo wr) (fun _ j _ => N - (intOf j).toNat)
      case atStart => exact ⟨0, _, rfl, Nat.zero_le _, rfl, by simpa [ints] using HR0.out, bnew _ _⟩
      case round =>
        clear HR0 g1' g2'
        obtain ⟨q, ru, rfl, hq, rfl, ho, hb⟩ := hrel
        have HO := Lib.hid ho; have HB2 := Lib.hid hb; clear ho hb
        by_cases hql : q < N
        · have HWB := Lib.hid (bthen HW.out HB2.out)
          have HMB := Lib.hid (fun m => mul_bound (row := row) (b := b) (k := q) HEA.out HEB.out m)
          have HRT := Lib.hid (mulRow_take (row := row) (b := b) (q := q) (by have := HBL.out; omega))
          rw [HRL.out] at HRT
          go_wp2_with fail
          go_loop [11, 44] (fun x j => ∃ m : Nat, m ≤ N ∧ j = .int .i64 m ∧ x = .int .i64 (mulTo row b q m)) (fun _ j => N - (intOf j).toNat)
          case atStart => exact ⟨0, Nat.zero_le _, rfl, by rw [mul_zero0]⟩
          case round =>
            obtain ⟨m, hm, rfl, rfl⟩ := hrel
            by_cases hml : m < N
            · obtain ⟨b3, o3, c3, hb3, hc3, g3, G3⟩ := HB.out m (by have := HBL.out; omega)
              have g5 := (HWB.out.cell (p := ⟨b1, o1 + m, none⟩) hb1).trans (HG1.out m hml)
              have g6 := (HWB.out.cell (p := ⟨bb, ob + m, none⟩) hbb).trans g3
              have g7 := (HWB.out.cell (p := ⟨b3, o3 + q, none⟩) hb3).trans (G3 q hql)
              have hbm : b[m]'(by have := HBL.out; omega) = b.getD m [] := by rw [List.getD_eq_getElem?_getD, List.getElem?_eq_getElem (by have := HBL.out; omega)]; rfl
              rw [hbm] at g7
              have HD := Lib.hid (show mulTo row b q (m + 1) = mulTo row b q m + row.getD m 0 * (b.getD m []).getD q 0 from rfl)
              have hb1 := HEA.out m
              have hb2 := HEB.out m q
              obtain ⟨d1, d2⟩ := HMB.out m
              obtain ⟨p1, p2⟩ := mul_box hb1 hb2
              obtain ⟨y, hy⟩ : ∃ y, y = row.getD m 0 := ⟨_, rfl⟩
              obtain ⟨z, hz⟩ : ∃ z, z = (b.getD m []).getD q 0 := ⟨_, rfl⟩
              obtain ⟨d, hd⟩ : ∃ d, d = mulTo row b q m := ⟨_, rfl⟩
              rw [← hy] at g5 HD hb1 p1 p2
              rw [← hz] at g7 HD hb2 p1 p2
              rw [← hd] at HD d1 d2 ⊢
              clear G3 g3 hbm hy hz hd
              go_wp2
              go_round
              case rel => exact ⟨m + 1, by omega, by go_num, by rw [HD.out]⟩
              case measure => simp [intOf]; omega
            · obtain rfl : m = N := by omega
              obtain ⟨d1, d2⟩ := HMB.out m
              obtain ⟨x, hx⟩ : ∃ x, x = mulTo row b q m := ⟨_, rfl⟩
              rw [← hx] at HRT d1 d2 ⊢
              clear hx
              go_wp2_with (at_builtin; refine wpList_append_own _ rfl _ _ 37 rfl wo.heap.size 3 i0 (.int .i64 0) 1 8 Try.underlying37 HI.out HZ0.out HZ1.out HZ2.out rfl (by decide) _ _ _ rfl (HO.out.alloc _) ⟨_, 0, none⟩ 1 1 [.int .i64 x] rfl rfl (cell_one_new _ _ _) (by intro u hu; simp at hu; subst hu; rfl) (by unfold maxLen; omega) (by omega) (by have := HB2.out.size; simp; omega) ?_)
              intro v' w3 hown' hgrow _
              have HB3 := Lib.hid (since_grown (bthen HB2.out (bnew _ _)) hgrow (fun g hg => (own_lt HO.out hg).1))
              have HO3 := Lib.hid hown'
              clear hown' hgrow
              go_wp2
              go_roundw
              case rel => exact ⟨q + 1, v', rfl, by omega, by go_num, by rw [HRT.out]; simpa [ints] using HO3.out, HB3.out⟩
              case measure => simp [intOf]; omega
        · obtain rfl : q = N := by omega
          obtain ⟨A, cr, rfl⟩ := own_shapeM HO.out
          have hrow : wr.ownsRow wo.heap.size 3 1 (.slice A q cr) (mulRow row b).length (ints (mulRow row b)) := by
            have h := HO.out
            rw [List.take_of_length_le (by rw [mulRow_len, HBL.out]; exact Nat.le_refl _)] at h
            rw [mulRow_len, HBL.out]; exact h
          have HROW := Lib.hid hrow; clear hrow
          have HVB := Lib.hid (HV.out.below HB2.out)
          go_wp2_with (at_builtin; refine wpList_append_own _ rfl _ _ 22 rfl w.heap.size 37 i1 (.slice none 0 0) 1 24 Try.underlying22 HJ.out HY0.out HY1.out HY2.out rfl (by decide) _ _ _ rfl (HVB.out.own.alloc _) ⟨_, 0, none⟩ 1 1 [.slice A q cr] rfl rfl (cell_one_new _ _ _) (by intro u hu; simp at hu; subst hu; rfl) (by rw [HLEN.out]; unfold maxLen; omega) (by rw [HLEN.out]; omega) (by have := HB2.out.size; have := HW.out.size; simp; omega) ?_)
          intro v' w3 hown' hgrow _
          have HV3 := Lib.hid (HV.out.push types_apart HW.out.size (bthen HB2.out (bnew _ _)) (HROW.out.alloc _) (by simpa using hown') hgrow)
          have HS3 := Lib.hid (since_grown (bthen HW.out (bthen HB2.out (bnew _ _))) hgrow (fun g hg => (own_lt HV.out.own hg).1))
          clear hown' hgrow
          go_wp2
          go_roundw
          case rel => exact ⟨k + 1, v', _, rfl, by omega, by go_num, by rw [HST.out]; exact HV3.out, HS3.out⟩
          case measure => simp [intOf]; omega
    · obtain rfl : k = N := by omega
      have HE := Lib.hid (show (mulM a b).take k = mulM a b from List.take_of_length_le (by rw [HSL.out, HAL.out]; exact Nat.le_refl _))
      rw [HE.out] at HV
      go_wp2
      go_ret2
      exact ⟨_, by rw [HF.out.1] <;> rfl, by rw [HF.out.2]; exact HV.out.own2, HW.out⟩
end Go.Proofs.Ytciiokegifgbdaa
