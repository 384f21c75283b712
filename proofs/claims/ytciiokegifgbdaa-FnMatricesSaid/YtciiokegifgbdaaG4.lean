/- Walks and plain laws of the functions that a law reaches, several texts in one (part 4). Conditions: none beyond the hypotheses of each lemma. -/
import Derived.BigRegion
import Derived.Test.YtciiokegifgbdaaG3
import Derived.Test.YtciiokegifgbdaaG1
import Derived.Test.YtciiokegifgbdaaG2
/- Walks: square matrices that are not too great; the trace. -/
namespace Go.Proofs.Ytciiokegifgbdaa
open Go.RowKit
set_option maxRecDepth 20000

def inM (x : Int) : Bool := decide ((-100 : Int) ≤ x) && decide (x ≤ 100)
def rowB (n : Nat) (r : List Int) : Bool := decide (r.length = n) && r.all inM
def sqB (xss : List (List Int)) : Bool := (decide ((1 : Int) ≤ (xss.length : Int)) && decide ((xss.length : Int) ≤ 4)) && xss.all (rowB xss.length)
theorem sqB_parts {xss : List (List Int)} (h : sqB xss = true) : 1 ≤ xss.length ∧ xss.length ≤ 4 ∧ (∀ r ∈ xss, r.length = xss.length) ∧ ∀ r ∈ xss, ∀ x ∈ r, -100 ≤ x ∧ x ≤ 100 := by
  unfold sqB at h
  simp only [Bool.and_eq_true, decide_eq_true_eq, List.all_eq_true] at h
  refine ⟨by omega, by omega, fun r hr => ?_, fun r hr x hx => ?_⟩
  · have := h.2 r hr
    unfold rowB at this
    simp only [Bool.and_eq_true, decide_eq_true_eq] at this
    exact this.1
  · have := h.2 r hr
    unfold rowB inM at this
    simp only [Bool.and_eq_true, decide_eq_true_eq, List.all_eq_true] at this
    exact this.2 x hx
theorem allx_take {α : Type} (p : α → Bool) {l : List α} {k : Nat} (h : k < l.length) (h1 : (l.take k).all p = true) (h2 : p l[k] = true) : (l.take (k + 1)).all p = true := by
  rw [List.take_succ_eq_append_getElem h, List.all_append, h1]; simp [h2]
theorem allx_fail {α : Type} (p : α → Bool) {l : List α} {k : Nat} (h : k < l.length) (h2 : p l[k] = false) : l.all p = false := by
  rw [List.all_eq_false]; exact ⟨l[k], List.getElem_mem h, by simp [h2]⟩
theorem sq_fail {xss : List (List Int)} {k : Nat} (h : k < xss.length) (h2 : rowB xss.length xss[k] = false) : sqB xss = false := by
  unfold sqB; rw [allx_fail _ h h2]; simp
theorem row_len {n : Nat} {r : List Int} (h : ¬ r.length = n) : rowB n r = false := by unfold rowB; rw [decide_eq_false h]; rfl
theorem row_val {n : Nat} {r : List Int} {j : Nat} (h : j < r.length) (h2 : inM r[j] = false) : rowB n r = false := by unfold rowB; rw [allx_fail _ h h2]; simp
theorem row_ok {n : Nat} {r : List Int} (h : r.length = n) (h2 : r.all inM = true) : rowB n r = true := by unfold rowB; rw [decide_eq_true h, h2]; rfl
theorem sq_end {xss : List (List Int)} (h : (xss.take xss.length).all (rowB xss.length) = true) : sqB xss = (decide ((1 : Int) ≤ (xss.length : Int)) && decide ((xss.length : Int) ≤ 4)) := by
  rw [List.take_of_length_le (Nat.le_refl _)] at h
  unfold sqB; rw [h, Bool.and_true]
theorem sq_many {xss : List (List Int)} (h : (decide ((1 : Int) ≤ (xss.length : Int)) && decide ((xss.length : Int) ≤ 4)) = false) : sqB xss = false := by unfold sqB; rw [h]; rfl
set_option maxHeartbeats 1000000 in
theorem l04Square_any (xss : List (List Int)) (va : Value) (w : World) (B : Nat) (ha : Row2 w B va xss) :
    Calls Try.prog 29 #[va] w fun e w' => e = .returned (.bool (sqB xss)) ∧ w' = w := by
  have hl := ha.len
  obtain ⟨A, c, rfl, hc⟩ := ha.shape
  have HA := Lib.hid ha; clear ha
  cases d : (decide ((1 : Int) ≤ (xss.length : Int)) && decide ((xss.length : Int) ≤ 4))
  · have HF := Lib.hid (sq_many d)
    have D := Lib.hid d; clear d
    go_enter Try.func29, Try.ntmps29
    go_wp2_with (go_at_call 49; refine (l01In_any _ _ _ _).mono ?_; rw [D.out]; rintro e w' ⟨rfl, rfl⟩)
    go_ret
    exact ⟨ret_bool HF.out.symm, rfl⟩
  · have D := Lib.hid d
    have hd : 1 ≤ xss.length ∧ xss.length ≤ 4 := by simp only [Bool.and_eq_true, decide_eq_true_eq] at d; omega
    obtain ⟨hd1, hd4⟩ := hd
    clear d
    go_enter Try.func29, Try.ntmps29
    go_wp2_with (go_at_call 49; refine (l01In_any _ _ _ _).mono ?_; rw [D.out]; rintro e w' ⟨rfl, rfl⟩)
    go_loopw [13] (fun i wr => ∃ k : Nat, k ≤ xss.length ∧ i = .int .i64 k ∧ ((xss.take k).all (rowB xss.length)) = true ∧ wr = w) (fun i _ => xss.length - (intOf i).toNat)
    case atStart => exact ⟨0, Nat.zero_le _, rfl, rfl, rfl⟩
    case round =>
      obtain ⟨k, hk, rfl, hall, rfl⟩ := hrel
      have HALL := Lib.hid hall; clear hall
      by_cases hlt : k < xss.length
      · obtain ⟨b, o, c', u, he, hu, hrow⟩ := HA.out.atRow k hlt
        cases he
        have hrl := hrow.len
        rw [ints_len] at hrl
        have HRW := Lib.hid hrow
        obtain ⟨A', c2, rfl, hri⟩ := hrow.intAt
        have HRI := Lib.hid hri
        have HFL := Lib.hid (fun h => sq_fail hlt h)
        have HOK := Lib.hid (fun h => allx_take (rowB xss.length) hlt HALL.out h)
        obtain ⟨x, hx⟩ : ∃ x, x = xss[k] := ⟨_, rfl⟩
        rw [← hx] at hu hrl HFL HOK
        have hri2 : ∀ (j : Nat) (hj : j < x.length), ∃ b o, A' = some ⟨b, o, none⟩ ∧ wr.cell? ⟨b, o + j, none⟩ = some (.int .i64 x[j]) := by rw [hx]; exact hri
        have HR2 := Lib.hid hri2
        clear hrow hri hri2 hx HRW HRI
        by_cases hxl : x.length = xss.length
        · have hne : ((x.length : Int) != (xss.length : Int)) = false := by rw [hxl]; simp
          have HX := Lib.hid hxl; clear hxl
          go_wp2_with fail
          go_loop [24] (fun i => ∃ j : Nat, j ≤ x.length ∧ i = .int .i64 j ∧ (x.take j).all inM = true) (fun i => x.length - (intOf i).toNat)
          case atStart => exact ⟨0, Nat.zero_le _, rfl, rfl⟩
          case round =>
            clear hu
            obtain ⟨j, hj, rfl, hal⟩ := hrel
            have HAL := Lib.hid hal; clear hal
            by_cases hjl : j < x.length
            · obtain ⟨b2, o2, rfl, g2⟩ := HR2.out j hjl
              have HAT := Lib.hid (fun h => allx_take inM hjl HAL.out h)
              have HRF := Lib.hid (fun h => HFL.out (row_val (n := xss.length) hjl h))
              obtain ⟨z, hz⟩ : ∃ z, z = x[j] := ⟨_, rfl⟩
              rw [← hz] at g2 HAT HRF
              clear hz
              cases q : inM z
              · have HF := Lib.hid (HRF.out q)
                have HQ := Lib.hid (show (decide ((-100 : Int) ≤ z) && decide (z ≤ 100)) = false from q)
                clear q
                go_wp2_with (go_at_call 49; refine (l01In_any _ _ _ _).mono ?_; rw [HQ.out]; rintro e w' ⟨rfl, rfl⟩)
                go_ret
                exact ⟨ret_bool HF.out.symm, rfl⟩
              · have HN := Lib.hid (HAT.out q)
                have HQ := Lib.hid (show (decide ((-100 : Int) ≤ z) && decide (z ≤ 100)) = true from q)
                clear q
                go_wp2_with (go_at_call 49; refine (l01In_any _ _ _ _).mono ?_; rw [HQ.out]; rintro e w' ⟨rfl, rfl⟩)
                go_round
                case rel => exact ⟨j + 1, by omega, by go_num, HN.out⟩
                case measure => simp [intOf]; omega
            · obtain rfl : j = x.length := by omega
              have HN := Lib.hid (HOK.out (row_ok HX.out (by have h := HAL.out; rw [List.take_of_length_le (Nat.le_refl _)] at h; exact h)))
              go_wp2
              go_roundw
              case rel => exact ⟨k + 1, by omega, by go_num, HN.out, trivial⟩
              case measure => simp [intOf]; omega
        · have hne : ((x.length : Int) != (xss.length : Int)) = true := by rw [bne_iff_ne]; omega
          have HF := Lib.hid (HFL.out (row_len hxl))
          clear hxl
          go_wp2_with fail
          go_ret
          exact ⟨ret_bool HF.out.symm, rfl⟩
      · obtain rfl : k = xss.length := by omega
        have HE := Lib.hid ((sq_end HALL.out).trans D.out)
        go_wp2
        go_ret
        exact ⟨ret_bool HE.out.symm, rfl⟩
set_option maxHeartbeats 1000000 in
theorem isMatrix_any (xss : List (List Int)) (va : Value) (w : World) (B : Nat) (ha : Row2 w B va xss) :
    Calls Try.prog 31 #[va] w fun e w' => e = .returned (.bool (sqB xss)) ∧ w' = w := by
  have hl := ha.len
  obtain ⟨A, c, rfl, hc⟩ := ha.shape
  have HA := Lib.hid ha; clear ha
  go_enter Try.func31, Try.ntmps31
  go_wp2_with fail
  go_loopw [9] (fun i wr => ∃ k : Nat, k ≤ xss.length ∧ i = .int .i64 k ∧ ((xss.take k).all (rowB xss.length)) = true ∧ wr = w) (fun i _ => xss.length - (intOf i).toNat)
  case atStart => exact ⟨0, Nat.zero_le _, rfl, rfl, rfl⟩
  case round =>
    obtain ⟨k, hk, rfl, hall, rfl⟩ := hrel
    have HALL := Lib.hid hall; clear hall
    by_cases hlt : k < xss.length
    · obtain ⟨b, o, c', u, he, hu, hrow⟩ := HA.out.atRow k hlt
      cases he
      have hrl := hrow.len
      rw [ints_len] at hrl
      have HRW := Lib.hid hrow
      obtain ⟨A', c2, rfl, hri⟩ := hrow.intAt
      have HRI := Lib.hid hri
      have HFL := Lib.hid (fun h => sq_fail hlt h)
      have HOK := Lib.hid (fun h => allx_take (rowB xss.length) hlt HALL.out h)
      obtain ⟨x, hx⟩ : ∃ x, x = xss[k] := ⟨_, rfl⟩
      rw [← hx] at hu hrl HFL HOK
      have hri2 : ∀ (j : Nat) (hj : j < x.length), ∃ b o, A' = some ⟨b, o, none⟩ ∧ wr.cell? ⟨b, o + j, none⟩ = some (.int .i64 x[j]) := by rw [hx]; exact hri
      have HR2 := Lib.hid hri2
      clear hrow hri hri2 hx HRW HRI
      by_cases hxl : x.length = xss.length
      · have hne : ((x.length : Int) != (xss.length : Int)) = false := by rw [hxl]; simp
        have HX := Lib.hid hxl; clear hxl
        go_wp2_with fail
        go_loop [20] (fun i => ∃ j : Nat, j ≤ x.length ∧ i = .int .i64 j ∧ (x.take j).all inM = true) (fun i => x.length - (intOf i).toNat)
        case atStart => exact ⟨0, Nat.zero_le _, rfl, rfl⟩
        case round =>
          clear hu
          obtain ⟨j, hj, rfl, hal⟩ := hrel
          have HAL := Lib.hid hal; clear hal
          by_cases hjl : j < x.length
          · obtain ⟨b2, o2, rfl, g2⟩ := HR2.out j hjl
            have HAT := Lib.hid (fun h => allx_take inM hjl HAL.out h)
            have HRF := Lib.hid (fun h => HFL.out (row_val (n := xss.length) hjl h))
            obtain ⟨z, hz⟩ : ∃ z, z = x[j] := ⟨_, rfl⟩
            rw [← hz] at g2 HAT HRF
            clear hz
            cases q : inM z
            · have HF := Lib.hid (HRF.out q)
              have HQ := Lib.hid (show (decide ((-100 : Int) ≤ z) && decide (z ≤ 100)) = false from q)
              clear q
              go_wp2_with (go_at_call 40; refine (within_any _ _ _ _).mono ?_; rw [HQ.out]; rintro e w' ⟨rfl, rfl⟩)
              go_ret
              exact ⟨ret_bool HF.out.symm, rfl⟩
            · have HN := Lib.hid (HAT.out q)
              have HQ := Lib.hid (show (decide ((-100 : Int) ≤ z) && decide (z ≤ 100)) = true from q)
              clear q
              go_wp2_with (go_at_call 40; refine (within_any _ _ _ _).mono ?_; rw [HQ.out]; rintro e w' ⟨rfl, rfl⟩)
              go_round
              case rel => exact ⟨j + 1, by omega, by go_num, HN.out⟩
              case measure => simp [intOf]; omega
          · obtain rfl : j = x.length := by omega
            have HN := Lib.hid (HOK.out (row_ok HX.out (by have h := HAL.out; rw [List.take_of_length_le (Nat.le_refl _)] at h; exact h)))
            go_wp2
            go_roundw
            case rel => exact ⟨k + 1, by omega, by go_num, HN.out, trivial⟩
            case measure => simp [intOf]; omega
      · have hne : ((x.length : Int) != (xss.length : Int)) = true := by rw [bne_iff_ne]; omega
        have HF := Lib.hid (HFL.out (row_len hxl))
        clear hxl
        go_wp2_with fail
        go_ret
        exact ⟨ret_bool HF.out.symm, rfl⟩
    · obtain rfl : k = xss.length := by omega
      have HE := Lib.hid (sq_end HALL.out)
      go_wp2_with (go_at_call 40; refine (within_any _ _ _ _).mono ?_; rintro e w' ⟨rfl, rfl⟩)
      go_ret
      exact ⟨ret_bool HE.out.symm, rfl⟩

def trTo (xss : List (List Int)) : Nat → Int
  | 0 => 0
  | k + 1 => trTo xss k + (xss.getD k []).getD k 0
/-- what TraceOf returns -/
def trR (xss : List (List Int)) : Int := if sqB xss = true then trTo xss xss.length else 0
theorem tr_no {xss : List (List Int)} (h : sqB xss = false) : trR xss = 0 := by unfold trR; rw [h]; rfl
theorem tr_yes {xss : List (List Int)} (h : sqB xss = true) : trR xss = trTo xss xss.length := by unfold trR; rw [if_pos h]
theorem entry_bound {xss : List (List Int)} (h : sqB xss = true) (i j : Nat) : -100 ≤ (xss.getD i []).getD j 0 ∧ (xss.getD i []).getD j 0 ≤ 100 := by
  obtain ⟨_, _, _, h4⟩ := sqB_parts h
  rw [List.getD_eq_getElem?_getD, List.getD_eq_getElem?_getD]
  by_cases hi : i < xss.length
  · rw [List.getElem?_eq_getElem hi]
    show -100 ≤ ((xss[i])[j]?).getD 0 ∧ ((xss[i])[j]?).getD 0 ≤ 100
    by_cases hj : j < (xss[i]).length
    · rw [List.getElem?_eq_getElem hj]
      exact h4 _ (List.getElem_mem hi) _ (List.getElem_mem hj)
    · have e0 : (xss[i])[j]? = none := List.getElem?_eq_none (by omega)
      rw [e0]; exact ⟨by decide, by decide⟩
  · have e0 : xss[i]? = none := List.getElem?_eq_none (by omega)
    rw [e0]
    show -100 ≤ (([] : List Int)[j]?).getD 0 ∧ (([] : List Int)[j]?).getD 0 ≤ 100
    simp
theorem tr_bound {xss : List (List Int)} (h : sqB xss = true) : ∀ k : Nat, -(100 * (k : Int)) ≤ trTo xss k ∧ trTo xss k ≤ 100 * (k : Int)
  | 0 => by simp [trTo]
  | k + 1 => by
    have h1 := tr_bound h k
    have h2 := entry_bound h k k
    rw [trTo]; simp only [Int.natCast_add, Int.natCast_one]; omega
set_option maxHeartbeats 1000000 in
theorem specTraceOf_any (xss : List (List Int)) (va : Value) (w : World) (B : Nat) (ha : Row2 w B va xss) :
    Calls Try.prog 8 #[va] w fun e w' => e = .returned (.int .i64 (trR xss)) ∧ w' = w := by
  have HSQ := Lib.hid (l04Square_any xss va w B ha)
  cases hq : sqB xss
  · have HF := Lib.hid (tr_no hq)
    rw [hq] at HSQ
    clear ha hq
    go_enter Try.func8, Try.ntmps8
    go_wp2_with (go_at_call 29; refine HSQ.out.mono ?_; rintro e w' ⟨rfl, rfl⟩)
    go_ret
    exact ⟨ret_int HF.out.symm, rfl⟩
  · have HF := Lib.hid (tr_yes hq)
    rw [hq] at HSQ
    obtain ⟨n1, n4, hr, _⟩ := sqB_parts hq
    obtain ⟨b, o, c, rfl, hb, hc, hrow⟩ := ha.open2 (by omega) (by omega) hr
    have HR := Lib.hid hrow
    have HBD := Lib.hid (tr_bound hq)
    have HEB := Lib.hid (entry_bound hq)
    clear ha hq hrow hr
    rename_i hzz
    clear hzz
    go_enter Try.func8, Try.ntmps8
    go_wp2_with (go_at_call 29; refine HSQ.out.mono ?_; rintro e w' ⟨rfl, rfl⟩)
    go_loop [3, 11] (fun s i => ∃ k : Nat, k ≤ xss.length ∧ i = .int .i64 k ∧ s = .int .i64 (trTo xss k)) (fun _ i => xss.length - (intOf i).toNat)
    case atStart => exact ⟨0, Nat.zero_le _, rfl, rfl⟩
    case round =>
      obtain ⟨k, hk, rfl, rfl⟩ := hrel
      obtain ⟨d1, d2⟩ := HBD.out k
      by_cases hlt : k < xss.length
      · obtain ⟨b2, o2, c2, _, hc2, g1, g2⟩ := HR.out k hlt
        have g3 := g2 k hlt
        have hgd : xss[k] = xss.getD k [] := by rw [List.getD_eq_getElem?_getD, List.getElem?_eq_getElem hlt]; rfl
        rw [hgd] at g3
        have HN := Lib.hid (show trTo xss (k + 1) = trTo xss k + (xss.getD k []).getD k 0 from rfl)
        obtain ⟨e1, e2⟩ := HEB.out k k
        obtain ⟨y, hy⟩ : ∃ y, y = (xss.getD k []).getD k 0 := ⟨_, rfl⟩
        obtain ⟨d, hd⟩ : ∃ d, d = trTo xss k := ⟨_, rfl⟩
        rw [← hy] at g3 HN e1 e2
        rw [← hd] at HN d1 d2 ⊢
        clear g2 hgd hy hd
        go_wp2
        go_round
        case rel => exact ⟨k + 1, by omega, by go_num, by rw [HN.out]⟩
        case measure => simp [intOf]; omega
      · obtain rfl : k = xss.length := by omega
        go_wp2
        go_ret
        exact ⟨ret_int HF.out.symm, rfl⟩
set_option maxHeartbeats 1000000 in
theorem implTraceOf_any (xss : List (List Int)) (va : Value) (w : World) (B : Nat) (ha : Row2 w B va xss) :
    Calls Try.prog 10 #[va] w fun e w' => e = .returned (.int .i64 (trR xss)) ∧ w' = w := by
  have HSQ := Lib.hid (isMatrix_any xss va w B ha)
  cases hq : sqB xss
  · have HF := Lib.hid (tr_no hq)
    rw [hq] at HSQ
    clear ha hq
    go_enter Try.func10, Try.ntmps10
    go_wp2_with (go_at_call 31; refine HSQ.out.mono ?_; rintro e w' ⟨rfl, rfl⟩)
    go_ret
    exact ⟨ret_int HF.out.symm, rfl⟩
  · have HF := Lib.hid (tr_yes hq)
    rw [hq] at HSQ
    obtain ⟨n1, n4, hr, _⟩ := sqB_parts hq
    obtain ⟨b, o, c, rfl, hb, hc, hrow⟩ := ha.open2 (by omega) (by omega) hr
    have HR := Lib.hid hrow
    have HBD := Lib.hid (tr_bound hq)
    have HEB := Lib.hid (entry_bound hq)
    clear ha hq hrow hr
    rename_i hzz
    clear hzz
    go_enter Try.func10, Try.ntmps10
    go_wp2_with (go_at_call 31; refine HSQ.out.mono ?_; rintro e w' ⟨rfl, rfl⟩)
    go_loop [3, 10] (fun s i => ∃ k : Nat, k ≤ xss.length ∧ i = .int .i64 k ∧ s = .int .i64 (trTo xss k)) (fun _ i => xss.length - (intOf i).toNat)
    case atStart => exact ⟨0, Nat.zero_le _, rfl, rfl⟩
    case round =>
      obtain ⟨k, hk, rfl, rfl⟩ := hrel
      obtain ⟨d1, d2⟩ := HBD.out k
      by_cases hlt : k < xss.length
      · obtain ⟨b2, o2, c2, _, hc2, g1, g2⟩ := HR.out k hlt
        have g3 := g2 k hlt
        have hgd : xss[k] = xss.getD k [] := by rw [List.getD_eq_getElem?_getD, List.getElem?_eq_getElem hlt]; rfl
        rw [hgd] at g3
        have HN := Lib.hid (show trTo xss (k + 1) = trTo xss k + (xss.getD k []).getD k 0 from rfl)
        obtain ⟨e1, e2⟩ := HEB.out k k
        obtain ⟨y, hy⟩ : ∃ y, y = (xss.getD k []).getD k 0 := ⟨_, rfl⟩
        obtain ⟨d, hd⟩ : ∃ d, d = trTo xss k := ⟨_, rfl⟩
        rw [← hy] at g3 HN e1 e2
        rw [← hd] at HN d1 d2 ⊢
        clear g2 hgd hy hd
        go_wp2
        go_round
        case rel => exact ⟨k + 1, by omega, by go_num, by rw [HN.out]⟩
        case measure => simp [intOf]; omega
      · obtain rfl : k = xss.length := by omega
        go_wp2
        go_ret
        exact ⟨ret_int HF.out.symm, rfl⟩
end Go.Proofs.Ytciiokegifgbdaa
/- Walks: products of matrices. -/
namespace Go.Proofs.Ytciiokegifgbdaa
open Go.RowKit
set_option maxRecDepth 20000

theorem own_shapeM {w : World} {base : Nat} {E : TypeId} {size n : Nat} {v : Value} {xs : List Value} (h : w.ownsRow base E size v n xs) : ∃ A c, v = .slice A n c := by
  rcases h.2 with ⟨rfl, rfl⟩ | ⟨g, cap, cur, rfl, _⟩
  · exact ⟨_, _, rfl⟩
  · exact ⟨_, _, rfl⟩
def mulTo (row : List Int) (b : List (List Int)) (k : Nat) : Nat → Int
  | 0 => 0
  | j + 1 => mulTo row b k j + row.getD j 0 * (b.getD j []).getD k 0
theorem mul_zero0 (row : List Int) (b : List (List Int)) (k : Nat) : mulTo row b k 0 = 0 := rfl
def mulRow (row : List Int) (b : List (List Int)) : List Int := (List.range b.length).map fun k => mulTo row b k row.length
def mulM (a b : List (List Int)) : List (List Int) := a.map fun row => mulRow row b
theorem mulRow_len (row : List Int) (b : List (List Int)) : (mulRow row b).length = b.length := by simp [mulRow]
theorem mulM_len (a b : List (List Int)) : (mulM a b).length = a.length := List.length_map _
theorem mulRow_take {row : List Int} {b : List (List Int)} {q : Nat} (h : q < b.length) : ints ((mulRow row b).take (q + 1)) = ints ((mulRow row b).take q) ++ [.int .i64 (mulTo row b q row.length)] := by
  rw [List.take_succ_eq_append_getElem (by rw [mulRow_len]; exact h)]
  simp [ints, mulRow]
theorem mulM_take {a b : List (List Int)} {k : Nat} (h : k < a.length) : (mulM a b).take (k + 1) = (mulM a b).take k ++ [mulRow a[k] b] := by
  rw [List.take_succ_eq_append_getElem (by rw [mulM_len]; exact h)]
  simp [mulM]
theorem mul_box {x y : Int} (h1 : -100 ≤ x ∧ x ≤ 100) (h2 : -100 ≤ y ∧ y ≤ 100) : -10000 ≤ x * y ∧ x * y ≤ 10000 := by
  have a1 : 0 ≤ (x + 100) * (y + 100) := Int.mul_nonneg (by omega) (by omega)
  have a2 : 0 ≤ (100 - x) * (100 - y) := Int.mul_nonneg (by omega) (by omega)
  have a3 : 0 ≤ (x + 100) * (100 - y) := Int.mul_nonneg (by omega) (by omega)
  have a4 : 0 ≤ (100 - x) * (y + 100) := Int.mul_nonneg (by omega) (by omega)
  simp only [Int.add_mul, Int.mul_add, Int.sub_mul, Int.mul_sub] at a1 a2 a3 a4
  have e : x * 100 = 100 * x := Int.mul_comm _ _
  rw [e] at a1 a2 a3 a4
  constructor <;> omega
theorem mul_bound {row : List Int} {b : List (List Int)} {k : Nat} (h1 : ∀ j, -100 ≤ row.getD j 0 ∧ row.getD j 0 ≤ 100) (h2 : ∀ i j, -100 ≤ (b.getD i []).getD j 0 ∧ (b.getD i []).getD j 0 ≤ 100) : ∀ m : Nat, -(10000 * (m : Int)) ≤ mulTo row b k m ∧ mulTo row b k m ≤ 10000 * (m : Int)
  | 0 => by simp [mulTo]
  | m + 1 => by
    have h3 := mul_bound (k := k) h1 h2 m
    have h4 := mul_box (h1 m) (h2 m k)
    rw [mulTo]; simp only [Int.natCast_add, Int.natCast_one]; omega
/-- what MultiplyMatrices returns -/
def mmB (a b : List (List Int)) : Bool := sqB a && sqB b && decide (a.length = b.length)
def mmR (a b : List (List Int)) : List (List Int) := if mmB a b = true then mulM a b else []
theorem mm_no {a b : List (List Int)} (h : mmB a b = false) : mmB a b = false ∧ mmR a b = [] := ⟨h, by unfold mmR; rw [h]; rfl⟩
theorem mm_yes {a b : List (List Int)} (h : mmB a b = true) : mmB a b = true ∧ mmR a b = mulM a b := ⟨h, by unfold mmR; rw [if_pos h]⟩
theorem mm_no1 {a b : List (List Int)} (h : sqB a = false) : mmB a b = false := by unfold mmB; rw [h]; rfl
theorem mm_no2 {a b : List (List Int)} (h : sqB b = false) : mmB a b = false := by unfold mmB; rw [h]; simp
theorem mm_no3 {a b : List (List Int)} (h : ¬ a.length = b.length) : mmB a b = false := by unfold mmB; rw [decide_eq_false h]; simp
theorem mm_in {a b : List (List Int)} (h1 : sqB a = true) (h2 : sqB b = true) (h3 : a.length = b.length) : mmB a b = true := by unfold mmB; rw [h1, h2, decide_eq_true h3]; rfl
set_option maxHeartbeats 4000000 in
theorem specMultiplyMatrices_any (a b : List (List Int)) (va vb : Value) (w : World) (ha : Row2 w w.heap.size va a) (hb : Row2 w w.heap.size vb b) :
    Calls Try.prog 14 #[va, vb] w fun e w' => ∃ v, e = .returned (.tuple #[v, .bool (mmB a b)]) ∧ OwnG w' w.heap.size w'.heap.size v (mmR a b) ∧ Below w.heap.size w w' := by
  obtain ⟨A1, c1, rfl, hs1⟩ := ha.shape
  obtain ⟨A2, c2, rfl, hs2⟩ := hb.shape
  have HSA := Lib.hid (l04Square_any a _ w _ ha)
  have HSB := Lib.hid (l04Square_any b _ w _ hb)
  have hla := ha.len
  have hlb := hb.len
  cases hqa : sqB a
  · have HF := Lib.hid (mm_no (mm_no1 (b := b) hqa))
    rw [hqa] at HSA
    clear ha hb hqa
    go_enter Try.func14, Try.ntmps14
    go_wp2_with fail
    refine HSA.out.mono ?_
    rintro e w' ⟨rfl, hww⟩
    cases hww.symm
    go_wp2_with fail
    go_ret2
    exact ⟨_, by rw [HF.out.1] <;> rfl, by rw [HF.out.2]; exact Own2.zero _ _ _, Below.refl _ _⟩
  cases hqb : sqB b
  · have HF := Lib.hid (mm_no (mm_no2 (a := a) hqb))
    rw [hqa] at HSA
    rw [hqb] at HSB
    clear ha hb hqa hqb
    go_enter Try.func14, Try.ntmps14
    go_wp2_with fail
    (with_reducible refine HSA.out.mono ?_)
    rintro e w' ⟨rfl, hww⟩
    cases hww.symm
    go_wp2_with fail
    (with_reducible refine HSB.out.mono ?_)
    rintro e w' ⟨rfl, hww⟩
    cases hww.symm
    go_wp2_with fail
    go_ret2
    exact ⟨_, by rw [HF.out.1] <;> rfl, by rw [HF.out.2]; exact Own2.zero _ _ _, Below.refl _ _⟩
  by_cases hl : a.length = b.length
  case neg =>
    have HF := Lib.hid (mm_no (mm_no3 hl))
    have hne : ((a.length : Int) != (b.length : Int)) = true := by rw [bne_iff_ne]; omega
    rw [hqa] at HSA
    rw [hqb] at HSB
    clear ha hb hqa hqb
    go_enter Try.func14, Try.ntmps14
    go_wp2_with fail
    (with_reducible refine HSA.out.mono ?_)
    rintro e w' ⟨rfl, hww⟩
    cases hww.symm
    go_wp2_with fail
    (with_reducible refine HSB.out.mono ?_)
    rintro e w' ⟨rfl, hww⟩
    cases hww.symm
    go_wp2_with fail
    go_ret2
    exact ⟨_, by rw [HF.out.1] <;> rfl, by rw [HF.out.2]; exact Own2.zero _ _ _, Below.refl _ _⟩
  have HF := Lib.hid (mm_yes (mm_in hqa hqb hl))
  have HQA := Lib.hid hqa
  have HEB := Lib.hid (entry_bound hqb)
  rw [hqa] at HSA
  rw [hqb] at HSB
  obtain ⟨hN0, hN4, har, har4⟩ := sqB_parts hqa
  obtain ⟨hs3, hs4, hbr, hbr4⟩ := sqB_parts hqb
  obtain ⟨N, hal⟩ : ∃ N, a.length = N := ⟨_, rfl⟩
  have hbl : b.length = N := by omega
  have hne : ((N : Int) != (N : Int)) = false := by simp
  rw [hal] at hN0 hN4 har
  rw [hbl] at hbr
  clear har4 hbr4 hqa hqb hl hla hlb
  obtain ⟨i0, hi, hz0, hz1, hz2⟩ := info_parts info_intM
  have HI := Lib.hid hi; have HZ0 := Lib.hid hz0; have HZ1 := Lib.hid hz1; have HZ2 := Lib.hid hz2
  clear hi hz0 hz1 hz2
  obtain ⟨i1, hi, hz0, hz1, hz2⟩ := info_parts info_rowM
  have HJ := Lib.hid hi; have HY0 := Lib.hid hz0; have HY1 := Lib.hid hz1; have HY2 := Lib.hid hz2
  clear hi hz0 hz1 hz2
  obtain ⟨ba, oa, ca, he1, hba, hca, hA⟩ := ha.open2 (by omega) hN0 har
  cases he1
  obtain ⟨bb, ob, cb, he2, hbb, hcb, hB⟩ := hb.open2 (by omega) hN0 hbr
  cases he2
  have HA := Lib.hid hA; have HB := Lib.hid hB; have HAR := Lib.hid har
  rw [hal] at hca HSA ⊢
  rw [hbl] at hcb HSB ⊢
  have HAL := Lib.hid hal; have HBL := Lib.hid hbl
  have HO0 := Lib.hid (World.ownsRow_made (base := w.heap.size) (e := 37) (size := 1) w #[] 0 (Nat.le_refl _) (Nat.zero_le _) rfl)
  have HSL := Lib.hid (mulM_len a b)
  clear ha hb hA hB har hbr hal hbl
  clear hs1 hs2 hs3 hs4
  go_enter Try.func14, Try.ntmps14
  go_wp2_with fail
  (with_reducible refine HSA.out.mono ?_)
  rintro e w' ⟨rfl, hww⟩
  cases hww.symm
  go_wp2_with fail
  (with_reducible refine HSB.out.mono ?_)
  rintro e w' ⟨rfl, hww⟩
  cases hww.symm
  go_wp2_with fail
  go_loopw [6, 32] (fun v i wr => ∃ (k : Nat) (u : Value) (vs : List Value), v = u ∧ k ≤ N ∧ i = .int .i64 k ∧ OwnV 37 3 wr w.heap.size u vs ((mulM a b).take k) ∧ Below w.heap.size w wr) (fun _ i _ => N - (intOf i).toNat)
  case atStart => exact ⟨0, _, [], rfl, Nat.zero_le _, rfl, OwnV.empty (by simpa using HO0.out), bnew _ _⟩
  case round =>
    obtain ⟨wo, rfl⟩ : ∃ wo, wo = wr := ⟨_, rfl⟩
    obtain ⟨k, u, vs, rfl, hk, rfl, hov, hbel⟩ := hrel
    have HV := Lib.hid hov; have HW := Lib.hid hbel
    have HLEN := Lib.hid (show ((mulM a b).take k).length = k by rw [List.length_take, HSL.out, HAL.out]; omega)
    clear hov hbel
    by_cases hlt : k < N
    · have hka : k < a.length := by have := HAL.out; omega
      obtain ⟨b1, o1, c1, hb1, hc1, g1, G1⟩ := HA.out k hka
      have HG1 := Lib.hid G1
      have g1' := (HW.out.cell (p := ⟨ba, oa + k, none⟩) hba).trans g1
      have g2' := (bthen HW.out (bnew wo (.cells #[] 3))).cell (p := ⟨ba, oa + k, none⟩) hba
      rw [g1] at g2'
      have HRL := Lib.hid (HAR.out _ (List.getElem_mem hka))
      have HST := Lib.hid (mulM_take (b := b) hka)
      obtain ⟨row, hrow⟩ : ∃ row, row = a[k] := ⟨_, rfl⟩
      have hea := fun j => entry_bound HQA.out k j
      rw [show a.getD k [] = a[k] from by rw [List.getD_eq_getElem?_getD, List.getElem?_eq_getElem hka]; rfl] at hea
      rw [← hrow] at HG1 HRL HST hea
      have HEA := Lib.hid hea; clear hea
      have HR0 := Lib.hid (World.ownsRow_made (base := wo.heap.size) (e := 3) (size := 1) wo #[] 0 (Nat.le_refl _) (Nat.zero_le _) rfl)
      clear G1 g1 hrow hka
      go_wp2_with fail
      go_loopw [9, 39] (fun rv j wr => ∃ (q : Nat) (ru : Value), rv = ru ∧ q ≤ N ∧ j = .int .i64 q ∧ wr.ownsRow wo.heap.size 3 1 ru q (ints ((mulRow row b).take q)) ∧ Below wo.heap.size wo wr) (fun _ j _ => N - (intOf j).toNat)
      case atStart => exact ⟨0, _, rfl, Nat.zero_le _, rfl, by simpa [ints] using HR0.out, bnew _ _⟩
      case round =>
        clear HR0 g1' g2'
        obtain ⟨q, ru, rfl, hq, rfl, ho, hb⟩ := hrel
        have HO := Lib.hid ho; have HB2 := Lib.hid hb; clear ho hb
        by_cases hql : q < N
        · have HWB := Lib.hid (bthen HW.out HB2.out)
          have HMB := Lib.hid (fun m => mul_bound (row := row) (b := b) (k := q) HEA.out HEB.out m)
          have HRT := Lib.hid (mulRow_take (row := row) (b := b) (q := q) (by have := HBL.out; omega))
          rw [HRL.out] at HRT
          go_wp2_with fail
          go_loop [11, 44] (fun x j => ∃ m : Nat, m ≤ N ∧ j = .int .i64 m ∧ x = .int .i64 (mulTo row b q m)) (fun _ j => N - (intOf j).toNat)
          case atStart => exact ⟨0, Nat.zero_le _, rfl, by rw [mul_zero0]⟩
          case round =>
            obtain ⟨m, hm, rfl, rfl⟩ := hrel
            by_cases hml : m < N
            · obtain ⟨b3, o3, c3, hb3, hc3, g3, G3⟩ := HB.out m (by have := HBL.out; omega)
              have g5 := (HWB.out.cell (p := ⟨b1, o1 + m, none⟩) hb1).trans (HG1.out m hml)
              have g6 := (HWB.out.cell (p := ⟨bb, ob + m, none⟩) hbb).trans g3
              have g7 := (HWB.out.cell (p := ⟨b3, o3 + q, none⟩) hb3).trans (G3 q hql)
              have hbm : b[m]'(by have := HBL.out; omega) = b.getD m [] := by rw [List.getD_eq_getElem?_getD, List.getElem?_eq_getElem (by have := HBL.out; omega)]; rfl
              rw [hbm] at g7
              have HD := Lib.hid (show mulTo row b q (m + 1) = mulTo row b q m + row.getD m 0 * (b.getD m []).getD q 0 from rfl)
              have hb1 := HEA.out m
              have hb2 := HEB.out m q
              obtain ⟨d1, d2⟩ := HMB.out m
              obtain ⟨p1, p2⟩ := mul_box hb1 hb2
              obtain ⟨y, hy⟩ : ∃ y, y = row.getD m 0 := ⟨_, rfl⟩
              obtain ⟨z, hz⟩ : ∃ z, z = (b.getD m []).getD q 0 := ⟨_, rfl⟩
              obtain ⟨d, hd⟩ : ∃ d, d = mulTo row b q m := ⟨_, rfl⟩
              rw [← hy] at g5 HD hb1 p1 p2
              rw [← hz] at g7 HD hb2 p1 p2
              rw [← hd] at HD d1 d2 ⊢
              clear G3 g3 hbm hy hz hd
              go_wp2
              go_round
              case rel => exact ⟨m + 1, by omega, by go_num, by rw [HD.out]⟩
              case measure => simp [intOf]; omega
            · obtain rfl : m = N := by omega
              obtain ⟨d1, d2⟩ := HMB.out m
              obtain ⟨x, hx⟩ : ∃ x, x = mulTo row b q m := ⟨_, rfl⟩
              rw [← hx] at HRT d1 d2 ⊢
              clear hx
              go_wp2_with (at_builtin; refine wpList_append_own _ rfl _ _ 37 rfl wo.heap.size 3 i0 (.int .i64 0) 1 8 Try.underlying37 HI.out HZ0.out HZ1.out HZ2.out rfl (by decide) _ _ _ rfl (HO.out.alloc _) ⟨_, 0, none⟩ 1 1 [.int .i64 x] rfl rfl (cell_one_new _ _ _) (by intro u hu; simp at hu; subst hu; rfl) (by unfold maxLen; omega) (by omega) (by have := HB2.out.size; simp; omega) ?_)
              intro v' w3 hown' hgrow _
              have HB3 := Lib.hid (since_grown (bthen HB2.out (bnew _ _)) hgrow (fun g hg => (own_lt HO.out hg).1))
              have HO3 := Lib.hid hown'
              clear hown' hgrow
              go_wp2
              go_roundw
              case rel => exact ⟨q + 1, v', rfl, by omega, by go_num, by rw [HRT.out]; simpa [ints] using HO3.out, HB3.out⟩
              case measure => simp [intOf]; omega
        · obtain rfl : q = N := by omega
          obtain ⟨A, cr, rfl⟩ := own_shapeM HO.out
          have hrow : wr.ownsRow wo.heap.size 3 1 (.slice A q cr) (mulRow row b).length (ints (mulRow row b)) := by
            have h := HO.out
            rw [List.take_of_length_le (by rw [mulRow_len, HBL.out]; exact Nat.le_refl _)] at h
            rw [mulRow_len, HBL.out]; exact h
          have HROW := Lib.hid hrow; clear hrow
          have HVB := Lib.hid (HV.out.below HB2.out)
          go_wp2_with (at_builtin; refine wpList_append_own _ rfl _ _ 22 rfl w.heap.size 37 i1 (.slice none 0 0) 1 24 Try.underlying22 HJ.out HY0.out HY1.out HY2.out rfl (by decide) _ _ _ rfl (HVB.out.own.alloc _) ⟨_, 0, none⟩ 1 1 [.slice A q cr] rfl rfl (cell_one_new _ _ _) (by intro u hu; simp at hu; subst hu; rfl) (by rw [HLEN.out]; unfold maxLen; omega) (by rw [HLEN.out]; omega) (by have := HB2.out.size; have := HW.out.size; simp; omega) ?_)
          intro v' w3 hown' hgrow _
          have HV3 := Lib.hid (HV.out.push types_apart HW.out.size (bthen HB2.out (bnew _ _)) (HROW.out.alloc _) (by simpa using hown') hgrow)
          have HS3 := Lib.hid (since_grown (bthen HW.out (bthen HB2.out (bnew _ _))) hgrow (fun g hg => (own_lt HV.out.own hg).1))
          clear hown' hgrow
          go_wp2
          go_roundw
          case rel => exact ⟨k + 1, v', _, rfl, by omega, by go_num, by rw [HST.out]; exact HV3.out, HS3.out⟩
          case measure => simp [intOf]; omega
    · obtain rfl : k = N := by omega
      have HE := Lib.hid (show (mulM a b).take k = mulM a b from List.take_of_length_le (by rw [HSL.out, HAL.out]; exact Nat.le_refl _))
      rw [HE.out] at HV
      go_wp2
      go_ret2
      exact ⟨_, by rw [HF.out.1] <;> rfl, by rw [HF.out.2]; exact HV.out.own2, HW.out⟩
end Go.Proofs.Ytciiokegifgbdaa
/- Walks: products of matrices, the program's way. -/
namespace Go.Proofs.Ytciiokegifgbdaa
open Go.RowKit
set_option maxRecDepth 20000

/-- a row while the factors up to j are in, those below q at j + 1 -/
def mulPart (row : List Int) (b : List (List Int)) (j q : Nat) : List Int := (List.range b.length).map fun k => if k < q then mulTo row b k (j + 1) else mulTo row b k j
theorem mulPart_len (row : List Int) (b : List (List Int)) (j q : Nat) : (mulPart row b j q).length = b.length := by simp [mulPart]
theorem mulPart_set {row : List Int} {b : List (List Int)} {j q : Nat} : (mulPart row b j q).set q (mulTo row b q (j + 1)) = mulPart row b j (q + 1) := by
  apply List.ext_getElem
  · simp [mulPart]
  · intro n h1 h2
    rw [List.getElem_set]
    simp only [mulPart, List.getElem_map, List.getElem_range]
    by_cases e : q = n
    · subst e; simp
    · rw [if_neg e]
      by_cases h3 : n < q
      · rw [if_pos h3, if_pos (by omega)]
      · rw [if_neg h3, if_neg (by omega)]
theorem mulPart_end (row : List Int) (b : List (List Int)) (j : Nat) : mulPart row b j b.length = mulPart row b (j + 1) 0 := by
  unfold mulPart
  apply List.map_congr_left
  intro n hn
  rw [if_pos (List.mem_range.1 hn), if_neg (by omega)]
theorem mulPart_zero (row : List Int) (b : List (List Int)) : mulPart row b 0 0 = List.replicate b.length 0 := by
  unfold mulPart
  apply List.ext_getElem
  · simp
  · intro n _ _; simp [mul_zero0]
theorem mulPart_all (row : List Int) (b : List (List Int)) : mulPart row b row.length 0 = mulRow row b := by
  unfold mulPart mulRow
  apply List.map_congr_left
  intro n _; simp
theorem mulPart_get {row : List Int} {b : List (List Int)} {j q : Nat} (h : q < b.length) : (ints (mulPart row b j q))[q]? = some (.int .i64 (mulTo row b q j)) := by
  rw [List.getElem?_map, List.getElem?_eq_getElem (by rw [mulPart_len]; exact h)]
  simp [mulPart]
set_option maxHeartbeats 4000000 in
theorem implMultiplyMatrices_any (a b : List (List Int)) (va vb : Value) (w : World) (ha : Row2 w w.heap.size va a) (hb : Row2 w w.heap.size vb b) :
    Calls Try.prog 15 #[va, vb] w fun e w' => ∃ v, e = .returned (.tuple #[v, .bool (mmB a b)]) ∧ OwnG w' w.heap.size w'.heap.size v (mmR a b) ∧ Below w.heap.size w w' := by
  obtain ⟨A1, c1, rfl, hs1⟩ := ha.shape
  obtain ⟨A2, c2, rfl, hs2⟩ := hb.shape
  have HSA := Lib.hid (isMatrix_any a _ w _ ha)
  have HSB := Lib.hid (isMatrix_any b _ w _ hb)
  have hla := ha.len
  have hlb := hb.len
  cases hqa : sqB a
  · have HF := Lib.hid (mm_no (mm_no1 (b := b) hqa))
    rw [hqa] at HSA
    clear ha hb hqa
    go_enter Try.func15, Try.ntmps15
    go_wp2_with fail
    refine HSA.out.mono ?_
    rintro e w' ⟨rfl, hww⟩
    cases hww.symm
    go_wp2_with fail
    go_ret2
    exact ⟨_, by rw [HF.out.1] <;> rfl, by rw [HF.out.2]; exact Own2.zero _ _ _, Below.refl _ _⟩
  cases hqb : sqB b
  · have HF := Lib.hid (mm_no (mm_no2 (a := a) hqb))
    rw [hqa] at HSA
    rw [hqb] at HSB
    clear ha hb hqa hqb
    go_enter Try.func15, Try.ntmps15
    go_wp2_with fail
    (with_reducible refine HSA.out.mono ?_)
    rintro e w' ⟨rfl, hww⟩
    cases hww.symm
    go_wp2_with fail
    (with_reducible refine HSB.out.mono ?_)
    rintro e w' ⟨rfl, hww⟩
    cases hww.symm
    go_wp2_with fail
    go_ret2
    exact ⟨_, by rw [HF.out.1] <;> rfl, by rw [HF.out.2]; exact Own2.zero _ _ _, Below.refl _ _⟩
  by_cases hl : a.length = b.length
  case neg =>
    have HF := Lib.hid (mm_no (mm_no3 hl))
    have hne : ((a.length : Int) != (b.length : Int)) = true := by rw [bne_iff_ne]; omega
    rw [hqa] at HSA
    rw [hqb] at HSB
    clear ha hb hqa hqb
    go_enter Try.func15, Try.ntmps15
    go_wp2_with fail
    (with_reducible refine HSA.out.mono ?_)
    rintro e w' ⟨rfl, hww⟩
    cases hww.symm
    go_wp2_with fail
    (with_reducible refine HSB.out.mono ?_)
    rintro e w' ⟨rfl, hww⟩
    cases hww.symm
    go_wp2_with fail
    go_ret2
    exact ⟨_, by rw [HF.out.1] <;> rfl, by rw [HF.out.2]; exact Own2.zero _ _ _, Below.refl _ _⟩
  have HF := Lib.hid (mm_yes (mm_in hqa hqb hl))
  have HQA := Lib.hid hqa
  have HEB := Lib.hid (entry_bound hqb)
  rw [hqa] at HSA
  rw [hqb] at HSB
  obtain ⟨hN0, hN4, har, har4⟩ := sqB_parts hqa
  obtain ⟨hs3, hs4, hbr, hbr4⟩ := sqB_parts hqb
  obtain ⟨N, hal⟩ : ∃ N, a.length = N := ⟨_, rfl⟩
  have hbl : b.length = N := by omega
  have hne : ((N : Int) != (N : Int)) = false := by simp
  rw [hal] at hN0 hN4 har
  rw [hbl] at hbr
  clear har4 hbr4 hqa hqb hl hla hlb
  obtain ⟨i0, hi, hz0, hz1, hz2⟩ := info_parts info_intM
  have HI := Lib.hid hi; have HZ0 := Lib.hid hz0; have HZ1 := Lib.hid hz1; have HZ2 := Lib.hid hz2
  clear hi hz0 hz1 hz2
  obtain ⟨i1, hi, hz0, hz1, hz2⟩ := info_parts info_rowM
  have HJ := Lib.hid hi; have HY0 := Lib.hid hz0; have HY1 := Lib.hid hz1; have HY2 := Lib.hid hz2
  clear hi hz0 hz1 hz2
  obtain ⟨ba, oa, ca, he1, hba, hca, hA⟩ := ha.open2 (by omega) hN0 har
  cases he1
  obtain ⟨bb, ob, cb, he2, hbb, hcb, hB⟩ := hb.open2 (by omega) hN0 hbr
  cases he2
  have HA := Lib.hid hA; have HB := Lib.hid hB; have HAR := Lib.hid har
  rw [hal] at hca HSA ⊢
  rw [hbl] at hcb HSB ⊢
  have HAL := Lib.hid hal; have HBL := Lib.hid hbl
  have HO0 := Lib.hid (World.ownsRow_made (base := w.heap.size) (e := 37) (size := 1) w #[] 0 (Nat.le_refl _) (Nat.zero_le _) rfl)
  have HSL := Lib.hid (mulM_len a b)
  clear ha hb hA hB har hbr hal hbl
  clear hs1 hs2 hs3 hs4
  go_enter Try.func15, Try.ntmps15
  go_wp2_with fail
  (with_reducible refine HSA.out.mono ?_)
  rintro e w' ⟨rfl, hww⟩
  cases hww.symm
  go_wp2_with fail
  (with_reducible refine HSB.out.mono ?_)
  rintro e w' ⟨rfl, hww⟩
  cases hww.symm
  go_wp2_with fail
  go_loopw [6, 31] (fun v j w2 => ∃ (q : Nat) (u : Value) (vs : List Value), v = u ∧ q ≤ N ∧ j = .int .i64 q ∧ OwnV 37 3 w2 w.heap.size u vs ((mulM a b).take q) ∧ Below w.heap.size w w2) (fun _ j _ => N - (intOf j).toNat)
  case atStart => exact ⟨0, _, [], rfl, Nat.zero_le _, rfl, OwnV.empty (by simpa using HO0.out), bnew _ _⟩
  case round =>
    obtain ⟨w2, rfl⟩ : ∃ w2, w2 = wr := ⟨_, rfl⟩
    obtain ⟨q, u, vs, rfl, hq, rfl, hov, hbel⟩ := hrel
    have HV := Lib.hid hov; have HW := Lib.hid hbel
    have HLEN := Lib.hid (show ((mulM a b).take q).length = q by rw [List.length_take, mulM_len, HAL.out]; omega)
    clear hov hbel
    by_cases hql : q < N
    · have hqa : q < a.length := by have := HAL.out; omega
      obtain ⟨b1, o1, c1, hb1, hc1, g1, G1⟩ := HA.out q hqa
      have HG1 := Lib.hid G1
      have g1' := (HW.out.cell (p := ⟨ba, oa + q, none⟩) hba).trans g1
      have HRL := Lib.hid (HAR.out _ (List.getElem_mem hqa))
      have HST := Lib.hid (mulM_take (b := b) hqa)
      obtain ⟨row, hrow⟩ : ∃ row, row = a[q] := ⟨_, rfl⟩
      have hea := fun j => entry_bound HQA.out q j
      rw [show a.getD q [] = a[q] from by rw [List.getD_eq_getElem?_getD, List.getElem?_eq_getElem hqa]; rfl] at hea
      rw [← hrow] at HG1 HRL HST hea
      have HEA := Lib.hid hea; clear hea
      clear G1 g1 hrow hqa
      go_wp2_with (at_make; refine wpList_make_full _ rfl _ _ 37 rfl w2.heap.size 3 i0 _ 1 Try.underlying37 HI.out HZ0.out HZ1.out _ _ _ _ N rfl rfl rfl rfl (by rw [HZ2.out]; omega) (by unfold maxLen; omega) (Nat.le_refl _) ?_)
      intro w3 hown3 hgrow3
      rw [toList_madeCells_one] at hown3
      have HO3 := Lib.hid (show w3.ownsRow w2.heap.size 3 1 (.slice (some ⟨w2.heap.size, 0, none⟩) N N) N (ints (mulPart row b 0 0)) from by rw [mulPart_zero, HBL.out]; simpa [ints] using hown3)
      have HB3 := Lib.hid ((Below.refl w2.heap.size w2).grown hgrow3 (Nat.le_refl _) (fun g hg => by cases hg))
      clear hown3 hgrow3 g1'
      go_wp2_with fail
      go_loopw [40] (fun j w4 => ∃ m : Nat, m ≤ N ∧ j = .int .i64 m ∧ w4.ownsRow w2.heap.size 3 1 (.slice (some ⟨w2.heap.size, 0, none⟩) N N) N (ints (mulPart row b m 0)) ∧ Below w2.heap.size w2 w4) (fun j _ => N - (intOf j).toNat)
      case atStart => exact ⟨0, Nat.zero_le _, rfl, HO3.out, HB3.out⟩
      case round =>
        clear HO3 HB3
        obtain ⟨w4, rfl⟩ : ∃ w4, w4 = wr := ⟨_, rfl⟩
        obtain ⟨m, hm, rfl, ho4, hb4⟩ := hrel
        have HO4 := Lib.hid ho4; have HB4 := Lib.hid hb4; clear ho4 hb4
        by_cases hml : m < N
        · obtain ⟨b3, o3, c3, hb3, hc3, g3, G3⟩ := HB.out m (by have := HBL.out; omega)
          have HG3 := Lib.hid G3
          have g5 := ((bthen HW.out HB4.out).cell (p := ⟨b1, o1 + m, none⟩) hb1).trans (HG1.out m hml)
          have hmd : b[m]'(by have := HBL.out; omega) = b.getD m [] := by rw [List.getD_eq_getElem?_getD, List.getElem?_eq_getElem (by have := HBL.out; omega)]; rfl
          rw [hmd] at HG3
          obtain ⟨y, hy⟩ : ∃ y, y = row.getD m 0 := ⟨_, rfl⟩
          rw [← hy] at g5
          have HY := Lib.hid hy
          have G3' := Lib.hid g3
          clear G3 g3 hmd hy
          go_wp2_with fail
          go_loopw [47] (fun j w5 => ∃ p : Nat, p ≤ N ∧ j = .int .i64 p ∧ w5.ownsRow w2.heap.size 3 1 (.slice (some ⟨w2.heap.size, 0, none⟩) N N) N (ints (mulPart row b m p)) ∧ Below w2.heap.size w2 w5) (fun j _ => N - (intOf j).toNat)
          case atStart => exact ⟨0, Nat.zero_le _, rfl, HO4.out, HB4.out⟩
          case round =>
            clear HO4 HB4 g5
            obtain ⟨w5, rfl⟩ : ∃ w5, w5 = wr := ⟨_, rfl⟩
            obtain ⟨p, hp, rfl, ho5, hb5⟩ := hrel
            have HO5 := Lib.hid ho5; have HB5 := Lib.hid hb5; clear ho5 hb5
            by_cases hpl : p < N
            · have g6 := ((bthen HW.out HB5.out).cell (p := ⟨bb, ob + m, none⟩) hbb).trans G3'.out
              have g7 := ((bthen HW.out HB5.out).cell (p := ⟨b3, o3 + p, none⟩) hb3).trans (HG3.out p hpl)
              have g8 := HO5.out.cellAt p (by omega)
              rw [mulPart_get (by have := HBL.out; omega)] at g8
              have g9 := HO5.out.frozenAt p
              have HST5 := Lib.hid (fun (e : Int) => HO5.out.stored p (.int .i64 e))
              have HSET := Lib.hid (mulPart_set (row := row) (b := b) (j := m) (q := p))
              have HD := Lib.hid (show mulTo row b p (m + 1) = mulTo row b p m + row.getD m 0 * (b.getD m []).getD p 0 from rfl)
              have hb1 := HEA.out m
              have hb2 := HEB.out m p
              obtain ⟨d1, d2⟩ := mul_bound (row := row) (b := b) (k := p) HEA.out HEB.out m
              obtain ⟨p1, p2⟩ := mul_box hb1 hb2
              rw [HD.out] at HSET
              obtain ⟨z, hz⟩ : ∃ z, z = (b.getD m []).getD p 0 := ⟨_, rfl⟩
              obtain ⟨d, hd⟩ : ∃ d, d = mulTo row b p m := ⟨_, rfl⟩
              rw [← HY.out] at hb1 p1 p2 HSET
              rw [← hz] at g7 hb2 p1 p2 HSET
              rw [← hd] at g8 d1 d2 HSET
              clear hz hd HD
              go_wp2_with fail
              go_region
              all_goals
                go_wp2
                go_roundw
                case rel =>
                  obtain ⟨h1, h2⟩ := HST5.out (d + y * z)
                  rw [← List.map_set, HSET.out] at h1
                  exact ⟨p + 1, by omega, by go_num, own_below h1 (bdrew _), ((HB5.out.grown h2 HB5.out.size (fun g hg => by simp at hg; omega)).drew)⟩
                case measure => simp [intOf]; omega
            · obtain rfl : N = p := by omega
              have HE := Lib.hid (show mulPart row b m N = mulPart row b (m + 1) 0 from by rw [← HBL.out]; exact mulPart_end _ _ _)
              rw [HE.out] at HO5
              go_wp2
              go_roundw
              case rel => exact ⟨m + 1, by omega, by go_num, HO5.out, HB5.out⟩
              case measure => simp [intOf]; omega
        · obtain rfl : N = m := by omega
          have HE := Lib.hid (show mulPart row b N 0 = mulRow row b from by have h := mulPart_all row b; rw [HRL.out] at h; exact h)
          rw [HE.out] at HO4
          have hrow : w4.ownsRow w2.heap.size 3 1 (.slice (some ⟨w2.heap.size, 0, none⟩) N N) (mulRow row b).length (ints (mulRow row b)) := by rw [mulRow_len, HBL.out]; exact HO4.out
          have HROW := Lib.hid hrow; clear hrow
          have HVB := Lib.hid (HV.out.below HB4.out)
          go_wp2_with (at_builtin; refine wpList_append_own _ rfl _ _ 22 rfl w.heap.size 37 i1 (.slice none 0 0) 1 24 Try.underlying22 HJ.out HY0.out HY1.out HY2.out rfl (by decide) _ _ _ rfl (HVB.out.own.alloc _) ⟨_, 0, none⟩ 1 1 [.slice (some ⟨w2.heap.size, 0, none⟩) N N] rfl rfl ?c1 ?c2 ?c3 ?c4 ?c5 ?_)
          case c1 => exact cell_one_new _ _ _
          case c2 => intro u hu; simp at hu; subst hu; rfl
          case c3 => rw [HLEN.out]; unfold maxLen; omega
          case c4 => rw [HLEN.out]; omega
          case c5 => have := HB4.out.size; have := HW.out.size; simp; omega
          intro v' w6 hown' hgrow _
          have HV3 := Lib.hid (HV.out.push types_apart HW.out.size (bthen HB4.out (bnew _ _)) (HROW.out.alloc _) (by simpa using hown') hgrow)
          have HS3 := Lib.hid (since_grown (bthen HW.out (bthen HB4.out (bnew _ _))) hgrow (fun g hg => (own_lt HV.out.own hg).1))
          clear hown' hgrow
          go_wp2
          go_roundw
          case rel => exact ⟨q + 1, v', _, rfl, by omega, by go_num, by rw [HST.out]; exact HV3.out, HS3.out⟩
          case measure => simp [intOf]; omega
    · obtain rfl : N = q := by omega
      have HE := Lib.hid (show (mulM a b).take N = mulM a b from List.take_of_length_le (by rw [mulM_len, HAL.out]; exact Nat.le_refl _))
      rw [HE.out] at HV
      go_wp2
      go_ret2
      exact ⟨_, by rw [HF.out.1] <;> rfl, by rw [HF.out.2]; exact HV.out.own2, HW.out⟩
end Go.Proofs.Ytciiokegifgbdaa
/- Plain mathematics: determinants by the first row. Conditions: none beyond the hypotheses of each lemma. -/
namespace Go.Proofs.Ytciiokegifgbdaa
open Go.RowKit

def dropCol (k : Nat) (r : List Int) : List Int := r.take k ++ r.drop (k + 1)
def minorL (xss : List (List Int)) (k : Nat) : List (List Int) := xss.tail.map (dropCol k)
def sgnI (k : Nat) : Int := if k % 2 = 0 then 1 else -1
def sumK (f : Nat → Int) : Nat → Int
  | 0 => 0
  | k + 1 => sumK f k + f k
def detL : Nat → List (List Int) → Int
  | 0, _ => 1
  | n + 1, xss => sumK (fun k => sgnI k * (xss.headD []).getD k 0 * detL n (minorL xss k)) (n + 1)
def EB (xss : List (List Int)) : Prop := ∀ r ∈ xss, ∀ x ∈ r, -100 ≤ x ∧ x ≤ 100
theorem dropCol_len {k N : Nat} {r : List Int} (hr : r.length = N + 1) (hk : k < N + 1) : (dropCol k r).length = N := by
  unfold dropCol; rw [List.length_append, List.length_take, List.length_drop]; omega
theorem minor_len {xss : List (List Int)} {N : Nat} (h : xss.length = N + 1) (k : Nat) : (minorL xss k).length = N := by
  unfold minorL; rw [List.length_map, List.length_tail, h]; rfl
theorem minor_rows {xss : List (List Int)} {N k : Nat} (h : ∀ r ∈ xss, r.length = N + 1) (hk : k < N + 1) : ∀ r ∈ minorL xss k, r.length = N := by
  intro r hr
  obtain ⟨s, hs, rfl⟩ := List.mem_map.1 hr
  exact dropCol_len (h s (List.mem_of_mem_tail hs)) hk
theorem minor_EB {xss : List (List Int)} (h : EB xss) (k : Nat) : EB (minorL xss k) := by
  intro r hr x hx
  obtain ⟨s, hs, rfl⟩ := List.mem_map.1 hr
  refine h s (List.mem_of_mem_tail hs) x ?_
  rcases List.mem_append.1 hx with hx | hx
  · exact List.mem_of_mem_take hx
  · exact List.mem_of_mem_drop hx
theorem minor_take {xss : List (List Int)} {k q : Nat} (h : q + 1 < xss.length) : (minorL xss k).take (q + 1) = (minorL xss k).take q ++ [dropCol k xss[q + 1]] := by
  have hl : q < (minorL xss k).length := by unfold minorL; rw [List.length_map, List.length_tail]; omega
  rw [List.take_succ_eq_append_getElem hl]
  simp [minorL]
theorem head_bound {xss : List (List Int)} (h : EB xss) (k : Nat) : -100 ≤ (xss.headD []).getD k 0 ∧ (xss.headD []).getD k 0 ≤ 100 := by
  rw [List.getD_eq_getElem?_getD]
  match xss, h with
  | [], _ => simp
  | r :: l, h =>
    show -100 ≤ (r[k]?).getD 0 ∧ (r[k]?).getD 0 ≤ 100
    by_cases hk : k < r.length
    · rw [List.getElem?_eq_getElem hk]
      exact h r List.mem_cons_self _ (List.getElem_mem hk)
    · have e0 : r[k]? = none := List.getElem?_eq_none (by omega)
      rw [e0]; exact ⟨by decide, by decide⟩
theorem sgn_cases (k : Nat) : sgnI k = 1 ∨ sgnI k = -1 := by unfold sgnI; split <;> simp
theorem sgn_next (k : Nat) : sgnI (k + 1) = - sgnI k := by unfold sgnI; split <;> split <;> omega
theorem box_mul {A B x y : Int} (h1 : -A ≤ x ∧ x ≤ A) (h2 : -B ≤ y ∧ y ≤ B) : -(A * B) ≤ x * y ∧ x * y ≤ A * B := by
  have a1 : 0 ≤ (A - x) * (B + y) := Int.mul_nonneg (by omega) (by omega)
  have a2 : 0 ≤ (A + x) * (B - y) := Int.mul_nonneg (by omega) (by omega)
  have a3 : 0 ≤ (A - x) * (B - y) := Int.mul_nonneg (by omega) (by omega)
  have a4 : 0 ≤ (A + x) * (B + y) := Int.mul_nonneg (by omega) (by omega)
  simp only [Int.add_mul, Int.mul_add, Int.sub_mul, Int.mul_sub] at a1 a2 a3 a4
  constructor <;> omega
theorem sx_bound {xss : List (List Int)} (h : EB xss) (k : Nat) : -100 ≤ sgnI k * (xss.headD []).getD k 0 ∧ sgnI k * (xss.headD []).getD k 0 ≤ 100 := by
  have := head_bound h k
  rcases sgn_cases k with e | e <;> rw [e] <;> omega
theorem sumK_bound {f : Nat → Int} {M : Int} (h : ∀ j, -M ≤ f j ∧ f j ≤ M) : ∀ k : Nat, -((k : Int) * M) ≤ sumK f k ∧ sumK f k ≤ (k : Int) * M
  | 0 => by simp [sumK]
  | k + 1 => by
    have h1 := sumK_bound h k
    have h2 := h k
    rw [sumK, Int.natCast_add, Int.add_mul]
    simp only [Int.natCast_one, Int.one_mul]
    omega
def dB : Nat → Int
  | 0 => 1
  | n + 1 => ((n + 1 : Nat) : Int) * (100 * dB n)
theorem det_bound : ∀ (n : Nat) (xss : List (List Int)), EB xss → -(dB n) ≤ detL n xss ∧ detL n xss ≤ dB n
  | 0, _, _ => by simp [detL, dB]
  | n + 1, xss, h => by
    rw [detL, dB]
    refine sumK_bound (fun j => ?_) (n + 1)
    exact box_mul (sx_bound h j) (det_bound n _ (minor_EB h j))
theorem dB_le {n : Nat} (h : n ≤ 3) : 0 ≤ dB n ∧ dB n ≤ 6000000 := by
  rcases (show n = 0 ∨ n = 1 ∨ n = 2 ∨ n = 3 by omega) with rfl | rfl | rfl | rfl <;> simp [dB]
theorem det_small {n : Nat} (h : n ≤ 3) {xss : List (List Int)} (hb : EB xss) : -6000000 ≤ detL n xss ∧ detL n xss ≤ 6000000 := by
  have h1 := det_bound n xss hb
  have h2 := dB_le h
  omega
theorem prod_small {x d : Int} (h1 : -100 ≤ x ∧ x ≤ 100) (h2 : -6000000 ≤ d ∧ d ≤ 6000000) : -600000000 ≤ x * d ∧ x * d ≤ 600000000 := by
  have := box_mul (A := 100) (B := 6000000) h1 h2
  omega
theorem part_small {n : Nat} (h : n ≤ 3) {xss : List (List Int)} (hb : EB xss) (k : Nat) : -(600000000 * (k : Int)) ≤ sumK (fun k => sgnI k * (xss.headD []).getD k 0 * detL n (minorL xss k)) k ∧ sumK (fun k => sgnI k * (xss.headD []).getD k 0 * detL n (minorL xss k)) k ≤ 600000000 * (k : Int) := by
  have h1 := sumK_bound (M := 600000000) (fun j => prod_small (sx_bound hb j) (det_small h (minor_EB hb j))) k
  omega
end Go.Proofs.Ytciiokegifgbdaa
