/- Walks: square matrices that are not too great; the trace. -/
import Derived.Test.YtciiokegifgbdaaMatA
import Derived.Test.YtciiokegifgbdaaIn
import Derived.Test.YtciiokegifgbdaaPrimP
namespace Go.Proofs.Ytciiokegifgbdaa
open Go.RowKit
set_option maxRecDepth 20000

def inM (x : Int) : Bool := decide ((-100 : Int) ≤ x) && decide (x ≤ 100)
def rowB (n : Nat) (r : List Int) : Bool := decide (r.length = n) && r.all inM
def sqB (xss : List (List Int)) : Bool := (decide ((1 : Int) ≤ (xss.length : Int)) && decide ((xss.length : Int) ≤ 4)) && xss.all (rowB xss.length)
theorem sqB_parts {xss : List (List Int)} (h : sqB xss = true) : 1 ≤ xss.length ∧ xss.length ≤ 4 ∧ (∀ r ∈ xss, r.length = xss.length) ∧ ∀ r ∈ xss, ∀ x ∈ r, -100 ≤ x ∧ x ≤ 100 := by
  unfold sqB at h
  simp only [Bool.and_eq_true, decide_eq_true_eq, List.all_eq_true] at h
  refine ⟨by omega, by omega, fun r hr => ?_, fun r hr x hx => ?_⟩
  · have := h.2 r hr
    unfold rowB at this
    simp only [Bool.and_eq_true, decide_eq_true_eq] at this
    exact this.1
  · have := h.2 r hr
    unfold rowB inM at this
    simp only [Bool.and_eq_true, decide_eq_true_eq, List.all_eq_true] at this
    exact this.2 x hx
theorem allx_take {α : Type} (p : α → Bool) {l : List α} {k : Nat} (h : k < l.length) (h1 : (l.take k).all p = true) (h2 : p l[k] = true) : (l.take (k + 1)).all p = true := by
  rw [List.take_succ_eq_append_getElem h, List.all_append, h1]; simp [h2]
theorem allx_fail {α : Type} (p : α → Bool) {l : List α} {k : Nat} (h : k < l.length) (h2 : p l[k] = false) : l.all p = false := by
  rw [List.all_eq_false]; exact ⟨l[k], List.getElem_mem h, by simp [h2]⟩
theorem sq_fail {xss : List (List Int)} {k : Nat} (h : k < xss.length) (h2 : rowB xss.length xss[k] = false) : sqB xss = false := by
  unfold sqB; rw [allx_fail _ h h2]; simp
theorem row_len {n : Nat} {r : List Int} (h : ¬ r.length = n) : rowB n r = false := by unfold rowB; rw [decide_eq_false h]; rfl
theorem row_val {n : Nat} {r : List Int} {j : Nat} (h : j < r.length) (h2 : inM r[j] = false) : rowB n r = false := by unfold rowB; rw [allx_fail _ h h2]; simp
theorem row_ok {n : Nat} {r : List Int} (h : r.length = n) (h2 : r.all inM = true) : rowB n r = true := by unfold rowB; rw [decide_eq_true h, h2]; rfl
theorem sq_end {xss : List (List Int)} (h : (xss.take xss.length).all (rowB xss.length) = true) : sqB xss = (decide ((1 : Int) ≤ (xss.length : Int)) && decide ((xss.length : Int) ≤ 4)) := by
  rw [List.take_of_length_le (Nat.le_refl _)] at h
  unfold sqB; rw [h, Bool.and_true]
theorem sq_many {xss : List (List Int)} (h : (decide ((1 : Int) ≤ (xss.length : Int)) && decide ((xss.length : Int) ≤ 4)) = false) : sqB xss = false := by unfold sqB; rw [h]; rfl
set_option maxHeartbeats 1000000 in
theorem l04Square_any (xss : List (List Int)) (va : Value) (w : World) (B : Nat) (ha : Row2 w B va xss) :
    Calls Try.prog 29 #[va] w fun e w' => e = .returned (.bool (sqB xss)) ∧ w' = w := by
  have hl := ha.len
  obtain ⟨A, c, rfl, hc⟩ := ha.shape
  have HA := Lib.hid ha; clear ha
  cases d : (decide ((1 : Int) ≤ (xss.length : Int)) && decide ((xss.length : Int) ≤ 4))
  · have HF := Lib.hid (sq_many d)
    have D := Lib.hid d; clear d
    go_enter Try.func29, Try.ntmps29
    go_wp2_with (go_at_call 49; refine (l01In_any _ _ _ _).mono ?_; rw [D.out]; rintro e w' ⟨rfl, rfl⟩)
    go_ret
    exact ⟨ret_bool HF.out.symm, rfl⟩
  · have D := Lib.hid d
    have hd : 1 ≤ xss.length ∧ xss.length ≤ 4 := by simp only [Bool.and_eq_true, decide_eq_true_eq] at d; omega
    obtain ⟨hd1, hd4⟩ := hd
    clear d
    go_enter Try.func29, Try.ntmps29
    go_wp2_with (go_at_call 49; refine (l01In_any _ _ _ _).mono ?_; rw [D.out]; rintro e w' ⟨rfl, rfl⟩)
    go_loopw [13] (fun i wr => ∃ k : Nat, k ≤ xss.length ∧ i = .int .i64 k ∧ ((xss.take k).all (rowB xss.length)) = true ∧ wr = w) (fun i _ => xss.length - (intOf i).toNat)
    case atStart => exact ⟨0, Nat.zero_le _, rfl, rfl, rfl⟩
    case round =>
      obtain ⟨k, hk, rfl, hall, rfl⟩ := hrel
      have HALL := Lib.hid hall; clear hall
      by_cases hlt : k < xss.length
      · obtain ⟨b, o, c', u, he, hu, hrow⟩ := HA.out.atRow k hlt
        cases he
        have hrl := hrow.len
        rw [ints_len] at hrl
        have HRW := Lib.hid hrow
        obtain ⟨A', c2, rfl, hri⟩ := hrow.intAt
        have HRI := Lib.hid hri
        have HFL := Lib.hid (fun h => sq_fail hlt h)
        have HOK := Lib.hid (fun h => allx_take (rowB xss.length) hlt HALL.out h)
        obtain ⟨x, hx⟩ : ∃ x, x = xss[k] := ⟨_, rfl⟩
        rw [← hx] at hu hrl HFL HOK
        have hri2 : ∀ (j : Nat) (hj : j < x.length), ∃ b o, A' = some ⟨b, o, none⟩ ∧ wr.cell? ⟨b, o + j, none⟩ = some (.int .i64 x[j]) := by rw [hx]; exact hri
        have HR2 := Lib.hid hri2
        clear hrow hri hri2 hx HRW HRI
        by_cases hxl : x.length = xss.length
        · have hne : ((x.length : Int) != (xss.length : Int)) = false := by rw [hxl]; simp
          have HX := Lib.hid hxl; clear hxl
          go_wp2_with fail
          go_loop [24] (fun i => ∃ j : Nat, j ≤ x.length ∧ i = .int .i64 j ∧ (x.take j).all inM = true) (fun i => x.length - (intOf i).toNat)
          case atStart => exact ⟨0, Nat.zero_le _, rfl, rfl⟩
          case round =>
            clear hu
            obtain ⟨j, hj, rfl, hal⟩ := hrel
            have HAL := Lib.hid hal; clear hal
            by_cases hjl : j < x.length
            · obtain ⟨b2, o2, rfl, g2⟩ := HR2.out j hjl
              have HAT := Lib.hid (fun h => allx_take inM hjl HAL.out h)
              have HRF := Lib.hid (fun h => HFL.out (row_val (n := xss.length) hjl h))
              obtain ⟨z, hz⟩ : ∃ z, z = x[j] := ⟨_, rfl⟩
              rw [← hz] at g2 HAT HRF
              clear hz
              cases q : inM z
              · have HF := Lib.hid (HRF.out q)
                have HQ := Lib.hid (show (decide ((-100 : Int) ≤ z) && decide (z ≤ 100)) = false from q)
                clear q
                go_wp2_with (go_at_call 49; refine (l01In_any _ _ _ _).mono ?_; rw [HQ.out]; rintro e w' ⟨rfl, rfl⟩)
                go_ret
                exact ⟨ret_bool HF.out.symm, rfl⟩
              · have HN := Lib.hid (HAT.out q)
                have HQ := Lib.hid (show (decide ((-100 : Int) ≤ z) && decide (z ≤ 100)) = true from q)
                clear q
                go_wp2_with (go_at_call 49; refine (l01In_any _ _ _ _).mono ?_; rw [HQ.out]; rintro e w' ⟨rfl, rfl⟩)
                go_round
                case rel => exact ⟨j + 1, by omega, by go_num, HN.out⟩
                case measure => simp [intOf]; omega
            · obtain rfl : j = x.length := by omega
              have HN := Lib.hid (HOK.out (row_ok HX.out (by have h := HAL.out; rw [List.take_of_length_le (Nat.le_refl _)] at h; exact h)))
              go_wp2
              go_roundw
              case rel => exact ⟨k + 1, by omega, by go_num, HN.out, trivial⟩
              case measure => simp [intOf]; omega
        · have hne : ((x.length : Int) != (xss.length : Int)) = true := by rw [bne_iff_ne]; omega
          have HF := Lib.hid (HFL.out (row_len hxl))
          clear hxl
          go_wp2_with fail
          go_ret
          exact ⟨ret_bool HF.out.symm, rfl⟩
      · obtain rfl : k = xss.length := by omega
        have HE := Lib.hid ((sq_end HALL.out).trans D.out)
        go_wp2
        go_ret
        exact ⟨ret_bool HE.out.symm, rfl⟩
set_option maxHeartbeats 1000000 in
theorem isMatrix_any (xss : List (List Int)) (va : Value) (w : World) (B : Nat) (ha : Row2 w B va xss) :
    Calls Try.prog 31 #[va] w fun e w' => e = .returned (.bool (sqB xss)) ∧ w' = w := by
  have hl := ha.len
  obtain ⟨A, c, rfl, hc⟩ := ha.shape
  have HA := Lib.hid ha; clear ha
  go_enter Try.func31, Try.ntmps31
  go_wp2_with fail
  go_loopw [9] (fun i wr => ∃ k : Nat, k ≤ xss.length ∧ i = .int .i64 k ∧ ((xss.take k).all (rowB xss.length)) = true ∧ wr = w) (fun i _ => xss.length - (intOf i).toNat)
  case atStart => exact ⟨0, Nat.zero_le _, rfl, rfl, rfl⟩
  case round =>
    obtain ⟨k, hk, rfl, hall, rfl⟩ := hrel
    have HALL := Lib.hid hall; clear hall
    by_cases hlt : k < xss.length
    · obtain ⟨b, o, c', u, he, hu, hrow⟩ := HA.out.atRow k hlt
      cases he
      have hrl := hrow.len
      rw [ints_len] at hrl
      have HRW := Lib.hid hrow
      obtain ⟨A', c2, rfl, hri⟩ := hrow.intAt
      have HRI := Lib.hid hri
      have HFL := Lib.hid (fun h => sq_fail hlt h)
      have HOK := Lib.hid (fun h => allx_take (rowB xss.length) hlt HALL.out h)
      obtain ⟨x, hx⟩ : ∃ x, x = xss[k] := ⟨_, rfl⟩
      rw [← hx] at hu hrl HFL HOK
      have hri2 : ∀ (j : Nat) (hj : j < x.length), ∃ b o, A' = some ⟨b, o, none⟩ ∧ wr.cell? ⟨b, o + j, none⟩ = some (.int .i64 x[j]) := by rw [hx]; exact hri
      have HR2 := Lib.hid hri2
      clear hrow hri hri2 hx HRW HRI
      by_cases hxl : x.length = xss.length
      · have hne : ((x.length : Int) != (xss.length : Int)) = false := by rw [hxl]; simp
        have HX := Lib.hid hxl; clear hxl
        go_wp2_with fail
        go_loop [20] (fun i => ∃ j : Nat, j ≤ x.length ∧ i = .int .i64 j ∧ (x.take j).all inM = true) (fun i => x.length - (intOf i).toNat)
        case atStart => exact ⟨0, Nat.zero_le _, rfl, rfl⟩
        case round =>
          clear hu
          obtain ⟨j, hj, rfl, hal⟩ := hrel
          have HAL := Lib.hid hal; clear hal
          by_cases hjl : j < x.length
          · obtain ⟨b2, o2, rfl, g2⟩ := HR2.out j hjl
            have HAT := Lib.hid (fun h => allx_take inM hjl HAL.out h)
            have HRF := Lib.hid (fun h => HFL.out (row_val (n := xss.length) hjl h))
            obtain ⟨z, hz⟩ : ∃ z, z = x[j] := ⟨_, rfl⟩
            rw [← hz] at g2 HAT HRF
            clear hz
            cases q : inM z
            · have HF := Lib.hid (HRF.out q)
              have HQ := Lib.hid (show (decide ((-100 : Int) ≤ z) && decide (z ≤ 100)) = false from q)
              clear q
              go_wp2_with (go_at_call 40; refine (within_any _ _ _ _).mono ?_; rw [HQ.out]; rintro e w' ⟨rfl, rfl⟩)
              go_ret
              exact ⟨ret_bool HF.out.symm, rfl⟩
            · have HN := Lib.hid (HAT.out q)
              have HQ := Lib.hid (show (decide ((-100 : Int) ≤ z) && decide (z ≤ 100)) = true from q)
              clear q
              go_wp2_with (go_at_call 40; refine (within_any _ _ _ _).mono ?_; rw [HQ.out]; rintro e w' ⟨rfl, rfl⟩)
              go_round
              case rel => exact ⟨j + 1, by omega, by go_num, HN.out⟩
              case measure => simp [intOf]; omega
          · obtain rfl : j = x.length := by omega
            have HN := Lib.hid (HOK.out (row_ok HX.out (by have h := HAL.out; rw [List.take_of_length_le (Nat.le_refl _)] at h; exact h)))
            go_wp2
            go_roundw
            case rel => exact ⟨k + 1, by omega, by go_num, HN.out, trivial⟩
            case measure => simp [intOf]; omega
      · have hne : ((x.length : Int) != (xss.length : Int)) = true := by rw [bne_iff_ne]; omega
        have HF := Lib.hid (HFL.out (row_len hxl))
        clear hxl
        go_wp2_with fail
        go_ret
        exact ⟨ret_bool HF.out.symm, rfl⟩
    · obtain rfl : k = xss.length := by omega
      have HE := Lib.hid (sq_end HALL.out)
      go_wp2_with (go_at_call 40; refine (within_any _ _ _ _).mono ?_; rintro e w' ⟨rfl, rfl⟩)
      go_ret
      exact ⟨ret_bool HE.out.symm, rfl⟩

def trTo (xss : List (List Int)) : Nat → Int
  | 0 => 0
  | k + 1 => trTo xss k + (xss.getD k []).getD k 0
/-- what TraceOf returns -/
def trR (xss : List (List Int)) : Int := if sqB xss = true then trTo xss xss.length else 0
theorem tr_no {xss : List (List Int)} (h : sqB xss = false) : trR xss = 0 := by unfold trR; rw [h]; rfl
theorem tr_yes {xss : List (List Int)} (h : sqB xss = true) : trR xss = trTo xss xss.length := by unfold trR; rw [if_pos h]
theorem entry_bound {xss : List (List Int)} (h : sqB xss = true) (i j : Nat) : -100 ≤ (xss.getD i []).getD j 0 ∧ (xss.getD i []).getD j 0 ≤ 100 := by
  obtain ⟨_, _, _, h4⟩ := sqB_parts h
  rw [List.getD_eq_getElem?_getD, List.getD_eq_getElem?_getD]
  by_cases hi : i < xss.length
  · rw [List.getElem?_eq_getElem hi]
    show -100 ≤ ((xss[i])[j]?).getD 0 ∧ ((xss[i])[j]?).getD 0 ≤ 100
    by_cases hj : j < (xss[i]).length
    · rw [List.getElem?_eq_getElem hj]
      exact h4 _ (List.getElem_mem hi) _ (List.getElem_mem hj)
    · have e0 : (xss[i])[j]? = none := List.getElem?_eq_none (by omega)
      rw [e0]; exact ⟨by decide, by decide⟩
  · have e0 : xss[i]? = none := List.getElem?_eq_none (by omega)
    rw [e0]
    show -100 ≤ (([] : List Int)[j]?).getD 0 ∧ (([] : List Int)[j]?).getD 0 ≤ 100
    simp
theorem tr_bound {xss : List (List Int)} (h : sqB xss = true) : ∀ k : Nat, -(100 * (k : Int)) ≤ trTo xss k ∧ trTo xss k ≤ 100 * (k : Int)
  | 0 => by simp [trTo]
  | k + 1 => by
    have h1 := tr_bound h k
    have h2 := entry_bound h k k
    rw [trTo]; simp only [Int.natCast_add, Int.natCast_one]; omega
set_option maxHeartbeats 1000000 in
theorem specTraceOf_any (xss : List (List Int)) (va : Value) (w : World) (B : Nat) (ha : Row2 w B va xss) :
    Calls Try.prog 8 #[va] w fun e w' => e = .returned (.int .i64 (trR xss)) ∧ w' = w := by
  have HSQ := Lib.hid (l04Square_any xss va w B ha)
  cases hq : sqB xss
  · have HF := Lib.hid (tr_no hq)
    rw [hq] at HSQ
    clear ha hq
    go_enter Try.func8, Try.ntmps8
    go_wp2_with (go_at_call 29; refine HSQ.out.mono ?_; rintro e w' ⟨rfl, rfl⟩)
    go_ret
    exact ⟨ret_int HF.out.symm, rfl⟩
  · have HF := Lib.hid (tr_yes hq)
    rw [hq] at HSQ
    obtain ⟨n1, n4, hr, _⟩ := sqB_parts hq
    obtain ⟨b, o, c, rfl, hb, hc, hrow⟩ := ha.open2 (by omega) (by omega) hr
    have HR := Lib.hid hrow
    have HBD := Lib.hid (tr_bound hq)
    have HEB := Lib.hid (entry_bound hq)
    clear ha hq hrow hr
    rename_i hzz
    clear hzz
    go_enter Try.func8, Try.ntmps8
    go_wp2_with (go_at_call 29; refine HSQ.out.mono ?_; rintro e w' ⟨rfl, rfl⟩)
    go_loop [3, 11] (fun s i => ∃ k : Nat, k ≤ xss.length ∧ i = .int .i64 k ∧ s = .int .i64 (trTo xss k)) (fun _ i => xss.length - (intOf i).toNat)
    case atStart => exact ⟨0, Nat.zero_le _, rfl, rfl⟩
    case round =>
      obtain ⟨k, hk, rfl, rfl⟩ := hrel
      obtain ⟨d1, d2⟩ := HBD.out k
      by_cases hlt : k < xss.length
      · obtain ⟨b2, o2, c2, _, hc2, g1, g2⟩ := HR.out k hlt
        have g3 := g2 k hlt
        have hgd : xss[k] = xss.getD k [] := by rw [List.getD_eq_getElem?_getD, List.getElem?_eq_getElem hlt]; rfl
        rw [hgd] at g3
        have HN := Lib.hid (show trTo xss (k + 1) = trTo xss k + (xss.getD k []).getD k 0 from rfl)
        obtain ⟨e1, e2⟩ := HEB.out k k
        obtain ⟨y, hy⟩ : ∃ y, y = (xss.getD k []).getD k 0 := ⟨_, rfl⟩
        obtain ⟨d, hd⟩ : ∃ d, d = trTo xss k := ⟨_, rfl⟩
        rw [← hy] at g3 HN e1 e2
        rw [← hd] at HN d1 d2 ⊢
        clear g2 hgd hy hd
        go_wp2
        go_round
        case rel => exact ⟨k + 1, by omega, by go_num, by rw [HN.out]⟩
        case measure => simp [intOf]; omega
      · obtain rfl : k = xss.length := by omega
        go_wp2
        go_ret
        exact ⟨ret_int HF.out.symm, rfl⟩
set_option maxHeartbeats 1000000 in
theorem implTraceOf_any (xss : List (List Int)) (va : Value) (w : World) (B : Nat) (ha : Row2 w B va xss) :
    Calls Try.prog 10 #[va] w fun e w' => e = .returned (.int .i64 (trR xss)) ∧ w' = w := by
  have HSQ := Lib.hid (isMatrix_any xss va w B ha)
  cases hq : sqB xss
  · have HF := Lib.hid (tr_no hq)
    rw [hq] at HSQ
    clear ha hq
    go_enter Try.func10, Try.ntmps10
    go_wp2_with (go_at_call 31; refine HSQ.out.mono ?_; rintro e w' ⟨rfl, rfl⟩)
    go_ret
    exact ⟨ret_int HF.out.symm, rfl⟩
  · have HF := Lib.hid (tr_yes hq)
    rw [hq] at HSQ
    obtain ⟨n1, n4, hr, _⟩ := sqB_parts hq
    obtain ⟨b, o, c, rfl, hb, hc, hrow⟩ := ha.open2 (by omega) (by omega) hr
    have HR := Lib.hid hrow
    have HBD := Lib.hid (tr_bound hq)
    have HEB := Lib.hid (entry_bound hq)
    clear ha hq hrow hr
    rename_i hzz
    clear hzz
    go_enter Try.func10, Try.ntmps10
    go_wp2_with (go_at_call 31; refine HSQ.out.mono ?_; rintro e w' ⟨rfl, rfl⟩)
    go_loop [3, 10] (fun s i => ∃ k : Nat, k ≤ xss.length ∧ i = .int .i64 k ∧ s = .int .i64 (trTo xss k)) (fun _ i => xss.length - (intOf i).toNat)
    case atStart => exact ⟨0, Nat.zero_le _, rfl, rfl⟩
    case round =>
      obtain ⟨k, hk, rfl, rfl⟩ := hrel
      obtain ⟨d1, d2⟩ := HBD.out k
      by_cases hlt : k < xss.length
      · obtain ⟨b2, o2, c2, _, hc2, g1, g2⟩ := HR.out k hlt
        have g3 := g2 k hlt
        have hgd : xss[k] = xss.getD k [] := by rw [List.getD_eq_getElem?_getD, List.getElem?_eq_getElem hlt]; rfl
        rw [hgd] at g3
        have HN := Lib.hid (show trTo xss (k + 1) = trTo xss k + (xss.getD k []).getD k 0 from rfl)
        obtain ⟨e1, e2⟩ := HEB.out k k
        obtain ⟨y, hy⟩ : ∃ y, y = (xss.getD k []).getD k 0 := ⟨_, rfl⟩
        obtain ⟨d, hd⟩ : ∃ d, d = trTo xss k := ⟨_, rfl⟩
        rw [← hy] at g3 HN e1 e2
        rw [← hd] at HN d1 d2 ⊢
        clear g2 hgd hy hd
        go_wp2
        go_round
        case rel => exact ⟨k + 1, by omega, by go_num, by rw [HN.out]⟩
        case measure => simp [intOf]; omega
      · obtain rfl : k = xss.length := by omega
        go_wp2
        go_ret
        exact ⟨ret_int HF.out.symm, rfl⟩
end Go.Proofs.Ytciiokegifgbdaa
