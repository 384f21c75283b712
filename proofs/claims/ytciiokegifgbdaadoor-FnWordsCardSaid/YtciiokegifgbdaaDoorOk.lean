/- Walks: which values the program and the reference take for substitutions. -/
import Derived.Test.YtciiokegifgbdaaDoorWord
import Derived.Test.YtciiokegifgbdaaDoorPlain4
import Derived.Test.YtciiokegifgbdaaDoorSl
import Derived.Test.YtciiokegifgbdaaDoorIn
namespace Go.Proofs.YtciiokegifgbdaaDoor
open Go.RowKit
set_option maxRecDepth 20000

set_option maxHeartbeats 400000 in
theorem l03Within_any (n : Nat) (s : ByteArray) (w : World) (hw : wordB s.data.toList = true) :
    Calls Tryd.prog 54 #[.int .i64 n, .string s] w fun e w' => e = .returned (.bool (inB n s.data.toList)) ∧ w = w' := by
  have hs := word_len hw
  have HL := Lib.hid (word_letters hw)
  clear hw
  go_enter Tryd.func54, Tryd.ntmps54
  go_wp2_with fail
  go_loop [5] (fun i => ∃ k : Nat, k ≤ s.size ∧ inB n (s.data.toList.take k) = true ∧ i = .int .i64 k) (fun i => s.size - (intOf i).toNat)
  case atStart => exact ⟨0, Nat.zero_le _, rfl, rfl⟩
  case round =>
    obtain ⟨k, hk, ha, rfl⟩ := hrel
    have HA := Lib.hid ha; clear ha
    by_cases hlt : k < s.size
    · have hb := word_byte HL.out k hlt
      obtain ⟨hb1, hb2⟩ := hb
      by_cases hn : (s[k].toNat : Int) - 97 < n
      · go_wp2
        all_goals first
          | (go_round
             case rel => exact ⟨k + 1, by omega, inB_step n s k hlt HA.out hn, by go_num⟩
             case measure => simp [intOf]; omega)
          | (exfalso; omega)
      · go_wp2
        all_goals first
          | (go_ret
             exact ⟨ret_bool (inB_fail n s k hlt (by omega)).symm, rfl⟩)
          | (exfalso; omega)
    · have e := take_all s k (by omega)
      go_wp2
      go_ret
      exact ⟨ret_bool (by rw [← e]; exact HA.out.symm), rfl⟩
set_option maxHeartbeats 400000 in
theorem hasImages_any (xs : List ByteArray) (va : Value) (s : ByteArray) (w : World) (ha : Row1 w w.heap.size va (xs.map .string)) (hs : s.size ≤ maxLen) :
    Calls Tryd.prog 57 #[.agg #[va], .string s] w fun e w' => e = .returned (.bool (inB xs.length s.data.toList && wordB s.data.toList)) ∧ Below w.heap.size w w' := by
  have hs' := hs
  unfold maxLen at hs'
  obtain ⟨A, c, rfl, hc, hm, hA⟩ := ha
  simp only [List.length_map] at hc ⊢
  clear hA
  unfold maxLen at hm
  have hb0 : Below w.heap.size w (w.alloc (.cells #[.slice A xs.length c] 36)) := (Below.refl _ _).alloc (Nat.le_refl _) _
  have HB := Lib.hid hb0; clear hb0
  go_enter Tryd.func57, Tryd.ntmps57
  go_wp2_with fail
  go_loopw [8] (fun i wr => ∃ k : Nat, k ≤ s.size ∧ inB xs.length (s.data.toList.take k) = true ∧ i = .int .i64 k ∧ ∃ n, wr = (w.alloc (.cells #[.slice A xs.length c] 36)).drewN n) (fun i _ => s.size - (intOf i).toNat)
  case atStart => exact ⟨0, Nat.zero_le _, rfl, rfl, 0, rfl⟩
  case round =>
    obtain ⟨k, hk, ha, rfl, n, rfl⟩ := hrel
    have HA := Lib.hid ha; clear ha
    by_cases hlt : k < s.size
    · have hb1 := s[k].toNat_lt
      have e1 : IntKind.i64.wrap (s[k].toNat : Int) = (s[k].toNat : Int) := IntWalk.i64_in _ (by omega)
      have e2 : IntKind.i64.wrap ((s[k].toNat : Int) - 97) = (s[k].toNat : Int) - 97 := IntWalk.i64_in _ (by omega)
      by_cases hn : (s[k].toNat : Int) - 97 < xs.length
      · have d1 : decide ((xs.length : Int) ≤ (s[k].toNat : Int) - 97) = false := decide_eq_false (by omega)
        have HN := Lib.hid hn
        clear hb1 hn
        go_wp2_with fail
        go_quiet (fail)
        clear e1 e2
        go_wp2
        go_roundw
        case rel => exact ⟨k + 1, by omega, inB_step _ s k hlt HA.out HN.out, by go_num, _, rfl⟩
        case measure => simp [intOf]; omega
      · have hf := inB_fail xs.length s k hlt (by omega)
        have HF := Lib.hid hf
        have d1 : decide ((xs.length : Int) ≤ (s[k].toNat : Int) - 97) = true := decide_eq_true (by omega)
        clear hb1 hn hf
        go_wp2_with fail
        go_quiet (fail)
        clear e1 e2
        go_wp2
        go_ret
        exact ⟨ret_bool (by rw [HF.out, Bool.false_and]), by first | exact below_drewN HB.out _ | exact below_drewN (below_drewN HB.out _) _⟩
    · have e := take_all s k (by omega)
      go_wp2_with (go_at_call 71; refine (isWord_any _ _ hs).mono ?_; rintro e w' ⟨rfl, rfl⟩)
      go_ret
      exact ⟨ret_bool (by rw [← e, HA.out, Bool.true_and]), below_drewN HB.out _⟩
set_option maxHeartbeats 400000 in
theorem specSubstOk_any (xs : List ByteArray) (va : Value) (w : World) (ha : Row1 w w.heap.size va (xs.map .string)) (hs : ∀ s ∈ xs, s.size ≤ maxLen) :
    Calls Tryd.prog 38 #[.agg #[va]] w fun e w' => e = .returned (.bool (substB xs)) ∧ Below w.heap.size w w' := by
  have HA := Lib.hid (ha.alloc (Nat.le_refl _) (.cells #[va] 36))
  have hl := ha.len
  simp only [List.length_map] at hl
  obtain ⟨A, c, rfl, hc, hm, hA⟩ := ha
  simp only [List.length_map] at hc HA ⊢
  have hb0 : Below w.heap.size w (w.alloc (.cells #[.slice A xs.length c] 36)) := (Below.refl _ _).alloc (Nat.le_refl _) _
  have HB := Lib.hid hb0; clear hb0
  unfold maxLen at hm
  cases d : (decide ((1 : Int) ≤ (xs.length : Int)) && decide ((xs.length : Int) ≤ 4))
  · have HF := Lib.hid (subst_many xs d)
    have D := Lib.hid d
    clear d hA
    go_enter Tryd.func38, Tryd.ntmps38
    go_wp2_with (go_at_call 52; refine (l01In_any _ _ _ _).mono ?_; rw [D.out]; rintro e w' ⟨rfl, rfl⟩)
    go_ret
    exact ⟨ret_bool HF.out.symm, HB.out⟩
  · have hd : 1 ≤ xs.length ∧ xs.length ≤ 4 := by simp only [Bool.and_eq_true, decide_eq_true_eq] at d; omega
    obtain ⟨hd1, hd4⟩ := hd
    have D := Lib.hid d
    clear d
    have hne : xs.map Value.string ≠ [] := by intro h; rw [List.map_eq_nil_iff] at h; subst h; simp at hd1
    obtain ⟨b, o, rfl, hbB, hcell⟩ := hA hne
    have HC := Lib.hid hcell; have HS := Lib.hid hs; clear hcell hA hne hs HA
    go_enter Tryd.func38, Tryd.ntmps38
    go_wp2_with (go_at_call 52; refine (l01In_any _ _ _ _).mono ?_; rw [D.out]; rintro e w' ⟨rfl, rfl⟩)
    go_loop [15] (fun i => ∃ k : Nat, k ≤ xs.length ∧ ((xs.take k).all fun s => okImg xs.length s.data.toList) = true ∧ i = .int .i64 k) (fun i => xs.length - (intOf i).toNat)
    case atStart => exact ⟨0, Nat.zero_le _, rfl, rfl⟩
    case round =>
      obtain ⟨k, hk, ha, rfl⟩ := hrel
      have HT := Lib.hid ha; clear ha
      by_cases hlt : k < xs.length
      · have g1 := (HB.out.cell (p := ⟨b, o + k, none⟩) hbB).trans (HC.out k _ (map_get Value.string xs k hlt))
        have gs := HS.out xs[k] (List.getElem_mem hlt)
        have hok := okImg_size xs.length xs[k]
        have HK := Lib.hid hok; clear hok
        cases q1 : (decide ((1 : Int) ≤ (xs[k].size : Int)) && decide ((xs[k].size : Int) ≤ 8)) <;> cases q2 : wordB xs[k].data.toList <;> cases q3 : inB xs.length xs[k].data.toList
        all_goals
          rw [q1, q2, q3] at HK
          have Q1 := Lib.hid q1
          have Q2 := Lib.hid q2
          clear q1
          go_wp2_with (first
            | (go_at_call 52; refine (l01In_any _ _ _ _).mono ?_; rw [Q1.out]; rintro e w' ⟨rfl, rfl⟩)
            | (go_at_call 53; refine (specWordOk_any _ _ gs).mono ?_; rintro e w' ⟨rfl, rfl⟩)
            | (go_at_call 54; refine (l03Within_any _ _ _ Q2.out).mono ?_; rintro e w' ⟨rfl, rfl⟩))
          first
            | (go_ret
               exact ⟨ret_bool (img_fail xs k hlt (by rw [HK.out]; rfl)).symm, HB.out⟩)
            | (go_round
               case rel => exact ⟨k + 1, by omega, img_step _ xs k hlt HT.out (by rw [HK.out]; rfl), by go_num⟩
               case measure => simp [intOf]; omega)
      · obtain rfl : k = xs.length := by omega
        have e := subst_end xs HT.out
        rw [D.out] at e
        have HE := Lib.hid e; clear e
        go_wp2
        go_ret
        exact ⟨ret_bool HE.out.symm, HB.out⟩
set_option maxHeartbeats 400000 in
theorem implSubstOk_any (xs : List ByteArray) (va : Value) (w : World) (ha : Row1 w w.heap.size va (xs.map .string)) (hs : ∀ s ∈ xs, s.size ≤ maxLen) :
    Calls Tryd.prog 41 #[.agg #[va]] w fun e w' => e = .returned (.bool (substB xs)) ∧ Below w.heap.size w w' := by
  have HA := Lib.hid ha
  have hl := ha.len
  simp only [List.length_map] at hl
  obtain ⟨A, c, rfl, hc, hm, hA⟩ := ha
  simp only [List.length_map] at hc HA ⊢
  have hb0 : Below w.heap.size w (w.alloc (.cells #[.slice A xs.length c] 36)) := (Below.refl _ _).alloc (Nat.le_refl _) _
  have HB := Lib.hid hb0; clear hb0
  unfold maxLen at hm
  rcases Nat.eq_zero_or_pos xs.length with h0 | h0
  · obtain rfl : xs = [] := List.eq_nil_of_length_eq_zero h0
    clear hA HA
    go_enter Tryd.func41, Tryd.ntmps41
    go_wp2_with fail
    refine wp_loop_rounds 1 ?_
    rw [rounds_succ]
    go_wp2_with (go_at_call 36; refine (within_any _ _ _ _).mono ?_; rintro e w' ⟨rfl, rfl⟩)
    go_ret
    exact ⟨ret_bool (by rfl), HB.out⟩
  · have hne : xs.map Value.string ≠ [] := by intro h; rw [List.map_eq_nil_iff] at h; subst h; simp at h0
    obtain ⟨b, o, rfl, hbB, hcell⟩ := hA hne
    have HC := Lib.hid hcell; have HS := Lib.hid hs; clear hcell hA hne hs
    have HO := Lib.hid (One.new w 36 (.slice (some ⟨b, o, none⟩) xs.length c))
    go_enter Tryd.func41, Tryd.ntmps41
    go_wp2_with fail
    go_loopw [8] (fun i wr => ∃ k : Nat, k ≤ xs.length ∧ ((xs.take k).all fun s => okImg xs.length s.data.toList) = true ∧ i = .int .i64 k ∧ Below (w.heap.size + 1) (w.alloc (.cells #[.slice (some ⟨b, o, none⟩) xs.length c] 36)) wr) (fun i _ => xs.length - (intOf i).toNat)
    case atStart => exact ⟨0, Nat.zero_le _, rfl, rfl, Below.refl _ _⟩
    case round =>
      obtain ⟨k, hk, ha, rfl, hbel⟩ := hrel
      have HT := Lib.hid ha; clear ha
      have c0 := (HO.out.below hbel (by omega)).cell
      have HW := Lib.hid (HB.out.trans (hbel.mono (Nat.le_succ _)))
      have HBL := Lib.hid hbel; clear hbel
      by_cases hlt : k < xs.length
      · have g1 := (HW.out.cell (p := ⟨b, o + k, none⟩) hbB).trans (HC.out k _ (map_get Value.string xs k hlt))
        have gs := HS.out xs[k] (List.getElem_mem hlt)
        have hR := (HA.out.below HW.out (Nat.le_refl _)).mono HW.out.size
        have HR := Lib.hid hR
        have hok := okImg_size xs.length xs[k]
        have HK := Lib.hid hok; clear hok hR
        cases q1 : (decide ((1 : Int) ≤ (xs[k].size : Int)) && decide ((xs[k].size : Int) ≤ 8)) <;> cases q2 : (inB xs.length xs[k].data.toList && wordB xs[k].data.toList)
        all_goals
          rw [q1, q2] at HK
          have Q1 := Lib.hid q1
          have Q2 := Lib.hid q2
          clear q1 q2
          go_wp2_with fail
          refine (within_any _ _ _ _).mono ?_
          rw [Q1.out]
          rintro e w' ⟨rfl, rfl⟩
          go_wp2_with fail
        · go_ret
          exact ⟨ret_bool (img_fail xs k hlt (by rw [HK.out]; rfl)).symm, HW.out⟩
        · go_ret
          exact ⟨ret_bool (img_fail xs k hlt (by rw [HK.out]; rfl)).symm, HW.out⟩
        · refine (hasImages_any xs _ _ _ HR.out gs).mono ?_
          rw [Q2.out]
          rintro e w1 ⟨rfl, hb1⟩
          go_wp2_with fail
          go_ret
          exact ⟨ret_bool (img_fail xs k hlt (by rw [HK.out]; rfl)).symm, HW.out.trans (hb1.mono HW.out.size)⟩
        · refine (hasImages_any xs _ _ _ HR.out gs).mono ?_
          rw [Q2.out]
          rintro e w1 ⟨rfl, hb1⟩
          have H1 := Lib.hid hb1; clear hb1
          go_wp2_with fail
          go_roundw
          case rel => exact ⟨k + 1, by omega, img_step _ xs k hlt HT.out (by rw [HK.out]; rfl), by go_num, HBL.out.trans (H1.out.mono (by have := HBL.out.size; simp at this; omega))⟩
          case measure => simp [intOf]; omega
      · obtain rfl : k = xs.length := by omega
        have HE := Lib.hid (subst_end xs HT.out)
        go_wp2_with (go_at_call 36; refine (within_any _ _ _ _).mono ?_; rintro e w' ⟨rfl, rfl⟩)
        go_ret
        exact ⟨ret_bool HE.out.symm, HW.out⟩
end Go.Proofs.YtciiokegifgbdaaDoor
