/- Walks: a substitution applied to a word, and many times. -/
import Derived.Test.YtbhpgghikjhjhaaCut
namespace Go.Proofs.Ytbhpgghikjhjhaa
open Go.RowKit

set_option maxHeartbeats 1000000 in
theorem specIterateSubst_any (xs : List ByteArray) (va : Value) (s : ByteArray) (n : Int) (w : World) (ha : Row1 w w.heap.size va (xs.map .string)) (hs : ∀ s ∈ xs, s.size ≤ maxLen) (hm : s.size ≤ maxLen) :
    Calls Try.prog 30 #[.agg #[va], .string s, .int .i64 n] w fun e w' => e = .returned (.tuple #[.string (iterP xs s.data.toList n).1, .bool (iterP xs s.data.toList n).2]) ∧ Below w.heap.size w w' := by
  obtain ⟨A, cp, rfl⟩ := ha.shape
  have s0 := Stands.start w 27 (.slice A xs.length cp)
  have HS0 := Lib.hid s0; have HA := Lib.hid ha; clear s0 ha
  have HOK := Lib.hid (fun W hR => specSubstOk_any xs (.slice A xs.length cp) W hR hs)
  clear hs
  have c0 := HS0.out.box
  cases hn : (decide (0 ≤ n) && decide (n ≤ 20))
  · have HF := Lib.hid (iterP_bad (xs := xs) (l := s.data.toList) (n := n) (by intro h; rw [Bool.and_eq_false_iff] at hn; simp at hn; omega))
    have HN := Lib.hid hn; clear hn
    go_enter Try.func30, Try.ntmps30
    go_wp2_with (go_at_call 43; refine (l01In_any _ _ _ _).mono ?_; rw [HN.out]; rintro e w' ⟨rfl, rfl⟩)
    go_ret2
    exact ⟨by rw [HF.out] <;> rfl, HS0.out.below⟩
  have hn2 : 0 ≤ n ∧ n ≤ 20 := by simpa using hn
  obtain ⟨m, rfl⟩ := Int.eq_ofNat_of_zero_le hn2.1
  have hm20 : m ≤ 20 := by omega
  have HN := Lib.hid hn; clear hn
  cases hx : substB xs
  · have HF := Lib.hid (iterP_bad (xs := xs) (l := s.data.toList) (n := (m : Int)) (by simp [hx]))
    go_enter Try.func30, Try.ntmps30
    go_wp2_with (first
      | (go_at_call 43; refine (l01In_any _ _ _ _).mono ?_; rw [HN.out]; rintro e w' ⟨rfl, rfl⟩)
      | (go_at_call 16; refine (HOK.out _ (HS0.out.row HA.out)).mono ?_; rw [hx]; rintro e w1 ⟨rfl, hb1⟩; have S1 := Lib.hid (HS0.out.on hb1); clear hb1))
    go_ret2
    exact ⟨by rw [HF.out] <;> rfl, Stands.below (Hid.out (by assumption))⟩
  cases hb : wordB s.data.toList
  · have HF := Lib.hid (iterP_bad (xs := xs) (l := s.data.toList) (n := (m : Int)) (by simp [wordIn, hb]))
    have HX := Lib.hid hx; clear hx
    go_enter Try.func30, Try.ntmps30
    go_wp2_with (first
      | (go_at_call 43; refine (l01In_any _ _ _ _).mono ?_; rw [HN.out]; rintro e w' ⟨rfl, rfl⟩)
      | (go_at_call 16; refine (HOK.out _ (HS0.out.row HA.out)).mono ?_; rw [HX.out]; rintro e w1 ⟨rfl, hb1⟩; have S1 := Lib.hid (HS0.out.on hb1); clear hb1)
      | (go_at_call 44; refine (specWordOk_any _ _ hm).mono ?_; rw [hb]; rintro e w' ⟨rfl, rfl⟩))
    go_ret2
    exact ⟨by rw [HF.out] <;> rfl, Stands.below (Hid.out (by assumption))⟩
  have HB := Lib.hid hb; clear hb
  have HX := Lib.hid hx; clear hx
  cases hi : inB xs.length s.data.toList
  · have HF := Lib.hid (iterP_bad (xs := xs) (l := s.data.toList) (n := (m : Int)) (by simp [wordIn, hi]))
    go_enter Try.func30, Try.ntmps30
    go_wp2_with (first
      | (go_at_call 43; refine (l01In_any _ _ _ _).mono ?_; rw [HN.out]; rintro e w' ⟨rfl, rfl⟩)
      | (go_at_call 16; refine (HOK.out _ (HS0.out.row HA.out)).mono ?_; rw [HX.out]; rintro e w1 ⟨rfl, hb1⟩; have S1 := Lib.hid (HS0.out.on hb1); have c1 := S1.out.box; clear hb1)
      | (go_at_call 44; refine (specWordOk_any _ _ hm).mono ?_; rw [HB.out]; rintro e w' ⟨rfl, rfl⟩)
      | (go_at_call 45; refine (l03Within_any _ _ _ HB.out).mono ?_; rw [hi]; rintro e w' ⟨rfl, rfl⟩))
    go_ret2
    exact ⟨by rw [HF.out] <;> rfl, Stands.below (Hid.out (by assumption))⟩
  have HI := Lib.hid hi; clear hi
  have HW := Lib.hid (show wordIn xs s.data.toList = true by unfold wordIn; rw [HI.out, HB.out]; rfl)
  go_enter Try.func30, Try.ntmps30
  go_wp2_with (first
    | (go_at_call 43; refine (l01In_any _ _ _ _).mono ?_; rw [HN.out]; rintro e w' ⟨rfl, rfl⟩)
    | (go_at_call 16; refine (HOK.out _ (HS0.out.row HA.out)).mono ?_; rw [HX.out]; rintro e w1 ⟨rfl, hb1⟩; have S1 := Lib.hid (HS0.out.on hb1); have c1 := S1.out.box; clear hb1)
    | (go_at_call 44; refine (specWordOk_any _ _ hm).mono ?_; rw [HB.out]; rintro e w' ⟨rfl, rfl⟩)
    | (go_at_call 45; refine (l03Within_any _ _ _ HB.out).mono ?_; rw [HI.out]; rintro e w' ⟨rfl, rfl⟩))
  go_loopw [1, 8] (fun v i wr => ∃ (k : Nat) (t : ByteArray), k ≤ m ∧ wordIn xs t.data.toList = true ∧ iterO xs (m - k) t.data.toList = iterO xs m s.data.toList ∧ v = .string t ∧ i = .int .i64 k ∧ Stands w 27 (.slice A xs.length cp) wr) (fun _ i _ => m - (intOf i).toNat)
  case atStart => exact ⟨0, s, Nat.zero_le _, HW.out, rfl, rfl, rfl, Hid.out (by assumption)⟩
  case round =>
    obtain ⟨k, t, hk, hwt, hit, rfl, rfl, hst⟩ := hrel
    have HT := Lib.hid hwt; have HIT := Lib.hid hit; have HST := Lib.hid hst; clear hwt hit hst
    by_cases hlt : k < m
    · have c2 := HST.out.box
      have hmk : m - k = (m - (k + 1)) + 1 := by omega
      have HMK := Lib.hid hmk; clear hmk
      go_wp2_with fail
      refine (l03Apply_any xs _ t _ (HST.out.row HA.out) HX.out HT.out).mono ?_
      rintro e w2 ⟨out, rfl, hcut, hb2⟩
      have S2 := Lib.hid (HST.out.on hb2); have HCUT := Lib.hid hcut; clear hb2 hcut
      by_cases hbig : 400 < out.size
      · have HE := Lib.hid (iterP_none (xs := xs) (l := s.data.toList) (n := m) ⟨HX.out, HW.out, hn2.1, hn2.2⟩ (by rw [← HIT.out, HMK.out]; exact iterO_big _ (cut_big HCUT.out hbig)))
        go_wp2_with fail
        go_ret2
        exact ⟨by rw [HE.out] <;> rfl, S2.out.below⟩
      · have hsm := cut_small HCUT.out hbig
        have HSM := Lib.hid hsm; clear hsm
        go_wp2_with fail
        go_roundw
        case rel => exact ⟨k + 1, out, by omega, by rw [HSM.out.1]; exact word_apply HX.out HT.out HSM.out.2, by rw [HSM.out.1, ← HIT.out, HMK.out, iterO_small _ HSM.out.2], rfl, by go_num, S2.out⟩
        case measure => simp [intOf]; omega
    · obtain rfl : k = m := by omega
      have HE := Lib.hid (iterP_some (xs := xs) (l := s.data.toList) (r := t.data.toList) (n := k) ⟨HX.out, HW.out, hn2.1, hn2.2⟩ (by rw [← HIT.out, Nat.sub_self]; rfl))
      go_wp2_with fail
      go_ret2
      exact ⟨by rw [HE.out]; simp only []; rw [← mk_list t rfl] <;> rfl, HST.out.below⟩
set_option maxHeartbeats 1000000 in
theorem implIterateSubst_any (xs : List ByteArray) (va : Value) (s : ByteArray) (n : Int) (w : World) (ha : Row1 w w.heap.size va (xs.map .string)) (hs : ∀ s ∈ xs, s.size ≤ maxLen) (hm : s.size ≤ maxLen) :
    Calls Try.prog 31 #[.agg #[va], .string s, .int .i64 n] w fun e w' => e = .returned (.tuple #[.string (iterP xs s.data.toList n).1, .bool (iterP xs s.data.toList n).2]) ∧ Below w.heap.size w w' := by
  have s0 := Stands.start w 27 va
  have HS0 := Lib.hid s0; have HA := Lib.hid ha; clear s0 ha
  have HOK := Lib.hid (fun W hR => implSubstOk_any xs va W hR hs)
  clear hs
  have c0 := HS0.out.box
  cases hx : substB xs
  · have HF := Lib.hid (iterP_bad (xs := xs) (l := s.data.toList) (n := n) (by simp [hx]))
    go_enter Try.func31, Try.ntmps31
    go_wp2_with fail
    refine (HOK.out _ (HS0.out.row HA.out)).mono ?_
    rw [hx]
    rintro e w1 ⟨rfl, hb1⟩
    have S1 := Lib.hid (HS0.out.on hb1); clear hb1
    go_wp2_with fail
    go_ret2
    exact ⟨by rw [HF.out] <;> rfl, S1.out.below⟩
  have HX := Lib.hid hx; clear hx
  cases hw : wordIn xs s.data.toList
  · have HF := Lib.hid (iterP_bad (xs := xs) (l := s.data.toList) (n := n) (by simp [hw]))
    have HW := Lib.hid (show (inB xs.length s.data.toList && wordB s.data.toList) = false from hw); clear hw
    go_enter Try.func31, Try.ntmps31
    go_wp2_with fail
    refine (HOK.out _ (HS0.out.row HA.out)).mono ?_
    rw [HX.out]
    rintro e w1 ⟨rfl, hb1⟩
    have S1 := Lib.hid (HS0.out.on hb1); clear hb1
    have c1 := S1.out.box
    go_wp2_with fail
    refine (hasImages_any xs va s _ (S1.out.row HA.out) hm).mono ?_
    rw [HW.out]
    rintro e w2 ⟨rfl, hb2⟩
    have S2 := Lib.hid (S1.out.on hb2); clear hb2
    go_wp2_with fail
    go_ret2
    exact ⟨by rw [HF.out] <;> rfl, S2.out.below⟩
  have HW := Lib.hid hw
  have HW2 := Lib.hid (show (inB xs.length s.data.toList && wordB s.data.toList) = true from hw)
  clear hw
  cases hn : (decide (0 ≤ n) && decide (n ≤ 20))
  · have HF := Lib.hid (iterP_bad (xs := xs) (l := s.data.toList) (n := n) (by intro h; rw [Bool.and_eq_false_iff] at hn; simp at hn; omega))
    have HN := Lib.hid hn; clear hn
    go_enter Try.func31, Try.ntmps31
    go_wp2_with fail
    refine (HOK.out _ (HS0.out.row HA.out)).mono ?_
    rw [HX.out]
    rintro e w1 ⟨rfl, hb1⟩
    have S1 := Lib.hid (HS0.out.on hb1); clear hb1
    have c1 := S1.out.box
    go_wp2_with fail
    refine (hasImages_any xs va s _ (S1.out.row HA.out) hm).mono ?_
    rw [HW2.out]
    rintro e w2 ⟨rfl, hb2⟩
    have S2 := Lib.hid (S1.out.on hb2); clear hb2
    go_wp2_with (go_at_call 47; refine (within_any _ _ _ _).mono ?_; rw [HN.out]; rintro e w' ⟨rfl, rfl⟩)
    go_ret2
    exact ⟨by rw [HF.out] <;> rfl, S2.out.below⟩
  have hn2 : 0 ≤ n ∧ n ≤ 20 := by simpa using hn
  obtain ⟨m, rfl⟩ := Int.eq_ofNat_of_zero_le hn2.1
  have hm20 : m ≤ 20 := by omega
  have HN := Lib.hid hn; clear hn
  go_enter Try.func31, Try.ntmps31
  go_wp2_with fail
  refine (HOK.out _ (HS0.out.row HA.out)).mono ?_
  rw [HX.out]
  rintro e w1 ⟨rfl, hb1⟩
  have S1 := Lib.hid (HS0.out.on hb1); clear hb1
  have c1 := S1.out.box
  go_wp2_with fail
  refine (hasImages_any xs va s _ (S1.out.row HA.out) hm).mono ?_
  rw [HW2.out]
  rintro e w2 ⟨rfl, hb2⟩
  have S2 := Lib.hid (S1.out.on hb2); clear hb2
  go_wp2_with (go_at_call 47; refine (within_any _ _ _ _).mono ?_; rw [HN.out]; rintro e w' ⟨rfl, rfl⟩)
  go_loopw [1, 23] (fun v i wr => ∃ (k : Nat) (t : ByteArray), k ≤ m ∧ wordIn xs t.data.toList = true ∧ iterO xs (m - k) t.data.toList = iterO xs m s.data.toList ∧ v = .string t ∧ i = .int .i64 k ∧ Stands w 27 va wr) (fun _ i _ => m - (intOf i).toNat)
  case atStart => exact ⟨0, s, Nat.zero_le _, HW.out, rfl, rfl, rfl, S2.out⟩
  case round =>
    obtain ⟨k, t, hk, hwt, hit, rfl, rfl, hst⟩ := hrel
    have HT := Lib.hid hwt; have HIT := Lib.hid hit; have HST := Lib.hid hst; clear hwt hit hst
    by_cases hlt : k < m
    · have c2 := HST.out.box
      have hmk : m - k = (m - (k + 1)) + 1 := by omega
      have HMK := Lib.hid hmk; clear hmk
      have hsz : (⟨(applyL xs t.data.toList).toArray⟩ : ByteArray).size ≤ maxLen := by
        rw [size_mk]
        have := applyL_len HX.out (letters_of_word HT.out)
        have h4 := word_len (wordIn_parts HT.out).2
        rw [← Lib.size_eq] at this
        unfold maxLen; omega
      have HSZ := Lib.hid hsz; clear hsz
      have HWB := Lib.hid (letters_word (letters_apply HX.out (letters_of_word HT.out)))
      go_wp2_with fail
      refine (apply_any xs va t _ (HST.out.row HA.out) HX.out HT.out).mono ?_
      obtain ⟨out, hout⟩ : ∃ out : ByteArray, out = ⟨(applyL xs t.data.toList).toArray⟩ := ⟨_, rfl⟩
      rw [← hout] at HSZ ⊢
      have HOUT := Lib.hid (show out.data.toList = applyL xs t.data.toList by rw [hout])
      clear hout
      rintro e w2 ⟨rfl, hb2⟩
      have S2 := Lib.hid (HST.out.on hb2); clear hb2
      by_cases hbig : (applyL xs t.data.toList).length ≤ 400
      · have HBIG := Lib.hid hbig
        rw [decide_eq_true hbig] at HWB
        clear hbig
        go_wp2_with (go_at_call 56; refine (isWord_any _ _ HSZ.out).mono ?_; rw [HOUT.out, HWB.out]; rintro e w' ⟨rfl, rfl⟩)
        go_roundw
        case rel => exact ⟨k + 1, out, by omega, by rw [HOUT.out]; exact word_apply HX.out HT.out HBIG.out, by rw [HOUT.out, ← HIT.out, HMK.out, iterO_small _ HBIG.out], rfl, by go_num, S2.out⟩
        case measure => simp [intOf]; omega
      · have HE := Lib.hid (iterP_none (xs := xs) (l := s.data.toList) (n := m) ⟨HX.out, HW.out, hn2.1, hn2.2⟩ (by rw [← HIT.out, HMK.out]; exact iterO_big _ hbig))
        rw [decide_eq_false hbig] at HWB
        clear hbig
        go_wp2_with (go_at_call 56; refine (isWord_any _ _ HSZ.out).mono ?_; rw [HOUT.out, HWB.out]; rintro e w' ⟨rfl, rfl⟩)
        go_ret2
        exact ⟨by rw [HE.out] <;> rfl, S2.out.below⟩
    · obtain rfl : k = m := by omega
      have HE := Lib.hid (iterP_some (xs := xs) (l := s.data.toList) (r := t.data.toList) (n := k) ⟨HX.out, HW.out, hn2.1, hn2.2⟩ (by rw [← HIT.out, Nat.sub_self]; rfl))
      go_wp2_with fail
      go_ret2
      exact ⟨by rw [HE.out]; simp only []; rw [← mk_list t rfl] <;> rfl, HST.out.below⟩
theorem implApplySubst_any (xs : List ByteArray) (va : Value) (s : ByteArray) (w : World) (ha : Row1 w w.heap.size va (xs.map .string)) (hs : ∀ s ∈ xs, s.size ≤ maxLen) (hm : s.size ≤ maxLen) :
    Calls Try.prog 29 #[.agg #[va], .string s] w fun e w' => e = .returned (.tuple #[.string (iterP xs s.data.toList 1).1, .bool (iterP xs s.data.toList 1).2]) ∧ Below w.heap.size w w' := by
  have s0 := Stands.start w 27 va
  have HI := Lib.hid (implIterateSubst_any xs va s 1 _ (s0.row ha) hs hm)
  have c0 := s0.box
  have HS0 := Lib.hid s0; clear s0 ha hs
  go_enter Try.func29, Try.ntmps29
  go_wp2_with fail
  refine HI.out.mono ?_
  rintro e w1 ⟨rfl, hb1⟩
  have S1 := Lib.hid (HS0.out.on hb1); clear hb1
  go_wp2_with fail
  go_ret2
  exact ⟨rfl, S1.out.below⟩
set_option maxHeartbeats 1000000 in
theorem specApplySubst_any (xs : List ByteArray) (va : Value) (s : ByteArray) (w : World) (ha : Row1 w w.heap.size va (xs.map .string)) (hs : ∀ s ∈ xs, s.size ≤ maxLen) (hm : s.size ≤ maxLen) :
    Calls Try.prog 28 #[.agg #[va], .string s] w fun e w' => e = .returned (.tuple #[.string (iterP xs s.data.toList 1).1, .bool (iterP xs s.data.toList 1).2]) ∧ Below w.heap.size w w' := by
  obtain ⟨A, cp, rfl⟩ := ha.shape
  have s0 := Stands.start w 27 (.slice A xs.length cp)
  have HS0 := Lib.hid s0; have HA := Lib.hid ha; clear s0 ha
  have HOK := Lib.hid (fun W hR => specSubstOk_any xs (.slice A xs.length cp) W hR hs)
  clear hs
  have c0 := HS0.out.box
  cases hx : substB xs
  · have HF := Lib.hid (iterP_bad (xs := xs) (l := s.data.toList) (n := 1) (by simp [hx]))
    go_enter Try.func28, Try.ntmps28
    go_wp2_with (first
      | (go_at_call 16; refine (HOK.out _ (HS0.out.row HA.out)).mono ?_; rw [hx]; rintro e w1 ⟨rfl, hb1⟩; have S1 := Lib.hid (HS0.out.on hb1); clear hb1))
    go_ret2
    exact ⟨by rw [HF.out] <;> rfl, Stands.below (Hid.out (by assumption))⟩
  have HX := Lib.hid hx; clear hx
  cases hb : wordB s.data.toList
  · have HF := Lib.hid (iterP_bad (xs := xs) (l := s.data.toList) (n := 1) (by simp [wordIn, hb]))
    go_enter Try.func28, Try.ntmps28
    go_wp2_with (first
      | (go_at_call 16; refine (HOK.out _ (HS0.out.row HA.out)).mono ?_; rw [HX.out]; rintro e w1 ⟨rfl, hb1⟩; have S1 := Lib.hid (HS0.out.on hb1); clear hb1)
      | (go_at_call 44; refine (specWordOk_any _ _ hm).mono ?_; rw [hb]; rintro e w' ⟨rfl, rfl⟩))
    go_ret2
    exact ⟨by rw [HF.out] <;> rfl, Stands.below (Hid.out (by assumption))⟩
  have HB := Lib.hid hb; clear hb
  cases hi : inB xs.length s.data.toList
  · have HF := Lib.hid (iterP_bad (xs := xs) (l := s.data.toList) (n := 1) (by simp [wordIn, hi]))
    go_enter Try.func28, Try.ntmps28
    go_wp2_with (first
      | (go_at_call 16; refine (HOK.out _ (HS0.out.row HA.out)).mono ?_; rw [HX.out]; rintro e w1 ⟨rfl, hb1⟩; have S1 := Lib.hid (HS0.out.on hb1); have c1 := S1.out.box; clear hb1)
      | (go_at_call 44; refine (specWordOk_any _ _ hm).mono ?_; rw [HB.out]; rintro e w' ⟨rfl, rfl⟩)
      | (go_at_call 45; refine (l03Within_any _ _ _ HB.out).mono ?_; rw [hi]; rintro e w' ⟨rfl, rfl⟩))
    go_ret2
    exact ⟨by rw [HF.out] <;> rfl, Stands.below (Hid.out (by assumption))⟩
  have HI := Lib.hid hi; clear hi
  have HW := Lib.hid (show wordIn xs s.data.toList = true by unfold wordIn; rw [HI.out, HB.out]; rfl)
  go_enter Try.func28, Try.ntmps28
  go_wp2_with fail
  refine (HOK.out _ (HS0.out.row HA.out)).mono ?_
  rw [HX.out]
  rintro e w1 ⟨rfl, hb1⟩
  have S1 := Lib.hid (HS0.out.on hb1); clear hb1
  have c1 := S1.out.box
  go_wp2_with (first
    | (go_at_call 44; refine (specWordOk_any _ _ hm).mono ?_; rw [HB.out]; rintro e w' ⟨rfl, rfl⟩)
    | (go_at_call 45; refine (l03Within_any _ _ _ HB.out).mono ?_; rw [HI.out]; rintro e w' ⟨rfl, rfl⟩))
  refine (l03Apply_any xs _ s _ (S1.out.row HA.out) HX.out HW.out).mono ?_
  rintro e w2 ⟨out, rfl, hcut, hb2⟩
  have S2 := Lib.hid (S1.out.on hb2); have HCUT := Lib.hid hcut; clear hb2 hcut
  by_cases hbig : 400 < out.size
  · have HE := Lib.hid (iterP_none (xs := xs) (l := s.data.toList) (n := 1) ⟨HX.out, HW.out, by omega, by omega⟩ (iterO_big _ (cut_big HCUT.out hbig)))
    go_wp2_with fail
    go_ret2
    exact ⟨by rw [show (1 : Int) = ((1 : Nat) : Int) from rfl, HE.out] <;> rfl, S2.out.below⟩
  · have HE := Lib.hid (iterP_some (xs := xs) (l := s.data.toList) (r := out.data.toList) (n := 1) ⟨HX.out, HW.out, by omega, by omega⟩ (by rw [iterO_small _ (cut_small HCUT.out hbig).2, (cut_small HCUT.out hbig).1]; rfl))
    go_wp2_with fail
    go_ret2
    exact ⟨by rw [show (1 : Int) = ((1 : Nat) : Int) from rfl, HE.out]; simp only []; rw [← mk_list out rfl] <;> rfl, S2.out.below⟩
end Go.Proofs.Ytbhpgghikjhjhaa
