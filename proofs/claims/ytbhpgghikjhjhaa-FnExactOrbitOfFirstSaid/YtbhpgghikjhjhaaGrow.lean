/- Walks: letters with an image, growing letters. -/
import Derived.Test.YtbhpgghikjhjhaaApply
import Derived.Test.YtbhpgghikjhjhaaPlain7
import Derived.Test.YtbhpgghikjhjhaaOne
namespace Go.Proofs.Ytbhpgghikjhjhaa
open Go.RowKit

set_option maxHeartbeats 400000 in
theorem hasImage_any (xs : List ByteArray) (va : Value) (s : ByteArray) (w : World) (ha : Row1 w w.heap.size va (xs.map .string)) (hs : s.size ≤ maxLen) :
    Calls Try.prog 59 #[.agg #[va], .string s] w fun e w' => e = .returned (.bool (imgB xs s.data.toList)) ∧ Below w.heap.size w w' := by
  have s0 := Stands.start w 27 va
  have HI := Lib.hid (hasImages_any xs va s _ (s0.row ha) hs)
  have c0 := s0.box
  have HS0 := Lib.hid s0
  have HE := Lib.hid (imgB_eq xs s.data.toList)
  clear s0 ha
  cases ho : oneB s.data.toList
  · rw [ho] at HE
    go_enter Try.func59, Try.ntmps59
    go_wp2_with (go_at_call 64; refine (isLetter_any _ _ hs).mono ?_; rw [ho]; rintro e w' ⟨rfl, rfl⟩)
    go_ret
    exact ⟨ret_bool (by rw [HE.out]; rfl), HS0.out.below⟩
  · rw [ho, Bool.true_and] at HE
    have HO := Lib.hid ho
    clear ho
    go_enter Try.func59, Try.ntmps59
    go_wp2_with (go_at_call 64; refine (isLetter_any _ _ hs).mono ?_; rw [HO.out]; rintro e w' ⟨rfl, rfl⟩)
    refine HI.out.mono ?_
    rw [← HE.out]
    rintro e w1 ⟨rfl, hb1⟩
    have S1 := Lib.hid (HS0.out.on hb1); clear hb1
    go_wp2_with fail
    go_ret
    exact ⟨rfl, S1.out.below⟩
set_option maxHeartbeats 1000000 in
theorem isGrowing_any (xs : List ByteArray) (va : Value) (s : ByteArray) (w : World) (ha : Row1 w w.heap.size va (xs.map .string)) (hx : substB xs = true) (hs : s.size ≤ maxLen) :
    Calls Try.prog 53 #[.agg #[va], .string s] w fun e w' => e = .returned (.bool (growB xs s.data.toList)) ∧ Below w.heap.size w w' := by
  have s0 := Stands.start w 27 va
  have HI := Lib.hid (hasImage_any xs va s _ (s0.row ha) hs)
  have c0 := s0.box
  have HS0 := Lib.hid s0
  have HA := Lib.hid ha
  have h4 := (subst_parts hx).2.1
  have HX := Lib.hid hx
  clear s0 ha hx
  cases hi : imgB xs s.data.toList
  · have HG := Lib.hid (show growB xs s.data.toList = false by
      match hd : s.data.toList with
      | [] => rfl
      | [c] => rw [hd] at hi; rw [growB_one, hi]; rfl
      | _ :: _ :: _ => rfl)
    go_enter Try.func53, Try.ntmps53
    go_wp2_with fail
    refine HI.out.mono ?_
    rw [hi]
    rintro e w1 ⟨rfl, hb1⟩
    have S1 := Lib.hid (HS0.out.on hb1); clear hb1
    go_wp2_with fail
    go_ret
    exact ⟨ret_bool HG.out.symm, S1.out.below⟩
  · obtain ⟨h1, b1, b2, b3⟩ := imgB_letter hi
    have hpos : 0 < s.size := by omega
    have hG : growB xs s.data.toList = growC xs s[0] := by
      have h2 := list_one h1
      rw [h2] at hi ⊢
      rw [growB_one, hi, Bool.true_and]
    have HI1 := Lib.hid hi
    have hok := imgAt_ok HX.out (c := s[0]) (by omega)
    have ho1 := hok.1
    have ho8 := hok.2.1
    have HIM := Lib.hid (fun W hR => image_any xs va s[0] W hR h4 b1 b3)
    unfold growC at hG
    rw [head_get (show 0 < (imgAt xs s[0]).size by omega)] at hG
    obtain ⟨t, ht⟩ : ∃ t, imgAt xs s[0] = t := ⟨_, rfl⟩
    simp only [ht] at hG HIM ho1 ho8
    have HG := Lib.hid hG
    clear hi hG b1 b2 b3 h4
    by_cases q : 1 < t.size
    · have d1 : decide ((1 : Int) < (t.size : Int)) = true := decide_eq_true (by omega)
      have z1 : 0 < t.size := by omega
      have z2 : (0 : Int) < (t.size : Int) := by omega
      have z3 : (0 : Int) < (s.size : Int) := by omega
      cases q2 : ((t[0].toNat : Int) == (s[0].toNat : Int))
      · have HE := Lib.hid (show (t[0] == s[0]) = false by rw [beq_eq_false_iff_ne] at q2 ⊢; intro h; exact q2 (by rw [h]))
        go_enter Try.func53, Try.ntmps53
        go_wp2_with fail
        refine HI.out.mono ?_
        rw [HI1.out]
        rintro e w1 ⟨rfl, hb1⟩
        have S1 := Lib.hid (HS0.out.on hb1); clear hb1
        have c1 := S1.out.box
        go_wp2_with fail
        go_region_with (go_at_call 51; refine (HIM.out _ (S1.out.drew.row HA.out)).mono ?_; rintro e w2 ⟨rfl, hb2⟩; have S2 := Lib.hid (S1.out.drew.on hb2); clear hb2)
        all_goals
          go_wp2_with fail
          go_quiet (fail)
          go_wp2
          go_ret
          refine ⟨ret_bool (by rw [HG.out, HE.out, Bool.and_false]), below_drewN (Stands.below (T := 27) (va := va) (Hid.out ?_)) _⟩
          assumption
      · have HE := Lib.hid (show (t[0] == s[0]) = true by rw [beq_iff_eq] at q2 ⊢; apply UInt8.toNat_inj.1; omega)
        go_enter Try.func53, Try.ntmps53
        go_wp2_with fail
        refine HI.out.mono ?_
        rw [HI1.out]
        rintro e w1 ⟨rfl, hb1⟩
        have S1 := Lib.hid (HS0.out.on hb1); clear hb1
        have c1 := S1.out.box
        go_wp2_with fail
        go_region_with (go_at_call 51; refine (HIM.out _ (S1.out.drew.row HA.out)).mono ?_; rintro e w2 ⟨rfl, hb2⟩; have S2 := Lib.hid (S1.out.drew.on hb2); clear hb2)
        all_goals
          go_wp2_with fail
          go_quiet (fail)
          go_wp2
          go_ret
          refine ⟨ret_bool (by rw [HG.out, HE.out, decide_eq_true (show (1 : Int) < (t.size : Int) by omega)]; rfl), below_drewN (Stands.below (T := 27) (va := va) (Hid.out ?_)) _⟩
          assumption
    · have d1 : decide ((1 : Int) < (t.size : Int)) = false := decide_eq_false (by omega)
      rw [d1] at HG
      go_enter Try.func53, Try.ntmps53
      go_wp2_with fail
      refine HI.out.mono ?_
      rw [HI1.out]
      rintro e w1 ⟨rfl, hb1⟩
      have S1 := Lib.hid (HS0.out.on hb1); clear hb1
      have c1 := S1.out.box
      go_wp2_with fail
      go_region_with (go_at_call 51; refine (HIM.out _ (S1.out.drew.row HA.out)).mono ?_; rintro e w2 ⟨rfl, hb2⟩; have S2 := Lib.hid (S1.out.drew.on hb2); clear hb2)
      all_goals
        go_wp2_with fail
        go_quiet (fail)
        go_wp2
        go_ret
        refine ⟨ret_bool (by rw [HG.out]; rfl), below_drewN (Stands.below (T := 27) (va := va) (Hid.out ?_)) _⟩
        assumption
set_option maxHeartbeats 1000000 in
theorem implGrowingLetters_any (xs : List ByteArray) (va : Value) (w : World) (ha : Row1 w w.heap.size va (xs.map .string)) (hs : ∀ s ∈ xs, s.size ≤ maxLen) :
    Calls Try.prog 27 #[.agg #[va]] w fun e w' => e = .returned (.string ⟨(growL xs).toArray⟩) ∧ Below w.heap.size w w' := by
  obtain ⟨A, cp, rfl⟩ := ha.shape
  have s0 := Stands.start w 27 (.slice A xs.length cp)
  have HOK := Lib.hid (implSubstOk_any xs _ _ (s0.row ha) hs)
  have c0 := s0.box
  have HS0 := Lib.hid s0
  have HA := Lib.hid ha
  clear s0 ha hs
  cases hx : substB xs
  · have HF := Lib.hid (show growL xs = [] by unfold growL; rw [hx]; rfl)
    go_enter Try.func27, Try.ntmps27
    go_wp2_with fail
    refine HOK.out.mono ?_
    rw [hx]
    rintro e w1 ⟨rfl, hb1⟩
    have S1 := Lib.hid (HS0.out.on hb1); clear hb1
    go_wp2_with fail
    go_ret
    exact ⟨by rw [HF.out] <;> rfl, S1.out.below⟩
  have HF := Lib.hid (show growL xs = growIx xs xs.length by unfold growL; rw [if_pos hx])
  have h4 := (subst_parts hx).2.1
  have HX := Lib.hid hx
  clear hx
  go_enter Try.func27, Try.ntmps27
  go_wp2_with fail
  refine HOK.out.mono ?_
  rw [HX.out]
  rintro e w1 ⟨rfl, hb1⟩
  have S1 := Lib.hid (HS0.out.on hb1); clear hb1
  have c1 := S1.out.box
  clear c0
  go_wp2_with fail
  go_loopw [3, 12] (fun v i wr => ∃ (k : Nat) (out : ByteArray), k ≤ xs.length ∧ out.data.toList = growIx xs k ∧ v = .string out ∧ i = .int .i64 k ∧ Stands w 27 (.slice A xs.length cp) wr) (fun _ i _ => xs.length - (intOf i).toNat)
  case atStart => exact ⟨0, ⟨#[]⟩, Nat.zero_le _, rfl, rfl, rfl, S1.out⟩
  case round =>
    obtain ⟨k, out, hk, ho, rfl, rfl, hst⟩ := hrel
    have hsz : out.size ≤ 4 := by have := growIx_len xs k; rw [Lib.size_eq, ho]; omega
    have HO := Lib.hid ho; have HST := Lib.hid hst; clear ho hst
    by_cases hlt : k < xs.length
    · have c2 := HST.out.box
      have e1 := abcd_at (k := k) (by omega)
      have HG := Lib.hid (isGrowing_any xs _ (ltr k) _ (HST.out.row HA.out) HX.out (by rw [ltr_size]; unfold maxLen; omega))
      have hgb : growB xs (ltr k).data.toList = growC xs (lc k) := by
        have hl : imgB xs [lc k] = true := by
          have := lc_nat (j := k) (by omega)
          simp only [imgB, letterB, Bool.and_eq_true, decide_eq_true_eq]; omega
        rw [ltr_data, growB_one, hl, Bool.true_and]
      have HGB := Lib.hid hgb; clear hgb
      have es := ltr_size k
      cases hg : growC xs (lc k)
      · have HN := Lib.hid (growIx_no hg)
        rw [hg] at HGB
        clear hg
        go_wp2_with fail
        refine HG.out.mono ?_
        rw [HGB.out]
        rintro e w2 ⟨rfl, hb2⟩
        have S2 := Lib.hid (HST.out.on hb2); clear hb2
        go_wp2_with fail
        go_roundw
        case rel => exact ⟨k + 1, out, by omega, by rw [HN.out]; exact HO.out, rfl, by go_num, S2.out⟩
        case measure => simp [intOf]; omega
      · have HN := Lib.hid (growIx_yes hg)
        rw [hg] at HGB
        clear hg
        go_wp2_with fail
        refine HG.out.mono ?_
        rw [HGB.out]
        rintro e w2 ⟨rfl, hb2⟩
        have S2 := Lib.hid (HST.out.on hb2); clear hb2
        go_wp2_with fail
        go_roundw
        case rel => exact ⟨k + 1, _, by omega, by rw [data_append, HN.out, HO.out, ltr_data], rfl, by go_num, S2.out⟩
        case measure => simp [intOf]; omega
    · obtain rfl : k = xs.length := by omega
      go_wp2_with fail
      go_ret
      exact ⟨by rw [HF.out, mk_list out HO.out] <;> rfl, HST.out.below⟩
set_option maxHeartbeats 1000000 in
theorem l05Grows_any (xs : List ByteArray) (va : Value) (k : Nat) (w : World) (ha : Row1 w w.heap.size va (xs.map .string)) (hx : substB xs = true) (hk : k < xs.length) :
    Calls Try.prog 52 #[.agg #[va], .int .i64 k] w fun e w' => e = .returned (.bool (growC xs (lc k))) ∧ Below w.heap.size w w' := by
  have s0 := Stands.start w 27 va
  have h4 := (subst_parts hx).2.1
  obtain ⟨b, o, cp, rfl, hbB, hc, hcell⟩ := ha.openAt (by omega)
  have hn := lc_nat (j := k) (by omega)
  have hi : imgAt xs (lc k) = xs[k] := by
    have := imgAt_get (xs := xs) (c := lc k) (by omega)
    rw [this]; congr 1; omega
  have hok := imgAt_ok hx (c := lc k) (by omega)
  rw [hi] at hok
  have ho1 := hok.1
  have ho8 := hok.2.1
  have g1 := (s0.below.cell (p := ⟨b, o + k, none⟩) hbB).trans (hcell k hk)
  obtain ⟨t, ht⟩ : ∃ t, xs[k] = t := ⟨_, rfl⟩
  rw [ht] at g1 ho1 ho8 hi hok
  have hb1 := word_byte (word_letters (wordIn_parts hok.2.2).2) 0 (by omega)
  obtain ⟨hb2, hb3⟩ := hb1
  have hg : growC xs (lc k) = (decide ((1 : Int) < (t.size : Int)) && ((t[0].toNat : Int) - 97 == (k : Int))) := by
    unfold growC
    rw [hi, head_get (by omega)]
    congr 1
    rw [Bool.eq_iff_iff, beq_iff_eq, beq_iff_eq]
    constructor
    · intro h; rw [h, hn]; omega
    · intro h; apply UInt8.toNat_inj.1; rw [hn]; omega
  have HG := Lib.hid hg
  have HS0 := Lib.hid s0
  have c0 := s0.box
  clear hg hi ht hn hcell ha s0 hx
  by_cases q : 1 < t.size
  · go_enter Try.func52, Try.ntmps52
    go_wp2
    go_ret
    exact ⟨ret_bool (by rw [HG.out, decide_eq_true (show (1 : Int) < (t.size : Int) by omega)] <;> rfl), HS0.out.below⟩
  · go_enter Try.func52, Try.ntmps52
    go_wp2
    go_ret
    exact ⟨ret_bool (by rw [HG.out, decide_eq_false (show ¬ (1 : Int) < (t.size : Int) by omega)]; rfl), HS0.out.below⟩
set_option maxHeartbeats 1000000 in
theorem specGrowingLetters_any (xs : List ByteArray) (va : Value) (w : World) (ha : Row1 w w.heap.size va (xs.map .string)) (hs : ∀ s ∈ xs, s.size ≤ maxLen) :
    Calls Try.prog 26 #[.agg #[va]] w fun e w' => e = .returned (.string ⟨(growL xs).toArray⟩) ∧ Below w.heap.size w w' := by
  obtain ⟨A, cp, rfl⟩ := ha.shape
  have s0 := Stands.start w 27 (.slice A xs.length cp)
  have HOK := Lib.hid (specSubstOk_any xs _ _ (s0.row ha) hs)
  have c0 := s0.box
  have HS0 := Lib.hid s0
  have HA := Lib.hid ha
  clear s0 ha hs
  cases hx : substB xs
  · have HF := Lib.hid (show growL xs = [] by unfold growL; rw [hx]; rfl)
    go_enter Try.func26, Try.ntmps26
    go_wp2_with fail
    refine HOK.out.mono ?_
    rw [hx]
    rintro e w1 ⟨rfl, hb1⟩
    have S1 := Lib.hid (HS0.out.on hb1); clear hb1
    go_wp2_with fail
    go_ret
    exact ⟨by rw [HF.out] <;> rfl, S1.out.below⟩
  have HF := Lib.hid (show growL xs = growIx xs xs.length by unfold growL; rw [if_pos hx])
  have h4 := (subst_parts hx).2.1
  have HX := Lib.hid hx
  clear hx
  go_enter Try.func26, Try.ntmps26
  go_wp2_with fail
  refine HOK.out.mono ?_
  rw [HX.out]
  rintro e w1 ⟨rfl, hb1⟩
  have S1 := Lib.hid (HS0.out.on hb1); clear hb1
  have c1 := S1.out.box
  clear c0
  go_wp2_with fail
  go_loopw [3, 11] (fun v i wr => ∃ (k : Nat) (out : ByteArray), k ≤ xs.length ∧ out.data.toList = growIx xs k ∧ v = .string out ∧ i = .int .i64 k ∧ Stands w 27 (.slice A xs.length cp) wr) (fun _ i _ => xs.length - (intOf i).toNat)
  case atStart => exact ⟨0, ⟨#[]⟩, Nat.zero_le _, rfl, rfl, rfl, S1.out⟩
  case round =>
    obtain ⟨k, out, hk, ho, rfl, rfl, hst⟩ := hrel
    have hsz : out.size ≤ 4 := by have := growIx_len xs k; rw [Lib.size_eq, ho]; omega
    have HO := Lib.hid ho; have HST := Lib.hid hst; clear ho hst
    by_cases hlt : k < xs.length
    · have c2 := HST.out.box
      have e1 := abcd_at (k := k) (by omega)
      have HG := Lib.hid (l05Grows_any xs _ k _ (HST.out.row HA.out) HX.out hlt)
      have es := ltr_size k
      cases hg : growC xs (lc k)
      · have HN := Lib.hid (growIx_no hg)
        have HGB := Lib.hid hg
        clear hg
        go_wp2_with fail
        refine HG.out.mono ?_
        rw [HGB.out]
        rintro e w2 ⟨rfl, hb2⟩
        have S2 := Lib.hid (HST.out.on hb2); clear hb2
        go_wp2_with fail
        go_roundw
        case rel => exact ⟨k + 1, out, by omega, by rw [HN.out]; exact HO.out, rfl, by go_num, S2.out⟩
        case measure => simp [intOf]; omega
      · have HN := Lib.hid (growIx_yes hg)
        have HGB := Lib.hid hg
        clear hg
        go_wp2_with fail
        refine HG.out.mono ?_
        rw [HGB.out]
        rintro e w2 ⟨rfl, hb2⟩
        have S2 := Lib.hid (HST.out.on hb2); clear hb2
        go_wp2_with fail
        go_roundw
        case rel => exact ⟨k + 1, _, by omega, by rw [data_append, HN.out, HO.out, ltr_data], rfl, by go_num, S2.out⟩
        case measure => simp [intOf]; omega
    · obtain rfl : k = xs.length := by omega
      go_wp2_with fail
      go_ret
      exact ⟨by rw [HF.out, mk_list out HO.out] <;> rfl, HST.out.below⟩
end Go.Proofs.Ytbhpgghikjhjhaa
