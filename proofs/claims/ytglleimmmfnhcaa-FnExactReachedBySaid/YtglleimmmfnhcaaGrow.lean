/- Walks: letters with an image, growing letters. -/
import Derived.Test.YtglleimmmfnhcaaApply
import Derived.Test.YtglleimmmfnhcaaPlain7
import Derived.Test.YtglleimmmfnhcaaOne
namespace Go.Proofs.Ytglleimmmfnhcaa
open Go.RowKit
set_option maxRecDepth 20000

set_option maxHeartbeats 400000 in
theorem hasImage_any (xs : List ByteArray) (va : Value) (s : ByteArray) (w : World) (ha : Row1 w w.heap.size va (xs.map .string)) (hs : s.size ≤ maxLen) :
    Calls Try.prog 59 #[.agg #[va], .string s] w fun e w' => e = .returned (.bool (imgB xs s.data.toList)) ∧ Below w.heap.size w w' := by
  have s0 := Stands.start w 28 va
  have HI := Lib.hid (hasImages_any xs va s _ (s0.row ha) hs)
  have c0 := s0.box
  have HS0 := Lib.hid s0
  have HE := Lib.hid (imgB_eq xs s.data.toList)
  clear s0 ha
  cases ho : oneB s.data.toList
  · rw [ho] at HE
    go_enter Try.func59, Try.ntmps59
    go_wp2_with (go_at_call 76; refine (isLetter_any _ _ hs).mono ?_; rw [ho]; rintro e w' ⟨rfl, rfl⟩)
    go_ret
    exact ⟨ret_bool (by rw [HE.out]; rfl), HS0.out.below⟩
  · rw [ho, Bool.true_and] at HE
    have HO := Lib.hid ho
    clear ho
    go_enter Try.func59, Try.ntmps59
    go_wp2_with (go_at_call 76; refine (isLetter_any _ _ hs).mono ?_; rw [HO.out]; rintro e w' ⟨rfl, rfl⟩)
    refine HI.out.mono ?_
    rw [← HE.out]
    rintro e w1 ⟨rfl, hb1⟩
    have S1 := Lib.hid (HS0.out.on hb1); clear hb1
    go_wp2_with fail
    go_ret
    exact ⟨rfl, S1.out.below⟩
set_option maxHeartbeats 1000000 in
theorem isGrowing_any (xs : List ByteArray) (va : Value) (s : ByteArray) (w : World) (ha : Row1 w w.heap.size va (xs.map .string)) (hx : substB xs = true) (hs : s.size ≤ maxLen) :
    Calls Try.prog 54 #[.agg #[va], .string s] w fun e w' => e = .returned (.bool (growB xs s.data.toList)) ∧ Below w.heap.size w w' := by
  have s0 := Stands.start w 28 va
  have HI := Lib.hid (hasImage_any xs va s _ (s0.row ha) hs)
  have c0 := s0.box
  have HS0 := Lib.hid s0
  have HA := Lib.hid ha
  have h4 := (subst_parts hx).2.1
  have HX := Lib.hid hx
  clear s0 ha hx
  cases hi : imgB xs s.data.toList
  · have HG := Lib.hid (show growB xs s.data.toList = false by
      match hd : s.data.toList with
      | [] => rfl
      | [c] => rw [hd] at hi; rw [growB_one, hi]; rfl
      | _ :: _ :: _ => rfl)
    go_enter Try.func54, Try.ntmps54
    go_wp2_with fail
    refine HI.out.mono ?_
    rw [hi]
    rintro e w1 ⟨rfl, hb1⟩
    have S1 := Lib.hid (HS0.out.on hb1); clear hb1
    go_wp2_with fail
    go_ret
    exact ⟨ret_bool HG.out.symm, S1.out.below⟩
  · obtain ⟨h1, b1, b2, b3⟩ := imgB_letter hi
    have hpos : 0 < s.size := by omega
    have hG : growB xs s.data.toList = growC xs s[0] := by
      have h2 := list_one h1
      rw [h2] at hi ⊢
      rw [growB_one, hi, Bool.true_and]
    have HI1 := Lib.hid hi
    have hok := imgAt_ok HX.out (c := s[0]) (by omega)
    have ho1 := hok.1
    have ho8 := hok.2.1
    have HIM := Lib.hid (fun W hR => image_any xs va s[0] W hR h4 b1 b3)
    unfold growC at hG
    rw [head_get (show 0 < (imgAt xs s[0]).size by omega)] at hG
    obtain ⟨t, ht⟩ : ∃ t, imgAt xs s[0] = t := ⟨_, rfl⟩
    simp only [ht] at hG HIM ho1 ho8
    have HG := Lib.hid hG
    clear hi hG b1 b2 b3 h4
    by_cases q : 1 < t.size
    · have d1 : decide ((1 : Int) < (t.size : Int)) = true := decide_eq_true (by omega)
      have z1 : 0 < t.size := by omega
      have z2 : (0 : Int) < (t.size : Int) := by omega
      have z3 : (0 : Int) < (s.size : Int) := by omega
      cases q2 : ((t[0].toNat : Int) == (s[0].toNat : Int))
      · have HE := Lib.hid (show (t[0] == s[0]) = false by rw [beq_eq_false_iff_ne] at q2 ⊢; intro h; exact q2 (by rw [h]))
        go_enter Try.func54, Try.ntmps54
        go_wp2_with fail
        refine HI.out.mono ?_
        rw [HI1.out]
        rintro e w1 ⟨rfl, hb1⟩
        have S1 := Lib.hid (HS0.out.on hb1); clear hb1
        have c1 := S1.out.box
        go_wp2_with fail
        go_region_with (go_at_call 60; refine (HIM.out _ (S1.out.drew.row HA.out)).mono ?_; rintro e w2 ⟨rfl, hb2⟩; have S2 := Lib.hid (S1.out.drew.on hb2); clear hb2)
        all_goals
          go_wp2_with fail
          go_quiet (fail)
          go_wp2
          go_ret
          refine ⟨ret_bool (by rw [HG.out, HE.out, Bool.and_false]), below_drewN (Stands.below (T := 28) (va := va) (Hid.out ?_)) _⟩
          assumption
      · have HE := Lib.hid (show (t[0] == s[0]) = true by rw [beq_iff_eq] at q2 ⊢; apply UInt8.toNat_inj.1; omega)
        go_enter Try.func54, Try.ntmps54
        go_wp2_with fail
        refine HI.out.mono ?_
        rw [HI1.out]
        rintro e w1 ⟨rfl, hb1⟩
        have S1 := Lib.hid (HS0.out.on hb1); clear hb1
        have c1 := S1.out.box
        go_wp2_with fail
        go_region_with (go_at_call 60; refine (HIM.out _ (S1.out.drew.row HA.out)).mono ?_; rintro e w2 ⟨rfl, hb2⟩; have S2 := Lib.hid (S1.out.drew.on hb2); clear hb2)
        all_goals
          go_wp2_with fail
          go_quiet (fail)
          go_wp2
          go_ret
          refine ⟨ret_bool (by rw [HG.out, HE.out, decide_eq_true (show (1 : Int) < (t.size : Int) by omega)]; rfl), below_drewN (Stands.below (T := 28) (va := va) (Hid.out ?_)) _⟩
          assumption
    · have d1 : decide ((1 : Int) < (t.size : Int)) = false := decide_eq_false (by omega)
      rw [d1] at HG
      go_enter Try.func54, Try.ntmps54
      go_wp2_with fail
      refine HI.out.mono ?_
      rw [HI1.out]
      rintro e w1 ⟨rfl, hb1⟩
      have S1 := Lib.hid (HS0.out.on hb1); clear hb1
      have c1 := S1.out.box
      go_wp2_with fail
      go_region_with (go_at_call 60; refine (HIM.out _ (S1.out.drew.row HA.out)).mono ?_; rintro e w2 ⟨rfl, hb2⟩; have S2 := Lib.hid (S1.out.drew.on hb2); clear hb2)
      all_goals
        go_wp2_with fail
        go_quiet (fail)
        go_wp2
        go_ret
        refine ⟨ret_bool (by rw [HG.out]; rfl), below_drewN (Stands.below (T := 28) (va := va) (Hid.out ?_)) _⟩
        assumption
set_option maxHeartbeats 1000000 in
theorem l05Grows_any (xs : List ByteArray) (va : Value) (k : Nat) (w : World) (ha : Row1 w w.heap.size va (xs.map .string)) (hx : substB xs = true) (hk : k < xs.length) :
    Calls Try.prog 73 #[.agg #[va], .int .i64 k] w fun e w' => e = .returned (.bool (growC xs (lc k))) ∧ Below w.heap.size w w' := by
  have s0 := Stands.start w 28 va
  have h4 := (subst_parts hx).2.1
  obtain ⟨b, o, cp, rfl, hbB, hc, hcell⟩ := ha.openAt (by omega)
  have hn := lc_nat (j := k) (by omega)
  have hi : imgAt xs (lc k) = xs[k] := by
    have := imgAt_get (xs := xs) (c := lc k) (by omega)
    rw [this]; congr 1; omega
  have hok := imgAt_ok hx (c := lc k) (by omega)
  rw [hi] at hok
  have ho1 := hok.1
  have ho8 := hok.2.1
  have g1 := (s0.below.cell (p := ⟨b, o + k, none⟩) hbB).trans (hcell k hk)
  obtain ⟨t, ht⟩ : ∃ t, xs[k] = t := ⟨_, rfl⟩
  rw [ht] at g1 ho1 ho8 hi hok
  have hb1 := word_byte (word_letters (wordIn_parts hok.2.2).2) 0 (by omega)
  obtain ⟨hb2, hb3⟩ := hb1
  have hg : growC xs (lc k) = (decide ((1 : Int) < (t.size : Int)) && ((t[0].toNat : Int) - 97 == (k : Int))) := by
    unfold growC
    rw [hi, head_get (by omega)]
    congr 1
    rw [Bool.eq_iff_iff, beq_iff_eq, beq_iff_eq]
    constructor
    · intro h; rw [h, hn]; omega
    · intro h; apply UInt8.toNat_inj.1; rw [hn]; omega
  have HG := Lib.hid hg
  have HS0 := Lib.hid s0
  have c0 := s0.box
  clear hg hi ht hn hcell ha s0 hx
  by_cases q : 1 < t.size
  · go_enter Try.func73, Try.ntmps73
    go_wp2
    go_ret
    exact ⟨ret_bool (by rw [HG.out, decide_eq_true (show (1 : Int) < (t.size : Int) by omega)] <;> rfl), HS0.out.below⟩
  · go_enter Try.func73, Try.ntmps73
    go_wp2
    go_ret
    exact ⟨ret_bool (by rw [HG.out, decide_eq_false (show ¬ (1 : Int) < (t.size : Int) by omega)]; rfl), HS0.out.below⟩
end Go.Proofs.Ytglleimmmfnhcaa
