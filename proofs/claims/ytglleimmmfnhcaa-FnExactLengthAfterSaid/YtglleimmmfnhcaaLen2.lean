/- Walks: the length of a word after applications, the program's way. -/
import Derived.Test.YtglleimmmfnhcaaLen
import Derived.Test.YtglleimmmfnhcaaCnt2
namespace Go.Proofs.Ytglleimmmfnhcaa
open Go.RowKit
set_option maxRecDepth 20000

set_option maxHeartbeats 2000000 in
theorem implLengthAfter_any (xs : List ByteArray) (va : Value) (t : ByteArray) (n : Int) (w : World) (ha : Row1 w w.heap.size va (xs.map .string)) (hs : ∀ s ∈ xs, s.size ≤ maxLen) (ht : t.size ≤ maxLen) :
    Calls Try.prog 37 #[.agg #[va], .string t, .int .i64 n] w fun e w' => e = .returned (.int .i64 (lnR xs t.data.toList n)) ∧ Below w.heap.size w w' := by
  obtain ⟨i0, hi, hz0, hz1, hz2⟩ := info_parts info_int
  have HI := Lib.hid hi; have HZ0 := Lib.hid hz0; have HZ1 := Lib.hid hz1; have HZ2 := Lib.hid hz2
  clear hi hz0 hz1 hz2
  obtain ⟨A, cp, rfl⟩ := ha.shape
  have s0 := Stands.start w 28 (.slice A xs.length cp)
  have HS0 := Lib.hid s0
  have HA := Lib.hid ha
  have HOK := Lib.hid (implSubstOk_any xs (.slice A xs.length cp) _ (s0.row ha) hs)
  have HHI := Lib.hid (fun W (S : Stands w 28 (.slice A xs.length cp) W) => hasImage_any xs _ t W (S.row HA.out) ht)
  have HCA := Lib.hid (fun cs vc W hR hc => implCountAfter_any xs cs n (.slice A xs.length cp) vc W hR hs hc)
  have c0 := s0.box
  clear s0 ha hs
  cases hx : substB xs
  · have HF := Lib.hid (ln_none (t := t.data.toList) (cn_no (cn_no1 (cs := unitL xs.length (letK xs t.data.toList).toNat) (n := n) hx)))
    go_enter Try.func37, Try.ntmps37
    go_wp2_with fail
    refine HOK.out.mono ?_
    rw [hx]
    rintro e w1 ⟨rfl, hb1⟩
    have S1 := Lib.hid (HS0.out.on hb1); clear hb1
    go_wp2_with fail
    go_ret
    exact ⟨by rw [HF.out] <;> rfl, S1.out.below⟩
  have h4x := (subst_parts hx).2.1
  have HX := Lib.hid hx; clear hx
  cases himg : imgB xs t.data.toList
  · have HF := Lib.hid (ln_no (n := n) himg)
    have HM := Lib.hid himg; clear himg
    go_enter Try.func37, Try.ntmps37
    go_wp2_with fail
    refine HOK.out.mono ?_
    rw [HX.out]
    rintro e w1 ⟨rfl, hb1⟩
    have S1 := Lib.hid (HS0.out.on hb1); clear hb1
    have c1 := S1.out.box
    clear c0
    go_wp2_with fail
    refine (HHI.out _ S1.out).mono ?_
    rw [HM.out]
    rintro e w2 ⟨rfl, hb2⟩
    have S2 := Lib.hid (S1.out.on hb2); clear hb2
    go_wp2_with fail
    go_ret
    exact ⟨by rw [HF.out] <;> rfl, S2.out.below⟩
  obtain ⟨hs1, b1, b2, b3⟩ := imgB_letter himg
  have h0 : 0 < t.size := by omega
  obtain ⟨k, hkd⟩ : ∃ k : Nat, k = t[0].toNat - 97 := ⟨_, rfl⟩
  have hkx : k < xs.length := by omega
  have HKN := Lib.hid (show (letK xs t.data.toList).toNat = k by rw [letK_yes himg, head_get h0]; omega)
  have e1 : IntKind.u8.wrap ((t[0].toNat : Int) - 97) = (k : Int) := by rw [IntWalk.u8_in _ ⟨by omega, by omega⟩]; omega
  have hki : (k : Int) < (xs.length : Int) := by omega
  have h0i : (0 : Int) < (t.size : Int) := by omega
  have HIMG := Lib.hid himg
  have HNO := Lib.hid (fun h => ln_none (xs := xs) (t := t.data.toList) (n := n) h)
  have HSO := Lib.hid (fun l h => ln_some (xs := xs) (t := t.data.toList) (n := n) (l := l) HIMG.out h)
  rw [HKN.out] at HNO HSO
  clear himg hkd b1 b2 b3 hs1
  go_enter Try.func37, Try.ntmps37
  go_wp2_with fail
  refine HOK.out.mono ?_
  rw [HX.out]
  rintro e w1 ⟨rfl, hb1⟩
  have S1 := Lib.hid (HS0.out.on hb1); clear hb1
  have c1 := S1.out.box
  clear c0
  go_wp2_with fail
  refine (HHI.out _ S1.out).mono ?_
  rw [HIMG.out]
  rintro e w2 ⟨rfl, hb2⟩
  have S2 := Lib.hid (S1.out.on hb2); clear hb2 c1
  have c2 := S2.out.box
  go_wp2_with (at_make; refine wpList_make_full _ rfl _ _ 41 rfl w2.heap.size 3 i0 _ 1 Try.underlying41 HI.out HZ0.out HZ1.out _ _ _ _ xs.length rfl rfl rfl rfl (by rw [HZ2.out]; omega) (by unfold maxLen; omega) (Nat.le_refl _) ?_)
  intro w3 hown3 hgrow3
  rw [toList_madeCells_one] at hown3
  have HO3 := Lib.hid (show w3.ownsRow w2.heap.size 3 1 (.slice (some ⟨w2.heap.size, 0, none⟩) xs.length xs.length) xs.length (ints (List.replicate xs.length 0)) from by simpa [ints] using hown3)
  have HB3 := Lib.hid ((Below.refl w2.heap.size w2).grown hgrow3 (Nat.le_refl _) (fun g hg => by cases hg))
  have S3 := Lib.hid (S2.out.on HB3.out)
  have c3 := S3.out.box
  have g8 := HO3.out.cellAt k (by omega)
  rw [show (ints (List.replicate xs.length 0))[k]? = some (.int .i64 0) by simp [ints, hkx]] at g8
  have g9 := HO3.out.frozenAt k
  have h4 := HO3.out.stored k (.int .i64 1)
  rw [← List.map_set] at h4
  have HO4 := Lib.hid (show (w3.setCell ⟨w2.heap.size, k, none⟩ (.int .i64 1)).ownsRow w2.heap.size 3 1 (.slice (some ⟨w2.heap.size, 0, none⟩) xs.length xs.length) xs.length (ints (unitL xs.length k)) from h4.1)
  have S4 := Lib.hid (stands_grown S3.out h4.2 (fun g hg => by have := S2.out.size; simp at hg; omega))
  have c4 := S4.out.box
  have HUL := Lib.hid (show (unitL xs.length k).length = xs.length by simp [unitL])
  clear hown3 hgrow3 c2 h4
  go_wp2_with fail
  refine (HCA.out (unitL xs.length k) _ _ (S4.out.row HA.out) (Row1.own HO4.out (by rw [ints_len, HUL.out]))).mono ?_
  rintro e w5 ⟨v, rfl, ho5, hb5⟩
  have S5 := Lib.hid (S4.out.on hb5)
  rcases hcn : cnP xs (unitL xs.length k) n with _ | l
  · have HF := Lib.hid (HNO.out hcn)
    clear ho5 hb5 c3 c4 g8 g9 hcn
    go_wp2_with fail
    go_ret
    exact ⟨by rw [HF.out] <;> rfl, S5.out.below⟩
  · have HF := Lib.hid (HSO.out l hcn)
    obtain ⟨hl1, hl2, hl3⟩ := cn_facts hcn
    rw [hl3, hl1] at ho5
    obtain ⟨g, gc, rfl, _, _⟩ := ho5.form (by omega)
    have HO5 := Lib.hid ho5; have HSM := Lib.hid hl2; have HL1 := Lib.hid hl1
    clear ho5 hb5 c3 c4 g8 g9 hcn hl1 hl2 hl3
    go_wp2_with fail
    go_loop [10, 42] (fun x j => ∃ m : Nat, m ≤ xs.length ∧ j = .int .i64 m ∧ x = .int .i64 (sumTo l m)) (fun _ j => xs.length - (intOf j).toNat)
    case atStart => exact ⟨0, Nat.zero_le _, rfl, rfl⟩
    case round =>
      obtain ⟨m, hm, rfl, rfl⟩ := hrel
      obtain ⟨d1, d2⟩ := sum_bound HSM.out m
      by_cases hml : m < xs.length
      · have g6 := HO5.out.cellAt m (by omega)
        have hg6 : (ints l)[m]? = some (.int .i64 (l.getD m 0)) := by
          rw [List.getElem?_map, List.getElem?_eq_getElem (by have := HL1.out; omega), List.getD_eq_getElem?_getD, List.getElem?_eq_getElem (by have := HL1.out; omega)]; rfl
        rw [hg6] at g6
        have hb2 := small_get HSM.out (by omega) m
        have HD := Lib.hid (show sumTo l (m + 1) = sumTo l m + l.getD m 0 from rfl)
        obtain ⟨z, hz⟩ : ∃ z, z = l.getD m 0 := ⟨_, rfl⟩
        obtain ⟨d, hd⟩ : ∃ d, d = sumTo l m := ⟨_, rfl⟩
        rw [← hz] at g6 HD hb2
        rw [← hd] at HD d1 d2 ⊢
        clear hg6 hz hd
        go_wp2
        go_round
        case rel => exact ⟨m + 1, by omega, by go_num, by rw [HD.out]⟩
        case measure => simp [intOf]; omega
      · obtain rfl : m = xs.length := by omega
        go_wp2
        go_ret
        exact ⟨by rw [HF.out, HL1.out] <;> rfl, S5.out.below⟩
end Go.Proofs.Ytglleimmmfnhcaa
