/- Walks: the index of a letter with an image. -/
import Derived.Test.YtglleimmmfnhcaaGrow
namespace Go.Proofs.Ytglleimmmfnhcaa
open Go.RowKit
set_option maxRecDepth 20000

def letK (xs : List ByteArray) (l : List UInt8) : Int := if imgB xs l = true then ((l.headD 0).toNat : Int) - 97 else -1
theorem letK_no {xs : List ByteArray} {l : List UInt8} (h : imgB xs l = false) : letK xs l = -1 := by unfold letK; rw [h]; rfl
theorem letK_yes {xs : List ByteArray} {l : List UInt8} (h : imgB xs l = true) : letK xs l = ((l.headD 0).toNat : Int) - 97 := by unfold letK; rw [if_pos h]
theorem one_byte {t : ByteArray} (h : t.size = 1) : ∃ c, t = ⟨#[c]⟩ := by
  obtain ⟨⟨l⟩⟩ := t
  match l, h with
  | [c], _ => exact ⟨c, rfl⟩
theorem img_parts {xs : List ByteArray} {c : UInt8} (h : wordB [c] = true) : imgB xs [c] = decide ((c.toNat : Int) - 97 < xs.length) := by
  rw [imgB_eq]
  have h1 : oneB [c] = true := by rw [← h]; simp [oneB, wordB]
  rw [h1, h]; simp [inB]
theorem img_at {xs : List ByteArray} {t : ByteArray} (h1 : t.size = 1) (h : wordB t.data.toList = true) (h0 : 0 < t.size) : imgB xs t.data.toList = decide ((t[0].toNat : Int) - 97 < xs.length) ∧ (97 : Int) ≤ (t[0].toNat : Int) ∧ (t[0].toNat : Int) ≤ 100 ∧ t.data.toList.headD 0 = t[0] := by
  obtain ⟨q1, q2⟩ := word_byte (word_letters h) 0 h0
  obtain ⟨c, rfl⟩ := one_byte h1
  exact ⟨img_parts h, q1, q2, rfl⟩
theorem img_letter {xs : List ByteArray} {t : ByteArray} (h : imgB xs t.data.toList = true) : ∃ k, k < xs.length ∧ t = ltr k ∧ k < 4 ∧ letK xs t.data.toList = k := by
  have hk := letK_yes h
  rw [imgB_eq, Bool.and_eq_true, Bool.and_eq_true] at h
  obtain ⟨h1, h2, h3⟩ := h
  have hs : t.size = 1 := by
    by_cases hs : t.size = 1
    · exact hs
    · rw [oneB_not hs] at h1; cases h1
  obtain ⟨c, rfl⟩ := one_byte hs
  obtain ⟨q1, q2⟩ := word_byte (s := ⟨#[c]⟩) (word_letters h3) 0 (by show 0 < 1; omega)
  have q1' : (97 : Int) ≤ (c.toNat : Int) := q1
  have q2' : (c.toNat : Int) ≤ 100 := q2
  have h4 : (c.toNat : Int) - 97 < xs.length := by simpa [inB] using h2
  have hk' : letK xs (⟨#[c]⟩ : ByteArray).data.toList = ((c.toNat : Int)) - 97 := hk
  refine ⟨c.toNat - 97, by omega, ?_, by omega, by rw [hk']; omega⟩
  unfold ltr
  congr 3
  apply UInt8.toNat_inj.1
  rw [lc_nat (by omega)]; omega
set_option maxHeartbeats 1000000 in
theorem l04Letter_any (xs : List ByteArray) (va : Value) (t : ByteArray) (w : World) (ha : Row1 w w.heap.size va (xs.map .string)) (ht : t.size ≤ maxLen) :
    Calls Try.prog 57 #[.agg #[va], .string t] w fun e w' => e = .returned (.int .i64 (letK xs t.data.toList)) ∧ Below w.heap.size w w' := by
  obtain ⟨A, cp, rfl⟩ := ha.shape
  have s0 := Stands.start w 28 (.slice A xs.length cp)
  have c0 := s0.box
  have HS0 := Lib.hid s0; clear s0 ha
  by_cases h1 : t.size = 1
  · cases b2 : wordB t.data.toList
    · have HK := Lib.hid (letK_no (xs := xs) (l := t.data.toList) (by rw [imgB_eq, b2]; simp))
      go_enter Try.func57, Try.ntmps57
      go_wp2_with fail
      refine (specWordOk_any _ _ ht).mono ?_
      rw [b2]
      rintro e w' ⟨rfl, rfl⟩
      go_wp2_with fail
      go_ret
      exact ⟨by rw [HK.out] <;> rfl, HS0.out.below⟩
    · have HB2 := Lib.hid b2
      have h0 : 0 < t.size := by omega
      obtain ⟨hi, q1, q2, hh⟩ := img_at (xs := xs) h1 b2 h0
      clear b2
      by_cases hlt : (t[0].toNat : Int) - 97 < xs.length
      · have HK := Lib.hid (show letK xs t.data.toList = (t[0].toNat : Int) - 97 by rw [letK_yes (by rw [hi]; exact decide_eq_true hlt), hh])
        clear hi hh
        go_enter Try.func57, Try.ntmps57
        go_wp2_with fail
        refine (specWordOk_any _ _ ht).mono ?_
        rw [HB2.out]
        rintro e w' ⟨rfl, rfl⟩
        go_wp2_with fail
        go_ret
        exact ⟨by rw [HK.out] <;> rfl, HS0.out.below⟩
      · have HK := Lib.hid (letK_no (xs := xs) (l := t.data.toList) (by rw [hi]; exact decide_eq_false hlt))
        clear hi hh
        go_enter Try.func57, Try.ntmps57
        go_wp2_with fail
        refine (specWordOk_any _ _ ht).mono ?_
        rw [HB2.out]
        rintro e w' ⟨rfl, rfl⟩
        go_wp2_with fail
        go_ret
        exact ⟨by rw [HK.out] <;> rfl, HS0.out.below⟩
  · have HK := Lib.hid (letK_no (xs := xs) (l := t.data.toList) (by rw [imgB_eq, oneB_not h1]; rfl))
    go_enter Try.func57, Try.ntmps57
    go_wp2_with fail
    go_ret
    exact ⟨by rw [HK.out] <;> rfl, HS0.out.below⟩
end Go.Proofs.Ytglleimmmfnhcaa
