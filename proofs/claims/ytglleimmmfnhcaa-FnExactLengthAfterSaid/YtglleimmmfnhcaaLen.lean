/- Walks: the length of a word after applications. -/
import Derived.Test.YtglleimmmfnhcaaCnt
import Derived.Test.YtglleimmmfnhcaaLetter
import Derived.Test.YtglleimmmfnhcaaGrow
namespace Go.Proofs.Ytglleimmmfnhcaa
open Go.RowKit
set_option maxRecDepth 20000

def unitL (n k : Nat) : List Int := (List.replicate n (0 : Int)).set k 1
def sumTo (l : List Int) : Nat → Int
  | 0 => 0
  | k + 1 => sumTo l k + l.getD k 0
/-- what LengthAfter returns -/
def lnR (xs : List ByteArray) (t : List UInt8) (n : Int) : Int := if imgB xs t = true then (match cnP xs (unitL xs.length (letK xs t).toNat) n with | some l => sumTo l l.length | none => -1) else -1
theorem ln_no {xs : List ByteArray} {t : List UInt8} {n : Int} (h : imgB xs t = false) : lnR xs t n = -1 := by unfold lnR; rw [h]; rfl
theorem ln_none {xs : List ByteArray} {t : List UInt8} {n : Int} (h : cnP xs (unitL xs.length (letK xs t).toNat) n = none) : lnR xs t n = -1 := by unfold lnR; rw [h]; split <;> rfl
theorem ln_some {xs : List ByteArray} {t : List UInt8} {n : Int} {l : List Int} (h0 : imgB xs t = true) (h : cnP xs (unitL xs.length (letK xs t).toNat) n = some l) : lnR xs t n = sumTo l l.length := by unfold lnR; rw [h, if_pos h0]
theorem caGo_small {m : List (List Int)} (h1 : ∀ r ∈ m, small 8 r) : ∀ (n : Nat) (now r : List Int), small 1000000000000 now → caGo m n now = some r → small 1000000000000 r
  | 0, now, r, h, e => by rw [caGo] at e; cases e; exact h
  | n + 1, now, r, h, e => by
    rw [caGo] at e
    split at e
    · rename_i hok
      exact caGo_small h1 n _ r (caOk_small hok (caStep_nonneg h1 h)) e
    · cases e
theorem cn_facts {xs : List ByteArray} {cs : List Int} {n : Int} {l : List Int} (h : cnP xs cs n = some l) : l.length = xs.length ∧ small 1000000000000 l ∧ cnR xs cs n = l := by
  refine ⟨?_, ?_, by unfold cnR; rw [h]; rfl⟩
  all_goals
    unfold cnP at h
    split at h
    case isFalse => cases h
    case isTrue hb =>
      unfold cnB at hb
      simp only [Bool.and_eq_true, decide_eq_true_eq, List.all_eq_true] at hb
      obtain ⟨⟨⟨hx, hl⟩, _⟩, hc⟩ := hb
      first
        | (have := caGo_len _ _ _ _ (by rw [matR_len]; exact hl) h; rw [matR_len] at this; exact this)
        | exact caGo_small (matR_small hx) _ _ _ (fun c hcc => by have := hc c hcc; omega) h
theorem sum_bound {l : List Int} (h : small 1000000000000 l) : ∀ k, 0 ≤ sumTo l k ∧ sumTo l k ≤ 1000000000000 * k
  | 0 => by simp [sumTo]
  | k + 1 => by
    have h1 := sum_bound h k
    have h2 := small_get h (by omega) k
    rw [sumTo]; simp only [Int.natCast_add, Int.natCast_one]; omega
set_option maxHeartbeats 2000000 in
theorem specLengthAfter_any (xs : List ByteArray) (va : Value) (t : ByteArray) (n : Int) (w : World) (ha : Row1 w w.heap.size va (xs.map .string)) (hs : ∀ s ∈ xs, s.size ≤ maxLen) (ht : t.size ≤ maxLen) :
    Calls Try.prog 36 #[.agg #[va], .string t, .int .i64 n] w fun e w' => e = .returned (.int .i64 (lnR xs t.data.toList n)) ∧ Below w.heap.size w w' := by
  obtain ⟨i0, hi, hz0, hz1, hz2⟩ := info_parts info_int
  have HI := Lib.hid hi; have HZ0 := Lib.hid hz0; have HZ1 := Lib.hid hz1; have HZ2 := Lib.hid hz2
  clear hi hz0 hz1 hz2
  obtain ⟨A, cp, rfl⟩ := ha.shape
  have s0 := Stands.start w 28 (.slice A xs.length cp)
  have HS0 := Lib.hid s0
  have HA := Lib.hid ha
  have HLT := Lib.hid (l04Letter_any xs _ t _ (s0.row ha) ht)
  have HOK := Lib.hid (fun W hR => specSubstOk_any xs (.slice A xs.length cp) W hR hs)
  have HCA := Lib.hid (fun cs vc W hR hc => specCountAfter_any xs cs n (.slice A xs.length cp) vc W hR hs hc)
  have c0 := s0.box
  clear s0 ha hs
  cases himg : imgB xs t.data.toList
  · have HF := Lib.hid (ln_no (n := n) himg)
    have HK := Lib.hid (letK_no himg)
    clear himg
    go_enter Try.func36, Try.ntmps36
    go_wp2_with fail
    refine HLT.out.mono ?_
    rw [HK.out]
    rintro e w1 ⟨rfl, hb1⟩
    have S1 := Lib.hid (HS0.out.on hb1); clear hb1
    go_wp2_with fail
    go_ret
    exact ⟨by rw [HF.out] <;> rfl, S1.out.below⟩
  obtain ⟨k, hkx, htl, hk4, hk⟩ := img_letter himg
  clear htl
  have HIMG := Lib.hid himg; clear himg
  cases hx : substB xs
  · have HF := Lib.hid (ln_none (t := t.data.toList) (cn_no (cn_no1 (cs := unitL xs.length (letK xs t.data.toList).toNat) (n := n) hx)))
    have HK := Lib.hid hk; clear hk
    go_enter Try.func36, Try.ntmps36
    go_wp2_with fail
    refine HLT.out.mono ?_
    rw [HK.out]
    rintro e w1 ⟨rfl, hb1⟩
    have S1 := Lib.hid (HS0.out.on hb1); clear hb1
    have c1 := S1.out.box
    clear c0
    go_wp2_with fail
    refine (HOK.out _ (S1.out.row HA.out)).mono ?_
    rw [hx]
    rintro e w2 ⟨rfl, hb2⟩
    have S2 := Lib.hid (S1.out.on hb2); clear hb2
    go_wp2_with fail
    go_ret
    exact ⟨by rw [HF.out] <;> rfl, S2.out.below⟩
  have h4x := (subst_parts hx).2.1
  have HX := Lib.hid hx; clear hx
  have HKN := Lib.hid (show (letK xs t.data.toList).toNat = k by rw [hk]; rfl)
  have HNO := Lib.hid (fun h => ln_none (xs := xs) (t := t.data.toList) (n := n) h)
  have HSO := Lib.hid (fun l h => ln_some (xs := xs) (t := t.data.toList) (n := n) (l := l) HIMG.out h)
  rw [HKN.out] at HNO HSO
  have HK := Lib.hid hk; clear hk
  go_enter Try.func36, Try.ntmps36
  go_wp2_with fail
  refine HLT.out.mono ?_
  rw [HK.out]
  rintro e w1 ⟨rfl, hb1⟩
  have S1 := Lib.hid (HS0.out.on hb1); clear hb1
  have c1 := S1.out.box
  clear c0
  go_wp2_with fail
  refine (HOK.out _ (S1.out.row HA.out)).mono ?_
  rw [HX.out]
  rintro e w2 ⟨rfl, hb2⟩
  have S2 := Lib.hid (S1.out.on hb2); clear hb2 c1
  have c2 := S2.out.box
  go_wp2_with (at_make; refine wpList_make_full _ rfl _ _ 41 rfl w2.heap.size 3 i0 _ 1 Try.underlying41 HI.out HZ0.out HZ1.out _ _ _ _ xs.length rfl rfl rfl rfl (by rw [HZ2.out]; omega) (by unfold maxLen; omega) (Nat.le_refl _) ?_)
  intro w3 hown3 hgrow3
  rw [toList_madeCells_one] at hown3
  have HO3 := Lib.hid (show w3.ownsRow w2.heap.size 3 1 (.slice (some ⟨w2.heap.size, 0, none⟩) xs.length xs.length) xs.length (ints (List.replicate xs.length 0)) from by simpa [ints] using hown3)
  have HB3 := Lib.hid ((Below.refl w2.heap.size w2).grown hgrow3 (Nat.le_refl _) (fun g hg => by cases hg))
  have S3 := Lib.hid (S2.out.on HB3.out)
  have c3 := S3.out.box
  have g8 := HO3.out.cellAt k (by omega)
  rw [show (ints (List.replicate xs.length 0))[k]? = some (.int .i64 0) by simp [ints, hkx]] at g8
  have g9 := HO3.out.frozenAt k
  have h4 := HO3.out.stored k (.int .i64 1)
  rw [← List.map_set] at h4
  have HO4 := Lib.hid (show (w3.setCell ⟨w2.heap.size, k, none⟩ (.int .i64 1)).ownsRow w2.heap.size 3 1 (.slice (some ⟨w2.heap.size, 0, none⟩) xs.length xs.length) xs.length (ints (unitL xs.length k)) from h4.1)
  have S4 := Lib.hid (stands_grown S3.out h4.2 (fun g hg => by have := S2.out.size; simp at hg; omega))
  have c4 := S4.out.box
  have HUL := Lib.hid (show (unitL xs.length k).length = xs.length by simp [unitL])
  clear hown3 hgrow3 c2 h4
  go_wp2_with fail
  refine (HCA.out (unitL xs.length k) _ _ (S4.out.row HA.out) (Row1.own HO4.out (by rw [ints_len, HUL.out]))).mono ?_
  rintro e w5 ⟨v, rfl, ho5, hb5⟩
  have S5 := Lib.hid (S4.out.on hb5)
  rcases hcn : cnP xs (unitL xs.length k) n with _ | l
  · have HF := Lib.hid (HNO.out hcn)
    clear ho5 hb5 c3 c4 g8 g9 hcn
    go_wp2_with fail
    go_ret
    exact ⟨by rw [HF.out] <;> rfl, S5.out.below⟩
  · have HF := Lib.hid (HSO.out l hcn)
    obtain ⟨hl1, hl2, hl3⟩ := cn_facts hcn
    rw [hl3, hl1] at ho5
    obtain ⟨g, gc, rfl, _, _⟩ := ho5.form (by omega)
    have HO5 := Lib.hid ho5; have HSM := Lib.hid hl2; have HL1 := Lib.hid hl1
    clear ho5 hb5 c3 c4 g8 g9 hcn hl1 hl2 hl3
    go_wp2_with fail
    go_loop [11, 42] (fun x j => ∃ m : Nat, m ≤ xs.length ∧ j = .int .i64 m ∧ x = .int .i64 (sumTo l m)) (fun _ j => xs.length - (intOf j).toNat)
    case atStart => exact ⟨0, Nat.zero_le _, rfl, rfl⟩
    case round =>
      obtain ⟨m, hm, rfl, rfl⟩ := hrel
      obtain ⟨d1, d2⟩ := sum_bound HSM.out m
      by_cases hml : m < xs.length
      · have g6 := HO5.out.cellAt m (by omega)
        have hg6 : (ints l)[m]? = some (.int .i64 (l.getD m 0)) := by
          rw [List.getElem?_map, List.getElem?_eq_getElem (by have := HL1.out; omega), List.getD_eq_getElem?_getD, List.getElem?_eq_getElem (by have := HL1.out; omega)]; rfl
        rw [hg6] at g6
        have hb2 := small_get HSM.out (by omega) m
        have HD := Lib.hid (show sumTo l (m + 1) = sumTo l m + l.getD m 0 from rfl)
        obtain ⟨z, hz⟩ : ∃ z, z = l.getD m 0 := ⟨_, rfl⟩
        obtain ⟨d, hd⟩ : ∃ d, d = sumTo l m := ⟨_, rfl⟩
        rw [← hz] at g6 HD hb2
        rw [← hd] at HD d1 d2 ⊢
        clear hg6 hz hd
        go_wp2
        go_round
        case rel => exact ⟨m + 1, by omega, by go_num, by rw [HD.out]⟩
        case measure => simp [intOf]; omega
      · obtain rfl : m = xs.length := by omega
        go_wp2
        go_ret
        exact ⟨by rw [HF.out, HL1.out] <;> rfl, S5.out.below⟩
end Go.Proofs.Ytglleimmmfnhcaa
