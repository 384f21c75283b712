/- Walks: a word with its letters exchanged. -/
import Derived.Test.YtnnkhjjecmldfaaLet
import Derived.Test.YtnnkhjjecmldfaaBytes
import Derived.Deep.AppendLies
namespace Go.Proofs.Ytnnkhjjecmldfaa
open Go.RowKit
set_option maxRecDepth 20000

/-- each of the four letters stands once -/
def each1 (t : List UInt8) : Bool := decide (countC t 97 = 1) && (decide (countC t 98 = 1) && (decide (countC t 99 = 1) && decide (countC t 100 = 1)))
def swB (s t : List UInt8) : Bool := wordB s && (decide (t.length = 4) && each1 t)
def swb (t : List UInt8) (x : UInt8) : UInt8 := t.getD (x.toNat - 97) 0
/-- the letters that SwapLetters returns -/
def swL (s t : List UInt8) : List UInt8 := if swB s t = true then s.map (swb t) else []
theorem count_four : ∀ (l : List UInt8), countC l 97 + countC l 98 + countC l 99 + countC l 100 = (l.filter letterB).length
  | [] => rfl
  | x :: l => by
    have ih := count_four l
    have hcons : ∀ c, countC (x :: l) c = countC l c + if x = c then 1 else 0 := by
      intro c; unfold countC; by_cases h : x = c <;> simp [h]
    rw [hcons, hcons, hcons, hcons, List.filter_cons]
    by_cases h : letterB x = true
    · rw [if_pos h, List.length_cons, ← ih]
      have h2 : x = 97 ∨ x = 98 ∨ x = 99 ∨ x = 100 := by
        simp only [letterB, Bool.and_eq_true, decide_eq_true_eq] at h
        rcases (show x.toNat = 97 ∨ x.toNat = 98 ∨ x.toNat = 99 ∨ x.toNat = 100 by omega) with h | h | h | h
        · exact .inl (UInt8.toNat_inj.1 h)
        · exact .inr (.inl (UInt8.toNat_inj.1 h))
        · exact .inr (.inr (.inl (UInt8.toNat_inj.1 h)))
        · exact .inr (.inr (.inr (UInt8.toNat_inj.1 h)))
      rcases h2 with rfl | rfl | rfl | rfl <;> simp <;> omega
    · rw [if_neg h]
      have n : ∀ c : UInt8, letterB c = true → x ≠ c := fun c hc e => h (e ▸ hc)
      rw [if_neg (n 97 (by decide)), if_neg (n 98 (by decide)), if_neg (n 99 (by decide)), if_neg (n 100 (by decide))]
      exact ih
theorem each_word {t : List UInt8} (h4 : t.length = 4) (h : each1 t = true) : wordB t = true := by
  simp only [each1, Bool.and_eq_true, decide_eq_true_eq] at h
  obtain ⟨h1, h2, h3, h5⟩ := h
  have hc := count_four t
  rw [h1, h2, h3, h5] at hc
  have := List.length_filter_eq_length_iff.1 (show (t.filter letterB).length = t.length by omega)
  simp only [wordB, Bool.and_eq_true, decide_eq_true_eq, List.all_eq_true]
  exact ⟨by omega, this⟩
theorem each_of {t : List UInt8} (h : ∀ j, j < 4 → countC t (lc j) = 1) : each1 t = true := by
  simp only [each1, Bool.and_eq_true, decide_eq_true_eq]
  exact ⟨h 0 (by omega), h 1 (by omega), h 2 (by omega), h 3 (by omega)⟩
theorem each_not {t : List UInt8} {j : Nat} (hj : j < 4) (h : countC t (lc j) ≠ 1) : each1 t = false := by
  rw [← Bool.not_eq_true]
  intro h2
  simp only [each1, Bool.and_eq_true, decide_eq_true_eq] at h2
  obtain ⟨h1, h2, h3, h5⟩ := h2
  rcases (show j = 0 ∨ j = 1 ∨ j = 2 ∨ j = 3 by omega) with rfl | rfl | rfl | rfl
  · exact h h1
  · exact h h2
  · exact h h3
  · exact h h5
theorem four_is {t : ByteArray} (h : t.size = 4) : ∃ a b c d, t = ⟨#[a, b, c, d]⟩ := by
  obtain ⟨⟨l⟩⟩ := t
  match l, h with
  | [a, b, c, d], _ => exact ⟨a, b, c, d, rfl⟩
theorem countsL_at (l : List UInt8) {k : Nat} (h : k < 4) : ((countsL l).map (Value.int .i64))[k]? = some (.int .i64 (countC l (lc k))) := by
  rcases (show k = 0 ∨ k = 1 ∨ k = 2 ∨ k = 3 by omega) with rfl | rfl | rfl | rfl <;> rfl
theorem letter_case {x : UInt8} (q1 : (97 : Int) ≤ (x.toNat : Int)) (q2 : (x.toNat : Int) ≤ 100) : x = 97 ∨ x = 98 ∨ x = 99 ∨ x = 100 := by
  rcases (show x.toNat = 97 ∨ x.toNat = 98 ∨ x.toNat = 99 ∨ x.toNat = 100 by omega) with h | h | h | h
  · exact .inl (UInt8.toNat_inj.1 h)
  · exact .inr (.inl (UInt8.toNat_inj.1 h))
  · exact .inr (.inr (.inl (UInt8.toNat_inj.1 h)))
  · exact .inr (.inr (.inr (UInt8.toNat_inj.1 h)))
theorem sw_out {s t : List UInt8} (h : swB s t = false) : swL s t = [] := by unfold swL; rw [h]; rfl
set_option maxHeartbeats 2000000 in
theorem implSwapLetters_any (s t : ByteArray) (w : World) (hs : s.size ≤ maxLen) (ht : t.size ≤ maxLen) :
    Calls Try.prog 47 #[.string s, .string t] w fun e w' => e = .returned (.tuple #[.string ⟨(swL s.data.toList t.data.toList).toArray⟩, .bool (swB s.data.toList t.data.toList)]) ∧ Below w.heap.size w w' := by
  cases b1 : wordB s.data.toList
  · have hb : swB s.data.toList t.data.toList = false := by unfold swB; rw [b1]; rfl
    have HP := Lib.hid (sw_out hb); have HQ := Lib.hid hb
    clear hb
    go_enter Try.func47, Try.ntmps47
    go_wp2_with (go_at_call 66; refine (isWord_any _ _ hs).mono ?_; rw [b1]; rintro e w' ⟨rfl, rfl⟩)
    go_ret2
    exact ⟨by rw [HP.out, HQ.out] <;> rfl, Below.refl _ _⟩
  have HB1 := Lib.hid b1
  have hsl := word_len b1
  have HW := Lib.hid (word_letters b1)
  by_cases h4 : t.size = 4
  · obtain ⟨a, b, c, d, rfl⟩ := four_is h4
    obtain ⟨tl, htl⟩ : ∃ tl, tl = [a, b, c, d] := ⟨_, rfl⟩
    have HT := Lib.hid (show (⟨#[a, b, c, d]⟩ : ByteArray).data.toList = tl from htl.symm)
    have hc0 : ∀ j, Calls Try.prog 68 #[.string ⟨#[a, b, c, d]⟩, .string ⟨#[lc j]⟩] w fun e w' => e = .returned (.int .i64 (countC tl (lc j))) ∧ w' = w := fun j => by
      have := Try.strings_Count_one ⟨#[a, b, c, d]⟩ (lc j) w
      rw [count_same] at this
      rw [htl]; exact this
    have HC := Lib.hid hc0; clear hc0
    have HSW := Lib.hid (show swB s.data.toList tl = each1 tl by unfold swB; rw [b1, htl]; rfl)
    rw [HT.out]
    have HTL := Lib.hid htl
    clear b1 h4 ht htl
    obtain ⟨i0, hi, hz0, hz1, hz2⟩ := info_parts info_byte
    have HO0 := Lib.hid (World.ownsRow_made (base := w.heap.size) (e := 5) (size := 1) w #[] 0 (Nat.le_refl _) (Nat.zero_le _) rfl)
    have HB0 := Lib.hid ((Below.refl w.heap.size w).alloc (Nat.le_refl _) (.cells #[] 5))
    have HI := Lib.hid hi; have HZ0 := Lib.hid hz0; have HZ1 := Lib.hid hz1; have HZ2 := Lib.hid hz2
    clear hi hz0 hz1 hz2
    go_enter Try.func47, Try.ntmps47
    go_wp2_with fail
    refine (isWord_any _ _ hs).mono ?_
    rw [HB1.out]
    rintro e w' ⟨rfl, rfl⟩
    go_wp2_with fail
    go_loop [17] (fun i => ∃ k : Nat, k ≤ 4 ∧ i = .int .i64 k ∧ ∀ j, j < k → countC tl (lc j) = 1) (fun i => 4 - (intOf i).toNat)
    case atStart => exact ⟨0, Nat.zero_le _, rfl, fun j h => by omega⟩
    case round =>
      obtain ⟨k, hk, rfl, hall⟩ := hrel
      have HALL := Lib.hid hall; clear hall
      by_cases hlt : k < 4
      · have e1 := abcd_at hlt
        by_cases hc : countC tl (lc k) = 1
        · have HK := Lib.hid hc
          go_wp2_with fail
          refine (HC.out k).mono ?_
          rw [HK.out]
          rintro e w' ⟨rfl, rfl⟩
          go_wp2_with fail
          go_round
          case rel => exact ⟨k + 1, by omega, by go_num, fun j hj => by
            rcases Nat.lt_succ_iff_lt_or_eq.1 hj with h | rfl
            · exact HALL.out j h
            · exact HK.out⟩
          case measure => simp [intOf]; omega
        · have he := each_not hlt hc
          have HQ := Lib.hid (HSW.out.trans he)
          have HP := Lib.hid (sw_out HQ.out)
          have b1 : ((countC tl (lc k) : Int) == 1) = false := by rw [beq_eq_false_iff_ne]; omega
          clear he hc
          go_wp2_with fail
          refine (HC.out k).mono ?_
          rintro e w' ⟨rfl, rfl⟩
          go_wp2_with fail
          go_ret2
          exact ⟨by rw [HP.out, HQ.out] <;> rfl, Below.refl _ _⟩
      · obtain rfl : k = 4 := by omega
        have HQ := Lib.hid (HSW.out.trans (each_of HALL.out))
        have HP := Lib.hid (show swL s.data.toList tl = s.data.toList.map (swb tl) by unfold swL; rw [if_pos HQ.out])
        go_wp2_with fail
        go_loopw [7, 31] (fun v i wr => ∃ (k g c : Nat), k ≤ s.size ∧ i = .int .i64 k ∧ v = .slice (some ⟨g, 0, none⟩) k c ∧ wr.ownsRow w.heap.size 5 1 (.slice (some ⟨g, 0, none⟩) k c) k (((s.data.toList.take k).map (swb tl)).map byteV) ∧ Below w.heap.size w wr) (fun _ i _ => s.size - (intOf i).toNat)
        case atStart => exact ⟨0, w.heap.size, 0, Nat.zero_le _, rfl, rfl, by simpa using HO0.out, HB0.out⟩
        case round =>
          obtain ⟨k, g, cp, hk, rfl, rfl, ho, hbel⟩ := hrel
          have HO := Lib.hid ho; have HB := Lib.hid hbel; clear ho hbel
          by_cases hlt : k < s.size
          · have HR := Lib.hid (show (s.data.toList.take (k + 1)).map (swb tl) = (s.data.toList.take k).map (swb tl) ++ [swb tl s[k]] by rw [take_snoc s k hlt, List.map_append]; rfl)
            obtain ⟨q1, q2⟩ := word_byte HW.out k hlt
            have hcase := letter_case q1 q2
            obtain ⟨x, hx⟩ : ∃ x, s[k] = x := ⟨_, rfl⟩
            rw [hx] at hcase HR
            clear q1 q2
            have HTL2 := HTL.out
            rcases hcase with rfl | rfl | rfl | rfl
            · go_wp2_with (at_builtin; refine wpList_append_lies _ rfl _ _ 68 rfl w.heap.size 5 i0 (.int .u8 0) 1 1 Try.underlying68 HI.out HZ0.out HZ1.out HZ2.out rfl (by decide) _ _ _ rfl (HO.out.alloc _) ⟨_, 0, none⟩ 1 1 [.int .u8 (swb [a, b, c, d] 97).toNat] rfl rfl ?c1 ?c2 ?c3 ?c4 ?c5 ?c6 _ rfl ?_)
              case c1 => exact cell_one_new _ _ _
              case c2 => intro u hu; simp at hu; subst hu; rfl
              case c3 => omega
              case c4 => unfold maxLen; omega
              case c5 => omega
              case c6 => have := HB.out.size; simp; omega
              intro g1 c1 w1 ho1 hg1 _ _
              have HB1 := Lib.hid ((HB.out.alloc HB.out.size _).grown hg1 (by have := HB.out.size; simp; omega) (fun g hg => (HO.out.lt g hg).1))
              have HO1 := Lib.hid ho1
              clear ho1 hg1
              go_wp2
              go_roundw
              case rel => exact ⟨k + 1, g1, c1, by omega, by go_num, rfl, by rw [HR.out, List.map_append, HTL.out]; simpa [byteV] using HO1.out, HB1.out⟩
              case measure => simp [intOf]; try omega
            · go_wp2_with (at_builtin; refine wpList_append_lies _ rfl _ _ 68 rfl w.heap.size 5 i0 (.int .u8 0) 1 1 Try.underlying68 HI.out HZ0.out HZ1.out HZ2.out rfl (by decide) _ _ _ rfl (HO.out.alloc _) ⟨_, 0, none⟩ 1 1 [.int .u8 (swb [a, b, c, d] 98).toNat] rfl rfl ?c1 ?c2 ?c3 ?c4 ?c5 ?c6 _ rfl ?_)
              case c1 => exact cell_one_new _ _ _
              case c2 => intro u hu; simp at hu; subst hu; rfl
              case c3 => omega
              case c4 => unfold maxLen; omega
              case c5 => omega
              case c6 => have := HB.out.size; simp; omega
              intro g1 c1 w1 ho1 hg1 _ _
              have HB1 := Lib.hid ((HB.out.alloc HB.out.size _).grown hg1 (by have := HB.out.size; simp; omega) (fun g hg => (HO.out.lt g hg).1))
              have HO1 := Lib.hid ho1
              clear ho1 hg1
              go_wp2
              go_roundw
              case rel => exact ⟨k + 1, g1, c1, by omega, by go_num, rfl, by rw [HR.out, List.map_append, HTL.out]; simpa [byteV] using HO1.out, HB1.out⟩
              case measure => simp [intOf]; try omega
            · go_wp2_with (at_builtin; refine wpList_append_lies _ rfl _ _ 68 rfl w.heap.size 5 i0 (.int .u8 0) 1 1 Try.underlying68 HI.out HZ0.out HZ1.out HZ2.out rfl (by decide) _ _ _ rfl (HO.out.alloc _) ⟨_, 0, none⟩ 1 1 [.int .u8 (swb [a, b, c, d] 99).toNat] rfl rfl ?c1 ?c2 ?c3 ?c4 ?c5 ?c6 _ rfl ?_)
              case c1 => exact cell_one_new _ _ _
              case c2 => intro u hu; simp at hu; subst hu; rfl
              case c3 => omega
              case c4 => unfold maxLen; omega
              case c5 => omega
              case c6 => have := HB.out.size; simp; omega
              intro g1 c1 w1 ho1 hg1 _ _
              have HB1 := Lib.hid ((HB.out.alloc HB.out.size _).grown hg1 (by have := HB.out.size; simp; omega) (fun g hg => (HO.out.lt g hg).1))
              have HO1 := Lib.hid ho1
              clear ho1 hg1
              go_wp2
              go_roundw
              case rel => exact ⟨k + 1, g1, c1, by omega, by go_num, rfl, by rw [HR.out, List.map_append, HTL.out]; simpa [byteV] using HO1.out, HB1.out⟩
              case measure => simp [intOf]; try omega
            · go_wp2_with (at_builtin; refine wpList_append_lies _ rfl _ _ 68 rfl w.heap.size 5 i0 (.int .u8 0) 1 1 Try.underlying68 HI.out HZ0.out HZ1.out HZ2.out rfl (by decide) _ _ _ rfl (HO.out.alloc _) ⟨_, 0, none⟩ 1 1 [.int .u8 (swb [a, b, c, d] 100).toNat] rfl rfl ?c1 ?c2 ?c3 ?c4 ?c5 ?c6 _ rfl ?_)
              case c1 => exact cell_one_new _ _ _
              case c2 => intro u hu; simp at hu; subst hu; rfl
              case c3 => omega
              case c4 => unfold maxLen; omega
              case c5 => omega
              case c6 => have := HB.out.size; simp; omega
              intro g1 c1 w1 ho1 hg1 _ _
              have HB1 := Lib.hid ((HB.out.alloc HB.out.size _).grown hg1 (by have := HB.out.size; simp; omega) (fun g hg => (HO.out.lt g hg).1))
              have HO1 := Lib.hid ho1
              clear ho1 hg1
              go_wp2
              go_roundw
              case rel => exact ⟨k + 1, g1, c1, by omega, by go_num, rfl, by rw [HR.out, List.map_append, HTL.out]; simpa [byteV] using HO1.out, HB1.out⟩
              case measure => simp [intOf]; try omega
          · obtain rfl : k = s.size := by omega
            have e2 := take_all s s.size (by omega)
            rw [e2] at HO
            have hback := run_back_bytes HO.out
            go_wp2
            go_ret2
            exact ⟨by rw [HP.out, HQ.out] <;> rfl, HB.out⟩
  · have hb : swB s.data.toList t.data.toList = false := by unfold swB; rw [← Lib.size_eq, decide_eq_false h4]; simp
    have HP := Lib.hid (sw_out hb); have HQ := Lib.hid hb
    clear hb b1
    go_enter Try.func47, Try.ntmps47
    go_wp2_with fail
    refine (isWord_any _ _ hs).mono ?_
    rw [HB1.out]
    rintro e w' ⟨rfl, rfl⟩
    go_wp2_with fail
    go_ret2
    exact ⟨by rw [HP.out, HQ.out] <;> rfl, Below.refl _ _⟩
theorem own_some3 {w : World} {base : Nat} {E : TypeId} {l : List UInt8} {v : Value} {xs : List Value} (h : w.ownsRow base E 1 v (countsL l).length xs) : ∃ g c, v = .slice (some ⟨g, 0, none⟩) 4 c ∧ 4 ≤ c := by
  rcases h.2 with ⟨_, h0⟩ | ⟨g, cap, cur, rfl, _, _, hn, _⟩
  · cases h0
  · exact ⟨_, _, rfl, hn⟩
set_option maxHeartbeats 2000000 in
theorem specSwapLetters_any (s t : ByteArray) (w : World) (hs : s.size ≤ maxLen) (ht : t.size ≤ maxLen) :
    Calls Try.prog 46 #[.string s, .string t] w fun e w' => e = .returned (.tuple #[.string ⟨(swL s.data.toList t.data.toList).toArray⟩, .bool (swB s.data.toList t.data.toList)]) ∧ Below w.heap.size w w' := by
  cases b1 : wordB s.data.toList
  · have hb : swB s.data.toList t.data.toList = false := by unfold swB; rw [b1]; rfl
    have HP := Lib.hid (sw_out hb); have HQ := Lib.hid hb
    clear hb
    go_enter Try.func46, Try.ntmps46
    go_wp2_with (go_at_call 64; refine (specWordOk_any _ _ hs).mono ?_; rw [b1]; rintro e w' ⟨rfl, rfl⟩)
    go_ret2
    exact ⟨by rw [HP.out, HQ.out] <;> rfl, Below.refl _ _⟩
  have HB1 := Lib.hid b1
  have hsl := word_len b1
  have HW := Lib.hid (word_letters b1)
  by_cases h4 : t.size = 4
  · cases b2 : wordB t.data.toList
    · have he : each1 t.data.toList = false := by
        rw [← Bool.not_eq_true]; intro h
        rw [each_word (by rw [← Lib.size_eq]; exact h4) h] at b2; cases b2
      have hb : swB s.data.toList t.data.toList = false := by unfold swB; rw [he]; simp
      have HP := Lib.hid (sw_out hb); have HQ := Lib.hid hb
      have HB2 := Lib.hid b2
      clear hb b1 b2 he
      go_enter Try.func46, Try.ntmps46
      go_wp2_with fail
      refine (specWordOk_any _ _ hs).mono ?_
      rw [HB1.out]
      rintro e w' ⟨rfl, rfl⟩
      go_wp2_with fail
      refine (specWordOk_any _ _ ht).mono ?_
      rw [HB2.out]
      rintro e w' ⟨rfl, rfl⟩
      go_wp2_with fail
      go_ret2
      exact ⟨by rw [HP.out, HQ.out] <;> rfl, Below.refl _ _⟩
    obtain ⟨a, b, c, d, rfl⟩ := four_is h4
    have HCO := Lib.hid (specCountsOf_any ⟨#[a, b, c, d]⟩ w ht)
    have HB2 := Lib.hid (show ∀ W, Calls Try.prog 64 #[.string ⟨#[a, b, c, d]⟩] W fun e w' => e = .returned (.bool true) ∧ W = w' from fun W => by have := specWordOk_any ⟨#[a, b, c, d]⟩ W ht; rw [b2] at this; exact this)
    rw [counts_in b2] at HCO
    obtain ⟨tl, htl⟩ : ∃ tl, tl = [a, b, c, d] := ⟨_, rfl⟩
    have HT := Lib.hid (show (⟨#[a, b, c, d]⟩ : ByteArray).data.toList = tl from htl.symm)
    have HSW := Lib.hid (show swB s.data.toList tl = each1 tl by unfold swB; rw [b1, htl]; rfl)
    rw [HT.out] at HCO ⊢
    have HTL := Lib.hid htl
    clear b1 b2 h4 ht htl
    obtain ⟨i0, hi, hz0, hz1, hz2⟩ := info_parts info_byte
    have HI := Lib.hid hi; have HZ0 := Lib.hid hz0; have HZ1 := Lib.hid hz1; have HZ2 := Lib.hid hz2
    clear hi hz0 hz1 hz2
    go_enter Try.func46, Try.ntmps46
    go_wp2_with fail
    refine (specWordOk_any _ _ hs).mono ?_
    rw [HB1.out]
    rintro e w' ⟨rfl, rfl⟩
    go_wp2_with fail
    refine (HB2.out _).mono ?_
    rintro e w' ⟨rfl, rfl⟩
    go_wp2_with fail
    refine HCO.out.mono ?_
    rintro e w1 ⟨v, rfl, hov, hbv⟩
    obtain ⟨gv, cv, rfl, hc4⟩ := own_some3 hov
    have HV := Lib.hid (fun (k : Nat) (hk : k < 4) => (hov.cellAt k hk).trans (countsL_at tl hk))
    have HO0 := Lib.hid (World.ownsRow_made (base := w.heap.size) (e := 5) (size := 1) w1 #[] 0 hbv.size (Nat.zero_le _) rfl)
    have HB0 := Lib.hid (hbv.alloc hbv.size (.cells #[] 5))
    have HBV := Lib.hid hbv
    clear hov hbv
    go_wp2_with fail
    go_loop [26] (fun i => ∃ k : Nat, k ≤ 4 ∧ i = .int .i64 k ∧ ∀ j, j < k → countC tl (lc j) = 1) (fun i => 4 - (intOf i).toNat)
    case atStart => exact ⟨0, Nat.zero_le _, rfl, fun j h => by omega⟩
    case round =>
      obtain ⟨k, hk, rfl, hall⟩ := hrel
      have HALL := Lib.hid hall; clear hall
      by_cases hlt : k < 4
      · have g1 := HV.out k hlt
        by_cases hc : countC tl (lc k) = 1
        · have HK := Lib.hid hc
          rw [hc] at g1
          clear hc
          go_wp2
          go_round
          case rel => exact ⟨k + 1, by omega, by go_num, fun j hj => by
            rcases Nat.lt_succ_iff_lt_or_eq.1 hj with h | rfl
            · exact HALL.out j h
            · exact HK.out⟩
          case measure => simp [intOf]; omega
        · have he := each_not hlt hc
          have HQ := Lib.hid (HSW.out.trans he)
          have HP := Lib.hid (sw_out HQ.out)
          have b1 : ((countC tl (lc k) : Int) == 1) = false := by rw [beq_eq_false_iff_ne]; omega
          clear he hc
          go_wp2
          go_ret2
          exact ⟨by rw [HP.out, HQ.out] <;> rfl, HBV.out⟩
      · obtain rfl : k = 4 := by omega
        have HQ := Lib.hid (HSW.out.trans (each_of HALL.out))
        have HP := Lib.hid (show swL s.data.toList tl = s.data.toList.map (swb tl) by unfold swL; rw [if_pos HQ.out])
        go_wp2_with fail
        go_loopw [8, 9] (fun v i wr => ∃ (k g c : Nat), k ≤ s.size ∧ i = .int .i64 k ∧ v = .slice (some ⟨g, 0, none⟩) k c ∧ wr.ownsRow w.heap.size 5 1 (.slice (some ⟨g, 0, none⟩) k c) k (((s.data.toList.take k).map (swb tl)).map byteV) ∧ Below w.heap.size w wr) (fun _ i _ => s.size - (intOf i).toNat)
        case atStart => exact ⟨0, w1.heap.size, 0, Nat.zero_le _, rfl, rfl, by simpa using HO0.out, HB0.out⟩
        case round =>
          obtain ⟨k, g, cp, hk, rfl, rfl, ho, hbel⟩ := hrel
          have HO := Lib.hid ho; have HB := Lib.hid hbel; clear ho hbel
          by_cases hlt : k < s.size
          · have HR := Lib.hid (show (s.data.toList.take (k + 1)).map (swb tl) = (s.data.toList.take k).map (swb tl) ++ [swb tl s[k]] by rw [take_snoc s k hlt, List.map_append]; rfl)
            obtain ⟨q1, q2⟩ := word_byte HW.out k hlt
            have hcase := letter_case q1 q2
            obtain ⟨x, hx⟩ : ∃ x, s[k] = x := ⟨_, rfl⟩
            rw [hx] at hcase HR
            clear q1 q2
            have HTL2 := HTL.out
            rcases hcase with rfl | rfl | rfl | rfl
            · go_wp2_with (at_builtin; refine wpList_append_lies _ rfl _ _ 68 rfl w.heap.size 5 i0 (.int .u8 0) 1 1 Try.underlying68 HI.out HZ0.out HZ1.out HZ2.out rfl (by decide) _ _ _ rfl (HO.out.alloc _) ⟨_, 0, none⟩ 1 1 [.int .u8 (swb [a, b, c, d] 97).toNat] rfl rfl ?c1 ?c2 ?c3 ?c4 ?c5 ?c6 _ rfl ?_)
              case c1 => exact cell_one_new _ _ _
              case c2 => intro u hu; simp at hu; subst hu; rfl
              case c3 => omega
              case c4 => unfold maxLen; omega
              case c5 => omega
              case c6 => have := HB.out.size; simp; omega
              intro g1 c1 w2 ho1 hg1 _ _
              have HB1 := Lib.hid ((HB.out.alloc HB.out.size _).grown hg1 (by have := HB.out.size; simp; omega) (fun g hg => (HO.out.lt g hg).1))
              have HO1 := Lib.hid ho1
              clear ho1 hg1
              go_wp2
              go_roundw
              case rel => exact ⟨k + 1, g1, c1, by omega, by go_num, rfl, by rw [HR.out, List.map_append, HTL.out]; simpa [byteV] using HO1.out, HB1.out⟩
              case measure => simp [intOf]; try omega
            · go_wp2_with (at_builtin; refine wpList_append_lies _ rfl _ _ 68 rfl w.heap.size 5 i0 (.int .u8 0) 1 1 Try.underlying68 HI.out HZ0.out HZ1.out HZ2.out rfl (by decide) _ _ _ rfl (HO.out.alloc _) ⟨_, 0, none⟩ 1 1 [.int .u8 (swb [a, b, c, d] 98).toNat] rfl rfl ?c1 ?c2 ?c3 ?c4 ?c5 ?c6 _ rfl ?_)
              case c1 => exact cell_one_new _ _ _
              case c2 => intro u hu; simp at hu; subst hu; rfl
              case c3 => omega
              case c4 => unfold maxLen; omega
              case c5 => omega
              case c6 => have := HB.out.size; simp; omega
              intro g1 c1 w2 ho1 hg1 _ _
              have HB1 := Lib.hid ((HB.out.alloc HB.out.size _).grown hg1 (by have := HB.out.size; simp; omega) (fun g hg => (HO.out.lt g hg).1))
              have HO1 := Lib.hid ho1
              clear ho1 hg1
              go_wp2
              go_roundw
              case rel => exact ⟨k + 1, g1, c1, by omega, by go_num, rfl, by rw [HR.out, List.map_append, HTL.out]; simpa [byteV] using HO1.out, HB1.out⟩
              case measure => simp [intOf]; try omega
            · go_wp2_with (at_builtin; refine wpList_append_lies _ rfl _ _ 68 rfl w.heap.size 5 i0 (.int .u8 0) 1 1 Try.underlying68 HI.out HZ0.out HZ1.out HZ2.out rfl (by decide) _ _ _ rfl (HO.out.alloc _) ⟨_, 0, none⟩ 1 1 [.int .u8 (swb [a, b, c, d] 99).toNat] rfl rfl ?c1 ?c2 ?c3 ?c4 ?c5 ?c6 _ rfl ?_)
              case c1 => exact cell_one_new _ _ _
              case c2 => intro u hu; simp at hu; subst hu; rfl
              case c3 => omega
              case c4 => unfold maxLen; omega
              case c5 => omega
              case c6 => have := HB.out.size; simp; omega
              intro g1 c1 w2 ho1 hg1 _ _
              have HB1 := Lib.hid ((HB.out.alloc HB.out.size _).grown hg1 (by have := HB.out.size; simp; omega) (fun g hg => (HO.out.lt g hg).1))
              have HO1 := Lib.hid ho1
              clear ho1 hg1
              go_wp2
              go_roundw
              case rel => exact ⟨k + 1, g1, c1, by omega, by go_num, rfl, by rw [HR.out, List.map_append, HTL.out]; simpa [byteV] using HO1.out, HB1.out⟩
              case measure => simp [intOf]; try omega
            · go_wp2_with (at_builtin; refine wpList_append_lies _ rfl _ _ 68 rfl w.heap.size 5 i0 (.int .u8 0) 1 1 Try.underlying68 HI.out HZ0.out HZ1.out HZ2.out rfl (by decide) _ _ _ rfl (HO.out.alloc _) ⟨_, 0, none⟩ 1 1 [.int .u8 (swb [a, b, c, d] 100).toNat] rfl rfl ?c1 ?c2 ?c3 ?c4 ?c5 ?c6 _ rfl ?_)
              case c1 => exact cell_one_new _ _ _
              case c2 => intro u hu; simp at hu; subst hu; rfl
              case c3 => omega
              case c4 => unfold maxLen; omega
              case c5 => omega
              case c6 => have := HB.out.size; simp; omega
              intro g1 c1 w2 ho1 hg1 _ _
              have HB1 := Lib.hid ((HB.out.alloc HB.out.size _).grown hg1 (by have := HB.out.size; simp; omega) (fun g hg => (HO.out.lt g hg).1))
              have HO1 := Lib.hid ho1
              clear ho1 hg1
              go_wp2
              go_roundw
              case rel => exact ⟨k + 1, g1, c1, by omega, by go_num, rfl, by rw [HR.out, List.map_append, HTL.out]; simpa [byteV] using HO1.out, HB1.out⟩
              case measure => simp [intOf]; try omega
          · obtain rfl : k = s.size := by omega
            have e2 := take_all s s.size (by omega)
            rw [e2] at HO
            have hback := run_back_bytes HO.out
            go_wp2
            go_ret2
            exact ⟨by rw [HP.out, HQ.out] <;> rfl, HB.out⟩
  · have hb : swB s.data.toList t.data.toList = false := by unfold swB; rw [← Lib.size_eq, decide_eq_false h4]; simp
    have HP := Lib.hid (sw_out hb); have HQ := Lib.hid hb
    clear hb b1
    go_enter Try.func46, Try.ntmps46
    go_wp2_with fail
    refine (specWordOk_any _ _ hs).mono ?_
    rw [HB1.out]
    rintro e w' ⟨rfl, rfl⟩
    go_wp2_with fail
    go_ret2
    exact ⟨by rw [HP.out, HQ.out] <;> rfl, Below.refl _ _⟩
set_option maxHeartbeats 400000 in
theorem law_SwapLetters (s t : ByteArray) (w : World) (hs : s.size ≤ maxLen) (ht : t.size ≤ maxLen) :
    Calls Try.prog 12 #[.string s, .string t] w fun e w' => e = .returned (.bool true) ∧ Below w.heap.size w w' := by
  have h1 := fun W => specSwapLetters_any s t W hs ht
  have h2 := fun W => implSwapLetters_any s t W hs ht
  obtain ⟨r, hr⟩ : ∃ r : ByteArray, r = ⟨(swL s.data.toList t.data.toList).toArray⟩ := ⟨_, rfl⟩
  obtain ⟨q, hq⟩ : ∃ q : Bool, q = swB s.data.toList t.data.toList := ⟨_, rfl⟩
  rw [← hr, ← hq] at h1 h2
  have H1 := Lib.hid h1; have H2 := Lib.hid h2
  clear h1 h2 hr hq
  by_cases big : 1048576 < s.size
  · go_enter Try.func12, Try.ntmps12
    go_wp2_with fail
    go_ret
    exact ⟨rfl, Below.refl _ _⟩
  by_cases big2 : 1048576 < t.size
  · go_enter Try.func12, Try.ntmps12
    go_wp2_with fail
    go_ret
    exact ⟨rfl, Below.refl _ _⟩
  go_enter Try.func12, Try.ntmps12
  go_wp2_with fail
  refine (H1.out _).mono ?_
  rintro e w1 ⟨rfl, hb1⟩
  have B1 := Lib.hid hb1; clear hb1
  go_wp2_with fail
  refine (H2.out _).mono ?_
  rintro e w2 ⟨rfl, hb2⟩
  have B2 := Lib.hid (B1.out.trans (hb2.mono B1.out.size)); clear hb2
  cases q
  all_goals
    go_wp2_with fail
    go_ret
    exact ⟨rfl, B2.out⟩
end Go.Proofs.Ytnnkhjjecmldfaa
