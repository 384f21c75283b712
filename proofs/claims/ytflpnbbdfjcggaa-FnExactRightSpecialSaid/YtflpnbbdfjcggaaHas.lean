/- Walks: is a word a factor of another one; the letters after or before a factor. -/
import Derived.Test.YtflpnbbdfjcggaaHas0
import Derived.Test.YtflpnbbdfjcggaaShelf
import Derived.Lib.IndexMore
namespace Go.Proofs.Ytflpnbbdfjcggaa
open Go.RowKit

theorem first_of (p : Nat → Bool) : ∀ n, p n = true → ∃ i, i ≤ n ∧ p i = true ∧ ∀ j, j < i → p j = false := by
  intro n
  induction n using Nat.strongRecOn with
  | ind n ih =>
    intro h
    by_cases hn : ∃ j, j < n ∧ p j = true
    · obtain ⟨j, hj, hp⟩ := hn
      obtain ⟨i, hi, h1, h2⟩ := ih j hj hp
      exact ⟨i, by omega, h1, h2⟩
    · refine ⟨n, Nat.le_refl _, h, fun j hj => ?_⟩
      cases hp : p j
      · rfl
      · exact absurd ⟨j, hj, hp⟩ hn
theorem stands_occ {s f : ByteArray} {i : Nat} (h : i + f.size ≤ s.size) : standsAt s f i = Lib.occAt s.data.toList f.data.toList i := by
  rw [Lib.occAt_iff_take _ _ _ (by rw [← Lib.size_eq, ← Lib.size_eq]; exact h)]
  unfold standsAt
  rw [Lib.toList_data, Lib.toList_data, ByteArray.data_extract, Array.toList_extract, List.extract_eq_take_drop, ← Lib.size_eq, show i + f.size - i = f.size by omega]
theorem contains_has (s f : ByteArray) : Lib.contains s.data.toList f.data.toList = hasB s f := by
  unfold Lib.contains
  cases hb : hasB s f
  · rw [Lib.index_none]
    · rfl
    · intro j _
      cases ho : Lib.occAt s.data.toList f.data.toList j
      · rfl
      · rcases Lib.occAt_room ho with h | h
        · rw [← Lib.size_eq, ← Lib.size_eq] at h
          rw [← stands_occ h] at ho
          rw [has_yes h ho] at hb; cases hb
        · have h0 : f.size = 0 := by rw [Lib.size_eq, h]; rfl
          have hs0 : standsAt s f 0 = true := by rw [stands_occ (by omega), h]; rfl
          rw [has_yes (by omega) hs0] at hb; cases hb
  · obtain ⟨i, hi, hst⟩ := List.any_eq_true.1 hb
    have hi2 : i + f.size ≤ s.size := by have := List.mem_range.1 hi; omega
    rw [stands_occ hi2] at hst
    obtain ⟨j, hj, h1, h2⟩ := first_of _ i hst
    rw [Lib.index_first (by rw [← Lib.size_eq]; omega) h1 h2]
    simp
def factB (s f : ByteArray) : Bool := wordB s.data.toList && (wordB f.data.toList && hasB s f)
set_option maxHeartbeats 400000 in
theorem implIsFactor_any (s f : ByteArray) (w : World) (m : Int) (hm : w.cell? ⟨0, 0, none⟩ = some (.int .i64 m)) (hs : s.size ≤ maxLen) (hf : f.size ≤ maxLen) :
    Calls Try.prog 15 #[.string s, .string f] w fun e w' => e = .returned (.bool (factB s f)) ∧ w' = w := by
  cases b1 : wordB s.data.toList
  · have HP := Lib.hid (show factB s f = false by unfold factB; rw [b1]; rfl)
    go_enter Try.func15, Try.ntmps15
    go_wp2_with (go_at_call 48; refine (isWord_any _ _ hs).mono ?_; rw [b1]; rintro e w' ⟨rfl, rfl⟩)
    go_ret
    exact ⟨by rw [HP.out] <;> rfl, rfl⟩
  have HB1 := Lib.hid b1
  cases b2 : wordB f.data.toList
  · have HP := Lib.hid (show factB s f = false by unfold factB; rw [b1, b2]; rfl)
    clear b1
    go_enter Try.func15, Try.ntmps15
    go_wp2_with fail
    refine (isWord_any _ _ hs).mono ?_
    rw [HB1.out]
    rintro e w' ⟨rfl, rfl⟩
    go_wp2_with fail
    refine (isWord_any _ _ hf).mono ?_
    rw [b2]
    rintro e w' ⟨rfl, rfl⟩
    go_wp2_with fail
    go_ret
    exact ⟨by rw [HP.out] <;> rfl, rfl⟩
  · have HP := Lib.hid (show factB s f = hasB s f by unfold factB; rw [b1, b2]; rfl)
    have HB2 := Lib.hid b2
    have HC := Lib.hid (Try.strings_Contains s f m w (by have := word_len b1; omega) hm)
    clear b1 b2
    go_enter Try.func15, Try.ntmps15
    go_wp2_with fail
    refine (isWord_any _ _ hs).mono ?_
    rw [HB1.out]
    rintro e w' ⟨rfl, rfl⟩
    go_wp2_with fail
    refine (isWord_any _ _ hf).mono ?_
    rw [HB2.out]
    rintro e w' ⟨rfl, rfl⟩
    go_wp2_with fail
    refine HC.out.mono ?_
    rintro e w' ⟨rfl, rfl⟩
    go_wp2_with fail
    go_ret
    exact ⟨by rw [HP.out, ← contains_has] <;> rfl, rfl⟩
set_option maxHeartbeats 400000 in
theorem specIsFactor_any (s f : ByteArray) (w : World) (hs : s.size ≤ maxLen) (hf : f.size ≤ maxLen) :
    Calls Try.prog 14 #[.string s, .string f] w fun e w' => e = .returned (.bool (factB s f)) ∧ w' = w := by
  cases b1 : wordB s.data.toList
  · have HP := Lib.hid (show factB s f = false by unfold factB; rw [b1]; rfl)
    go_enter Try.func14, Try.ntmps14
    go_wp2_with (go_at_call 46; refine (specWordOk_any _ _ hs).mono ?_; rw [b1]; rintro e w' ⟨rfl, rfl⟩)
    go_ret
    exact ⟨by rw [HP.out] <;> rfl, rfl⟩
  have HB1 := Lib.hid b1
  cases b2 : wordB f.data.toList
  · have HP := Lib.hid (show factB s f = false by unfold factB; rw [b1, b2]; rfl)
    clear b1
    go_enter Try.func14, Try.ntmps14
    go_wp2_with fail
    refine (specWordOk_any _ _ hs).mono ?_
    rw [HB1.out]
    rintro e w' ⟨rfl, rfl⟩
    go_wp2_with fail
    refine (specWordOk_any _ _ hf).mono ?_
    rw [b2]
    rintro e w' ⟨rfl, rfl⟩
    go_wp2_with fail
    go_ret
    exact ⟨by rw [HP.out] <;> rfl, rfl⟩
  · have HP := Lib.hid (show factB s f = hasB s f by unfold factB; rw [b1, b2]; rfl)
    have HB2 := Lib.hid b2
    have HC := Lib.hid (l02Has_any s f w (by have := word_len b1; omega) (by have := word_len b2; omega))
    clear b1 b2
    go_enter Try.func14, Try.ntmps14
    go_wp2_with fail
    refine (specWordOk_any _ _ hs).mono ?_
    rw [HB1.out]
    rintro e w' ⟨rfl, rfl⟩
    go_wp2_with fail
    refine (specWordOk_any _ _ hf).mono ?_
    rw [HB2.out]
    rintro e w' ⟨rfl, rfl⟩
    go_wp2_with fail
    refine HC.out.mono ?_
    rintro e w' ⟨rfl, rfl⟩
    go_wp2_with fail
    go_ret
    exact ⟨by rw [HP.out] <;> rfl, rfl⟩
set_option maxHeartbeats 400000 in
theorem law_IsFactor (s f : ByteArray) (w : World) (hsh : w.ShapedOpen Try.prog) (hs : s.size ≤ maxLen) (hf : f.size ≤ maxLen) :
    Calls Try.prog 3 #[.string s, .string f] w fun e w' => e = .returned (.bool true) ∧ Below w.heap.size w w' := by
  obtain ⟨m, hm⟩ : ∃ m, w.cell? ⟨0, 0, none⟩ = some (.int .i64 m) := Try.laysM144.s1_3 w hsh
  have H1 := Lib.hid (specIsFactor_any s f w hs hf); have H2 := Lib.hid (implIsFactor_any s f w m hm hs hf)
  clear hm hsh
  go_enter Try.func3, Try.ntmps3
  go_wp2_with (first
    | (go_at_call 14; refine H1.out.mono ?_; rintro e w' ⟨rfl, rfl⟩)
    | (go_at_call 15; refine H2.out.mono ?_; rintro e w' ⟨rfl, rfl⟩))
  all_goals (go_ret; exact ⟨rfl, Below.refl _ _⟩)
/-- the letters of the first k that make a factor with f, behind it or before it -/
def nbIx (s f : ByteArray) (b : Bool) (k : Nat) : List UInt8 := ((List.range k).filter fun j => hasB s (if b = true then f ++ ltr j else ltr j ++ f)).map lc
theorem nbIx_yes {s f : ByteArray} {b : Bool} {k : Nat} (h : hasB s (if b = true then f ++ ltr k else ltr k ++ f) = true) : nbIx s f b (k + 1) = nbIx s f b k ++ [lc k] := by
  unfold nbIx; rw [List.range_succ, List.filter_append]; simp [h]
theorem nbIx_no {s f : ByteArray} {b : Bool} {k : Nat} (h : hasB s (if b = true then f ++ ltr k else ltr k ++ f) = false) : nbIx s f b (k + 1) = nbIx s f b k := by
  unfold nbIx; rw [List.range_succ, List.filter_append]; simp [h]
theorem nbIx_len (s f : ByteArray) (b : Bool) (k : Nat) : (nbIx s f b k).length ≤ k := by
  unfold nbIx; rw [List.length_map]; have := List.length_filter_le (fun j => hasB s (if b = true then f ++ ltr j else ltr j ++ f)) (List.range k); simpa using this
set_option maxHeartbeats 1000000 in
theorem neighbors_any (s f : ByteArray) (b : Bool) (w : World) (m : Int) (hm : w.cell? ⟨0, 0, none⟩ = some (.int .i64 m)) (hs : s.size ≤ 400) (hf : f.size ≤ 400) :
    Calls Try.prog 51 #[.string s, .string f, .bool b] w fun e w' => e = .returned (.string ⟨(nbIx s f b 4).toArray⟩) ∧ w' = w := by
  have HC := Lib.hid (fun g => Try.strings_Contains s g m w (by omega) hm)
  clear hm
  go_enter Try.func51, Try.ntmps51
  go_wp2_with fail
  go_loop [7, 11] (fun v i => ∃ (k : Nat) (out : ByteArray), k ≤ 4 ∧ out.data.toList = nbIx s f b k ∧ v = .string out ∧ i = .int .i64 k) (fun _ i => 4 - (intOf i).toNat)
  case atStart => exact ⟨0, ⟨#[]⟩, Nat.zero_le _, rfl, rfl, rfl⟩
  case round =>
    obtain ⟨k, out, hk, ho, rfl, rfl⟩ := hrel
    have hsz : out.size ≤ 4 := by have := nbIx_len s f b k; rw [Lib.size_eq, ho]; omega
    have HO := Lib.hid ho; clear ho
    by_cases hlt : k < 4
    · have e1 := abcd_at (k := k) (by omega)
      have es := ltr_size k
      cases hg : hasB s (if b = true then f ++ ltr k else ltr k ++ f)
      · have HN := Lib.hid (nbIx_no hg)
        have HG := Lib.hid ((contains_has _ _).trans hg)
        clear hg
        cases b
        all_goals
          go_wp2_with fail
          refine (HC.out _).mono ?_
          first | rw [show Lib.contains s.data.toList (f ++ ltr k).data.toList = false from HG.out] | rw [show Lib.contains s.data.toList (ltr k ++ f).data.toList = false from HG.out]
          rintro e w2 ⟨rfl, rfl⟩
          go_wp2_with fail
          go_round
          case rel => exact ⟨k + 1, out, by omega, by rw [HN.out]; exact HO.out, rfl, by go_num⟩
          case measure => simp [intOf]; omega
      · have HN := Lib.hid (nbIx_yes hg)
        have HG := Lib.hid ((contains_has _ _).trans hg)
        clear hg
        cases b
        all_goals
          go_wp2_with fail
          refine (HC.out _).mono ?_
          first | rw [show Lib.contains s.data.toList (f ++ ltr k).data.toList = true from HG.out] | rw [show Lib.contains s.data.toList (ltr k ++ f).data.toList = true from HG.out]
          rintro e w2 ⟨rfl, rfl⟩
          go_wp2_with fail
          go_round
          case rel => exact ⟨k + 1, _, by omega, by rw [data_append, HN.out, HO.out, ltr_data], rfl, by go_num⟩
          case measure => simp [intOf]; omega
    · obtain rfl : k = 4 := by omega
      have HM := Lib.hid (mk_list out HO.out)
      go_wp2
      go_ret
      exact ⟨by rw [HM.out] <;> rfl, rfl⟩
set_option maxHeartbeats 1000000 in
theorem l06Next_any (s f : ByteArray) (b : Bool) (w : World) (hs : s.size ≤ 400) (hf : f.size ≤ 400) :
    Calls Try.prog 50 #[.string s, .string f, .bool b] w fun e w' => e = .returned (.string ⟨(nbIx s f (!b) 4).toArray⟩) ∧ w' = w := by
  have HC := Lib.hid (fun g (hg : g.size ≤ 1000) => l02Has_any s g w (by omega) hg)
  go_enter Try.func50, Try.ntmps50
  go_wp2_with fail
  go_loop [7, 8] (fun v i => ∃ (k : Nat) (out : ByteArray), k ≤ 4 ∧ out.data.toList = nbIx s f (!b) k ∧ v = .string out ∧ i = .int .i64 k) (fun _ i => 4 - (intOf i).toNat)
  case atStart => exact ⟨0, ⟨#[]⟩, Nat.zero_le _, rfl, rfl, rfl⟩
  case round =>
    obtain ⟨k, out, hk, ho, rfl, rfl⟩ := hrel
    have hsz : out.size ≤ 4 := by have := nbIx_len s f (!b) k; rw [Lib.size_eq, ho]; omega
    have HO := Lib.hid ho; clear ho
    by_cases hlt : k < 4
    · have e1 := abcd_at (k := k) (by omega)
      have es := ltr_size k
      cases hg : hasB s (if (!b) = true then f ++ ltr k else ltr k ++ f)
      · have HN := Lib.hid (nbIx_no hg)
        have HG := Lib.hid hg
        clear hg
        cases b
        all_goals
          go_wp2_with fail
          refine (HC.out _ (by rw [ByteArray.size_append, es]; omega)).mono ?_
          first | rw [show hasB s (f ++ ltr k) = false from HG.out] | rw [show hasB s (ltr k ++ f) = false from HG.out]
          rintro e w2 ⟨rfl, rfl⟩
          go_wp2_with fail
          go_round
          case rel => exact ⟨k + 1, out, by omega, by rw [HN.out]; exact HO.out, rfl, by go_num⟩
          case measure => simp [intOf]; omega
      · have HN := Lib.hid (nbIx_yes hg)
        have HG := Lib.hid hg
        clear hg
        cases b
        all_goals
          go_wp2_with fail
          refine (HC.out _ (by rw [ByteArray.size_append, es]; omega)).mono ?_
          first | rw [show hasB s (f ++ ltr k) = true from HG.out] | rw [show hasB s (ltr k ++ f) = true from HG.out]
          rintro e w2 ⟨rfl, rfl⟩
          go_wp2_with fail
          go_round
          case rel => exact ⟨k + 1, _, by omega, by rw [data_append, HN.out, HO.out, ltr_data], rfl, by go_num⟩
          case measure => simp [intOf]; omega
    · obtain rfl : k = 4 := by omega
      have HM := Lib.hid (mk_list out HO.out)
      go_wp2
      go_ret
      exact ⟨by rw [HM.out] <;> rfl, rfl⟩
def nbR (s f : ByteArray) (b : Bool) : List UInt8 := if wordB s.data.toList = true ∧ wordB f.data.toList = true then nbIx s f b 4 else []
theorem nb_out {s f : ByteArray} {b : Bool} (h : ¬ (wordB s.data.toList = true ∧ wordB f.data.toList = true)) : nbR s f b = [] := by unfold nbR; rw [if_neg h]
theorem nb_in {s f : ByteArray} {b : Bool} (h : wordB s.data.toList = true) (h2 : wordB f.data.toList = true) : nbR s f b = nbIx s f b 4 := by unfold nbR; rw [if_pos ⟨h, h2⟩]
set_option maxHeartbeats 400000 in
theorem implFollowersOf_any (s f : ByteArray) (w : World) (m : Int) (hm : w.cell? ⟨0, 0, none⟩ = some (.int .i64 m)) (hs : s.size ≤ maxLen) (hf : f.size ≤ maxLen) :
    Calls Try.prog 17 #[.string s, .string f] w fun e w' => e = .returned (.string ⟨(nbR s f true).toArray⟩) ∧ w' = w := by
  cases b1 : wordB s.data.toList
  · have HP := Lib.hid (nb_out (s := s) (f := f) (b := true) (by simp [b1]))
    go_enter Try.func17, Try.ntmps17
    go_wp2_with (go_at_call 48; refine (isWord_any _ _ hs).mono ?_; rw [b1]; rintro e w' ⟨rfl, rfl⟩)
    go_ret
    exact ⟨by rw [HP.out] <;> rfl, rfl⟩
  have HB1 := Lib.hid b1
  cases b2 : wordB f.data.toList
  · have HP := Lib.hid (nb_out (s := s) (f := f) (b := true) (by simp [b2]))
    clear b1
    go_enter Try.func17, Try.ntmps17
    go_wp2_with fail
    refine (isWord_any _ _ hs).mono ?_
    rw [HB1.out]
    rintro e w' ⟨rfl, rfl⟩
    go_wp2_with fail
    refine (isWord_any _ _ hf).mono ?_
    rw [b2]
    rintro e w' ⟨rfl, rfl⟩
    go_wp2_with fail
    go_ret
    exact ⟨by rw [HP.out] <;> rfl, rfl⟩
  · have HP := Lib.hid (nb_in (b := true) b1 b2)
    have HB2 := Lib.hid b2
    have HC := Lib.hid (neighbors_any s f true w m hm (word_len b1) (word_len b2))
    clear b1 b2 hm
    go_enter Try.func17, Try.ntmps17
    go_wp2_with fail
    refine (isWord_any _ _ hs).mono ?_
    rw [HB1.out]
    rintro e w' ⟨rfl, rfl⟩
    go_wp2_with fail
    refine (isWord_any _ _ hf).mono ?_
    rw [HB2.out]
    rintro e w' ⟨rfl, rfl⟩
    go_wp2_with fail
    refine HC.out.mono ?_
    rintro e w' ⟨rfl, rfl⟩
    go_wp2_with fail
    go_ret
    exact ⟨by rw [HP.out] <;> rfl, rfl⟩
set_option maxHeartbeats 400000 in
theorem implLeadersOf_any (s f : ByteArray) (w : World) (m : Int) (hm : w.cell? ⟨0, 0, none⟩ = some (.int .i64 m)) (hs : s.size ≤ maxLen) (hf : f.size ≤ maxLen) :
    Calls Try.prog 19 #[.string s, .string f] w fun e w' => e = .returned (.string ⟨(nbR s f false).toArray⟩) ∧ w' = w := by
  cases b1 : wordB s.data.toList
  · have HP := Lib.hid (nb_out (s := s) (f := f) (b := false) (by simp [b1]))
    go_enter Try.func19, Try.ntmps19
    go_wp2_with (go_at_call 48; refine (isWord_any _ _ hs).mono ?_; rw [b1]; rintro e w' ⟨rfl, rfl⟩)
    go_ret
    exact ⟨by rw [HP.out] <;> rfl, rfl⟩
  have HB1 := Lib.hid b1
  cases b2 : wordB f.data.toList
  · have HP := Lib.hid (nb_out (s := s) (f := f) (b := false) (by simp [b2]))
    clear b1
    go_enter Try.func19, Try.ntmps19
    go_wp2_with fail
    refine (isWord_any _ _ hs).mono ?_
    rw [HB1.out]
    rintro e w' ⟨rfl, rfl⟩
    go_wp2_with fail
    refine (isWord_any _ _ hf).mono ?_
    rw [b2]
    rintro e w' ⟨rfl, rfl⟩
    go_wp2_with fail
    go_ret
    exact ⟨by rw [HP.out] <;> rfl, rfl⟩
  · have HP := Lib.hid (nb_in (b := false) b1 b2)
    have HB2 := Lib.hid b2
    have HC := Lib.hid (neighbors_any s f false w m hm (word_len b1) (word_len b2))
    clear b1 b2 hm
    go_enter Try.func19, Try.ntmps19
    go_wp2_with fail
    refine (isWord_any _ _ hs).mono ?_
    rw [HB1.out]
    rintro e w' ⟨rfl, rfl⟩
    go_wp2_with fail
    refine (isWord_any _ _ hf).mono ?_
    rw [HB2.out]
    rintro e w' ⟨rfl, rfl⟩
    go_wp2_with fail
    refine HC.out.mono ?_
    rintro e w' ⟨rfl, rfl⟩
    go_wp2_with fail
    go_ret
    exact ⟨by rw [HP.out] <;> rfl, rfl⟩
set_option maxHeartbeats 400000 in
theorem specFollowersOf_any (s f : ByteArray) (w : World) (hs : s.size ≤ maxLen) (hf : f.size ≤ maxLen) :
    Calls Try.prog 16 #[.string s, .string f] w fun e w' => e = .returned (.string ⟨(nbR s f true).toArray⟩) ∧ w' = w := by
  cases b1 : wordB s.data.toList
  · have HP := Lib.hid (nb_out (s := s) (f := f) (b := true) (by simp [b1]))
    go_enter Try.func16, Try.ntmps16
    go_wp2_with (go_at_call 46; refine (specWordOk_any _ _ hs).mono ?_; rw [b1]; rintro e w' ⟨rfl, rfl⟩)
    go_ret
    exact ⟨by rw [HP.out] <;> rfl, rfl⟩
  have HB1 := Lib.hid b1
  cases b2 : wordB f.data.toList
  · have HP := Lib.hid (nb_out (s := s) (f := f) (b := true) (by simp [b2]))
    clear b1
    go_enter Try.func16, Try.ntmps16
    go_wp2_with fail
    refine (specWordOk_any _ _ hs).mono ?_
    rw [HB1.out]
    rintro e w' ⟨rfl, rfl⟩
    go_wp2_with fail
    refine (specWordOk_any _ _ hf).mono ?_
    rw [b2]
    rintro e w' ⟨rfl, rfl⟩
    go_wp2_with fail
    go_ret
    exact ⟨by rw [HP.out] <;> rfl, rfl⟩
  · have HP := Lib.hid (nb_in (b := true) b1 b2)
    have HB2 := Lib.hid b2
    have HC := Lib.hid (l06Next_any s f false w (word_len b1) (word_len b2))
    clear b1 b2
    go_enter Try.func16, Try.ntmps16
    go_wp2_with fail
    refine (specWordOk_any _ _ hs).mono ?_
    rw [HB1.out]
    rintro e w' ⟨rfl, rfl⟩
    go_wp2_with fail
    refine (specWordOk_any _ _ hf).mono ?_
    rw [HB2.out]
    rintro e w' ⟨rfl, rfl⟩
    go_wp2_with fail
    refine HC.out.mono ?_
    rintro e w' ⟨rfl, rfl⟩
    go_wp2_with fail
    go_ret
    exact ⟨by rw [HP.out] <;> rfl, rfl⟩
set_option maxHeartbeats 400000 in
theorem specLeadersOf_any (s f : ByteArray) (w : World) (hs : s.size ≤ maxLen) (hf : f.size ≤ maxLen) :
    Calls Try.prog 18 #[.string s, .string f] w fun e w' => e = .returned (.string ⟨(nbR s f false).toArray⟩) ∧ w' = w := by
  cases b1 : wordB s.data.toList
  · have HP := Lib.hid (nb_out (s := s) (f := f) (b := false) (by simp [b1]))
    go_enter Try.func18, Try.ntmps18
    go_wp2_with (go_at_call 46; refine (specWordOk_any _ _ hs).mono ?_; rw [b1]; rintro e w' ⟨rfl, rfl⟩)
    go_ret
    exact ⟨by rw [HP.out] <;> rfl, rfl⟩
  have HB1 := Lib.hid b1
  cases b2 : wordB f.data.toList
  · have HP := Lib.hid (nb_out (s := s) (f := f) (b := false) (by simp [b2]))
    clear b1
    go_enter Try.func18, Try.ntmps18
    go_wp2_with fail
    refine (specWordOk_any _ _ hs).mono ?_
    rw [HB1.out]
    rintro e w' ⟨rfl, rfl⟩
    go_wp2_with fail
    refine (specWordOk_any _ _ hf).mono ?_
    rw [b2]
    rintro e w' ⟨rfl, rfl⟩
    go_wp2_with fail
    go_ret
    exact ⟨by rw [HP.out] <;> rfl, rfl⟩
  · have HP := Lib.hid (nb_in (b := false) b1 b2)
    have HB2 := Lib.hid b2
    have HC := Lib.hid (l06Next_any s f true w (word_len b1) (word_len b2))
    clear b1 b2
    go_enter Try.func18, Try.ntmps18
    go_wp2_with fail
    refine (specWordOk_any _ _ hs).mono ?_
    rw [HB1.out]
    rintro e w' ⟨rfl, rfl⟩
    go_wp2_with fail
    refine (specWordOk_any _ _ hf).mono ?_
    rw [HB2.out]
    rintro e w' ⟨rfl, rfl⟩
    go_wp2_with fail
    refine HC.out.mono ?_
    rintro e w' ⟨rfl, rfl⟩
    go_wp2_with fail
    go_ret
    exact ⟨by rw [HP.out] <;> rfl, rfl⟩
set_option maxHeartbeats 400000 in
theorem law_FollowersOf (s f : ByteArray) (w : World) (hsh : w.ShapedOpen Try.prog) (hs : s.size ≤ maxLen) (hf : f.size ≤ maxLen) :
    Calls Try.prog 4 #[.string s, .string f] w fun e w' => e = .returned (.bool true) ∧ Below w.heap.size w w' := by
  obtain ⟨m, hm⟩ : ∃ m, w.cell? ⟨0, 0, none⟩ = some (.int .i64 m) := Try.laysM144.s1_3 w hsh
  have h1 := specFollowersOf_any s f w hs hf
  have h2 := implFollowersOf_any s f w m hm hs hf
  obtain ⟨r, hr⟩ : ∃ r : ByteArray, r = ⟨(nbR s f true).toArray⟩ := ⟨_, rfl⟩
  rw [← hr] at h1 h2
  have H1 := Lib.hid h1; have H2 := Lib.hid h2
  clear hm hsh h1 h2 hr
  go_enter Try.func4, Try.ntmps4
  go_wp2_with (first
    | (go_at_call 16; refine H1.out.mono ?_; rintro e w' ⟨rfl, rfl⟩)
    | (go_at_call 17; refine H2.out.mono ?_; rintro e w' ⟨rfl, rfl⟩))
  all_goals (go_ret; exact ⟨rfl, Below.refl _ _⟩)
set_option maxHeartbeats 400000 in
theorem law_LeadersOf (s f : ByteArray) (w : World) (hsh : w.ShapedOpen Try.prog) (hs : s.size ≤ maxLen) (hf : f.size ≤ maxLen) :
    Calls Try.prog 5 #[.string s, .string f] w fun e w' => e = .returned (.bool true) ∧ Below w.heap.size w w' := by
  obtain ⟨m, hm⟩ : ∃ m, w.cell? ⟨0, 0, none⟩ = some (.int .i64 m) := Try.laysM144.s1_3 w hsh
  have h1 := specLeadersOf_any s f w hs hf
  have h2 := implLeadersOf_any s f w m hm hs hf
  obtain ⟨r, hr⟩ : ∃ r : ByteArray, r = ⟨(nbR s f false).toArray⟩ := ⟨_, rfl⟩
  rw [← hr] at h1 h2
  have H1 := Lib.hid h1; have H2 := Lib.hid h2
  clear hm hsh h1 h2 hr
  go_enter Try.func5, Try.ntmps5
  go_wp2_with (first
    | (go_at_call 18; refine H1.out.mono ?_; rintro e w' ⟨rfl, rfl⟩)
    | (go_at_call 19; refine H2.out.mono ?_; rintro e w' ⟨rfl, rfl⟩))
  all_goals (go_ret; exact ⟨rfl, Below.refl _ _⟩)
end Go.Proofs.Ytflpnbbdfjcggaa
