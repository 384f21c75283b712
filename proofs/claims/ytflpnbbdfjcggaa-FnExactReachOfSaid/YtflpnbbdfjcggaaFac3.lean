/- Walks: the laws' functions on the factors of a word. -/
import Derived.Test.YtflpnbbdfjcggaaFac2
import Derived.Test.YtflpnbbdfjcggaaIn
namespace Go.Proofs.Ytflpnbbdfjcggaa
open Go.RowKit
set_option maxRecDepth 20000

def mkB (l : List UInt8) : ByteArray := ⟨l.toArray⟩
/-- a word, and a length of factors -/
def lenB (l : List UInt8) (n : Int) : Bool := wordB l && (decide ((1 : Int) ≤ n) && decide (n ≤ 400))
theorem lenB_parts {l : List UInt8} {n : Int} (h : lenB l n = true) : wordB l = true ∧ 1 ≤ n ∧ n ≤ 400 := by
  unfold lenB at h; simp only [Bool.and_eq_true, decide_eq_true_eq] at h; exact ⟨h.1, h.2.1, h.2.2⟩
/-- what FactorsOf returns -/
def foR (s : ByteArray) (n : Int) : List ByteArray := if lenB s.data.toList n = true then (facR s n.toNat).map mkB else []
theorem fo_no {s : ByteArray} {n : Int} (h : lenB s.data.toList n = false) : foR s n = [] := by unfold foR; rw [h]; rfl
theorem fo_yes {s : ByteArray} {n : Nat} (h : lenB s.data.toList n = true) : foR s n = (facR s n).map mkB := by unfold foR; rw [if_pos h]; rfl
theorem enc_map (l : List (List UInt8)) : (l.map mkB).map Value.string = l.map encStr := by rw [List.map_map]; rfl
theorem foR_len (s : ByteArray) (n : Int) : (foR s n).length ≤ s.size + 1 := by
  unfold foR; split
  · rw [List.length_map]; have := facR_len s n.toNat; omega
  · simp
def coR (s : ByteArray) (n : Int) : Int := if lenB s.data.toList n = true then ((facR s n.toNat).length : Int) else -1
theorem co_no {s : ByteArray} {n : Int} (h : lenB s.data.toList n = false) : coR s n = -1 := by unfold coR; rw [h]; rfl
theorem co_yes {s : ByteArray} {n : Nat} (h : lenB s.data.toList n = true) : coR s n = (facR s n).length := by unfold coR; rw [if_pos h]; rfl
theorem isLength_any (s : ByteArray) (n : Int) (w : World) (hs : s.size ≤ maxLen) :
    Calls Try.prog 54 #[.string s, .int .i64 n] w fun e w' => e = .returned (.bool (lenB s.data.toList n)) ∧ w' = w := by
  cases b1 : wordB s.data.toList
  · have HP := Lib.hid (show lenB s.data.toList n = false by unfold lenB; rw [b1]; rfl)
    go_enter Try.func54, Try.ntmps54
    go_wp2_with (go_at_call 48; refine (isWord_any _ _ hs).mono ?_; rw [b1]; rintro e w' ⟨rfl, rfl⟩)
    go_ret
    exact ⟨by rw [HP.out] <;> rfl, rfl⟩
  · have HP := Lib.hid (show lenB s.data.toList n = (decide ((1 : Int) ≤ n) && decide (n ≤ 400)) by unfold lenB; rw [b1]; rfl)
    have HB1 := Lib.hid b1; clear b1
    go_enter Try.func54, Try.ntmps54
    go_wp2_with (first
      | (go_at_call 48; refine (isWord_any _ _ hs).mono ?_; rw [HB1.out]; rintro e w' ⟨rfl, rfl⟩)
      | (go_at_call 69; refine (within_any _ _ _ _).mono ?_; rw [← HP.out]; rintro e w' ⟨rfl, rfl⟩))
    go_ret
    exact ⟨rfl, rfl⟩
set_option maxHeartbeats 1000000 in
theorem implFactorsOf_any (s : ByteArray) (n : Int) (w : World) (hs : s.size ≤ maxLen) :
    Calls Try.prog 25 #[.string s, .int .i64 n] w fun e w' => ∃ v, e = .returned v ∧ w'.ownsRow w.heap.size 9 1 v (foR s n).length ((foR s n).map .string) ∧ Below w.heap.size w w' := by
  cases hl : lenB s.data.toList n
  · have HP := Lib.hid (fo_no hl)
    go_enter Try.func25, Try.ntmps25
    go_wp2_with (go_at_call 54; refine (isLength_any _ _ _ hs).mono ?_; rw [hl]; rintro e w' ⟨rfl, rfl⟩)
    go_ret
    exact ⟨_, rfl, by rw [HP.out]; exact World.ownsRow_nil _ _ _ _, Below.refl _ _⟩
  · obtain ⟨h1, h2, h3⟩ := lenB_parts hl
    obtain ⟨m, rfl⟩ := Int.eq_ofNat_of_zero_le (show 0 ≤ n by omega)
    have HP := Lib.hid (fo_yes hl)
    have HL := Lib.hid hl; clear hl
    have HC := Lib.hid (factorsOf_any s m w (word_len h1) (by omega) (by omega))
    clear h1
    go_enter Try.func25, Try.ntmps25
    go_wp2_with (go_at_call 54; refine (isLength_any _ _ _ hs).mono ?_; rw [HL.out]; rintro e w' ⟨rfl, rfl⟩)
    refine HC.out.mono ?_
    rintro e w1 ⟨g, c, rfl, ho, hb⟩
    have HO := Lib.hid ho; have HB := Lib.hid hb; clear ho hb
    go_wp2_with fail
    go_ret
    exact ⟨_, rfl, by rw [HP.out, enc_map, List.length_map]; exact HO.out, HB.out⟩
set_option maxHeartbeats 1000000 in
theorem specFactorsOf_any (s : ByteArray) (n : Int) (w : World) (hs : s.size ≤ maxLen) :
    Calls Try.prog 24 #[.string s, .int .i64 n] w fun e w' => ∃ v, e = .returned v ∧ w'.ownsRow w.heap.size 9 1 v (foR s n).length ((foR s n).map .string) ∧ Below w.heap.size w w' := by
  cases hw : wordB s.data.toList
  · have HP := Lib.hid (fo_no (s := s) (n := n) (by unfold lenB; rw [hw]; rfl))
    go_enter Try.func24, Try.ntmps24
    go_wp2_with (go_at_call 46; refine (specWordOk_any _ _ hs).mono ?_; rw [hw]; rintro e w' ⟨rfl, rfl⟩)
    go_ret
    exact ⟨_, rfl, by rw [HP.out]; exact World.ownsRow_nil _ _ _ _, Below.refl _ _⟩
  have HW := Lib.hid hw
  cases hn : (decide ((1 : Int) ≤ n) && decide (n ≤ 400))
  · have HP := Lib.hid (fo_no (s := s) (n := n) (by unfold lenB; rw [hn]; simp))
    have HN := Lib.hid hn; clear hn hw
    go_enter Try.func24, Try.ntmps24
    go_wp2_with (first
      | (go_at_call 46; refine (specWordOk_any _ _ hs).mono ?_; rw [HW.out]; rintro e w' ⟨rfl, rfl⟩)
      | (go_at_call 52; refine (l01In_any _ _ _ _).mono ?_; rw [HN.out]; rintro e w' ⟨rfl, rfl⟩))
    go_ret
    exact ⟨_, rfl, by rw [HP.out]; exact World.ownsRow_nil _ _ _ _, Below.refl _ _⟩
  · have hl : lenB s.data.toList n = true := by unfold lenB; rw [hw, hn]; rfl
    obtain ⟨h1, h2, h3⟩ := lenB_parts hl
    obtain ⟨m, rfl⟩ := Int.eq_ofNat_of_zero_le (show 0 ≤ n by omega)
    have HP := Lib.hid (fo_yes hl)
    have HN := Lib.hid hn; clear hn hl hw
    have HC := Lib.hid (l05Factors_any s m w (word_len h1) (by omega) (by omega))
    clear h1
    go_enter Try.func24, Try.ntmps24
    go_wp2_with (first
      | (go_at_call 46; refine (specWordOk_any _ _ hs).mono ?_; rw [HW.out]; rintro e w' ⟨rfl, rfl⟩)
      | (go_at_call 52; refine (l01In_any _ _ _ _).mono ?_; rw [HN.out]; rintro e w' ⟨rfl, rfl⟩))
    refine HC.out.mono ?_
    rintro e w1 ⟨g, c, rfl, ho, hb⟩
    have HO := Lib.hid ho; have HB := Lib.hid hb; clear ho hb
    go_wp2_with fail
    go_ret
    exact ⟨_, rfl, by rw [HP.out, enc_map, List.length_map]; exact HO.out, HB.out⟩
set_option maxHeartbeats 1000000 in
theorem implComplexityOf_any (s : ByteArray) (n : Int) (w : World) (hs : s.size ≤ maxLen) :
    Calls Try.prog 21 #[.string s, .int .i64 n] w fun e w' => e = .returned (.int .i64 (coR s n)) ∧ Below w.heap.size w w' := by
  cases hl : lenB s.data.toList n
  · have HP := Lib.hid (co_no hl)
    go_enter Try.func21, Try.ntmps21
    go_wp2_with (go_at_call 54; refine (isLength_any _ _ _ hs).mono ?_; rw [hl]; rintro e w' ⟨rfl, rfl⟩)
    go_ret
    exact ⟨by rw [HP.out] <;> rfl, Below.refl _ _⟩
  · obtain ⟨h1, h2, h3⟩ := lenB_parts hl
    obtain ⟨m, rfl⟩ := Int.eq_ofNat_of_zero_le (show 0 ≤ n by omega)
    have HP := Lib.hid (co_yes hl)
    have HL := Lib.hid hl; clear hl
    have HC := Lib.hid (factorsOf_any s m w (word_len h1) (by omega) (by omega))
    have hfl := facR_len s m
    have hsz := word_len h1
    clear h1
    go_enter Try.func21, Try.ntmps21
    go_wp2_with (go_at_call 54; refine (isLength_any _ _ _ hs).mono ?_; rw [HL.out]; rintro e w' ⟨rfl, rfl⟩)
    refine HC.out.mono ?_
    rintro e w1 ⟨g, c, rfl, ho, hb⟩
    have HB := Lib.hid hb; clear ho hb
    go_wp2_with fail
    go_ret
    exact ⟨by rw [HP.out] <;> rfl, HB.out⟩
set_option maxHeartbeats 1000000 in
theorem specComplexityOf_any (s : ByteArray) (n : Int) (w : World) (hs : s.size ≤ maxLen) :
    Calls Try.prog 20 #[.string s, .int .i64 n] w fun e w' => e = .returned (.int .i64 (coR s n)) ∧ Below w.heap.size w w' := by
  cases hw : wordB s.data.toList
  · have HP := Lib.hid (co_no (s := s) (n := n) (by unfold lenB; rw [hw]; rfl))
    go_enter Try.func20, Try.ntmps20
    go_wp2_with (go_at_call 46; refine (specWordOk_any _ _ hs).mono ?_; rw [hw]; rintro e w' ⟨rfl, rfl⟩)
    go_ret
    exact ⟨by rw [HP.out] <;> rfl, Below.refl _ _⟩
  have HW := Lib.hid hw
  cases hn : (decide ((1 : Int) ≤ n) && decide (n ≤ 400))
  · have HP := Lib.hid (co_no (s := s) (n := n) (by unfold lenB; rw [hn]; simp))
    have HN := Lib.hid hn; clear hn hw
    go_enter Try.func20, Try.ntmps20
    go_wp2_with (first
      | (go_at_call 46; refine (specWordOk_any _ _ hs).mono ?_; rw [HW.out]; rintro e w' ⟨rfl, rfl⟩)
      | (go_at_call 52; refine (l01In_any _ _ _ _).mono ?_; rw [HN.out]; rintro e w' ⟨rfl, rfl⟩))
    go_ret
    exact ⟨by rw [HP.out] <;> rfl, Below.refl _ _⟩
  · have hl : lenB s.data.toList n = true := by unfold lenB; rw [hw, hn]; rfl
    obtain ⟨h1, h2, h3⟩ := lenB_parts hl
    obtain ⟨m, rfl⟩ := Int.eq_ofNat_of_zero_le (show 0 ≤ n by omega)
    have HP := Lib.hid (co_yes hl)
    have HN := Lib.hid hn; clear hn hl hw
    have HC := Lib.hid (l05Factors_any s m w (word_len h1) (by omega) (by omega))
    have hfl := facR_len s m
    have hsz := word_len h1
    clear h1
    go_enter Try.func20, Try.ntmps20
    go_wp2_with (first
      | (go_at_call 46; refine (specWordOk_any _ _ hs).mono ?_; rw [HW.out]; rintro e w' ⟨rfl, rfl⟩)
      | (go_at_call 52; refine (l01In_any _ _ _ _).mono ?_; rw [HN.out]; rintro e w' ⟨rfl, rfl⟩))
    refine HC.out.mono ?_
    rintro e w1 ⟨g, c, rfl, ho, hb⟩
    have HB := Lib.hid hb; clear ho hb
    go_wp2_with fail
    go_ret
    exact ⟨by rw [HP.out] <;> rfl, HB.out⟩
end Go.Proofs.Ytflpnbbdfjcggaa
