/- Walks: the laws' functions on the factors of a word. -/
import Derived.Test.YtglleimmmfnhcaaFac2
import Derived.Test.YtglleimmmfnhcaaIn
namespace Go.Proofs.Ytglleimmmfnhcaa
open Go.RowKit
set_option maxRecDepth 20000

def mkB (l : List UInt8) : ByteArray := ⟨l.toArray⟩
/-- a word, and a length of factors -/
def lenB (l : List UInt8) (n : Int) : Bool := wordB l && (decide ((1 : Int) ≤ n) && decide (n ≤ 400))
theorem lenB_parts {l : List UInt8} {n : Int} (h : lenB l n = true) : wordB l = true ∧ 1 ≤ n ∧ n ≤ 400 := by
  unfold lenB at h; simp only [Bool.and_eq_true, decide_eq_true_eq] at h; exact ⟨h.1, h.2.1, h.2.2⟩
/-- what FactorsOf returns -/
def foR (s : ByteArray) (n : Int) : List ByteArray := if lenB s.data.toList n = true then (facR s n.toNat).map mkB else []
theorem fo_no {s : ByteArray} {n : Int} (h : lenB s.data.toList n = false) : foR s n = [] := by unfold foR; rw [h]; rfl
theorem fo_yes {s : ByteArray} {n : Nat} (h : lenB s.data.toList n = true) : foR s n = (facR s n).map mkB := by unfold foR; rw [if_pos h]; rfl
theorem enc_map (l : List (List UInt8)) : (l.map mkB).map Value.string = l.map encStr := by rw [List.map_map]; rfl
theorem foR_len (s : ByteArray) (n : Int) : (foR s n).length ≤ s.size + 1 := by
  unfold foR; split
  · rw [List.length_map]; have := facR_len s n.toNat; omega
  · simp
def coR (s : ByteArray) (n : Int) : Int := if lenB s.data.toList n = true then ((facR s n.toNat).length : Int) else -1
theorem co_no {s : ByteArray} {n : Int} (h : lenB s.data.toList n = false) : coR s n = -1 := by unfold coR; rw [h]; rfl
theorem co_yes {s : ByteArray} {n : Nat} (h : lenB s.data.toList n = true) : coR s n = (facR s n).length := by unfold coR; rw [if_pos h]; rfl
theorem isLength_any (s : ByteArray) (n : Int) (w : World) (hs : s.size ≤ maxLen) :
    Calls Try.prog 69 #[.string s, .int .i64 n] w fun e w' => e = .returned (.bool (lenB s.data.toList n)) ∧ w' = w := by
  cases b1 : wordB s.data.toList
  · have HP := Lib.hid (show lenB s.data.toList n = false by unfold lenB; rw [b1]; rfl)
    go_enter Try.func69, Try.ntmps69
    go_wp2_with (go_at_call 80; refine (isWord_any _ _ hs).mono ?_; rw [b1]; rintro e w' ⟨rfl, rfl⟩)
    go_ret
    exact ⟨by rw [HP.out] <;> rfl, rfl⟩
  · have HP := Lib.hid (show lenB s.data.toList n = (decide ((1 : Int) ≤ n) && decide (n ≤ 400)) by unfold lenB; rw [b1]; rfl)
    have HB1 := Lib.hid b1; clear b1
    go_enter Try.func69, Try.ntmps69
    go_wp2_with (first
      | (go_at_call 80; refine (isWord_any _ _ hs).mono ?_; rw [HB1.out]; rintro e w' ⟨rfl, rfl⟩)
      | (go_at_call 55; refine (within_any _ _ _ _).mono ?_; rw [← HP.out]; rintro e w' ⟨rfl, rfl⟩))
    go_ret
    exact ⟨rfl, rfl⟩
end Go.Proofs.Ytglleimmmfnhcaa
