/- Walks: a substitution in text form. -/
import Derived.Test.YtciiokegifgbdaaDoorJoin
import Derived.Test.YtciiokegifgbdaaDoorState
import Derived.Test.YtciiokegifgbdaaDoorOk
namespace Go.Proofs.YtciiokegifgbdaaDoor
open Go.RowKit

def comma : ByteArray := ⟨#[44]⟩
/-- what FormatSubst returns -/
def fmtR (xs : List ByteArray) : ByteArray := if substB xs = true then joinR xs comma else ⟨#[]⟩
theorem fmt_out {xs : List ByteArray} (h : substB xs = false) : fmtR xs = ⟨#[]⟩ := by unfold fmtR; rw [h]; rfl
theorem fmt_in {xs : List ByteArray} (h : substB xs = true) : fmtR xs = joinR xs comma := by unfold fmtR; rw [if_pos h]
theorem bytesOf_each {n : Nat} : ∀ {xs : List ByteArray}, (∀ s ∈ xs, s.size ≤ n) → bytesOf xs ≤ n * xs.length
  | [], _ => by simp [bytesOf]
  | a :: l, h => by
    have h1 := bytesOf_each (xs := l) (fun s hs => h s (List.mem_cons_of_mem _ hs))
    have h2 := h a List.mem_cons_self
    rw [List.length_cons, Nat.mul_succ]
    simp only [bytesOf]; omega
theorem subst_bytes {xs : List ByteArray} (h : substB xs = true) : xs.length + bytesOf xs ≤ 1048576 := by
  obtain ⟨_, h4, hall⟩ := subst_parts h
  have := bytesOf_each (n := 8) (fun s hs => (hall s hs).2.1)
  omega
set_option maxHeartbeats 1000000 in
theorem specFormatSubst_any (xs : List ByteArray) (va : Value) (w : World) (ha : Row1 w w.heap.size va (xs.map .string)) (hs : ∀ s ∈ xs, s.size ≤ maxLen) :
    Calls Tryd.prog 39 #[.agg #[va]] w fun e w' => e = .returned (.string (fmtR xs)) ∧ Below w.heap.size w w' := by
  obtain ⟨A, cp, rfl⟩ := ha.shape
  have s0 := Stands.start w 36 (.slice A xs.length cp)
  have HOK := Lib.hid (specSubstOk_any xs _ _ (s0.row ha) hs)
  have c0 := s0.box
  have HS0 := Lib.hid s0
  have HA := Lib.hid ha
  clear s0 ha hs
  cases hx : substB xs
  · have HF := Lib.hid (fmt_out hx)
    go_enter Tryd.func39, Tryd.ntmps39
    go_wp2_with fail
    refine HOK.out.mono ?_
    rw [hx]
    rintro e w1 ⟨rfl, hb1⟩
    have S1 := Lib.hid (HS0.out.on hb1); clear hb1
    go_wp2_with fail
    go_ret
    exact ⟨by rw [HF.out] <;> rfl, S1.out.below⟩
  have HF := Lib.hid (fmt_in hx)
  have HX := Lib.hid hx
  have HJ := Lib.hid (fun W (S : Stands w 36 (.slice A xs.length cp) W) => specJoin_any xs _ comma W (S.row HA.out) (subst_bytes hx) (by decide))
  clear hx
  go_enter Tryd.func39, Tryd.ntmps39
  go_wp2_with fail
  refine HOK.out.mono ?_
  rw [HX.out]
  rintro e w1 ⟨rfl, hb1⟩
  have S1 := Lib.hid (HS0.out.on hb1); clear hb1
  have c1 := S1.out.box
  clear c0
  go_wp2_with fail
  refine (HJ.out _ S1.out).mono ?_
  rintro e w2 ⟨rfl, rfl⟩
  go_wp2_with fail
  go_ret
  exact ⟨by rw [HF.out] <;> rfl, S1.out.below⟩
end Go.Proofs.YtciiokegifgbdaaDoor
