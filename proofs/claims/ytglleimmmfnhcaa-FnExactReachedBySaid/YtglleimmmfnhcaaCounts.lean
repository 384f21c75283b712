/- Walks: the numbers of the letters. -/
import Derived.Test.YtglleimmmfnhcaaPlaces
namespace Go.Proofs.Ytglleimmmfnhcaa
open Go.RowKit

def countC (l : List UInt8) (c : UInt8) : Nat := (l.filter fun x => x == c).length
theorem countC_snoc (l : List UInt8) (x c : UInt8) : countC (l ++ [x]) c = countC l c + if x = c then 1 else 0 := by
  unfold countC; rw [List.filter_append]
  by_cases h : x = c <;> simp [h]
theorem countC_le (l : List UInt8) (c : UInt8) : countC l c ≤ l.length := List.length_filter_le _ _
def countsL (l : List UInt8) : List Int := [(countC l 97 : Int), (countC l 98 : Int), (countC l 99 : Int), (countC l 100 : Int)]
/-- what CountsOf returns -/
def countsR (l : List UInt8) : List Int := if wordB l = true then countsL l else []

set_option maxHeartbeats 1000000 in
theorem l02Count_any (s : ByteArray) (c : UInt8) (w : World) (hs : s.size ≤ maxLen) :
    Calls Try.prog 77 #[.string s, .int .u8 c.toNat] w fun e w' => e = .returned (.int .i64 (countC s.data.toList c)) ∧ w = w' := by
  unfold maxLen at hs
  go_enter Try.func77, Try.ntmps77
  go_wp2_with fail
  go_loop [5, 6] (fun n i => ∃ k : Nat, k ≤ s.size ∧ i = .int .i64 k ∧ n = .int .i64 (countC (s.data.toList.take k) c)) (fun _ i => s.size - (intOf i).toNat)
  case atStart => exact ⟨0, Nat.zero_le _, rfl, rfl⟩
  case round =>
    obtain ⟨k, hk, rfl, rfl⟩ := hrel
    have hle := countC_le (s.data.toList.take k) c
    have hle2 : countC (s.data.toList.take k) c ≤ k := Nat.le_trans hle (List.length_take_le _ _)
    clear hle
    by_cases hlt : k < s.size
    · have HN := Lib.hid (show countC (s.data.toList.take (k + 1)) c = countC (s.data.toList.take k) c + if s[k] = c then 1 else 0 by rw [take_snoc s k hlt, countC_snoc])
      by_cases hc : s[k] = c
      · rw [if_pos hc] at HN
        have b1 : ((s[k].toNat : Int) == (c.toNat : Int)) = true := by rw [hc]; exact beq_iff_eq.2 rfl
        clear hc
        go_wp2
        go_round
        case rel => exact ⟨k + 1, by omega, by go_num, by rw [HN.out]; go_num⟩
        case measure => simp [intOf]; omega
      · rw [if_neg hc] at HN
        have b1 : ((s[k].toNat : Int) == (c.toNat : Int)) = false := by
          rw [beq_eq_false_iff_ne]; intro h; exact hc (UInt8.toNat_inj.1 (by omega))
        clear hc
        go_wp2
        go_round
        case rel => exact ⟨k + 1, by omega, by go_num, by rw [HN.out]; rfl⟩
        case measure => simp [intOf]; omega
    · have e := take_all s k (by omega)
      go_wp2
      go_ret
      exact ⟨rfl, rfl⟩
theorem countsR_len (l : List UInt8) : (countsR l).length ≤ 4 := by
  unfold countsR countsL; split <;> simp
theorem counts_out {l : List UInt8} (h : wordB l = false) : countsR l = [] := by unfold countsR; rw [h]; rfl
theorem counts_in {l : List UInt8} (h : wordB l = true) : countsR l = countsL l := by unfold countsR; rw [if_pos h]
theorem u8_lit (n : Nat) (h : n < 256) : (Value.int .u8 (n : Int)) = .int .u8 (UInt8.ofNat n).toNat := by
  congr 1
  rw [UInt8.toNat_ofNat']; omega
end Go.Proofs.Ytglleimmmfnhcaa
