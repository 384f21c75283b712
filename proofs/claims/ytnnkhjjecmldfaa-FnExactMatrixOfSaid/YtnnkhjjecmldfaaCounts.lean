/- Walks: the numbers of the letters. -/
import Derived.Test.YtnnkhjjecmldfaaPlaces
namespace Go.Proofs.Ytnnkhjjecmldfaa
open Go.RowKit

def countC (l : List UInt8) (c : UInt8) : Nat := (l.filter fun x => x == c).length
theorem countC_snoc (l : List UInt8) (x c : UInt8) : countC (l ++ [x]) c = countC l c + if x = c then 1 else 0 := by
  unfold countC; rw [List.filter_append]
  by_cases h : x = c <;> simp [h]
theorem countC_le (l : List UInt8) (c : UInt8) : countC l c ≤ l.length := List.length_filter_le _ _
def countsL (l : List UInt8) : List Int := [(countC l 97 : Int), (countC l 98 : Int), (countC l 99 : Int), (countC l 100 : Int)]
/-- what CountsOf returns -/
def countsR (l : List UInt8) : List Int := if wordB l = true then countsL l else []

set_option maxHeartbeats 1000000 in
theorem l02Count_any (s : ByteArray) (c : UInt8) (w : World) (hs : s.size ≤ maxLen) :
    Calls Try.prog 65 #[.string s, .int .u8 c.toNat] w fun e w' => e = .returned (.int .i64 (countC s.data.toList c)) ∧ w = w' := by
  unfold maxLen at hs
  go_enter Try.func65, Try.ntmps65
  go_wp2_with fail
  go_loop [5, 6] (fun n i => ∃ k : Nat, k ≤ s.size ∧ i = .int .i64 k ∧ n = .int .i64 (countC (s.data.toList.take k) c)) (fun _ i => s.size - (intOf i).toNat)
  case atStart => exact ⟨0, Nat.zero_le _, rfl, rfl⟩
  case round =>
    obtain ⟨k, hk, rfl, rfl⟩ := hrel
    have hle := countC_le (s.data.toList.take k) c
    have hle2 : countC (s.data.toList.take k) c ≤ k := Nat.le_trans hle (List.length_take_le _ _)
    clear hle
    by_cases hlt : k < s.size
    · have HN := Lib.hid (show countC (s.data.toList.take (k + 1)) c = countC (s.data.toList.take k) c + if s[k] = c then 1 else 0 by rw [take_snoc s k hlt, countC_snoc])
      by_cases hc : s[k] = c
      · rw [if_pos hc] at HN
        have b1 : ((s[k].toNat : Int) == (c.toNat : Int)) = true := by rw [hc]; exact beq_iff_eq.2 rfl
        clear hc
        go_wp2
        go_round
        case rel => exact ⟨k + 1, by omega, by go_num, by rw [HN.out]; go_num⟩
        case measure => simp [intOf]; omega
      · rw [if_neg hc] at HN
        have b1 : ((s[k].toNat : Int) == (c.toNat : Int)) = false := by
          rw [beq_eq_false_iff_ne]; intro h; exact hc (UInt8.toNat_inj.1 (by omega))
        clear hc
        go_wp2
        go_round
        case rel => exact ⟨k + 1, by omega, by go_num, by rw [HN.out]; rfl⟩
        case measure => simp [intOf]; omega
    · have e := take_all s k (by omega)
      go_wp2
      go_ret
      exact ⟨rfl, rfl⟩
theorem countsR_len (l : List UInt8) : (countsR l).length ≤ 4 := by
  unfold countsR countsL; split <;> simp
theorem counts_out {l : List UInt8} (h : wordB l = false) : countsR l = [] := by unfold countsR; rw [h]; rfl
theorem counts_in {l : List UInt8} (h : wordB l = true) : countsR l = countsL l := by unfold countsR; rw [if_pos h]
theorem u8_lit (n : Nat) (h : n < 256) : (Value.int .u8 (n : Int)) = .int .u8 (UInt8.ofNat n).toNat := by
  congr 1
  rw [UInt8.toNat_ofNat']; omega
set_option maxHeartbeats 1000000 in
theorem specCountsOf_any (s : ByteArray) (w : World) (hs : s.size ≤ maxLen) :
    Calls Try.prog 69 #[.string s] w fun e w' => ∃ v, e = .returned v ∧ w'.ownsRow w.heap.size 3 1 v (countsR s.data.toList).length ((countsR s.data.toList).map (.int .i64)) ∧ Below w.heap.size w w' := by
  have HNIL := Lib.hid (World.ownsRow_nil w w.heap.size 3 1)
  cases b1 : wordB s.data.toList
  · have HP := Lib.hid (counts_out b1)
    go_enter Try.func69, Try.ntmps69
    go_wp2_with (go_at_call 64; refine (specWordOk_any _ _ hs).mono ?_; rw [b1]; rintro e w' ⟨rfl, rfl⟩)
    go_ret
    exact ⟨_, rfl, by rw [HP.out]; exact HNIL.out, Below.refl _ _⟩
  · have HP := Lib.hid (counts_in b1)
    have HB1 := Lib.hid b1
    have HO := Lib.hid (World.ownsRow_lit (base := w.heap.size) (e := 3) (size := 1) w #[.int .i64 (countC s.data.toList 97), .int .i64 (countC s.data.toList 98), .int .i64 (countC s.data.toList 99), .int .i64 (countC s.data.toList 100)] 4 (Nat.le_refl _) (by unfold maxLen; omega) rfl)
    have HB := Lib.hid ((Below.refl w.heap.size w).alloc (Nat.le_refl _) (.cells #[.int .i64 (countC s.data.toList 97), .int .i64 (countC s.data.toList 98), .int .i64 (countC s.data.toList 99), .int .i64 (countC s.data.toList 100)] 3))
    have C1 := Lib.hid (l02Count_any s 97 w hs)
    have C2 := Lib.hid (l02Count_any s 98 w hs)
    have C3 := Lib.hid (l02Count_any s 99 w hs)
    have C4 := Lib.hid (l02Count_any s 100 w hs)
    clear b1
    go_enter Try.func69, Try.ntmps69
    go_wp2_with fail
    refine (specWordOk_any _ _ hs).mono ?_
    rw [HB1.out]
    rintro e w' ⟨rfl, rfl⟩
    go_wp2_with fail
    refine C1.out.mono ?_
    rintro e w' ⟨rfl, rfl⟩
    go_wp2_with fail
    refine C2.out.mono ?_
    rintro e w' ⟨rfl, rfl⟩
    go_wp2_with fail
    refine C3.out.mono ?_
    rintro e w' ⟨rfl, rfl⟩
    go_wp2_with fail
    refine C4.out.mono ?_
    rintro e w' ⟨rfl, rfl⟩
    go_wp2_with fail
    go_ret
    exact ⟨_, rfl, by rw [HP.out]; exact HO.out, HB.out⟩
end Go.Proofs.Ytnnkhjjecmldfaa
