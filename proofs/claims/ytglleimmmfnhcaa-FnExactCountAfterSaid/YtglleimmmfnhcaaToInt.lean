/- Walks: the laws' own copy of a slice of integers; the length of what CountAfter returns. -/
import Derived.Test.YtglleimmmfnhcaaCnt
import Derived.Laws.MakeOwn
namespace Go.Proofs.Ytglleimmmfnhcaa
open Go.RowKit
set_option maxRecDepth 20000

theorem cnR_len {xs : List ByteArray} {cs : List Int} {n : Int} (h : xs.length ≤ 1048576) : (cnR xs cs n).length ≤ 1048576 := by
  unfold cnR
  rcases hc : cnP xs cs n with _ | l
  · simp
  · unfold cnP at hc
    split at hc
    case isFalse => cases hc
    case isTrue hb =>
      unfold cnB at hb
      simp only [Bool.and_eq_true, decide_eq_true_eq] at hb
      have := caGo_len _ _ _ _ (by rw [matR_len]; exact hb.1.1.2) hc
      rw [matR_len] at this
      show l.length ≤ _; omega
theorem zfill_get (xs : List Int) (k : Nat) (h : k < xs.length) : (ints (xs.take k ++ List.replicate (xs.length - k) 0))[k]? = some (.int .i64 0) := by
  have hl : (xs.take k).length = k := by simp; omega
  rw [List.getElem?_map, List.getElem?_append_right (by omega), hl, Nat.sub_self, List.getElem?_replicate, if_pos (by omega)]; rfl
theorem zfill_set (xs : List Int) (k : Nat) (h : k < xs.length) : (ints (xs.take k ++ List.replicate (xs.length - k) 0)).set k (.int .i64 xs[k]) = ints (xs.take (k + 1) ++ List.replicate (xs.length - (k + 1)) 0) := by
  have hl : (xs.take k).length = k := by simp; omega
  unfold ints
  rw [← List.map_set, List.set_append_right _ _ (by omega), hl, Nat.sub_self, List.take_succ_eq_append_getElem h, show xs.length - k = (xs.length - (k + 1)) + 1 by omega, List.replicate_succ, List.set_cons_zero, List.append_assoc]
  rfl
set_option maxHeartbeats 400000 in
theorem toIntS_any (xs : List Int) (va : Value) (w : World) (ha : Row1 w w.heap.size va (ints xs)) (hx : xs.length ≤ 1048576) :
    Calls Try.prog 31 #[va] w fun e w' => ∃ g, e = .returned (.slice (some ⟨g, 0, none⟩) xs.length xs.length) ∧ w'.ownsRow w.heap.size 3 1 (.slice (some ⟨g, 0, none⟩) xs.length xs.length) xs.length (ints xs) ∧ Below w.heap.size w w' := by
  obtain ⟨A, c, rfl, hc, hm, hA⟩ := ha
  rw [ints_len] at hc ⊢
  obtain ⟨i0, hi, hz0, hz1, hz2⟩ := info_parts info_int
  rcases Nat.eq_zero_or_pos xs.length with h0 | h0
  · have hx0 : xs = [] := List.eq_nil_of_length_eq_zero h0
    subst hx0
    clear hA
    go_enter Try.func31, Try.ntmps31
    go_wp2_with (at_make; refine wpList_make_full _ rfl _ _ 41 rfl w.heap.size 3 i0 _ 1 Try.underlying41 hi hz0 hz1 _ _ _ _ 0 rfl rfl rfl rfl (by omega) (by unfold maxLen; omega) (Nat.le_refl _) ?_)
    intro w1 hown hgrow
    have hbel := (Below.refl w.heap.size w).grown hgrow (Nat.le_refl _) (fun k hk => by cases hk)
    go_wp2_with fail
    refine wp_loop_rounds 1 ?_
    rw [rounds_succ]
    go_wp2
    go_ret
    exact ⟨_, rfl, by simpa [toList_madeCells_one, ints] using hown, hbel⟩
  · have hne : ints xs ≠ [] := by
      intro h
      have h2 : xs.length = 0 := by have := congrArg List.length h; rw [ints_len] at this; exact this
      omega
    obtain ⟨b, o, rfl, hbB, hcell⟩ := hA hne
    have HC := Lib.hid hcell; clear hcell hA hne
    go_enter Try.func31, Try.ntmps31
    go_wp2_with (at_make; refine wpList_make_full _ rfl _ _ 41 rfl w.heap.size 3 i0 _ 1 Try.underlying41 hi hz0 hz1 _ _ _ _ xs.length rfl rfl rfl rfl (by rw [hz2]; omega) (by unfold maxLen; omega) (Nat.le_refl _) ?_)
    intro w1 hown hgrow
    have hbel := (Below.refl w.heap.size w).grown hgrow (Nat.le_refl _) (fun k hk => by cases hk)
    rw [toList_madeCells_one] at hown
    clear hgrow hz0 hz1 hz2 hi
    go_wp2_with fail
    go_loopw [4] (fun i wr => ∃ k : Nat, k ≤ xs.length ∧ i = .int .i64 k ∧ wr.ownsRow w.heap.size 3 1 (.slice (some ⟨w.heap.size, 0, none⟩) xs.length xs.length) xs.length (ints (xs.take k ++ List.replicate (xs.length - k) 0)) ∧ Below w.heap.size w wr) (fun i _ => xs.length - (intOf i).toNat)
    case atStart => exact ⟨0, Nat.zero_le _, rfl, by simpa [ints] using hown, hbel⟩
    case round =>
      clear hown hbel
      obtain ⟨k, hk, rfl, hown, hbel⟩ := hrel
      by_cases hlt : k < xs.length
      · have g1 := (hbel.cell (p := ⟨b, o + k, none⟩) hbB).trans (HC.out k _ (map_get (Value.int .i64) xs k hlt))
        have g2 := hown.cellAt k (by omega)
        rw [zfill_get xs k hlt] at g2
        have g3 := hown.frozenAt k
        have H := Lib.hid hown; have HB := Lib.hid hbel; clear hown hbel
        go_wp2
        go_roundw
        case rel =>
          refine ⟨k + 1, by omega, by go_num, ?_, HB.out.setCell (Nat.le_refl _) _⟩
          have h2 := (H.out.stored k (.int .i64 xs[k])).1
          rw [zfill_set xs k hlt] at h2
          exact h2
        case measure => simp [intOf]; omega
      · have e : xs.take k = xs := List.take_of_length_le (by omega)
        rw [e, show xs.length - k = 0 by omega] at hown
        go_wp2
        go_ret
        exact ⟨_, rfl, by simpa using hown, hbel⟩
end Go.Proofs.Ytglleimmmfnhcaa
