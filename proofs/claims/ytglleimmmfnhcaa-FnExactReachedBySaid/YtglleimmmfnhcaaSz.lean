/- Walks: the laws' own helpers that measure and copy slices of strings. -/
import Derived.Test.YtglleimmmfnhcaaEq
import Derived.Test.YtglleimmmfnhcaaPlain1
import Derived.Laws.MakeOwn
namespace Go.Proofs.Ytglleimmmfnhcaa
open Go.RowKit

/-- all the bytes of a list of strings -/
def bytesOf : List ByteArray → Nat
  | [] => 0
  | s :: r => s.size + bytesOf r
/-- what szStringS returns -/
def szR (xs : List ByteArray) (L : Int) : Int := if (xs.length + bytesOf xs : Int) ≤ L then L - (xs.length + bytesOf xs) else -1
theorem bytesOf_append (xs ys : List ByteArray) : bytesOf (xs ++ ys) = bytesOf xs + bytesOf ys := by
  induction xs with
  | nil => simp [bytesOf]
  | cons a l ih => simp [bytesOf, ih]; omega
theorem bytesOf_step (xs : List ByteArray) (k : Nat) (h : k < xs.length) : bytesOf (xs.take (k + 1)) = bytesOf (xs.take k) + xs[k].size := by
  rw [List.take_succ_eq_append_getElem h, bytesOf_append]; simp [bytesOf]
theorem bytesOf_le (xs : List ByteArray) (k : Nat) : bytesOf (xs.take k) ≤ bytesOf xs := by
  have h : bytesOf xs = bytesOf (xs.take k ++ xs.drop k) := by rw [List.take_append_drop]
  rw [h, bytesOf_append]; omega
theorem bytesOf_mem {xs : List ByteArray} {s : ByteArray} (h : s ∈ xs) : s.size ≤ bytesOf xs := by
  induction xs with
  | nil => cases h
  | cons a l ih =>
    rcases List.mem_cons.1 h with rfl | h
    · simp [bytesOf]
    · have := ih h; simp [bytesOf]; omega
theorem szR_nonneg {xs : List ByteArray} {L : Int} (h : 0 ≤ szR xs L) : (xs.length + bytesOf xs : Int) ≤ L := by
  unfold szR at h; split at h <;> omega

theorem fill_get (xs : List ByteArray) (k : Nat) (h : k < xs.length) : ((xs.take k).map Value.string ++ List.replicate (xs.length - k) (Value.string ByteArray.empty))[k]? = some (Value.string ByteArray.empty) := by
  have hl : ((xs.take k).map Value.string).length = k := by simp; omega
  rw [List.getElem?_append_right (by omega), hl, Nat.sub_self, List.getElem?_replicate, if_pos (by omega)]
theorem fill_set (xs : List ByteArray) (k : Nat) (h : k < xs.length) : ((xs.take k).map Value.string ++ List.replicate (xs.length - k) (Value.string ByteArray.empty)).set k (.string xs[k]) =
    (xs.take (k + 1)).map Value.string ++ List.replicate (xs.length - (k + 1)) (Value.string ByteArray.empty) := by
  have hl : ((xs.take k).map Value.string).length = k := by simp; omega
  rw [List.set_append_right _ _ (by omega), hl, Nat.sub_self, List.take_succ_eq_append_getElem h, show xs.length - k = (xs.length - (k + 1)) + 1 by omega, List.replicate_succ, List.set_cons_zero, List.map_append, List.append_assoc]
  rfl

set_option maxHeartbeats 400000 in
theorem szStringS_any (xs : List ByteArray) (va : Value) (L : Int) (w : World) (B : Nat) (ha : Row1 w B va (xs.map .string)) (hs : ∀ s ∈ xs, s.size ≤ maxLen) (L0 : 0 ≤ L) (L1 : L ≤ 1048576) :
    Calls Try.prog 48 #[va, .int .i64 L] w fun e w' => e = .returned (.int .i64 (szR xs L)) ∧ w = w' := by
  have hl := ha.len
  simp only [List.length_map] at hl
  obtain ⟨A, c, rfl, hc, hm, hA⟩ := ha
  simp only [List.length_map] at hc ⊢
  unfold maxLen at hs
  by_cases hbig : L < xs.length
  · have HR := Lib.hid (show szR xs L = -1 by unfold szR; rw [if_neg (by omega)])
    go_enter Try.func48, Try.ntmps48
    go_wp2_with fail
    go_ret
    exact ⟨ret_int HR.out.symm, rfl⟩
  · have HA := Lib.hid hA; have HS := Lib.hid hs; clear hA hs
    have hb0 : bytesOf (xs.take 0) = 0 := rfl
    go_enter Try.func48, Try.ntmps48
    go_wp2_with fail
    go_loop [1, 5] (fun l i => ∃ k : Nat, k ≤ xs.length ∧ i = .int .i64 k ∧ (bytesOf (xs.take k) : Int) ≤ L - xs.length ∧ l = .int .i64 (L - xs.length - bytesOf (xs.take k))) (fun _ i => xs.length - (intOf i).toNat)
    case atStart => exact ⟨0, Nat.zero_le _, rfl, by rw [hb0]; omega, by rw [hb0]; simp⟩
    case round =>
      obtain ⟨k, hk, rfl, hle, rfl⟩ := hrel
      clear hb0
      by_cases hlt : k < xs.length
      · have hne : xs.map Value.string ≠ [] := by intro h; rw [List.map_eq_nil_iff] at h; subst h; simp at hlt
        obtain ⟨b, o, rfl, _, hcell⟩ := HA.out hne
        have g1 := hcell k _ (map_get Value.string xs k hlt)
        have gs := HS.out xs[k] (List.getElem_mem hlt)
        have HB := Lib.hid (bytesOf_step xs k hlt)
        have hb1 := bytesOf_le xs (k + 1)
        rw [HB.out] at hb1
        clear hcell hne
        by_cases hx : (bytesOf (xs.take k) + xs[k].size : Int) ≤ L - xs.length
        · go_wp2
          go_round
          case rel => exact ⟨k + 1, by omega, by go_num, by rw [HB.out]; omega, by rw [HB.out]; congr 1; omega⟩
          case measure => simp [intOf]; omega
        · have HR := Lib.hid (show szR xs L = -1 by unfold szR; rw [if_neg (by omega)])
          go_wp2
          go_ret
          exact ⟨ret_int HR.out.symm, rfl⟩
      · have e : xs.take k = xs := List.take_of_length_le (by omega)
        rw [e] at hle ⊢
        have HR := Lib.hid (show szR xs L = L - (xs.length + bytesOf xs) by unfold szR; rw [if_pos (by omega)])
        go_wp2
        go_ret
        exact ⟨ret_int (by rw [HR.out]; omega), rfl⟩
theorem info_string : (Try.prog.info? 9).map (fun i => (i.zero, i.size, i.bytes)) = some (some (.string ByteArray.empty), 1, 16) := by kernel_rfl
set_option maxHeartbeats 400000 in
theorem toStringS_any (xs : List ByteArray) (va : Value) (w : World) (ha : Row1 w w.heap.size va (xs.map .string)) (hx : xs.length ≤ 1048576) :
    Calls Try.prog 52 #[va] w fun e w' => e = .returned (.slice (some ⟨w.heap.size, 0, none⟩) xs.length xs.length) ∧ w'.ownsRow w.heap.size 9 1 (.slice (some ⟨w.heap.size, 0, none⟩) xs.length xs.length) xs.length (xs.map .string) ∧ Below w.heap.size w w' := by
  have hl := ha.len
  simp only [List.length_map] at hl
  have HA := Lib.hid ha
  obtain ⟨A, c, rfl, hc, hm, hA⟩ := ha
  simp only [List.length_map] at hc HA ⊢
  obtain ⟨i0, hi, hz0, hz1, hz2⟩ := info_parts info_string
  rcases Nat.eq_zero_or_pos xs.length with h0 | h0
  · have hx0 : xs = [] := List.eq_nil_of_length_eq_zero h0
    subst hx0
    clear hA HA
    go_enter Try.func52, Try.ntmps52
    go_wp2_with (at_make; refine wpList_make_full _ rfl _ _ 22 rfl w.heap.size 9 i0 _ 1 Try.underlying22 hi hz0 hz1 _ _ _ _ 0 rfl rfl rfl rfl (by omega) (by unfold maxLen; omega) (Nat.le_refl _) ?_)
    intro w1 hown hgrow
    have hbel := (Below.refl w.heap.size w).grown hgrow (Nat.le_refl _) (fun k hk => by cases hk)
    go_wp2_with fail
    refine wp_loop_rounds 1 ?_
    rw [rounds_succ]
    go_wp2
    go_ret
    exact ⟨rfl, by simpa [toList_madeCells_one] using hown, hbel⟩
  · have hne : xs.map Value.string ≠ [] := by intro h; rw [List.map_eq_nil_iff] at h; subst h; simp at h0
    obtain ⟨b, o, rfl, hbB, hcell⟩ := hA hne
    have HC := Lib.hid hcell; clear hcell hA HA hne
    go_enter Try.func52, Try.ntmps52
    go_wp2_with (at_make; refine wpList_make_full _ rfl _ _ 22 rfl w.heap.size 9 i0 _ 1 Try.underlying22 hi hz0 hz1 _ _ _ _ xs.length rfl rfl rfl rfl (by rw [hz2]; omega) (by unfold maxLen; omega) (Nat.le_refl _) ?_)
    intro w1 hown hgrow
    have hbel := (Below.refl w.heap.size w).grown hgrow (Nat.le_refl _) (fun k hk => by cases hk)
    rw [toList_madeCells_one] at hown
    clear hgrow hz0 hz1 hz2 hi
    go_wp2_with fail
    go_loopw [4] (fun i wr => ∃ k : Nat, k ≤ xs.length ∧ i = .int .i64 k ∧ wr.ownsRow w.heap.size 9 1 (.slice (some ⟨w.heap.size, 0, none⟩) xs.length xs.length) xs.length ((xs.take k).map Value.string ++ List.replicate (xs.length - k) (Value.string ByteArray.empty)) ∧ Below w.heap.size w wr) (fun i _ => xs.length - (intOf i).toNat)
    case atStart => exact ⟨0, Nat.zero_le _, rfl, by simpa using hown, hbel⟩
    case round =>
      clear hown hbel
      obtain ⟨k, hk, rfl, hown, hbel⟩ := hrel
      by_cases hlt : k < xs.length
      · have g1 := (hbel.cell (p := ⟨b, o + k, none⟩) hbB).trans (HC.out k _ (map_get Value.string xs k hlt))
        have g2 := hown.cellAt k (by omega)
        rw [fill_get xs k hlt] at g2
        have g3 := hown.frozenAt k
        have H := Lib.hid hown; have HB := Lib.hid hbel; clear hown hbel
        go_wp2
        go_roundw
        case rel =>
          refine ⟨k + 1, by omega, by go_num, ?_, HB.out.setCell (Nat.le_refl _) _⟩
          have h2 := (H.out.stored k (.string xs[k])).1
          rw [fill_set xs k hlt] at h2
          exact h2
        case measure => simp [intOf]; omega
      · have e : xs.take k = xs := List.take_of_length_le (by omega)
        rw [e, show xs.length - k = 0 by omega] at hown
        go_wp2
        go_ret
        exact ⟨rfl, by simpa using hown, hbel⟩
end Go.Proofs.Ytglleimmmfnhcaa
