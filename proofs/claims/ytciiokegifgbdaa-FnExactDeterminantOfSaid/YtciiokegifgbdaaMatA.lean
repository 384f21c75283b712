/- Walks: the laws' own helpers that measure and copy slices of slices of integers. -/
import Derived.Test.YtciiokegifgbdaaGridM
import Derived.Test.YtciiokegifgbdaaRows2
import Derived.Test.YtciiokegifgbdaaCarry
import Derived.Test.YtciiokegifgbdaaBox
import Derived.Test.YtciiokegifgbdaaWord
import Derived.Laws.MakeOwn
namespace Go.Proofs.Ytciiokegifgbdaa
open Go.RowKit
set_option maxRecDepth 20000

theorem info_intM : (Try.prog.info? 3).map (fun i => (i.zero, i.size, i.bytes)) = some (some (.int .i64 0), 1, 8) := by kernel_rfl
theorem info_rowM : (Try.prog.info? 37).map (fun i => (i.zero, i.size, i.bytes)) = some (some (.slice none 0 0), 1, 24) := by kernel_rfl
/-- what szIntSS returns -/
def szM (xss : List (List Int)) (L : Int) : Int := if (xss.length + totL xss : Int) ≤ L then L - (xss.length + totL xss) else -1
theorem szM_nonneg {xss : List (List Int)} {L : Int} (h : 0 ≤ szM xss L) : (xss.length + totL xss : Int) ≤ L := by
  unfold szM at h; split at h <;> omega
theorem szM_le (xss : List (List Int)) (L : Int) : szM xss L ≤ L ∨ szM xss L = -1 := by unfold szM; split <;> omega
set_option maxHeartbeats 400000 in
theorem szIntS_any (n : Nat) (A : Option Addr) (c : Nat) (L : Int) (w : World) (hn : n ≤ 9223372036854775807) (L0 : 0 ≤ L) (L1 : L ≤ 1048576) :
    Calls Try.prog 28 #[.slice A n c, .int .i64 L] w fun e w' => e = .returned (.int .i64 (if (n : Int) ≤ L then L - n else -1)) ∧ w' = w := by
  by_cases h : (n : Int) ≤ L
  · rw [if_pos h]
    have h2 : 0 ≤ L - (n : Int) := by omega
    go_enter Try.func28, Try.ntmps28
    go_wp2_with fail
    go_ret
    exact ⟨rfl, rfl⟩
  · rw [if_neg h]
    go_enter Try.func28, Try.ntmps28
    go_wp2_with fail
    go_ret
    exact ⟨rfl, rfl⟩
set_option maxHeartbeats 1000000 in
theorem szIntSS_any (xss : List (List Int)) (va : Value) (L : Int) (w : World) (B : Nat) (ha : Row2 w B va xss) (L0 : 0 ≤ L) (L1 : L ≤ 1048576) :
    Calls Try.prog 7 #[va, .int .i64 L] w fun e w' => e = .returned (.int .i64 (szM xss L)) ∧ w' = w := by
  have hl := ha.len
  obtain ⟨A, c, rfl, hc⟩ := ha.shape
  have HA := Lib.hid ha; clear ha
  by_cases hbig : L < xss.length
  · have HR := Lib.hid (show szM xss L = -1 by unfold szM; rw [if_neg (by omega)])
    go_enter Try.func7, Try.ntmps7
    go_wp2_with fail
    go_ret
    exact ⟨ret_int HR.out.symm, rfl⟩
  · go_enter Try.func7, Try.ntmps7
    go_wp2_with fail
    go_loop [1, 5] (fun l i => ∃ k : Nat, k ≤ xss.length ∧ i = .int .i64 k ∧ (totL (xss.take k) : Int) ≤ L - xss.length ∧ l = .int .i64 (L - xss.length - totL (xss.take k))) (fun _ i => xss.length - (intOf i).toNat)
    case atStart => exact ⟨0, Nat.zero_le _, rfl, by simp [totL]; omega, by simp [totL]⟩
    case round =>
      obtain ⟨k, hk, rfl, hle, rfl⟩ := hrel
      by_cases hlt : k < xss.length
      · obtain ⟨b, o, c', u, he, hu, hrow⟩ := HA.out.atRow k hlt
        cases he
        obtain ⟨A', c2, rfl, _⟩ := hrow.intAt
        have hrl := hrow.len
        rw [ints_len] at hrl
        have HT := Lib.hid (totL_take xss k hlt)
        have htl := totL_le xss (k + 1)
        rw [HT.out] at htl
        obtain ⟨n, hn⟩ : ∃ n, n = xss[k].length := ⟨_, rfl⟩
        rw [← hn] at hu hrl HT htl
        obtain ⟨d, hd⟩ : ∃ d, d = totL (xss.take k) := ⟨_, rfl⟩
        rw [← hd] at HT htl hle ⊢
        have HC := Lib.hid (szIntS_any n A' c2 (L - xss.length - d) w hrl (by omega) (by omega))
        clear hrow hn hd
        by_cases hx : (n : Int) ≤ L - xss.length - d
        · rw [if_pos hx] at HC
          have h2 : 0 ≤ L - (xss.length : Int) - (d : Int) - (n : Int) := by omega
          go_wp2_with (go_at_call 28; refine HC.out.mono ?_; rintro e w' ⟨rfl, rfl⟩)
          go_round
          case rel => exact ⟨k + 1, by omega, by go_num, by rw [HT.out]; omega, by rw [HT.out]; congr 1; omega⟩
          case measure => simp [intOf]; omega
        · rw [if_neg hx] at HC
          have HR := Lib.hid (show szM xss L = -1 by unfold szM; rw [if_neg (by omega)])
          go_wp2_with (go_at_call 28; refine HC.out.mono ?_; rintro e w' ⟨rfl, rfl⟩)
          go_ret
          exact ⟨ret_int HR.out.symm, rfl⟩
      · have e : xss.take k = xss := List.take_of_length_le (by omega)
        rw [e] at hle ⊢
        have HR := Lib.hid (show szM xss L = L - (xss.length + totL xss) by unfold szM; rw [if_pos (by omega)])
        go_wp2
        go_ret
        exact ⟨ret_int (by rw [HR.out]; omega), rfl⟩
theorem zfM_get (xs : List Int) (k : Nat) (h : k < xs.length) : (ints (xs.take k ++ List.replicate (xs.length - k) 0))[k]? = some (.int .i64 0) := by
  have hl : (xs.take k).length = k := by simp; omega
  rw [List.getElem?_map, List.getElem?_append_right (by omega), hl, Nat.sub_self, List.getElem?_replicate, if_pos (by omega)]; rfl
theorem zfM_set (xs : List Int) (k : Nat) (h : k < xs.length) : (ints (xs.take k ++ List.replicate (xs.length - k) 0)).set k (.int .i64 xs[k]) = ints (xs.take (k + 1) ++ List.replicate (xs.length - (k + 1)) 0) := by
  have hl : (xs.take k).length = k := by simp; omega
  unfold ints
  rw [← List.map_set, List.set_append_right _ _ (by omega), hl, Nat.sub_self, List.take_succ_eq_append_getElem h, show xs.length - k = (xs.length - (k + 1)) + 1 by omega, List.replicate_succ, List.set_cons_zero, List.append_assoc]
  rfl
set_option maxHeartbeats 400000 in
theorem toIntSM_any (xs : List Int) (va : Value) (w : World) (ha : Row1 w w.heap.size va (ints xs)) (hx : xs.length ≤ 1048576) :
    Calls Try.prog 30 #[va] w fun e w' => ∃ g, e = .returned (.slice (some ⟨g, 0, none⟩) xs.length xs.length) ∧ w'.ownsRow w.heap.size 3 1 (.slice (some ⟨g, 0, none⟩) xs.length xs.length) xs.length (ints xs) ∧ Below w.heap.size w w' := by
  obtain ⟨A, c, rfl, hc, hm, hA⟩ := ha
  rw [ints_len] at hc ⊢
  obtain ⟨i0, hi, hz0, hz1, hz2⟩ := info_parts info_intM
  rcases Nat.eq_zero_or_pos xs.length with h0 | h0
  · have hx0 : xs = [] := List.eq_nil_of_length_eq_zero h0
    subst hx0
    clear hA
    go_enter Try.func30, Try.ntmps30
    go_wp2_with (at_make; refine wpList_make_full _ rfl _ _ 37 rfl w.heap.size 3 i0 _ 1 Try.underlying37 hi hz0 hz1 _ _ _ _ 0 rfl rfl rfl rfl (by omega) (by unfold maxLen; omega) (Nat.le_refl _) ?_)
    intro w1 hown hgrow
    have hbel := (Below.refl w.heap.size w).grown hgrow (Nat.le_refl _) (fun k hk => by cases hk)
    go_wp2_with fail
    refine wp_loop_rounds 1 ?_
    rw [rounds_succ]
    go_wp2
    go_ret
    exact ⟨_, rfl, by simpa [toList_madeCells_one, ints] using hown, hbel⟩
  · have hne : ints xs ≠ [] := by
      intro h
      have h2 : xs.length = 0 := by have := congrArg List.length h; rw [ints_len] at this; exact this
      omega
    obtain ⟨b, o, rfl, hbB, hcell⟩ := hA hne
    have HC := Lib.hid hcell; clear hcell hA hne
    go_enter Try.func30, Try.ntmps30
    go_wp2_with (at_make; refine wpList_make_full _ rfl _ _ 37 rfl w.heap.size 3 i0 _ 1 Try.underlying37 hi hz0 hz1 _ _ _ _ xs.length rfl rfl rfl rfl (by rw [hz2]; omega) (by unfold maxLen; omega) (Nat.le_refl _) ?_)
    intro w1 hown hgrow
    have hbel := (Below.refl w.heap.size w).grown hgrow (Nat.le_refl _) (fun k hk => by cases hk)
    rw [toList_madeCells_one] at hown
    clear hgrow hz0 hz1 hz2 hi
    go_wp2_with fail
    go_loopw [4] (fun i wr => ∃ k : Nat, k ≤ xs.length ∧ i = .int .i64 k ∧ wr.ownsRow w.heap.size 3 1 (.slice (some ⟨w.heap.size, 0, none⟩) xs.length xs.length) xs.length (ints (xs.take k ++ List.replicate (xs.length - k) 0)) ∧ Below w.heap.size w wr) (fun i _ => xs.length - (intOf i).toNat)
    case atStart => exact ⟨0, Nat.zero_le _, rfl, by simpa [ints] using hown, hbel⟩
    case round =>
      clear hown hbel
      obtain ⟨k, hk, rfl, hown, hbel⟩ := hrel
      by_cases hlt : k < xs.length
      · have g1 := (hbel.cell (p := ⟨b, o + k, none⟩) hbB).trans (HC.out k _ (map_get (Value.int .i64) xs k hlt))
        have g2 := hown.cellAt k (by omega)
        rw [zfM_get xs k hlt] at g2
        have g3 := hown.frozenAt k
        have H := Lib.hid hown; have HB := Lib.hid hbel; clear hown hbel
        go_wp2
        go_roundw
        case rel =>
          refine ⟨k + 1, by omega, by go_num, ?_, HB.out.setCell (Nat.le_refl _) _⟩
          have h2 := (H.out.stored k (.int .i64 xs[k])).1
          rw [zfM_set xs k hlt] at h2
          exact h2
        case measure => simp [intOf]; omega
      · have e : xs.take k = xs := List.take_of_length_le (by omega)
        rw [e, show xs.length - k = 0 by omega] at hown
        go_wp2
        go_ret
        exact ⟨_, rfl, by simpa using hown, hbel⟩
theorem rf_len (xss : List (List Int)) (k : Nat) (h : k ≤ xss.length) : (xss.take k ++ List.replicate (xss.length - k) ([] : List Int)).length = xss.length := by simp; omega
theorem rf_set (xss : List (List Int)) (k : Nat) (h : k < xss.length) : (xss.take k ++ List.replicate (xss.length - k) ([] : List Int)).set k xss[k] = xss.take (k + 1) ++ List.replicate (xss.length - (k + 1)) [] := by
  have hl : (xss.take k).length = k := by simp; omega
  rw [List.set_append_right _ _ (by omega), hl, Nat.sub_self, List.take_succ_eq_append_getElem h, show xss.length - k = (xss.length - (k + 1)) + 1 by omega, List.replicate_succ, List.set_cons_zero, List.append_assoc]
  rfl
set_option maxHeartbeats 1000000 in
theorem toIntSS_any (xss : List (List Int)) (va : Value) (w : World) (ha : Row2 w w.heap.size va xss) (hx : xss.length ≤ 1048576) (ht : totL xss ≤ 1048576) :
    Calls Try.prog 9 #[va] w fun e w' => ∃ g, e = .returned (.slice (some ⟨g, 0, none⟩) xss.length xss.length) ∧ OwnG w' w.heap.size w'.heap.size (.slice (some ⟨g, 0, none⟩) xss.length xss.length) xss ∧ Below w.heap.size w w' := by
  obtain ⟨i1, hi, hz0, hz1, hz2⟩ := info_parts info_rowM
  have HI := Lib.hid hi; have HZ0 := Lib.hid hz0; have HZ1 := Lib.hid hz1; have HZ2 := Lib.hid hz2
  clear hi hz0 hz1 hz2
  obtain ⟨A, c, rfl, hc⟩ := ha.shape
  have HA := Lib.hid ha; clear ha
  go_enter Try.func9, Try.ntmps9
  go_wp2_with (at_make; refine wpList_make_full _ rfl _ _ 22 rfl w.heap.size 37 i1 _ 1 Try.underlying22 HI.out HZ0.out HZ1.out _ _ _ _ xss.length rfl rfl rfl rfl (by rw [HZ2.out]; omega) (by unfold maxLen; omega) (Nat.le_refl _) ?_)
  intro w1 hown hgrow
  have hbel := (Below.refl w.heap.size w).grown hgrow (Nat.le_refl _) (fun k hk => by cases hk)
  rw [toList_madeCells_one] at hown
  have HV1 := Lib.hid (OwnV.nils (E1 := 3) hown)
  have HB1 := Lib.hid hbel
  clear hgrow hbel hown
  go_wp2_with fail
  go_loopw [4] (fun i wr => ∃ (k : Nat) (vs : List Value), k ≤ xss.length ∧ i = .int .i64 k ∧ OwnV 37 3 wr w.heap.size (.slice (some ⟨w.heap.size, 0, none⟩) xss.length xss.length) vs (xss.take k ++ List.replicate (xss.length - k) []) ∧ Below w.heap.size w wr) (fun i _ => xss.length - (intOf i).toNat)
  case atStart => exact ⟨0, _, Nat.zero_le _, rfl, by simpa using HV1.out, HB1.out⟩
  case round =>
    clear HV1 HB1
    obtain ⟨wo, rfl⟩ : ∃ wo, wo = wr := ⟨_, rfl⟩
    obtain ⟨k, vs, hk, rfl, hov, hb⟩ := hrel
    have HV := Lib.hid hov; have HB := Lib.hid hb
    have HLN := Lib.hid (rf_len xss k hk)
    have hvl : vs.length = xss.length := by rw [hov.len]; exact HLN.out
    clear hov hb
    by_cases hlt : k < xss.length
    · obtain ⟨b, o, c', he, _, hrow⟩ := HA.out.openAt (by omega)
      cases he
      obtain ⟨u, hu⟩ := hrow k hlt
      obtain ⟨g1, hr1⟩ := hu wo (fun p hp => HB.out.cell hp)
      have htk := totL_step xss k hlt
      have HC := Lib.hid (toIntSM_any xss[k] u wo (hr1.mono HB.out.size) (by omega))
      have HST := Lib.hid (rf_set xss k hlt)
      obtain ⟨x, hx⟩ : ∃ x, x = xss[k] := ⟨_, rfl⟩
      rw [← hx] at HC HST
      clear hrow hu hr1 htk hx
      go_wp2_with fail
      refine HC.out.mono ?_
      rintro e w3 ⟨g3, rfl, ho3, hb3⟩
      have HV3 := Lib.hid (HV.out.below hb3)
      have HO3 := Lib.hid ho3; have HB3 := Lib.hid hb3
      have hvo := HV3.out.own
      rw [HLN.out] at hvo
      have g4 := hvo.cellAt k (by omega)
      rw [List.getElem?_eq_getElem (by omega)] at g4
      have g5 := hvo.frozenAt k
      have h6 := hvo.stored k (.slice (some ⟨g3, 0, none⟩) x.length x.length)
      have H6 := Lib.hid h6
      obtain ⟨v0, hv0⟩ : ∃ v0, v0 = vs[k]'(by omega) := ⟨_, rfl⟩
      rw [← hv0] at g4
      clear ho3 hb3 h6 g1 hv0 hvo
      go_wp2
      go_roundw
      case rel =>
        have hv := HV.out.store (k := k) types_apart HB.out.size HB3.out HO3.out (by omega) (by rw [HLN.out]; exact H6.out.1) H6.out.2
        rw [HST.out] at hv
        exact ⟨k + 1, _, by omega, by go_num, hv, since_grown (bthen HB.out HB3.out) H6.out.2 (fun g hg => by simp at hg; omega)⟩
      case measure => simp [intOf]; omega
    · obtain rfl : k = xss.length := by omega
      have HE := Lib.hid (show xss.take xss.length ++ List.replicate (xss.length - xss.length) ([] : List Int) = xss by simp)
      rw [HE.out] at HV
      go_wp2
      go_ret
      exact ⟨_, rfl, HV.out.own2, HB.out⟩
end Go.Proofs.Ytciiokegifgbdaa
