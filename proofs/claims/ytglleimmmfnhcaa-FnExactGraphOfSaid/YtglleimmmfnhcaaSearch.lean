/- Walks: the place of a string in a sorted list. -/
import Derived.Test.YtglleimmmfnhcaaFac3
import Derived.Deep.LoopGhost
import Derived.Deep.Draws
namespace Go.Proofs.Ytglleimmmfnhcaa
open Go.RowKit
set_option maxRecDepth 20000

theorem idx_at : ∀ {l : List (List UInt8)} {x : List UInt8} {i : Nat} (h : i < l.length), l[i] = x → (∀ j (hj : j < l.length), j < i → l[j] ≠ x) → l.idxOf x = i
  | [], _, _, h, _, _ => absurd h (Nat.not_lt_zero _)
  | a :: l, x, 0, _, he, _ => by
    have : a = x := he
    subst this; simp
  | a :: l, x, i + 1, h, he, hne => by
    have h0 : a ≠ x := hne 0 (by simp) (by omega)
    have ih := idx_at (l := l) (x := x) (i := i) (by simpa using h) (by simpa using he) (fun j hj hji => by have h2 := hne (j + 1) (by simpa using hj) (by omega); rw [List.getElem_cons_succ] at h2; exact h2)
    rw [List.idxOf_cons]
    have hb : (a == x) = false := beq_eq_false_iff_ne.2 h0
    rw [hb, ih]; rfl
set_option maxHeartbeats 1000000 in
theorem l06At_any (l : List (List UInt8)) (g c base : Nat) (t : ByteArray) (w : World) (hown : w.ownsRow base 9 1 (.slice (some ⟨g, 0, none⟩) l.length c) l.length (l.map encStr)) (hlen : l.length ≤ 1000) (hm : t.data.toList ∈ l) :
    Calls Try.prog 68 #[.slice (some ⟨g, 0, none⟩) l.length c, .string t] w fun e w' => e = .returned (.int .i64 (l.idxOf t.data.toList)) ∧ w' = w := by
  have HO := Lib.hid hown; have HM := Lib.hid hm; clear hown hm
  go_enter Try.func68, Try.ntmps68
  go_wp2_with fail
  go_loop [9] (fun s => ∃ k : Nat, k ≤ l.length ∧ s = .int .i64 k ∧ ∀ j (hj : j < l.length), j < k → l[j] ≠ t.data.toList) (fun s => l.length - (intOf s).toNat)
  case atStart => exact ⟨0, Nat.zero_le _, rfl, fun j _ h => absurd h (Nat.not_lt_zero j)⟩
  case round =>
    obtain ⟨k, hk, rfl, hne⟩ := hrel
    have HNE := Lib.hid hne; clear hne
    by_cases hlt : k < l.length
    · obtain ⟨u, hu⟩ : ∃ u : ByteArray, u = mkB l[k] := ⟨_, rfl⟩
      have hud : u.data.toList = l[k] := by rw [hu]; rfl
      have g1 := HO.out.cellAt k (by omega)
      have hget : (l.map encStr)[k]? = some (.string u) := by rw [List.getElem?_map, List.getElem?_eq_getElem hlt, hu]; rfl
      rw [hget] at g1
      by_cases he : l[k] = t.data.toList
      · have b2 : (t.toList == u.toList) = true := by rw [beq_iff_eq, Lib.toList_data, Lib.toList_data, hud, he]
        have HI := Lib.hid (idx_at hlt he HNE.out)
        clear he hud hu hget
        go_wp2
        go_ret
        exact ⟨by rw [HI.out] <;> rfl, rfl⟩
      · have b2 : (t.toList == u.toList) = false := by rw [beq_eq_false_iff_ne, Lib.toList_data, Lib.toList_data, hud]; exact fun h => he h.symm
        have HN2 := Lib.hid (show ∀ j (hj : j < l.length), j < k + 1 → l[j] ≠ t.data.toList from fun j hj h => by
          by_cases e : j = k
          · subst e; exact he
          · exact HNE.out j hj (by omega))
        clear he hud hu hget
        go_wp2
        go_round
        case rel => exact ⟨k + 1, by omega, by go_num, HN2.out⟩
        case measure => simp [intOf]; omega
    · exfalso
      obtain ⟨j, hj, e⟩ := List.mem_iff_getElem.1 HM.out
      exact HNE.out j hj (by omega) e
theorem cmpNaN_any (x : ByteArray) (w : World) : Calls Try.prog 90 #[.string x] w fun e w' => e = .returned (.bool false) ∧ w' = w := by
  go_enter Try.func90, Try.ntmps90
  go_wp2
  go_ret
  exact ⟨by simp, rfl⟩
theorem slNaN_any (x : ByteArray) (w : World) : Calls Try.prog 84 #[.string x] w fun e w' => e = .returned (.bool false) ∧ w' = w := by
  go_enter Try.func84, Try.ntmps84
  go_wp2
  go_ret
  exact ⟨by simp, rfl⟩
theorem cmpLess_any (x y : ByteArray) (w : World) : Calls Try.prog 83 #[.string x, .string y] w fun e w' => e = .returned (.bool (Op.bytesLess x.toList y.toList)) ∧ w' = w := by
  go_enter Try.func83, Try.ntmps83
  go_wp2_with (go_at_call 90; refine (cmpNaN_any _ _).mono ?_; rintro e w' ⟨rfl, rfl⟩)
  go_ret
  exact ⟨rfl, rfl⟩
theorem strict_at {l : List (List UInt8)} (hs : l.Pairwise (· < ·)) {i j : Nat} (hi : i < l.length) (hj : j < l.length) (h : i ≤ j) : l[i] ≤ l[j] := by
  by_cases e : i = j
  · subst e; exact List.le_refl _
  · exact List.le_of_lt (List.pairwise_iff_getElem.1 hs i j hi hj (by omega))
theorem search_at {l : List (List UInt8)} (hs : l.Pairwise (· < ·)) {x : List UInt8} (hm : x ∈ l) {k : Nat} (h1 : ∀ j (hj : j < l.length), j < k → l[j] < x) (h2 : ∀ j (hj : j < l.length), k ≤ j → ¬ l[j] < x) : ∃ h : k < l.length, l[k] = x ∧ l.idxOf x = k := by
  obtain ⟨p, hp, e⟩ := List.mem_iff_getElem.1 hm
  have hkp : k ≤ p := by
    by_cases h : p < k
    · have := h1 p hp h; rw [e] at this; exact absurd this (List.lt_irrefl _)
    · omega
  have hk : k < l.length := by omega
  have hle : l[k] ≤ x := by rw [← e]; exact strict_at hs hk hp hkp
  have hxe : l[k] = x := List.le_antisymm hle (List.not_lt.1 (h2 k hk (Nat.le_refl _)))
  refine ⟨hk, hxe, idx_at hk hxe (fun j hj hjk hje => ?_)⟩
  have := h1 j hj hjk
  rw [hje] at this
  exact List.lt_irrefl _ this
set_option maxHeartbeats 2000000 in
theorem search_any (l : List (List UInt8)) (g c base : Nat) (t : ByteArray) (w : World) (hown : w.ownsRow base 9 1 (.slice (some ⟨g, 0, none⟩) l.length c) l.length (l.map encStr)) (hlen : l.length ≤ 1000) (hs : l.Pairwise (· < ·)) (hm : t.data.toList ∈ l) :
    Calls Try.prog 71 #[.slice (some ⟨g, 0, none⟩) l.length c, .string t] w fun e w' => e = .returned (.tuple #[.int .i64 (l.idxOf t.data.toList), .bool true]) ∧ ∃ q, w' = w.drewN q := by
  have HO := Lib.hid hown; have HM := Lib.hid hm; have HS := Lib.hid hs; clear hown hm hs
  go_enter Try.func71, Try.ntmps71
  go_wp2
  go_loopg [7, 8] l.length (fun k s7 s8 wr => ∃ lo hi q : Nat, s7 = .int .i64 lo ∧ s8 = .int .i64 hi ∧ lo ≤ hi ∧ hi ≤ l.length ∧ hi - lo ≤ k ∧ wr = w.drewN q ∧ (∀ j (hj : j < l.length), j < lo → l[j] < t.data.toList) ∧ (∀ j (hj : j < l.length), hi ≤ j → ¬ l[j] < t.data.toList))
  case atStart => exact ⟨0, l.length, 0, rfl, rfl, Nat.zero_le _, Nat.le_refl _, by omega, rfl, fun j _ h => absurd h (Nat.not_lt_zero _), fun j hj h => by omega⟩
  case round =>
    obtain ⟨lo, hi, q, rfl, rfl, hlh, hin, hg, rfl, h1, h2⟩ := hrel
    have I1 := Lib.hid h1; have I2 := Lib.hid h2
    clear h1 h2
    by_cases hlt : lo < hi
    · have hml : (lo + hi) / 2 < l.length := by omega
      obtain ⟨u, hu⟩ : ∃ u : ByteArray, u = mkB (l[(lo + hi) / 2]) := ⟨_, rfl⟩
      have hud : u.data.toList = l[(lo + hi) / 2] := by rw [hu]; rfl
      have g1 := HO.out.cellAt ((lo + hi) / 2) (by omega)
      have hget : (l.map encStr)[(lo + hi) / 2]? = some (.string u) := by rw [List.getElem?_map, List.getElem?_eq_getElem hml, hu]; rfl
      rw [hget] at g1
      by_cases hyx : l[(lo + hi) / 2] < t.data.toList
      · have b1 : Op.bytesLess u.toList t.toList = true := by rw [bytesLess_eq, Lib.toList_data, Lib.toList_data, hud]; exact decide_eq_true hyx
        have J1 := Lib.hid (show ∀ j (hj : j < l.length), j < (lo + hi) / 2 + 1 → l[j] < t.data.toList from fun j hj h => by
          refine List.lt_of_le_of_lt (strict_at HS.out hj hml (by omega)) hyx)
        clear hyx hud hu hget
        go_wp2_with (first | (go_at_call 83; refine (cmpLess_any _ _ _).mono ?_; rw [b1]; rintro e w' ⟨rfl, rfl⟩) | (go_at_call 84; refine (slNaN_any _ _).mono ?_; rintro e w' ⟨rfl, rfl⟩))
        go_roundg (hi - ((lo + hi) / 2 + 1))
        case measure => omega
        case rel => exact ⟨(lo + hi) / 2 + 1, hi, _, by rw [show ((lo : Int) + (hi : Int)) / 2 + 1 = (((lo + hi) / 2 + 1 : Nat) : Int) by omega], rfl, by omega, hin, Nat.le_refl _, rfl, J1.out, I2.out⟩
      · have b1 : Op.bytesLess u.toList t.toList = false := by rw [bytesLess_eq, Lib.toList_data, Lib.toList_data, hud]; exact decide_eq_false hyx
        have J2 := Lib.hid (show ∀ j (hj : j < l.length), (lo + hi) / 2 ≤ j → ¬ l[j] < t.data.toList from fun j hj h hlt2 => hyx (List.lt_of_le_of_lt (strict_at HS.out hml hj h) hlt2))
        clear hyx hud hu hget
        go_wp2_with (first | (go_at_call 83; refine (cmpLess_any _ _ _).mono ?_; rw [b1]; rintro e w' ⟨rfl, rfl⟩) | (go_at_call 84; refine (slNaN_any _ _).mono ?_; rintro e w' ⟨rfl, rfl⟩))
        go_roundg ((lo + hi) / 2 - lo)
        case measure => omega
        case rel => exact ⟨lo, (lo + hi) / 2, _, rfl, by rw [show ((lo : Int) + (hi : Int)) / 2 = (((lo + hi) / 2 : Nat) : Int) by omega], by omega, by omega, Nat.le_refl _, rfl, I1.out, J2.out⟩
    · obtain rfl : hi = lo := by omega
      obtain ⟨hk, hxe, hix⟩ := search_at HS.out HM.out I1.out I2.out
      obtain ⟨u, hu⟩ : ∃ u : ByteArray, u = mkB l[hi] := ⟨_, rfl⟩
      have hud : u.data.toList = l[hi] := by rw [hu]; rfl
      have g1 := HO.out.cellAt hi (by omega)
      have hget : (l.map encStr)[hi]? = some (.string u) := by rw [List.getElem?_map, List.getElem?_eq_getElem hk, hu]; rfl
      rw [hget] at g1
      have b2 : (u.toList == t.toList) = true := by rw [beq_iff_eq, Lib.toList_data, Lib.toList_data, hud, hxe]
      have HI := Lib.hid hix
      clear hxe hix hud hu hget
      go_wp2_with (first | (go_at_call 84; refine (slNaN_any _ _).mono ?_; rintro e w' ⟨rfl, rfl⟩))
      go_ret2
      exact ⟨by rw [HI.out] <;> rfl, _, rfl⟩
end Go.Proofs.Ytglleimmmfnhcaa
