/- Walks: the factors of a word by the library's sort. -/
import Derived.Test.YtglleimmmfnhcaaFac
import Derived.Test.YtglleimmmfnhcaaShelf
import Derived.Sort.OwnSorted
import Derived.Deep.AppendLies
namespace Go.Proofs.Ytglleimmmfnhcaa
open Go.RowKit
set_option maxRecDepth 20000

theorem own_take {w : World} {base : Nat} {E : TypeId} {n m g cap : Nat} {xs : List Value} (h : w.ownsRow base E 1 (.slice (some ⟨g, 0, none⟩) n cap) n xs) (hm : m ≤ n) :
    w.ownsRow base E 1 (.slice (some ⟨g, 0, none⟩) m cap) m (xs.take m) := by
  obtain ⟨h1, h2⟩ := h
  rcases h2 with ⟨h0, _⟩ | ⟨g', cap', cur, hv, hg, hh, hn, hcap, hsz, htake⟩
  · cases h0
  · cases hv
    refine ⟨by rw [List.length_take]; omega, .inr ⟨g, cap, cur, rfl, hg, hh, by omega, hcap, hsz, ?_⟩⟩
    rw [← htake, List.take_take, Nat.mul_one, Nat.mul_one, Nat.min_eq_left hm]
theorem win_enc (s : ByteArray) (n k : Nat) : encStr (win s n k) = .string (s.extract k (k + n)) := by
  show Value.string ⟨(s.extract k (k + n)).data.toList.toArray⟩ = _
  rw [Lib.mk_data]
theorem grow_none (w : World) : Sort.grow w #[] = w := by simp [Sort.grow]
/-- the row behind the library's sort -/
theorem own_sort {w w' : World} {base g cap q : Nat} {e : TypeId} {os : Array Obj} {ss ts : List (List UInt8)} (h : w.ownsRow base e 1 (.slice (some ⟨g, 0, none⟩) ss.length cap) ss.length (ss.map encStr)) (hl : ts.length = ss.length)
    (hw : w' = Sort.grow (Sort.putRow encStr (Sort.ahead w q) g 0 ts.toArray) os) : w'.ownsRow base e 1 (.slice (some ⟨g, 0, none⟩) ss.length cap) ss.length (ts.map encStr) ∧ w.grownBy w' (some g) := by
  subst hw
  rcases h.2 with ⟨h0, _⟩ | ⟨g', cap', cur, hv, hg, hh, hn, hcap, hsz, htake⟩
  · cases h0
  · cases hv
    exact ⟨ownsRow_sorted hl hg hh hn hcap hsz, grownBy_sorted _⟩
theorem own_holds {w : World} {base g cap : Nat} {e : TypeId} {ss : List (List UInt8)} (h : w.ownsRow base e 1 (.slice (some ⟨g, 0, none⟩) ss.length cap) ss.length (ss.map encStr)) : Sort.Holds encStr w g 0 ss.toArray ∧ g < w.heap.size ∧ ss.length ≤ cap := by
  rcases h.2 with ⟨h0, _⟩ | ⟨g', cap', cur, hv, hg, hh, hn, hcap, hsz, htake⟩
  · cases h0
  · cases hv
    exact ⟨holds_of_block hh (by simpa using htake), (Array.getElem?_eq_some_iff.1 hh).1, hn⟩
set_option maxHeartbeats 2000000 in
theorem factorsOf_any (s : ByteArray) (n : Nat) (w : World) (hs : s.size ≤ 400) (h1 : 1 ≤ n) (h4 : n ≤ 401) :
    Calls Try.prog 70 #[.string s, .int .i64 n] w fun e w' => ∃ g c, e = .returned (.slice (some ⟨g, 0, none⟩) (facR s n).length c) ∧ w'.ownsRow w.heap.size 9 1 (.slice (some ⟨g, 0, none⟩) (facR s n).length c) (facR s n).length ((facR s n).map encStr) ∧ Below w.heap.size w w' := by
  obtain ⟨i0, hi, hz0, hz1, hz2⟩ := info_parts info_strF
  have HI := Lib.hid hi; have HZ0 := Lib.hid hz0; have HZ1 := Lib.hid hz1; have HZ2 := Lib.hid hz2
  clear hi hz0 hz1 hz2
  have HO0 := Lib.hid (World.ownsRow_made (base := w.heap.size) (e := 9) (size := 1) w #[] 0 (Nat.le_refl _) (Nat.zero_le _) rfl)
  obtain ⟨N, hN⟩ : ∃ N, N = s.size + 1 - n := ⟨_, rfl⟩
  have HF := Lib.hid (show facR s n = Lib.compact ((wins s n N).mergeSort fun x y => decide (x ≤ y)) from by rw [hN]; rfl)
  go_enter Try.func70, Try.ntmps70
  go_wp2_with fail
  go_loopw [5, 6] (fun v i wr => ∃ k g c : Nat, k ≤ N ∧ i = .int .i64 k ∧ v = .slice (some ⟨g, 0, none⟩) k c ∧ wr.ownsRow w.heap.size 9 1 (.slice (some ⟨g, 0, none⟩) k c) k ((wins s n k).map encStr) ∧ Below w.heap.size w wr) (fun _ i _ => N - (intOf i).toNat)
  case atStart => exact ⟨0, w.heap.size, 0, Nat.zero_le _, rfl, rfl, by simpa [wins] using HO0.out, bnew _ _⟩
  case round =>
    obtain ⟨k, g, c, hk, rfl, rfl, ho, hb⟩ := hrel
    have HO := Lib.hid ho; have HB := Lib.hid hb; clear ho hb
    by_cases hlt : k + n ≤ s.size
    · have HW := Lib.hid (show (wins s n (k + 1)).map encStr = (wins s n k).map encStr ++ [.string (s.extract k (k + n))] from by rw [wins_succ, List.map_append, ← win_enc]; rfl)
      go_wp2_with (at_builtin; refine wpList_append_lies _ rfl _ _ 22 rfl w.heap.size 9 i0 (.string ByteArray.empty) 1 16 Try.underlying22 HI.out HZ0.out HZ1.out HZ2.out rfl (by decide) _ _ _ rfl (HO.out.alloc _) ⟨_, 0, none⟩ 1 1 [.string (s.extract k (k + n))] rfl rfl (cell_one_new _ _ _) (by intro u hu; simp at hu; subst hu; rfl) (by omega) (by unfold maxLen; omega) (by omega) (by have := HB.out.size; simp; omega) _ rfl ?_)
      intro g1 c1 w1 hown1 hg1 _ _
      have HB1 := Lib.hid (since_grown (bthen HB.out (bnew _ _)) hg1 (fun g' hg' => (own_lt HO.out hg').1))
      have HO1 := Lib.hid hown1
      clear hown1 hg1
      go_wp2_with fail
      go_roundw
      case rel => exact ⟨k + 1, g1, c1, by omega, by go_num, rfl, by rw [HW.out]; simpa using HO1.out, HB1.out⟩
      case measure => simp [intOf]; omega
    · obtain rfl : k = N := by omega
      have hwl := wins_len s n k
      rcases Nat.eq_zero_or_pos k with h0 | h0
      · subst h0
        have HS := Lib.hid (Try.slices_Sort_string_none (some ⟨g, 0, none⟩) c wr)
        have HC := Lib.hid (Try.slices_Compact_string_empty (some ⟨g, 0, none⟩) c wr)
        have hf0 : facR s n = [] := List.eq_nil_of_length_eq_zero (by have := facR_len s n; omega)
        have HF0 := Lib.hid hf0
        clear hwl hf0 hN
        go_wp2_with fail
        refine HS.out.mono ?_
        rintro e w1 ⟨rfl, rfl⟩
        go_wp2_with fail
        refine HC.out.mono ?_
        rintro e w2 ⟨rfl, rfl⟩
        go_wp2_with fail
        go_ret
        exact ⟨g, c, by rw [HF0.out] <;> rfl, by rw [HF0.out]; simpa [wins] using HO.out, HB.out⟩
      · have ho2 : wr.ownsRow w.heap.size 9 1 (.slice (some ⟨g, 0, none⟩) (wins s n k).length c) (wins s n k).length ((wins s n k).map encStr) := by rw [hwl]; exact HO.out
        obtain ⟨hh, hgl, hcl⟩ := own_holds ho2
        have HS := Try.slices_Sort_string g 0 c (wins s n k) wr hh hgl (by rw [hwl]; omega)
        rw [hwl] at HS
        have HS := Lib.hid HS
        have HO2 := Lib.hid ho2
        have HWL := Lib.hid hwl
        have hkb : k ≤ 400 := by omega
        clear hh hgl hcl ho2 hwl hN
        go_wp2_with fail
        refine HS.out.mono ?_
        rintro e w1 ⟨rfl, q, os, hw1⟩
        obtain ⟨ho3, hg3⟩ := own_sort HO2.out (by rw [List.length_mergeSort]) hw1
        obtain ⟨ss, hss⟩ : ∃ ss, ss = (wins s n k).mergeSort fun x y => decide (x ≤ y) := ⟨_, rfl⟩
        rw [← hss] at ho3
        have hsl : ss.length = k := by rw [hss, List.length_mergeSort, HWL.out]
        have HF2 := Lib.hid (show facR s n = Lib.compact ss from by rw [hss]; exact HF.out)
        rw [HWL.out, ← hsl] at ho3
        obtain ⟨hh, hgl, hcl⟩ := own_holds ho3
        have HC := Try.slices_Compact_string g 0 c ss w1 hh (by rw [hsl]; omega) hcl
        rw [hsl, ← HF2.out] at HC
        have HC := Lib.hid HC
        have HO3 := Lib.hid ho3
        have HB3 := Lib.hid (since_grown HB.out hg3 (fun g' hg' => (own_lt HO.out (by simpa [Value.ownBlock] using hg')).1))
        have HSL := Lib.hid hsl
        have hfl := facR_len s n
        clear hw1 ho3 hg3 hss hsl hh hgl hcl
        go_wp2_with fail
        refine HC.out.mono ?_
        rintro e w2 ⟨rfl, q2, hw2⟩
        have hfk : (facR s n).length ≤ k := by
          rw [HF2.out, ← HSL.out]
          unfold Lib.compact Lib.compactUpTo
          rw [List.length_map]
          exact Nat.le_trans (List.length_filter_le _ _) (by simp)
        have hlen : (facR s n ++ List.replicate (k - (facR s n).length) []).length = ss.length := by rw [List.length_append, List.length_replicate, HSL.out]; omega
        obtain ⟨ho4, hg4⟩ := own_sort (w' := w2) (q := q2) (os := #[]) HO3.out hlen (by rw [grow_none]; exact hw2)
        have ho5 := own_take ho4 (m := (facR s n).length) (by rw [HSL.out]; exact hfk)
        rw [List.map_append, List.take_left' (List.length_map _)] at ho5
        have HO5 := Lib.hid ho5
        have HB4 := Lib.hid (since_grown HB3.out hg4 (fun g' hg' => (own_lt HO3.out (by simpa [Value.ownBlock] using hg')).1))
        clear hw2 ho4 hg4 ho5 hlen hfk hfl
        go_wp2_with fail
        go_ret
        exact ⟨g, c, rfl, HO5.out, HB4.out⟩
end Go.Proofs.Ytglleimmmfnhcaa
