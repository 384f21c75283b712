/- Walks: the fixed point of a growing letter, the program's. -/
import Derived.Test.YtglleimmmfnhcaaFix
import Derived.Deep.RegionWith
namespace Go.Proofs.Ytglleimmmfnhcaa
open Go.RowKit
set_option maxRecDepth 20000

set_option maxHeartbeats 4000000 in
theorem fixed_any (xs : List ByteArray) (va : Value) (s : ByteArray) (n : Nat) (w : World) (ha : Row1 w w.heap.size va (xs.map .string)) (hs1 : 0 < s.size) (hg : Grows xs s[0]) (hn : n ≤ 10001) :
    Calls Try.prog 56 #[.agg #[va], .string s, .int .i64 n] w fun e w' => ∃ t g c, e = .returned (.slice (some ⟨g, 0, none⟩) (fixIt xs s[0] t).length c) ∧ OwnT w' w.heap.size 5 (.slice (some ⟨g, 0, none⟩) (fixIt xs s[0] t).length c) (fixIt xs s[0] t) ∧ n ≤ (fixIt xs s[0] t).length ∧ (fixIt xs s[0] t).length ≤ n + 8 ∧ Below w.heap.size w w' := by
  have s0 := Stands.start w 28 va
  have h4 := (subst_parts hg.ok).2.1
  have HA := Lib.hid ha
  have c0 := s0.box
  obtain ⟨hl1, hl2⟩ := grows_letters hg s[0] List.mem_cons_self
  obtain ⟨b1, b2⟩ := letter_nat hl1
  have HIM := Lib.hid (fun W hR => image_any xs va s[0] W hR h4 b1 (by omega))
  have HIA := Lib.hid (fun (x : UInt8) (h1 : letterB x = true) (h2 : x.toNat - 97 < xs.length) W hR => image_any xs va x W hR h4 (letter_nat h1).1 (by have := (letter_nat h1).1; omega))
  have hok := imgAt_ok hg.ok hl2
  have ho8 := hok.2.1
  have hz3 : (0 : Int) < (s.size : Int) := by omega
  have H0 := Lib.hid (show fixIt xs s[0] 0 = (imgAt xs s[0]).data.toList from rfl)
  obtain ⟨t0, ht0⟩ : ∃ t0, t0 = imgAt xs s[0] := ⟨_, rfl⟩
  rw [← ht0] at ho8 H0 HIM
  obtain ⟨c, hcc⟩ : ∃ c, c = s[0] := ⟨_, rfl⟩
  rw [← hcc] at H0 hg HIM
  simp only [← hcc]
  have HG := Lib.hid hg
  have HS0 := Lib.hid s0
  have HCC := Lib.hid hcc
  obtain ⟨i0, hi2, hz0, hz1, hz2⟩ := info_parts info_byte
  have HI := Lib.hid hi2; have HZ0 := Lib.hid hz0; have HZ1 := Lib.hid hz1; have HZ2 := Lib.hid hz2
  clear hi2 hz0 hz1 hz2 hok hcc ht0 ha s0 hg hl1 hl2 b1 b2
  have hcv := run_cv t0
  go_enter Try.func56, Try.ntmps56
  go_wp2_with fail
  go_region_with (go_at_call 60; rw [← HCC.out]; refine (HIM.out _ (HS0.out.drew.row HA.out)).mono ?_; rintro e w1 ⟨rfl, hb1⟩; have S1 := Lib.hid (HS0.out.drew.on hb1); have Z1 := Lib.hid S1.out.size; clear hb1)
  all_goals
    clear c0
    go_wp2_with fail
    go_loopw [7, 8] (fun v i wr => ∃ (t g cc : Nat), i = .int .i64 ((t + 1 : Nat) : Int) ∧ v = .slice (some ⟨g, 0, none⟩) (fixIt xs c t).length cc ∧ OwnT wr (w.heap.size + 1) 5 (.slice (some ⟨g, 0, none⟩) (fixIt xs c t).length cc) (fixIt xs c t) ∧ (fixIt xs c t).length ≤ n + 8 ∧ t ≤ n ∧ Stands w 28 va wr) (fun _ i _ => n + 2 - (intOf i).toNat)
    case atStart => exact ⟨0, _, _, rfl, by rw [H0.out, ← Lib.size_eq], by rw [H0.out, ← Lib.size_eq]; exact OwnT.convNew rfl Z1.out (by omega), by rw [H0.out, ← Lib.size_eq]; omega, Nat.zero_le _, S1.out.on (bthen (bnew _ _) (bdrew _))⟩
    case round =>
      clear hcv
      obtain ⟨t, g, cc, rfl, rfl, ho, hlen, htn, hst⟩ := hrel
      have HST := Lib.hid hst; clear hst
      obtain ⟨L, hL⟩ : ∃ L, L = fixIt xs c t := ⟨_, rfl⟩
      obtain ⟨hlt0, q1, q2, q3, q4⟩ := fixIt_at HG.out t L hL
      rw [← hL] at ho hlen ⊢
      have HO := Lib.hid ho; clear ho
      have HL := Lib.hid hL; clear hL
      by_cases hlt : L.length < n
      · have g5 := HO.out.cellAt (t + 1) hlt0
        have c1 := HST.out.box
        have hic := HIA.out L[t + 1] q2 q3
        obtain ⟨x, hx⟩ : ∃ x, x = L[t + 1] := ⟨_, rfl⟩
        rw [← hx] at g5 q1 q4 hic
        obtain ⟨t1, ht1⟩ : ∃ t1, t1 = imgAt xs x := ⟨_, rfl⟩
        rw [← ht1] at q1 q4 hic
        have HC := Lib.hid hic
        have hli : ((t : Int) + 1) < (L.length : Int) := by omega
        have hli0 : (0 : Int) ≤ (t : Int) + 1 := by omega
        have HQ := Lib.hid q1
        clear ht1 hx q1 q2 q3 hic
        go_wp2_with fail
        go_region_law (first
          | (refine step_append_Ts _ rfl (.tmp 20) (.tmp 26) 62 9 rfl (w.heap.size + 1) 5 i0 Try.underlying62 Try.underlying9 HI.out HZ0.out HZ1.out HZ2.out _ L (by simp [Act.eval]) A2.out t1 (by simp [Act.eval]) (by omega) A3.out.size ?_; intro v' w4 ho1 hg1; have F1 := Lib.hid (own_stands A3.out A2.out (Nat.le_refl _) hg1); obtain ⟨g1, c1, rfl, _⟩ := ho1.shape; have F2 := Lib.hid ho1; clear ho1 hg1)
          | (go_simp; go_at_call 60; refine (HC.out _ (HST.out.drew.row HA.out)).mono ?_; rintro e w3 ⟨rfl, hb3⟩; have A2 := Lib.hid (HO.out.on (bthen (bdrew _) hb3)); have A3 := Lib.hid (HST.out.drew.on hb3); clear hb3))
        all_goals
          go_wp2
          go_roundw
          case rel => exact ⟨t + 1, g1, c1, by go_num, by rw [HQ.out, List.length_append, ← Lib.size_eq], by rw [HQ.out]; exact F2.out, by rw [HQ.out, List.length_append, ← Lib.size_eq]; omega, by omega, F1.out⟩
          case measure => simp [intOf]; omega
      · go_wp2_with fail
        go_ret
        exact ⟨t, g, cc, by rw [HL.out] <;> rfl, by rw [← HL.out]; exact HO.out.mono (Nat.le_succ _), by rw [← HL.out]; omega, by rw [← HL.out]; exact hlen, HST.out.below⟩
end Go.Proofs.Ytglleimmmfnhcaa
