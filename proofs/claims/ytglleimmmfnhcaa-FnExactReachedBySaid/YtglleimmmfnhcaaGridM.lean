/- Walks: the laws' own helpers on rows of integers: compared, marked, held. -/
import Derived.Test.YtglleimmmfnhcaaMark
import Derived.Test.YtglleimmmfnhcaaCarry
import Derived.Test.YtglleimmmfnhcaaMarks2
namespace Go.Proofs.Ytglleimmmfnhcaa
open Go.RowKit
set_option maxRecDepth 20000

theorem types_apart : (3 : TypeId) ≠ 41 := by decide
abbrev OwnG (w : World) (base hi : Nat) (v : Value) (xss : List (List Int)) : Prop := Own2 41 3 w base hi v xss
theorem marksI_ints (k : Int) (n : Nat) : marksI k n = ints (mkL k n) := by simp [marksI, ints, mkL]

set_option maxHeartbeats 1000000 in
theorem eqIntSS_same (xss : List (List Int)) (va vb : Value) (w : World) (B : Nat) (ha : Row2 w B va xss) (hb : Row2 w B vb xss) :
    Calls Try.prog 40 #[va, vb] w fun e w' => e = .returned (.bool true) ∧ ∃ n, w' = w.drewN n := by
  have hl := ha.len
  rcases Nat.eq_zero_or_pos xss.length with h0 | h0
  · obtain ⟨A, c, rfl, _⟩ := ha.shape
    obtain ⟨A', c', rfl, _⟩ := hb.shape
    rw [h0]
    go_enter Try.func40, Try.ntmps40
    go_wp2_with fail
    refine wp_loop_rounds 1 ?_
    rw [rounds_succ]
    go_wp2
    go_ret
    exact ⟨rfl, 0, rfl⟩
  · obtain ⟨b, o, c, rfl, hc, hA⟩ := ha.openAt h0
    obtain ⟨b', o', c', rfl, hc', hA'⟩ := hb.openAt h0
    have HA := Lib.hid hA; have HA' := Lib.hid hA'; clear hA hA' ha hb
    go_enter Try.func40, Try.ntmps40
    go_wp2_with fail
    go_loopw [5] (fun i wr => ∃ k : Nat, k ≤ xss.length ∧ i = .int .i64 k ∧ ∃ n, wr = w.drewN n) (fun i _ => xss.length - (intOf i).toNat)
    case atStart => exact ⟨0, Nat.zero_le _, rfl, 0, rfl⟩
    case round =>
      obtain ⟨k, hk, rfl, n, rfl⟩ := hrel
      by_cases hlt : k < xss.length
      · obtain ⟨u, hu⟩ := HA.out k hlt
        obtain ⟨u', hu'⟩ := HA'.out k hlt
        obtain ⟨g1, r1⟩ := hu w (fun _ _ => rfl)
        obtain ⟨g2, r2⟩ := hu' w (fun _ _ => rfl)
        have R1 := Lib.hid r1; have R2 := Lib.hid r2
        clear hu hu' r1 r2
        go_wp2_with fail
        go_region_with (go_at_call 33; refine (eqIntS_same _ _ _ _ B ((R1.out.drewN n).drew) ((R2.out.drewN n).drew)).mono ?_; rintro e w1 ⟨rfl, m, rfl⟩)
        all_goals
          go_wp2
          go_roundw
          case rel => exact ⟨k + 1, by omega, by go_num, n + 1 + m, by simp [World.drewN, Nat.add_assoc]⟩
          case measure => simp [intOf]; omega
      · go_wp2
        go_ret
        exact ⟨rfl, _, rfl⟩
set_option maxHeartbeats 1000000 in
theorem markIntSS_any (base hi : Nat) (v : Value) (xss : List (List Int)) (k : Int) (w : World) (hown : OwnG w base hi v xss) (h0 : 0 ≤ k) (h1 : k + totL xss ≤ 4611686018427387904) (h2 : xss.length ≤ 4611686018427387904) :
    Calls Try.prog 41 #[v, .int .i64 k] w fun e w' => e = .returned (.int .i64 (k + totL xss)) ∧ OwnG w' base hi v (marks2 k xss) ∧ Within base hi w w' := by
  obtain ⟨vs, hv, hun⟩ := hown
  have HUN := Lib.hid hun; clear hun
  rcases hv.own.2 with ⟨rfl, hn⟩ | ⟨g, cap, cur, rfl, hb, hg, hnc, hcm, hcs, htake⟩
  · obtain rfl : xss = [] := List.eq_nil_of_length_eq_zero hn
    have HV := Lib.hid hv; clear hv
    go_enter Try.func41, Try.ntmps41
    go_wp2_with fail
    refine wp_loop_rounds 1 ?_
    rw [rounds_succ]
    go_wp2
    go_ret
    exact ⟨by simp [totL], ⟨vs, HV.out, HUN.out⟩, Within.refl _ _ _⟩
  · have HV := Lib.hid hv
    clear hv hg htake hcs
    go_enter Try.func41, Try.ntmps41
    go_wp2_with fail
    go_loopw [1, 5] (fun q i wr => ∃ n : Nat, n ≤ xss.length ∧ i = .int .i64 n ∧ q = .int .i64 (k + totL (xss.take n)) ∧ OwnV 41 3 wr base (.slice (some ⟨g, 0, none⟩) xss.length cap) vs (half2 k xss n) ∧ Within base hi w wr) (fun _ i _ => xss.length - (intOf i).toNat)
    case atStart => exact ⟨0, Nat.zero_le _, rfl, by simp [totL], by rw [half2_zero]; exact HV.out, Within.refl _ _ _⟩
    case round =>
      obtain ⟨n, hn, rfl, rfl, ho, hbel⟩ := hrel
      have hlen := half2_len k xss n
      by_cases hlt : n < xss.length
      · have hvl : n < vs.length := by rw [ho.len, hlen]; exact hlt
        have hst := totL_step xss n hlt
        have hown1 := ho.own
        rw [hlen] at hown1
        have g2 := hown1.cellAt n (by omega)
        rw [List.getElem?_eq_getElem hvl] at g2
        have hrow := ho.row n hvl (by omega)
        have hg := half2_get k xss n hlt
        rw [hg] at hrow
        have HM := markIntS_any base vs[n] (ints xss[n]) (k + totL (xss.take n)) wr (by rw [ints_len]; exact hrow) (by intro u hu; obtain ⟨z, _, rfl⟩ := List.mem_map.1 hu; exact ⟨z, rfl⟩) (by omega) (by rw [ints_len]; omega)
        rw [ints_len, marksI_ints] at HM
        have HM := Lib.hid HM
        have HO := Lib.hid ho; have HBL := Lib.hid hbel; have HR := Lib.hid hrow; have HQ := Lib.hid hg
        obtain ⟨u, hu⟩ : ∃ u, u = vs[n] := ⟨_, rfl⟩
        rw [← hu] at g2 HM
        have HU := Lib.hid hu
        clear ho hbel hrow hg hu hown1
        go_wp2_with fail
        refine HM.out.mono ?_
        rintro e w1 ⟨rfl, ho1, hg1⟩
        have HO1 := Lib.hid ho1; have HG1 := Lib.hid hg1
        clear ho1 hg1
        go_wp2_with fail
        go_roundw
        case rel =>
          refine ⟨n + 1, by omega, by go_num, by rw [totL_take xss n hlt]; go_num, ?_, ?_⟩
          · have h3 := HO.out.set (k := n) (ys := mkL (k + totL (xss.take n)) xss[n].length) types_apart hvl (by rw [← HU.out, mkL_len]; exact HO1.out) (by rw [← HU.out]; exact HG1.out)
            rw [half2_set k xss n hlt] at h3
            exact h3
          · exact HBL.out.trans (Within.of_grown HG1.out (fun g' hg' => ⟨(own_lt HR.out (by rw [← HU.out]; exact hg')).1, HUN.out u (by rw [HU.out]; exact List.getElem_mem _) g' hg'⟩))
        case measure => simp [intOf]; omega
      · obtain rfl : n = xss.length := by omega
        rw [half2_end] at ho
        rw [List.take_length]
        go_wp2
        go_ret
        exact ⟨rfl, ⟨vs, ho, HUN.out⟩, hbel⟩
set_option maxHeartbeats 1000000 in
theorem heldIntSS_any (xss : List (List Int)) (v : Value) (k : Int) (w : World) (B : Nat) (ha : Row2 w B v (marks2 k xss)) (h0 : 0 ≤ k) (h1 : k + totL xss ≤ 4611686018427387904) (h2 : xss.length ≤ 4611686018427387904) :
    Calls Try.prog 42 #[v, .int .i64 k] w fun e w' => e = .returned (.int .i64 (k + totL xss)) ∧ ∃ m, w' = w.drewN m := by
  have hml := marks2_len xss k
  rcases Nat.eq_zero_or_pos xss.length with hz | hp
  · obtain rfl : xss = [] := List.eq_nil_of_length_eq_zero hz
    obtain ⟨A, c, rfl, _⟩ := ha.shape
    clear ha
    go_enter Try.func42, Try.ntmps42
    go_wp2_with fail
    refine wp_loop_rounds 1 ?_
    rw [rounds_succ]
    go_wp2
    go_ret
    exact ⟨by simp [totL], 0, rfl⟩
  · obtain ⟨b, o, c, rfl, hc, hA⟩ := ha.openAt (by omega)
    rw [hml] at hc ⊢
    have HA := Lib.hid hA; clear hA ha
    go_enter Try.func42, Try.ntmps42
    go_wp2_with fail
    go_loopw [1, 5] (fun q i wr => ∃ j : Nat, j ≤ xss.length ∧ i = .int .i64 j ∧ q = .int .i64 (k + totL (xss.take j)) ∧ ∃ m, wr = w.drewN m) (fun _ i _ => xss.length - (intOf i).toNat)
    case atStart => exact ⟨0, Nat.zero_le _, rfl, by simp [totL], 0, rfl⟩
    case round =>
      obtain ⟨j, hj, rfl, rfl, m, rfl⟩ := hrel
      by_cases hlt : j < xss.length
      · obtain ⟨u, hu⟩ := HA.out j (by omega)
        obtain ⟨g1, r1⟩ := hu w (fun _ _ => rfl)
        have hget := marks2_get xss k j hlt
        rw [List.getElem?_eq_getElem (by omega)] at hget
        rw [Option.some.inj hget, ← marksI_ints] at r1
        have hst := totL_step xss j hlt
        have HH := Lib.hid (heldIntS_any xss[j].length u (k + totL (xss.take j)) (w.drewN m) B (r1.drewN m) (by omega) (by omega))
        clear hu r1 hget
        go_wp2_with fail
        refine HH.out.mono ?_
        rintro e w1 ⟨rfl, m', rfl⟩
        go_wp2_with fail
        go_roundw
        case rel => exact ⟨j + 1, by omega, by go_num, by rw [totL_take xss j hlt]; go_num, m + m', by simp [World.drewN]⟩
        case measure => simp [intOf]; omega
      · obtain rfl : j = xss.length := by omega
        rw [List.take_length]
        go_wp2
        go_ret
        exact ⟨rfl, _, rfl⟩
end Go.Proofs.Ytglleimmmfnhcaa
