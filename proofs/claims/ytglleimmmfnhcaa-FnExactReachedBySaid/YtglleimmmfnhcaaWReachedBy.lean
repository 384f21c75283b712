/- Walks: the law of ReachedBy. -/
import Derived.Test.YtglleimmmfnhcaaState
import Derived.Test.YtglleimmmfnhcaaRb
import Derived.Test.YtglleimmmfnhcaaRb2
import Derived.Deep.RegionWith
namespace Go.Proofs.Ytglleimmmfnhcaa
open Go.RowKit
set_option maxRecDepth 20000

set_option maxHeartbeats 2000000 in
theorem law_ReachedBy (va : Value) (xs : List ByteArray) (s : ByteArray) (w : World) (ha : Row1 w w.heap.size va (xs.map .string)) (hs : ∀ s ∈ xs, s.size ≤ maxLen) (hms : s.size ≤ maxLen) :
    Calls Try.prog 6 #[.agg #[va], .string s] w fun e w' => e = .returned (.bool true) ∧ Below w.heap.size w w' := by
  by_cases bigs : 1048576 < s.size
  · go_enter Try.func6, Try.ntmps6
    go_wp2_with fail
    go_ret
    exact ⟨rfl, (Below.refl _ _).alloc (Nat.le_refl _) _⟩
  have hl : (xs.map Value.string).length = xs.length := List.length_map _
  have s0 := Stands.start w 24 va
  have r0 := s0.row ha
  have HSZ := Lib.hid (szSubst_any xs va 1048576 _ r0 hs (by omega) (by omega))
  by_cases hneg : szR xs 1048576 < 0
  · clear r0
    have HS0 := Lib.hid s0; clear s0
    go_enter Try.func6, Try.ntmps6
    go_wp2_with fail
    refine HSZ.out.mono ?_
    rintro e w1 ⟨rfl, hb1⟩
    go_wp2_with fail
    go_ret
    exact ⟨rfl, (HS0.out.on hb1).below⟩
  · have hx : xs.length ≤ 1048576 := by have := szR_nonneg (show 0 ≤ szR xs 1048576 by omega); omega
    clear r0
    have h1 := fun (v : Value) (W : World) (hR : Row1 W W.heap.size v (xs.map .string)) => specReachedBy_any xs v s W hR hs hms
    have h2 := fun (v : Value) (W : World) (hR : Row1 W W.heap.size v (xs.map .string)) => implReachedBy_any xs v s W hR hs hms
    obtain ⟨r0, hr0⟩ : ∃ r, r = (⟨(rbL xs s.data.toList).toArray⟩ : ByteArray) := ⟨_, rfl⟩
    rw [← hr0] at h1 h2
    have H1 := Lib.hid h1; have H2 := Lib.hid h2
    clear h1 h2 hr0
    have HS0 := Lib.hid s0; clear s0
    have HA := Lib.hid ha; clear ha
    have HL := Lib.hid hl; clear hl
    clear hs
    go_enter Try.func6, Try.ntmps6
    go_wp2_with fail
    refine HSZ.out.mono ?_
    rintro e w1 ⟨rfl, hb1⟩
    have S1 := Lib.hid (HS0.out.on hb1); clear hb1
    have c1 := S1.out.box
    go_wp2_with fail
    refine (toSubst_any xs va _ (S1.out.row HA.out) hx).mono ?_
    rintro e w2 ⟨g2, rfl, ho2, hb2⟩
    have S2 := Lib.hid (S1.out.on hb2)
    have R2 := Lib.hid (Row1.own ho2 HL.out.symm)
    clear c1 ho2 hb2
    go_wp2_with fail
    refine (H1.out _ _ R2.out).mono ?_
    rintro e w3 ⟨rfl, hb3⟩
    have S3 := Lib.hid (S2.out.on hb3); clear hb3
    have c3 := S3.out.box
    go_wp2_with fail
    refine (toSubst_any xs va _ (S3.out.row HA.out) hx).mono ?_
    rintro e w4 ⟨g4, rfl, ho4, hb4⟩
    have S4 := Lib.hid (S3.out.on hb4)
    have R4 := Lib.hid (Row1.own ho4 HL.out.symm)
    have O4 := Lib.hid (One.new w4 28 (.slice (some ⟨g4, 0, none⟩) xs.length xs.length))
    clear c3 ho4 hb4
    go_wp2_with fail
    refine (H2.out _ _ ((R4.out.alloc (Nat.le_refl _) _).mono (by simp))).mono ?_
    rintro e w6 ⟨rfl, hb6⟩
    have S6 := Lib.hid ((S4.out.alloc _).on hb6)
    have R6 := Lib.hid (((R4.out.alloc (Nat.le_refl _) _).mono (by simp)).on hb6)
    have O6 := Lib.hid (O4.out.on hb6)
    clear hb6
    have c6 := S6.out.box
    have d6 := O6.out.cell
    go_wp2_with fail
    go_region_with (first
      | (go_at_call 15; refine (toSubst_any xs va _ (S6.out.drew.row HA.out) hx).mono ?_; rintro e w7 ⟨g7, rfl, ho7, hb7⟩; have d7 := (O6.out.drew.on hb7).cell; have r7 := Row1.own ho7 HL.out.symm; have q7 := R6.out.drew.on hb7; have R7 := Lib.hid r7; have Q7 := Lib.hid q7; have S7 := Lib.hid (S6.out.drew.on hb7); clear r7 q7 ho7 hb7)
      | (go_at_call 17; refine (eqSubst_same xs _ _ _ (Hid.out (by assumption)) (Hid.out (by assumption))).mono ?_; rintro e w8 ⟨rfl, hb8⟩; have S8 := Lib.hid ((Hid.out (by assumption : Hid (Stands w 24 va _))).on hb8); clear hb8))
    all_goals
      go_wp2
      go_ret
      refine ⟨rfl, Stands.below (T := 24) (va := va) (Hid.out ?_)⟩
      assumption
end Go.Proofs.Ytglleimmmfnhcaa
