/- Walks: the law of DeterminantOf. -/
import Derived.Test.YtciiokegifgbdaaDet
namespace Go.Proofs.Ytciiokegifgbdaa
open Go.RowKit
set_option maxRecDepth 20000

set_option maxHeartbeats 1000000 in
theorem law_DeterminantOf (va : Value) (xss : List (List Int)) (w : World) (ha : Row2 w w.heap.size va xss) (_ : ∀ x ∈ xss, ∀ n ∈ x, (Lit.int .i64 n).wf = true) :
    Calls Try.prog 4 #[va] w fun e w' => e = .returned (.bool true) ∧ Below w.heap.size w w' := by
  have HSZ := Lib.hid (szIntSS_any xss va 1048576 w _ ha (by omega) (by omega))
  by_cases hneg : szM xss 1048576 < 0
  · go_enter Try.func4, Try.ntmps4
    go_wp2_with (go_at_call 7; refine HSZ.out.mono ?_; rintro e w' ⟨rfl, rfl⟩)
    go_ret
    exact ⟨rfl, Below.refl _ _⟩
  have hN := szM_nonneg (show 0 ≤ szM xss 1048576 by omega)
  have hx : xss.length ≤ 1048576 := by omega
  have ht : totL xss ≤ 1048576 := by omega
  have h1 := fun (v : Value) (W : World) (hR : Row2 W W.heap.size v xss) => specDeterminantOf_any xss v W hR
  have h2 := fun (v : Value) (W : World) (hR : Row2 W W.heap.size v xss) => implDeterminantOf_any xss v W hR
  obtain ⟨R, hR⟩ : ∃ R, R = dtR xss := ⟨_, rfl⟩
  rw [← hR] at h1 h2
  have H1 := Lib.hid h1; have H2 := Lib.hid h2; have R0 := Lib.hid (Rd2.new ha)
  clear h1 h2 hR ha hN
  go_enter Try.func4, Try.ntmps4
  go_wp2_with (go_at_call 7; refine HSZ.out.mono ?_; rintro e w' ⟨rfl, rfl⟩)
  refine (toIntSS_any xss va _ R0.out.at hx ht).mono ?_
  rintro e w1 ⟨g1, rfl, ho1, hb1⟩
  have B1 := Lib.hid hb1; have Y1 := Lib.hid ho1; have R1 := Lib.hid (R0.out.on hb1)
  clear ho1 hb1
  go_wp2_with fail
  refine (H1.out _ _ Y1.out.row2).mono ?_
  rintro e w2 ⟨rfl, hb2⟩
  have B2 := Lib.hid (bthen B1.out hb2); have R2 := Lib.hid (R1.out.on hb2)
  clear hb2
  go_wp2_with fail
  refine (toIntSS_any xss va _ R2.out.at hx ht).mono ?_
  rintro e w3 ⟨g3, rfl, ho3, hb3⟩
  have B3 := Lib.hid (bthen B2.out hb3); have X3 := Lib.hid ho3; have R3 := Lib.hid (R2.out.on hb3)
  clear ho3 hb3
  go_wp2_with fail
  refine (H2.out _ _ X3.out.row2).mono ?_
  rintro e w4 ⟨rfl, hb4⟩
  have B4 := Lib.hid (bthen B3.out hb4); have X4 := Lib.hid (X3.out.below hb4); have R4 := Lib.hid (R3.out.on hb4)
  clear hb4
  go_wp2_with fail
  refine (toIntSS_any xss va _ R4.out.at hx ht).mono ?_
  rintro e w5 ⟨g5, rfl, ho5, hb5⟩
  have B5 := Lib.hid (bthen B4.out hb5); have X5 := Lib.hid (X4.out.below hb5); have Y5 := Lib.hid ho5
  clear ho5 hb5
  go_wp2_with fail
  refine (eqIntSS_same xss _ _ _ _ X5.out.row2 Y5.out.row2).mono ?_
  rintro e w6 ⟨rfl, n6, rfl⟩
  go_wp2_with fail
  go_ret
  exact ⟨rfl, below_drewN B5.out _⟩
end Go.Proofs.Ytciiokegifgbdaa
