/- Walks: the law of Join. -/
import Derived.Test.YtnnkhjjecmldfaaJoin
import Derived.Test.YtnnkhjjecmldfaaEq
import Derived.Deep.RegionWith
namespace Go.Proofs.Ytnnkhjjecmldfaa
open Go.RowKit

set_option maxHeartbeats 2000000 in
theorem law_Join (va : Value) (xs : List ByteArray) (f : ByteArray) (w : World) (ha : Row1 w w.heap.size va (xs.map .string)) (hs : ∀ s ∈ xs, s.size ≤ maxLen) (_ : f.size ≤ maxLen) :
    Calls Try.prog 6 #[va, .string f] w fun e w' => e = .returned (.bool true) ∧ Below w.heap.size w w' := by
  by_cases bigf : 1048576 < f.size
  · go_enter Try.func6, Try.ntmps6
    go_wp2_with fail
    go_ret
    exact ⟨rfl, Below.refl _ _⟩
  have HSZ := Lib.hid (szStringS_any xs va 1048576 w _ ha hs (by omega) (by omega))
  by_cases hneg : szR xs 1048576 < 0
  · clear ha
    go_enter Try.func6, Try.ntmps6
    go_wp2_with fail
    refine HSZ.out.mono ?_
    rintro e w1 ⟨rfl, rfl⟩
    go_wp2_with fail
    go_ret
    exact ⟨rfl, Below.refl _ _⟩
  have hx := szR_nonneg (show 0 ≤ szR xs 1048576 by omega)
  have hxl : xs.length ≤ 1048576 := by omega
  have h1 := fun (v : Value) (W : World) (hR : Row1 W W.heap.size v (xs.map .string)) => specJoin_any xs v f W hR (by omega) (by omega)
  have h2 := fun (v : Value) (W : World) (hR : Row1 W W.heap.size v (xs.map .string)) => implJoin_any xs v f W hR (by omega) (by omega)
  obtain ⟨r, hr⟩ : ∃ r, r = joinR xs f := ⟨_, rfl⟩
  rw [← hr] at h1 h2
  have H1 := Lib.hid h1; have H2 := Lib.hid h2
  have HL := Lib.hid (show (xs.map Value.string).length = xs.length from List.length_map _)
  have HA := Lib.hid ha
  clear h1 h2 hr ha hs hx
  go_enter Try.func6, Try.ntmps6
  go_wp2_with fail
  refine HSZ.out.mono ?_
  rintro e w1 ⟨rfl, rfl⟩
  go_wp2_with fail
  refine (toStringS_any xs va _ HA.out hxl).mono ?_
  rintro e w2 ⟨rfl, ho2, hb2⟩
  have R2 := Lib.hid ((Row1.own ho2 HL.out.symm).mono (Nat.le_refl _))
  have B2 := Lib.hid hb2
  clear ho2 hb2
  go_wp2_with fail
  refine (H1.out _ _ R2.out).mono ?_
  rintro e w3 ⟨rfl, rfl⟩
  go_wp2_with fail
  refine (toStringS_any xs va _ ((HA.out.below B2.out (Nat.le_refl _)).mono B2.out.size) hxl).mono ?_
  rintro e w4 ⟨rfl, ho4, hb4⟩
  have R4 := Lib.hid ((Row1.own ho4 HL.out.symm).mono (Nat.le_refl _))
  have B4 := Lib.hid (B2.out.trans (hb4.mono B2.out.size))
  clear ho4 hb4
  go_wp2_with fail
  refine (H2.out _ _ R4.out).mono ?_
  rintro e w6 ⟨rfl, hb6⟩
  have R6 := Lib.hid (R4.out.on hb6)
  have B6 := Lib.hid (B4.out.trans (hb6.mono B4.out.size))
  clear hb6
  go_wp2_with fail
  refine (toStringS_any xs va _ ((HA.out.below B6.out (Nat.le_refl _)).mono B6.out.size) hxl).mono ?_
  rintro e w7 ⟨rfl, ho7, hb7⟩
  have R7 := Lib.hid ((Row1.own ho7 HL.out.symm).mono (Nat.le_refl w7.heap.size))
  have Q7 := Lib.hid (R6.out.on hb7)
  have B7 := Lib.hid (B6.out.trans (hb7.mono B6.out.size))
  clear ho7 hb7
  go_wp2_with fail
  refine (eqStringS_same xs _ _ _ _ Q7.out R7.out).mono ?_
  rintro e w8 ⟨rfl, n, rfl⟩
  go_wp2_with fail
  go_ret
  exact ⟨rfl, below_drewN B7.out _⟩
end Go.Proofs.Ytnnkhjjecmldfaa
