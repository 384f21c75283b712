/- Walks: the law of CountsOf. -/
import Derived.Test.YtoljoaknnbgjiaaMark
import Derived.Test.YtoljoaknnbgjiaaOn
import Derived.Test.YtoljoaknnbgjiaaCounts
namespace Go.Proofs.Ytoljoaknnbgjiaa
open Go.RowKit

set_option maxHeartbeats 2000000 in
theorem law_CountsOf (s : ByteArray) (w : World) (hs : s.size ≤ maxLen) :
    Calls Try.prog 12 #[.string s] w fun e w' => e = .returned (.bool true) ∧ Below w.heap.size w w' := by
  by_cases bigs : 1048576 < s.size
  · go_enter Try.func12, Try.ntmps12
    go_wp2_with fail
    go_ret
    exact ⟨rfl, Below.refl _ _⟩
  obtain ⟨R, hR⟩ : ∃ R, R = countsR s.data.toList := ⟨_, rfl⟩
  have hN : R.length ≤ 1099511600000 := by rw [hR]; have := countsR_len s.data.toList; omega
  have h1 := fun W => specCountsOf_any s W hs
  have h2 := fun W => implCountsOf_any s W hs
  rw [← hR] at h1 h2
  obtain ⟨N, hNR⟩ : ∃ N, N = R.length := ⟨_, rfl⟩
  rw [← hNR] at hN
  have H1 := Lib.hid h1; have H2 := Lib.hid h2; have HN := Lib.hid hNR
  have HM := Lib.hid (show (R.map (Value.int .i64)).length = R.length from List.length_map _)
  have HU := Lib.hid (show ∀ u ∈ R.map (Value.int .i64), ∃ z, u = .int .i64 z by intro u hu; obtain ⟨z, _, rfl⟩ := List.mem_map.1 hu; exact ⟨z, rfl⟩)
  clear h1 h2 hR hNR
  go_enter Try.func12, Try.ntmps12
  go_wp2_with fail
  refine (H1.out _).mono ?_
  rintro e w1 ⟨vw, rfl, ho1, hb1⟩
  have R1 := Lib.hid (Row1.own ho1 HM.out.symm)
  have B1 := Lib.hid hb1; clear ho1 hb1
  go_wp2_with fail
  refine (H2.out _).mono ?_
  rintro e w2 ⟨vg, rfl, ho2, hb2⟩
  have G2 := Lib.hid ho2
  have B2 := Lib.hid (B1.out.trans (hb2.mono B1.out.size))
  have R2 := Lib.hid (R1.out.below hb2 (Nat.le_refl _))
  have Z2 := Lib.hid hb2.size
  clear ho2 hb2
  go_wp2_with fail
  refine (eqIntS_same R _ _ _ _ (Row1.own G2.out HM.out.symm) (R2.out.mono Z2.out)).mono ?_
  rintro e w3 ⟨rfl, n3, rfl⟩
  have G3 := Lib.hid (own_drewN G2.out n3)
  have Z3 := Lib.hid (show w1.heap.size ≤ (w2.drewN n3).heap.size from Z2.out)
  go_wp2_with fail
  have GM := markIntS_any _ vg _ 1 _ (show (w2.drewN n3).ownsRow w1.heap.size 3 1 vg (R.map (Value.int .i64)).length (R.map (Value.int .i64)) by rw [HM.out]; exact G3.out) HU.out (by omega) (by rw [HM.out, ← HN.out]; omega)
  rw [HM.out, ← HN.out] at GM
  refine GM.mono ?_
  clear GM
  rintro e w4 ⟨rfl, ho4, hg4⟩
  have L4 := Lib.hid (fun g hg => (G3.out.lt g hg).1)
  have Q4 := Lib.hid (Row1.own ho4 (by rw [marksI_len]))
  have R4 := Lib.hid ((R2.out.drewN n3).grown hg4 Z3.out L4.out)
  have B4 := Lib.hid ((below_drewN B2.out n3).grown hg4 (below_drewN B2.out n3).size (fun g hg => Nat.le_trans B1.out.size (L4.out g hg)))
  have Z4 := Lib.hid (Nat.le_trans Z3.out hg4.size)
  clear ho4 hg4
  go_wp2_with fail
  refine (heldIntS_any N vg 1 _ _ Q4.out (by omega) (by omega)).mono ?_
  rintro e w5 ⟨rfl, n5, rfl⟩
  have Q5 := Lib.hid (Q4.out.drewN n5)
  have R5 := Lib.hid (R4.out.drewN n5)
  have B5 := Lib.hid (below_drewN B4.out n5)
  have Z5 := Lib.hid (show w1.heap.size ≤ (w4.drewN n5).heap.size from Z4.out)
  have Y5 := Lib.hid (show w4.heap.size ≤ (w4.drewN n5).heap.size from Nat.le_refl _)
  go_wp2_with fail
  refine (H2.out _).mono ?_
  rintro e w6 ⟨vh, rfl, ho6, hb6⟩
  have Q6 := Lib.hid (Q5.out.below hb6 Y5.out)
  have R6 := Lib.hid (R5.out.below hb6 Z5.out)
  have B6 := Lib.hid (B5.out.trans (hb6.mono B5.out.size))
  have Z6 := Lib.hid (Nat.le_trans Z5.out hb6.size)
  have Y6 := Lib.hid (Nat.le_trans Y5.out hb6.size)
  have G6 := Lib.hid ho6
  clear ho6 hb6
  go_wp2_with fail
  refine (eqIntS_same R _ _ _ _ (Row1.own G6.out HM.out.symm) (R6.out.mono Z6.out)).mono ?_
  rintro e w7 ⟨rfl, n7, rfl⟩
  have Q7 := Lib.hid (Q6.out.drewN n7)
  have B7 := Lib.hid (below_drewN B6.out n7)
  have Y7 := Lib.hid (show w4.heap.size ≤ (w6.drewN n7).heap.size from Y6.out)
  go_wp2_with fail
  refine (heldIntS_any N vg 1 _ _ Q7.out (by omega) (by omega)).mono ?_
  rintro e w8 ⟨rfl, n8, rfl⟩
  go_wp2_with fail
  go_ret
  exact ⟨rfl, below_drewN B6.out _⟩
end Go.Proofs.Ytoljoaknnbgjiaa
