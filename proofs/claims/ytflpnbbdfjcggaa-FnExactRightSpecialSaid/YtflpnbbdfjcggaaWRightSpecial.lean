/- Walks: the law of RightSpecial. -/
import Derived.Test.YtflpnbbdfjcggaaSpec
import Derived.Test.YtflpnbbdfjcggaaMark
namespace Go.Proofs.Ytflpnbbdfjcggaa
open Go.RowKit
set_option maxRecDepth 20000

set_option maxHeartbeats 2000000 in
theorem law_RightSpecial (s : ByteArray) (n : Int) (w : World) (hsh : w.ShapedOpen Try.prog) (hs : s.size ≤ maxLen) (_ : (Lit.int .i64 n).wf = true) :
    Calls Try.prog 13 #[.string s, .int .i64 n] w fun e w' => e = .returned (.bool true) ∧ Below w.heap.size w w' := by
  obtain ⟨m, hm⟩ : ∃ m, w.cell? ⟨0, 0, none⟩ = some (.int .i64 m) := Try.laysM144.s1_3 w hsh
  have HM0 := Lib.hid (show 0 < w.heap.size from World.block_lt_of_cell? w _ hm)
  have HMC := Lib.hid hm
  clear hm hsh
  by_cases bigs : 1048576 < s.size
  · go_enter Try.func13, Try.ntmps13
    go_wp2_with fail
    go_ret
    exact ⟨rfl, Below.refl _ _⟩
  obtain ⟨R, hR⟩ : ∃ R, R = spR s n true := ⟨_, rfl⟩
  have hN : R.length ≤ 1099511600000 := by rw [hR]; have := spR_len s n true; omega
  have h1 := fun W => specRightSpecial_any s n W hs
  have h2 := fun (W : World) (hmW : W.cell? ⟨0, 0, none⟩ = some (.int .i64 m)) => implRightSpecial_any s n W m hmW hs
  rw [← hR] at h1 h2
  obtain ⟨N, hNR⟩ : ∃ N, N = R.length := ⟨_, rfl⟩
  rw [← hNR] at hN
  have H1 := Lib.hid h1; have H2 := Lib.hid h2; have HN := Lib.hid hNR
  have HM := Lib.hid (show (R.map Value.string).length = R.length from List.length_map _)
  have HU := Lib.hid (show ∀ u ∈ R.map Value.string, ∃ z, u = .string z by intro u hu; obtain ⟨z, _, rfl⟩ := List.mem_map.1 hu; exact ⟨z, rfl⟩)
  clear h1 h2 hR hNR
  go_enter Try.func13, Try.ntmps13
  go_wp2_with fail
  refine (H1.out _).mono ?_
  rintro e w1 ⟨vw, rfl, ho1, hb1⟩
  have R1 := Lib.hid (Row1.own ho1 HM.out.symm)
  have B1 := Lib.hid hb1; clear ho1 hb1
  go_wp2_with fail
  refine (H2.out _ ((B1.out.cell (p := ⟨0, 0, none⟩) HM0.out).trans HMC.out)).mono ?_
  rintro e w2 ⟨vg, rfl, ho2, hb2⟩
  have G2 := Lib.hid ho2
  have B2 := Lib.hid (B1.out.trans (hb2.mono B1.out.size))
  have R2 := Lib.hid (R1.out.below hb2 (Nat.le_refl _))
  have Z2 := Lib.hid hb2.size
  clear ho2 hb2
  go_wp2_with fail
  refine (eqStringS_same R _ _ _ _ (Row1.own G2.out HM.out.symm) (R2.out.mono Z2.out)).mono ?_
  rintro e w3 ⟨rfl, n3, rfl⟩
  have G3 := Lib.hid (own_drewN G2.out n3)
  have Z3 := Lib.hid (show w1.heap.size ≤ (w2.drewN n3).heap.size from Z2.out)
  go_wp2_with fail
  have GM := markStringS_any _ vg _ 1 _ (show (w2.drewN n3).ownsRow w1.heap.size 9 1 vg (R.map Value.string).length (R.map Value.string) by rw [HM.out]; exact G3.out) HU.out (by omega) (by rw [HM.out, ← HN.out]; omega)
  rw [HM.out, ← HN.out] at GM
  refine GM.mono ?_
  clear GM
  rintro e w4 ⟨rfl, ho4, hg4⟩
  have L4 := Lib.hid (fun g hg => (G3.out.lt g hg).1)
  have Q4 := Lib.hid (Row1.own ho4 (by rw [marksS_len]))
  have R4 := Lib.hid ((R2.out.drewN n3).grown hg4 Z3.out L4.out)
  have B4 := Lib.hid ((below_drewN B2.out n3).grown hg4 (below_drewN B2.out n3).size (fun g hg => Nat.le_trans B1.out.size (L4.out g hg)))
  have Z4 := Lib.hid (Nat.le_trans Z3.out hg4.size)
  clear ho4 hg4
  go_wp2_with fail
  refine (heldStringS_any N vg 1 _ Q4.out (by omega) (by omega)).mono ?_
  rintro e w5 ⟨rfl, hb5⟩
  have Q5 := Lib.hid (Q4.out.below hb5 (Nat.le_refl _))
  have R5 := Lib.hid (R4.out.below hb5 Z4.out)
  have B5 := Lib.hid (B4.out.trans (hb5.mono B4.out.size))
  have Z5 := Lib.hid (Nat.le_trans Z4.out hb5.size)
  have Y5 := Lib.hid hb5.size
  clear hb5
  go_wp2_with fail
  refine (H2.out _ ((B5.out.cell (p := ⟨0, 0, none⟩) HM0.out).trans HMC.out)).mono ?_
  rintro e w6 ⟨vh, rfl, ho6, hb6⟩
  have Q6 := Lib.hid (Q5.out.below hb6 Y5.out)
  have R6 := Lib.hid (R5.out.below hb6 Z5.out)
  have B6 := Lib.hid (B5.out.trans (hb6.mono B5.out.size))
  have Z6 := Lib.hid (Nat.le_trans Z5.out hb6.size)
  have Y6 := Lib.hid (Nat.le_trans Y5.out hb6.size)
  have G6 := Lib.hid ho6
  clear ho6 hb6
  go_wp2_with fail
  refine (eqStringS_same R _ _ _ _ (Row1.own G6.out HM.out.symm) (R6.out.mono Z6.out)).mono ?_
  rintro e w7 ⟨rfl, n7, rfl⟩
  have Q7 := Lib.hid (Q6.out.drewN n7)
  have B7 := Lib.hid (below_drewN B6.out n7)
  have Y7 := Lib.hid (show w4.heap.size ≤ (w6.drewN n7).heap.size from Y6.out)
  go_wp2_with fail
  refine (heldStringS_any N vg 1 _ (Q7.out.mono Y7.out) (by omega) (by omega)).mono ?_
  rintro e w8 ⟨rfl, hb8⟩
  have B8 := Lib.hid (B7.out.trans (hb8.mono B7.out.size)); clear hb8
  go_wp2_with fail
  go_ret
  exact ⟨rfl, B8.out⟩
end Go.Proofs.Ytflpnbbdfjcggaa
