/- Walks: the law of GraphOf. -/
import Derived.Test.YtglleimmmfnhcaaGraph
import Derived.Test.YtglleimmmfnhcaaGraph2
namespace Go.Proofs.Ytglleimmmfnhcaa
open Go.RowKit
set_option maxRecDepth 20000

set_option maxHeartbeats 2000000 in
theorem law_GraphOf (s : ByteArray) (n : Int) (w : World) (hs : s.size ≤ maxLen) (_ : (Lit.int .i64 n).wf = true) :
    Calls Try.prog 11 #[.string s, .int .i64 n] w fun e w' => e = .returned (.bool true) ∧ Below w.heap.size w w' := by
  by_cases bigs : 1048576 < s.size
  · go_enter Try.func11, Try.ntmps11
    go_wp2_with fail
    go_ret
    exact ⟨rfl, Below.refl _ _⟩
  have h1 := fun W => specGraphOf_any s n W hs
  have h2 := fun W => implGraphOf_any s n W hs
  obtain ⟨R, hR⟩ : ∃ R, R = grR s n := ⟨_, rfl⟩
  have hN : R.length ≤ 1048577 ∧ totL R ≤ 2097154 := by rw [hR]; have := grR_len s n; omega
  rw [← hR] at h1 h2
  have H1 := Lib.hid h1; have H2 := Lib.hid h2; have HN := Lib.hid hN
  clear h1 h2 hR hN
  go_enter Try.func11, Try.ntmps11
  go_wp2_with fail
  refine (H1.out _).mono ?_
  rintro e w1 ⟨u, rfl, ho, hb⟩
  have B1 := Lib.hid hb
  have W1 := Lib.hid (Rd2.new ho.row2)
  clear ho hb
  go_wp2_with fail
  refine (H2.out _).mono ?_
  rintro e w2 ⟨v, rfl, ho, hb⟩
  have B2 := Lib.hid (since_on B1.out hb)
  have W2 := Lib.hid (W1.out.on hb)
  have G2 := Lib.hid ho
  clear ho hb
  go_wp2_with fail
  refine (eqIntSS_same R _ _ _ _ (Rd2.new G2.out.row2).row W2.out.at).mono ?_
  rintro e w3 ⟨rfl, nn, hnn⟩
  have hb := show Below _ _ w3 from (by rw [hnn]; exact bdrewN _ nn)
  have B3 := Lib.hid (since_on B2.out hb)
  have W3 := Lib.hid (W2.out.on hb)
  have G3 := Lib.hid (G2.out.below hb)
  clear hb hnn
  go_wp2_with fail
  refine (markIntSS_any w1.heap.size w2.heap.size v R 1 _ G3.out (by omega) (by have := HN.out; omega) (by have := HN.out; omega)).mono ?_
  rintro e w4 ⟨rfl, ho, hw⟩
  have B4 := Lib.hid (since_in B3.out hw B1.out.size)
  have W4 := Lib.hid (W3.out.within hw (Nat.le_refl _))
  have G4 := Lib.hid (Rd2.new ho.row2)
  clear ho hw
  go_wp2_with fail
  refine (heldIntSS_any R v 1 _ _ G4.out.at (by omega) (by have := HN.out; omega) (by have := HN.out; omega)).mono ?_
  rintro e w5 ⟨rfl, nn, hnn⟩
  have hb := show Below _ _ w5 from (by rw [hnn]; exact bdrewN _ nn)
  have B5 := Lib.hid (since_on B4.out hb)
  have W5 := Lib.hid (W4.out.on hb)
  have G5 := Lib.hid (G4.out.on hb)
  clear hb hnn
  go_wp2_with fail
  refine (H2.out _).mono ?_
  rintro e w6 ⟨t, rfl, ho, hb⟩
  have B6 := Lib.hid (since_on B5.out hb)
  have W6 := Lib.hid (W5.out.on hb)
  have G6 := Lib.hid (G5.out.on hb)
  have T6 := Lib.hid (Rd2.new ho.row2)
  clear ho hb
  go_wp2_with fail
  refine (eqIntSS_same R _ _ _ _ T6.out.at W6.out.at).mono ?_
  rintro e w7 ⟨rfl, nn, hnn⟩
  have hb := show Below _ _ w7 from (by rw [hnn]; exact bdrewN _ nn)
  have B7 := Lib.hid (since_on B6.out hb)
  have G7 := Lib.hid (G6.out.on hb)
  clear hb hnn
  go_wp2_with fail
  refine (heldIntSS_any R v 1 _ _ G7.out.at (by omega) (by have := HN.out; omega) (by have := HN.out; omega)).mono ?_
  rintro e w8 ⟨rfl, nn, hnn⟩
  have hb := show Below _ _ w8 from (by rw [hnn]; exact bdrewN _ nn)
  have B8 := Lib.hid (since_on B7.out hb)
  clear hb hnn
  go_wp2_with fail
  go_ret
  exact ⟨rfl, B8.out⟩
end Go.Proofs.Ytglleimmmfnhcaa
