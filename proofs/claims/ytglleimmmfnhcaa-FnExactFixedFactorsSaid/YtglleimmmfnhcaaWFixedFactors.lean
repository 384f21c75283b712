/- Walks: the law of FixedFactors. -/
import Derived.Test.YtglleimmmfnhcaaFixFac
import Derived.Test.YtglleimmmfnhcaaState
import Derived.Test.YtglleimmmfnhcaaSzLe
import Derived.Test.YtglleimmmfnhcaaSubM
import Derived.Test.YtglleimmmfnhcaaMark
import Derived.Deep.RegionHeld3
namespace Go.Proofs.Ytglleimmmfnhcaa
open Go.RowKit
set_option maxRecDepth 20000

set_option maxHeartbeats 4000000 in
theorem law_FixedFactors (va : Value) (xs : List ByteArray) (s : ByteArray) (n : Int) (w : World) (hava : Row1 w w.heap.size va (xs.map .string)) (hsva : ∀ s ∈ xs, s.size ≤ maxLen) (hms : s.size ≤ maxLen) (_ : (Lit.int .i64 n).wf = true) :
    Calls Try.prog 12 #[.agg #[va], .string s, .int .i64 n] w fun e w' => e = .returned (.bool true) ∧ Below w.heap.size w w' := by
  have B_1 := Lib.hid (show Below w.heap.size w (w.alloc (.cells #[va] 24)) from bnew _ _)
  have Ava_2 := Lib.hid (One.new w 24 va)
  have Rva_3 := Lib.hid ((Rd.new hava).on B_1.out)
  have HLva := Lib.hid (show (xs.map Value.string).length = xs.length from List.length_map _)
  have HSva := Lib.hid hsva
  clear hava
  by_cases bigs : 1048576 < s.size
  · go_enter Try.func12, Try.ntmps12
    go_wp2_with fail
    go_ret
    exact ⟨rfl, B_1.out⟩
  by_cases hneg0 : szR xs 1048576 < 0
  · skip
    go_enter Try.func12, Try.ntmps12
    go_wp2_with fail
    refine (szSubst_any xs va 1048576 _ (Rva_3.out.at) HSva.out (by omega) (by omega)).mono ?_
    rintro e w1 ⟨rfl, hb⟩
    have B_4 := Lib.hid (since_on B_1.out hb)
    have Ava_4 := Lib.hid (One.on Ava_2.out hb)
    have Rva_4 := Lib.hid (Rd.on Rva_3.out hb)
    have Z_1 := Lib.hid (by have h := hb.size; simp only [World.size_alloc] at h; exact h)
    clear B_1 Ava_2 Rva_3 hb
    go_wp2_with fail
    go_ret
    exact ⟨rfl, B_4.out⟩
  have hxva : xs.length ≤ 1048576 := by have := szR_nonneg (show 0 ≤ szR xs 1048576 by omega); omega
  have h1 := fun (v : Value) (W : World) (hR : Row1 W W.heap.size v (xs.map .string)) => specFixedFactors_any xs v s n W hR HSva.out hms
  have h2 := fun (v : Value) (W : World) (hR : Row1 W W.heap.size v (xs.map .string)) => implFixedFactors_any xs v s n W hR HSva.out hms
  obtain ⟨R, hR⟩ : ∃ R, R = ffR xs s.data.toList n := ⟨_, rfl⟩
  have hN : R.length ≤ 1048576 := by rw [hR]; have := ffR_len xs s.data.toList n; omega
  rw [← hR] at h1 h2
  have HM := Lib.hid (show (R.map Value.string).length = R.length from List.length_map _)
  have H1 := Lib.hid h1; have H2 := Lib.hid h2; have HN := Lib.hid hN
  clear h1 h2 hR hN
  go_enter Try.func12, Try.ntmps12
  go_wp2_with fail
  refine (szSubst_any xs va 1048576 _ (Rva_3.out.at) HSva.out (by omega) (by omega)).mono ?_
  rintro e w1 ⟨rfl, hb⟩
  have B_4 := Lib.hid (since_on B_1.out hb)
  have Ava_4 := Lib.hid (One.on Ava_2.out hb)
  have Rva_4 := Lib.hid (Rd.on Rva_3.out hb)
  have Z_1 := Lib.hid (by have h := hb.size; simp only [World.size_alloc] at h; exact h)
  clear B_1 Ava_2 Rva_3 hb
  have c_Ava := Ava_4.out.cell
  go_wp2_with fail
  refine (toSubst_any xs va _ (Rva_4.out.at) hxva).mono ?_
  rintro e w2 ⟨g_w2, rfl, ho, hb⟩
  have B_5 := Lib.hid (since_on B_4.out hb)
  have Ava_5 := Lib.hid (One.on Ava_4.out hb)
  have Rva_5 := Lib.hid (Rd.on Rva_4.out hb)
  have Z_2 := Lib.hid hb.size
  have Y_6 := Lib.hid (Rd.new (Row1.own ho HLva.out.symm))
  clear B_4 Ava_4 Rva_4 ho hb
  clear c_Ava
  go_wp2_with fail
  refine (H1.out _ _ Y_6.out.at).mono ?_
  rintro e w3 ⟨u, rfl, ho, hb⟩
  have B_7 := Lib.hid (since_on B_5.out hb)
  have Ava_7 := Lib.hid (One.on Ava_5.out hb)
  have Rva_7 := Lib.hid (Rd.on Rva_5.out hb)
  have Y_7 := Lib.hid (Rd.on Y_6.out hb)
  have Z_3 := Lib.hid hb.size
  have W_8 := Lib.hid (Rd.new (Row1.own ho HM.out.symm))
  clear B_5 Ava_5 Rva_5 Y_6 ho hb
  have c_Ava := Ava_7.out.cell
  go_wp2_with fail
  refine (toSubst_any xs va _ (Rva_7.out.at) hxva).mono ?_
  rintro e w4 ⟨g_w4, rfl, ho, hb⟩
  have B_9 := Lib.hid (since_on B_7.out hb)
  have Ava_9 := Lib.hid (One.on Ava_7.out hb)
  have Rva_9 := Lib.hid (Rd.on Rva_7.out hb)
  have W_9 := Lib.hid (Rd.on W_8.out hb)
  have Z_4 := Lib.hid hb.size
  have LX := Lib.hid (fun k hk => (own_lt ho (g := k) hk).2)
  have X_10 := Lib.hid (ho)
  clear B_7 Ava_7 Rva_7 W_8 ho hb
  clear c_Ava
  have B_11 := Lib.hid (since_on B_9.out (bnew w4 (.cells #[(.slice (some ⟨g_w4, 0, none⟩) xs.length xs.length)] 28)))
  have Ava_11 := Lib.hid (One.on Ava_9.out (bnew w4 (.cells #[(.slice (some ⟨g_w4, 0, none⟩) xs.length xs.length)] 28)))
  have Rva_11 := Lib.hid (Rd.on Rva_9.out (bnew w4 (.cells #[(.slice (some ⟨g_w4, 0, none⟩) xs.length xs.length)] 28)))
  have W_11 := Lib.hid (Rd.on W_9.out (bnew w4 (.cells #[(.slice (some ⟨g_w4, 0, none⟩) xs.length xs.length)] 28)))
  have X_11 := Lib.hid (own_below X_10.out (bnew w4 (.cells #[(.slice (some ⟨g_w4, 0, none⟩) xs.length xs.length)] 28)))
  clear B_9 Ava_9 Rva_9 W_9 X_10
  have OX_12 := Lib.hid (One.new w4 28 (.slice (some ⟨g_w4, 0, none⟩) xs.length xs.length))
  go_wp2_with fail
  refine (H2.out _ _ (Row1.own X_11.out HLva.out.symm)).mono ?_
  rintro e w5 ⟨v, rfl, ho, hb⟩
  have B_13 := Lib.hid (since_on B_11.out hb)
  have Ava_13 := Lib.hid (One.on Ava_11.out hb)
  have Rva_13 := Lib.hid (Rd.on Rva_11.out hb)
  have W_13 := Lib.hid (Rd.on W_11.out hb)
  have X_13 := Lib.hid (own_below X_11.out hb)
  have OX_13 := Lib.hid (One.on OX_12.out hb)
  have Z_5 := Lib.hid (by have h := hb.size; simp only [World.size_alloc] at h; exact h)
  rw [World.size_alloc] at ho
  have LG := Lib.hid (fun k hk => (own_lt ho (g := k) hk).2)
  have G_14 := Lib.hid (ho)
  clear B_11 Ava_11 Rva_11 W_11 X_11 OX_12 ho hb
  go_wp2_with fail
  refine (eqStringS_same R _ _ _ _ (Row1.own G_14.out HM.out.symm) W_13.out.at).mono ?_
  rintro e w6 ⟨rfl, nn, hnn⟩
  have hb := show Below _ _ w6 from (by rw [hnn]; exact bdrewN _ nn)
  have B_15 := Lib.hid (since_on B_13.out hb)
  have Ava_15 := Lib.hid (One.on Ava_13.out hb)
  have Rva_15 := Lib.hid (Rd.on Rva_13.out hb)
  have W_15 := Lib.hid (Rd.on W_13.out hb)
  have X_15 := Lib.hid (own_below X_13.out hb)
  have OX_15 := Lib.hid (One.on OX_13.out hb)
  have G_15 := Lib.hid (own_below G_14.out hb)
  have Z_6 := Lib.hid hb.size
  clear B_13 Ava_13 Rva_13 W_13 X_13 OX_13 G_14 hb hnn
  have c_OX := OX_15.out.cell
  have c_Ava := Ava_15.out.cell
  go_wp2_with fail
  have K_0 := Lib.hid (And.intro (OX_15.out.drew).cell (Ava_15.out.drew).cell)
  go_region_held3 (fun w' => w'.cell? ⟨w4.heap.size, 0, none⟩ = some (.slice (some ⟨g_w4, 0, none⟩) xs.length xs.length) ∧ w'.cell? ⟨w.heap.size, 0, none⟩ = some va) (first | exact K_2.out | exact K_1.out | exact K_0.out) ((first | (go_at_call 15; refine (toSubst_any xs va _ ((Rd.on Rva_15.out (bdrew _)).at) hxva).mono ?_; rintro e w7 ⟨g_w7, rfl, ho, hb0⟩; have hb := bthen (bdrew _) hb0; have B_16 := Lib.hid (since_on B_15.out hb); have Ava_16 := Lib.hid (One.on Ava_15.out hb); have Rva_16 := Lib.hid (Rd.on Rva_15.out hb); have W_16 := Lib.hid (Rd.on W_15.out hb); have X_16 := Lib.hid (own_below X_15.out hb); have OX_16 := Lib.hid (One.on OX_15.out hb); have G_16 := Lib.hid (own_below G_15.out hb); have Z_7 := Lib.hid hb.size; have Y_17 := Lib.hid (Rd.new (Row1.own ho HLva.out.symm)); have K_1 := Lib.hid (And.intro OX_16.out.cell Ava_16.out.cell); clear B_15 Ava_15 Rva_15 W_15 X_15 OX_15 G_15 ho hb hb0) | (go_at_call 17; refine (eqSubst_same xs _ _ _ (Row1.own X_16.out HLva.out.symm) Y_17.out.at).mono ?_; rintro e w8 ⟨rfl, hb⟩; have B_18 := Lib.hid (since_on B_16.out hb); have Ava_18 := Lib.hid (One.on Ava_16.out hb); have Rva_18 := Lib.hid (Rd.on Rva_16.out hb); have W_18 := Lib.hid (Rd.on W_16.out hb); have X_18 := Lib.hid (own_below X_16.out hb); have OX_18 := Lib.hid (One.on OX_16.out hb); have G_18 := Lib.hid (own_below G_16.out hb); have Z_8 := Lib.hid hb.size; have K_2 := Lib.hid (And.intro OX_18.out.cell Ava_18.out.cell); clear B_16 Ava_16 Rva_16 W_16 X_16 OX_16 G_16 Y_17 hb)))
  clear c_OX c_Ava K_0 K_1 K_2
  have c_OX := OX_18.out.cell
  go_wp2_with fail
  have GM := markSubst_any w3.heap.size w4.heap.size _ (xs.map Value.string) 1 _ (show w8.ownsRow w3.heap.size 9 1 (.slice (some ⟨g_w4, 0, none⟩) xs.length xs.length) (xs.map Value.string).length (xs.map Value.string) by rw [HLva.out]; exact X_18.out) LX.out (by intro u hu; obtain ⟨z, _, rfl⟩ := List.mem_map.1 hu; exact ⟨z, rfl⟩) (by omega) (by rw [HLva.out]; omega)
  rw [HLva.out] at GM
  obtain ⟨kk, hkk⟩ : ∃ kk, kk = 1 + xs.length := ⟨_, rfl⟩
  rw [← hkk] at GM
  refine GM.mono ?_
  clear GM
  rintro e w9 ⟨rfl, _, hw⟩
  have B_19 := Lib.hid (since_in B_18.out hw (by have := Z_1.out; have := Z_2.out; have := Z_3.out; have := Z_4.out; have := Z_5.out; have := Z_6.out; have := Z_7.out; have := Z_8.out; omega))
  have Ava_19 := Lib.hid (One.within Ava_18.out hw (by have := Z_1.out; have := Z_2.out; have := Z_3.out; have := Z_4.out; have := Z_5.out; have := Z_6.out; have := Z_7.out; have := Z_8.out; omega))
  have Rva_19 := Lib.hid (Rd.within Rva_18.out hw (by have := Z_1.out; have := Z_2.out; have := Z_3.out; have := Z_4.out; have := Z_5.out; have := Z_6.out; have := Z_7.out; have := Z_8.out; omega))
  have W_19 := Lib.hid (Rd.within W_18.out hw (by have := Z_1.out; have := Z_2.out; have := Z_3.out; have := Z_4.out; have := Z_5.out; have := Z_6.out; have := Z_7.out; have := Z_8.out; omega))
  have OX_19 := Lib.hid (One.within OX_18.out hw (by have := Z_1.out; have := Z_2.out; have := Z_3.out; have := Z_4.out; have := Z_5.out; have := Z_6.out; have := Z_7.out; have := Z_8.out; omega))
  have G_19 := Lib.hid (own_within G_18.out hw (by have := Z_1.out; have := Z_2.out; have := Z_3.out; have := Z_4.out; have := Z_5.out; have := Z_6.out; have := Z_7.out; have := Z_8.out; omega))
  have Z_9 := Lib.hid hw.size
  clear B_18 Ava_18 Rva_18 W_18 X_18 OX_18 G_18 hw c_OX
  have hk0 : (0 : Int) ≤ (kk : Int) := by omega
  have hk1 : kk ≤ 1048577 := by omega
  clear hkk
  go_wp2_with fail
  refine (eqStringS_same R _ _ _ _ (Row1.own G_19.out HM.out.symm) W_19.out.at).mono ?_
  rintro e w10 ⟨rfl, nn, hnn⟩
  have hb := show Below _ _ w10 from (by rw [hnn]; exact bdrewN _ nn)
  have B_20 := Lib.hid (since_on B_19.out hb)
  have Ava_20 := Lib.hid (One.on Ava_19.out hb)
  have Rva_20 := Lib.hid (Rd.on Rva_19.out hb)
  have W_20 := Lib.hid (Rd.on W_19.out hb)
  have OX_20 := Lib.hid (One.on OX_19.out hb)
  have G_20 := Lib.hid (own_below G_19.out hb)
  have Z_10 := Lib.hid hb.size
  clear B_19 Ava_19 Rva_19 W_19 OX_19 G_19 hb hnn
  go_wp2_with fail
  have GM := markStringS_any (w4.heap.size + 1) v (R.map Value.string) 1 _ (show w10.ownsRow (w4.heap.size + 1) 9 1 v (R.map Value.string).length (R.map Value.string) by rw [HM.out]; exact G_20.out) (by intro u hu; obtain ⟨z, _, rfl⟩ := List.mem_map.1 hu; exact ⟨z, rfl⟩) (by omega) (by rw [HM.out]; have := HN.out; omega)
  rw [HM.out] at GM
  refine GM.mono ?_
  clear GM
  have hlo := Lib.hid (fun g hg => (own_lt G_20.out (g := g) hg).1)
  rintro e w11 ⟨rfl, ho, hgr⟩
  have hw := Within.of_grown (lo := (w4.heap.size + 1)) (hi := w5.heap.size) hgr (fun g hg => ⟨hlo.out g hg, LG.out g hg⟩)
  have B_21 := Lib.hid (since_in B_20.out hw (by have := Z_1.out; have := Z_2.out; have := Z_3.out; have := Z_4.out; have := Z_5.out; have := Z_6.out; have := Z_7.out; have := Z_8.out; have := Z_9.out; have := Z_10.out; omega))
  have Ava_21 := Lib.hid (One.within Ava_20.out hw (by have := Z_1.out; have := Z_2.out; have := Z_3.out; have := Z_4.out; have := Z_5.out; have := Z_6.out; have := Z_7.out; have := Z_8.out; have := Z_9.out; have := Z_10.out; omega))
  have Rva_21 := Lib.hid (Rd.within Rva_20.out hw (by have := Z_1.out; have := Z_2.out; have := Z_3.out; have := Z_4.out; have := Z_5.out; have := Z_6.out; have := Z_7.out; have := Z_8.out; have := Z_9.out; have := Z_10.out; omega))
  have W_21 := Lib.hid (Rd.within W_20.out hw (by have := Z_1.out; have := Z_2.out; have := Z_3.out; have := Z_4.out; have := Z_5.out; have := Z_6.out; have := Z_7.out; have := Z_8.out; have := Z_9.out; have := Z_10.out; omega))
  have OX_21 := Lib.hid (One.within OX_20.out hw (by have := Z_1.out; have := Z_2.out; have := Z_3.out; have := Z_4.out; have := Z_5.out; have := Z_6.out; have := Z_7.out; have := Z_8.out; have := Z_9.out; have := Z_10.out; omega))
  have Z_11 := Lib.hid hw.size
  have G_22 := Lib.hid (Rd.new (Row1.own ho (by rw [marksS_len])))
  clear B_20 Ava_20 Rva_20 W_20 OX_20 G_20 hw hgr hlo ho
  have hk3 : (0 : Int) ≤ 1 + (R.length : Int) := by omega
  go_wp2_with fail
  refine (heldStringS_any R.length v 1 _ G_22.out.at (by omega) (by have := HN.out; omega)).mono ?_
  rintro e w12 ⟨rfl, hb⟩
  have B_23 := Lib.hid (since_on B_21.out hb)
  have Ava_23 := Lib.hid (One.on Ava_21.out hb)
  have Rva_23 := Lib.hid (Rd.on Rva_21.out hb)
  have W_23 := Lib.hid (Rd.on W_21.out hb)
  have OX_23 := Lib.hid (One.on OX_21.out hb)
  have G_23 := Lib.hid (Rd.on G_22.out hb)
  have Z_12 := Lib.hid hb.size
  clear B_21 Ava_21 Rva_21 W_21 OX_21 G_22 hb
  have c_Ava := Ava_23.out.cell
  go_wp2_with fail
  refine (toSubst_any xs va _ (Rva_23.out.at) hxva).mono ?_
  rintro e w13 ⟨g_w13, rfl, ho, hb⟩
  have B_24 := Lib.hid (since_on B_23.out hb)
  have Ava_24 := Lib.hid (One.on Ava_23.out hb)
  have Rva_24 := Lib.hid (Rd.on Rva_23.out hb)
  have W_24 := Lib.hid (Rd.on W_23.out hb)
  have OX_24 := Lib.hid (One.on OX_23.out hb)
  have G_24 := Lib.hid (Rd.on G_23.out hb)
  have Z_13 := Lib.hid hb.size
  have Y_25 := Lib.hid (Rd.new (Row1.own ho HLva.out.symm))
  clear B_23 Ava_23 Rva_23 W_23 OX_23 G_23 ho hb
  clear c_Ava
  go_wp2_with fail
  refine (H2.out _ _ Y_25.out.at).mono ?_
  rintro e w14 ⟨t, rfl, ho, hb⟩
  have B_26 := Lib.hid (since_on B_24.out hb)
  have Ava_26 := Lib.hid (One.on Ava_24.out hb)
  have Rva_26 := Lib.hid (Rd.on Rva_24.out hb)
  have W_26 := Lib.hid (Rd.on W_24.out hb)
  have OX_26 := Lib.hid (One.on OX_24.out hb)
  have G_26 := Lib.hid (Rd.on G_24.out hb)
  have Y_26 := Lib.hid (Rd.on Y_25.out hb)
  have Z_14 := Lib.hid hb.size
  have T_27 := Lib.hid (Rd.new (Row1.own ho HM.out.symm))
  clear B_24 Ava_24 Rva_24 W_24 OX_24 G_24 Y_25 ho hb
  go_wp2_with fail
  refine (eqStringS_same R _ _ _ _ T_27.out.at W_26.out.at).mono ?_
  rintro e w15 ⟨rfl, nn, hnn⟩
  have hb := show Below _ _ w15 from (by rw [hnn]; exact bdrewN _ nn)
  have B_28 := Lib.hid (since_on B_26.out hb)
  have Ava_28 := Lib.hid (One.on Ava_26.out hb)
  have Rva_28 := Lib.hid (Rd.on Rva_26.out hb)
  have W_28 := Lib.hid (Rd.on W_26.out hb)
  have OX_28 := Lib.hid (One.on OX_26.out hb)
  have G_28 := Lib.hid (Rd.on G_26.out hb)
  have T_28 := Lib.hid (Rd.on T_27.out hb)
  have Z_15 := Lib.hid hb.size
  clear B_26 Ava_26 Rva_26 W_26 OX_26 G_26 T_27 hb hnn
  go_wp2_with fail
  refine (heldStringS_any R.length v 1 _ G_28.out.at (by omega) (by have := HN.out; omega)).mono ?_
  rintro e w16 ⟨rfl, hb⟩
  have B_29 := Lib.hid (since_on B_28.out hb)
  have Ava_29 := Lib.hid (One.on Ava_28.out hb)
  have Rva_29 := Lib.hid (Rd.on Rva_28.out hb)
  have W_29 := Lib.hid (Rd.on W_28.out hb)
  have OX_29 := Lib.hid (One.on OX_28.out hb)
  have G_29 := Lib.hid (Rd.on G_28.out hb)
  have T_29 := Lib.hid (Rd.on T_28.out hb)
  have Z_16 := Lib.hid hb.size
  clear B_28 Ava_28 Rva_28 W_28 OX_28 G_28 T_28 hb
  go_wp2_with fail
  go_ret
  exact ⟨rfl, B_29.out⟩
end Go.Proofs.Ytglleimmmfnhcaa
