/- Walks: the law of TurnSubst. -/
import Derived.Test.YtnnkhjjecmldfaaTurnS
import Derived.Test.YtnnkhjjecmldfaaState
import Derived.Deep.RegionHeld3
namespace Go.Proofs.Ytnnkhjjecmldfaa
open Go.RowKit
set_option maxRecDepth 20000

theorem szR_le (xs : List ByteArray) (L : Int) : szR xs L ≤ L ∨ szR xs L < 0 := by unfold szR; split <;> omega
theorem tsR_len {xs : List ByteArray} : (tsR xs).length ≤ xs.length := by unfold tsR; split <;> simp
set_option maxHeartbeats 4000000 in
theorem law_TurnSubst (va : Value) (xs : List ByteArray) (w : World) (hava : Row1 w w.heap.size va (xs.map .string)) (hsva : ∀ s ∈ xs, s.size ≤ maxLen) :
    Calls Try.prog 3 #[.agg #[va]] w fun e w' => e = .returned (.bool true) ∧ Below w.heap.size w w' := by
  have B_1 := Lib.hid (show Below w.heap.size w (w.alloc (.cells #[va] 24)) from bnew _ _)
  have Ava_2 := Lib.hid (One.new w 24 va)
  have Rva_3 := Lib.hid ((Rd.new hava).on B_1.out)
  have HLva := Lib.hid (show (xs.map Value.string).length = xs.length from List.length_map _)
  have HSva := Lib.hid hsva
  clear hava
  by_cases hneg0 : szR xs (1048576) < 0
  · skip
    go_enter Try.func3, Try.ntmps3
    go_wp2_with fail
    refine (szSubst_any xs va (1048576) _ (Rva_3.out.at) HSva.out (by omega) (by have := szR_le xs 1048576; omega)).mono ?_
    rintro e w1 ⟨rfl, hb⟩
    have B_4 := Lib.hid (since_on B_1.out hb)
    have Ava_4 := Lib.hid (One.on Ava_2.out hb)
    have Rva_4 := Lib.hid (Rd.on Rva_3.out hb)
    have Z_1 := Lib.hid (by have h := hb.size; simp only [World.size_alloc] at h; exact h)
    clear B_1 Ava_2 Rva_3 hb
    go_wp2_with fail
    go_ret
    exact ⟨rfl, B_4.out⟩
  have hxva : xs.length ≤ 1048576 := by have := szR_nonneg (show 0 ≤ szR xs 1048576 by omega); omega
  have h1 := fun (v : Value) (W : World) (hR : Row1 W W.heap.size v (xs.map .string)) => specTurnSubst_any xs v W hR HSva.out
  have h2 := fun (v : Value) (W : World) (hR : Row1 W W.heap.size v (xs.map .string)) => implTurnSubst_any xs v W hR HSva.out
  obtain ⟨R, hR⟩ : ∃ R, R = tsR xs := ⟨_, rfl⟩
  have hN : R.length ≤ 1048576 := by rw [hR]; have := tsR_len (xs := xs); omega
  obtain ⟨b, hb⟩ : ∃ b, b = substB xs := ⟨_, rfl⟩
  rw [← hR, ← hb] at h1 h2
  have HM := Lib.hid (show (R.map Value.string).length = R.length from List.length_map _)
  have H1 := Lib.hid h1; have H2 := Lib.hid h2; have HN := Lib.hid hN
  clear h1 h2 hR hN hb
  go_enter Try.func3, Try.ntmps3
  go_wp2_with fail
  refine (szSubst_any xs va (1048576) _ (Rva_3.out.at) HSva.out (by omega) (by have := szR_le xs 1048576; omega)).mono ?_
  rintro e w1 ⟨rfl, hb⟩
  have B_4 := Lib.hid (since_on B_1.out hb)
  have Ava_4 := Lib.hid (One.on Ava_2.out hb)
  have Rva_4 := Lib.hid (Rd.on Rva_3.out hb)
  have Z_1 := Lib.hid (by have h := hb.size; simp only [World.size_alloc] at h; exact h)
  clear B_1 Ava_2 Rva_3 hb
  have c_Ava := Ava_4.out.cell
  go_wp2_with fail
  refine (toSubst_any xs va _ (Rva_4.out.at) hxva).mono ?_
  rintro e w2 ⟨g_w2, rfl, ho, hb⟩
  have B_5 := Lib.hid (since_on B_4.out hb)
  have Ava_5 := Lib.hid (One.on Ava_4.out hb)
  have Rva_5 := Lib.hid (Rd.on Rva_4.out hb)
  have Z_2 := Lib.hid hb.size
  have Y_6 := Lib.hid (Rd.new (Row1.own ho HLva.out.symm))
  clear B_4 Ava_4 Rva_4 ho hb
  clear c_Ava
  have c_Ava := Ava_5.out.cell
  go_wp2_with fail
  refine (H1.out _ _ Y_6.out.at).mono ?_
  rintro e w3 ⟨u, rfl, ho, hb⟩
  obtain ⟨A_u, q_u, rfl⟩ := own_shape ho
  have B_7 := Lib.hid (since_on B_5.out hb)
  have Ava_7 := Lib.hid (One.on Ava_5.out hb)
  have Rva_7 := Lib.hid (Rd.on Rva_5.out hb)
  have Y_7 := Lib.hid (Rd.on Y_6.out hb)
  have Z_3 := Lib.hid hb.size
  have W_8 := Lib.hid (Rd.new (Row1.own ho HM.out.symm))
  clear B_5 Ava_5 Rva_5 Y_6 ho hb
  clear c_Ava
  have c_Ava := Ava_7.out.cell
  have B_9 := Lib.hid (since_on B_7.out (bnew w3 (.cells #[(.slice A_u R.length q_u)] 26)))
  have Ava_9 := Lib.hid (One.on Ava_7.out (bnew w3 (.cells #[(.slice A_u R.length q_u)] 26)))
  have Rva_9 := Lib.hid (Rd.on Rva_7.out (bnew w3 (.cells #[(.slice A_u R.length q_u)] 26)))
  have W_9 := Lib.hid (Rd.on W_8.out (bnew w3 (.cells #[(.slice A_u R.length q_u)] 26)))
  clear B_7 Ava_7 Rva_7 W_8
  have OW_10 := Lib.hid (One.new w3 26 (.slice A_u R.length q_u))
  have d_A := Ava_9.out.cell
  go_wp2_with fail
  refine (toSubst_any xs va _ (Rva_9.out.at) hxva).mono ?_
  rintro e w4 ⟨g_w4, rfl, ho, hb⟩
  have B_11 := Lib.hid (since_on B_9.out hb)
  have Ava_11 := Lib.hid (One.on Ava_9.out hb)
  have Rva_11 := Lib.hid (Rd.on Rva_9.out hb)
  have W_11 := Lib.hid (Rd.on W_9.out hb)
  have OW_11 := Lib.hid (One.on OW_10.out hb)
  have Z_4 := Lib.hid (by have h := hb.size; simp only [World.size_alloc] at h; exact h)
  rw [World.size_alloc] at ho
  have LX := Lib.hid (fun k hk => (own_lt ho (g := k) hk).2)
  have X_12 := Lib.hid (ho)
  clear B_9 Ava_9 Rva_9 W_9 OW_10 ho hb
  clear c_Ava
  clear d_A
  have B_13 := Lib.hid (since_on B_11.out (bnew w4 (.cells #[(.slice (some ⟨g_w4, 0, none⟩) xs.length xs.length)] 26)))
  have Ava_13 := Lib.hid (One.on Ava_11.out (bnew w4 (.cells #[(.slice (some ⟨g_w4, 0, none⟩) xs.length xs.length)] 26)))
  have Rva_13 := Lib.hid (Rd.on Rva_11.out (bnew w4 (.cells #[(.slice (some ⟨g_w4, 0, none⟩) xs.length xs.length)] 26)))
  have W_13 := Lib.hid (Rd.on W_11.out (bnew w4 (.cells #[(.slice (some ⟨g_w4, 0, none⟩) xs.length xs.length)] 26)))
  have OW_13 := Lib.hid (One.on OW_11.out (bnew w4 (.cells #[(.slice (some ⟨g_w4, 0, none⟩) xs.length xs.length)] 26)))
  have X_13 := Lib.hid (own_below X_12.out (bnew w4 (.cells #[(.slice (some ⟨g_w4, 0, none⟩) xs.length xs.length)] 26)))
  clear B_11 Ava_11 Rva_11 W_11 OW_11 X_12
  have OX_14 := Lib.hid (One.new w4 26 (.slice (some ⟨g_w4, 0, none⟩) xs.length xs.length))
  go_wp2_with fail
  refine (H2.out _ _ (Row1.own X_13.out HLva.out.symm)).mono ?_
  rintro e w5 ⟨v, rfl, ho, hb⟩
  obtain ⟨A_v, q_v, rfl⟩ := own_shape ho
  have B_15 := Lib.hid (since_on B_13.out hb)
  have Ava_15 := Lib.hid (One.on Ava_13.out hb)
  have Rva_15 := Lib.hid (Rd.on Rva_13.out hb)
  have W_15 := Lib.hid (Rd.on W_13.out hb)
  have OW_15 := Lib.hid (One.on OW_13.out hb)
  have X_15 := Lib.hid (own_below X_13.out hb)
  have OX_15 := Lib.hid (One.on OX_14.out hb)
  have Z_5 := Lib.hid (by have h := hb.size; simp only [World.size_alloc] at h; exact h)
  rw [World.size_alloc] at ho
  have LG := Lib.hid (fun k hk => (own_lt ho (g := k) hk).2)
  have G_16 := Lib.hid (ho)
  clear B_13 Ava_13 Rva_13 W_13 OW_13 X_13 OX_14 ho hb
  have c_OW := OW_15.out.cell
  have B_17 := Lib.hid (since_on B_15.out (bnew w5 (.cells #[(.slice A_v R.length q_v)] 26)))
  have Ava_17 := Lib.hid (One.on Ava_15.out (bnew w5 (.cells #[(.slice A_v R.length q_v)] 26)))
  have Rva_17 := Lib.hid (Rd.on Rva_15.out (bnew w5 (.cells #[(.slice A_v R.length q_v)] 26)))
  have W_17 := Lib.hid (Rd.on W_15.out (bnew w5 (.cells #[(.slice A_v R.length q_v)] 26)))
  have OW_17 := Lib.hid (One.on OW_15.out (bnew w5 (.cells #[(.slice A_v R.length q_v)] 26)))
  have X_17 := Lib.hid (own_below X_15.out (bnew w5 (.cells #[(.slice A_v R.length q_v)] 26)))
  have OX_17 := Lib.hid (One.on OX_15.out (bnew w5 (.cells #[(.slice A_v R.length q_v)] 26)))
  have G_17 := Lib.hid (own_below G_16.out (bnew w5 (.cells #[(.slice A_v R.length q_v)] 26)))
  clear B_15 Ava_15 Rva_15 W_15 OW_15 X_15 OX_15 G_16
  have OG_18 := Lib.hid (One.new w5 26 (.slice A_v R.length q_v))
  have d_W := OW_17.out.cell
  go_wp2_with fail
  refine (eqSubst_same R _ _ _ (Row1.own G_17.out HM.out.symm) W_17.out.at).mono ?_
  rintro e w6 ⟨rfl, hb⟩
  have B_19 := Lib.hid (since_on B_17.out hb)
  have Ava_19 := Lib.hid (One.on Ava_17.out hb)
  have Rva_19 := Lib.hid (Rd.on Rva_17.out hb)
  have W_19 := Lib.hid (Rd.on W_17.out hb)
  have OW_19 := Lib.hid (One.on OW_17.out hb)
  have X_19 := Lib.hid (own_below X_17.out hb)
  have OX_19 := Lib.hid (One.on OX_17.out hb)
  have G_19 := Lib.hid (own_below G_17.out hb)
  have OG_19 := Lib.hid (One.on OG_18.out hb)
  have Z_6 := Lib.hid (by have h := hb.size; simp only [World.size_alloc] at h; exact h)
  clear B_17 Ava_17 Rva_17 W_17 OW_17 X_17 OX_17 G_17 OG_18 hb
  clear c_OW d_W
  have c_OX := OX_19.out.cell
  have c_Ava := Ava_19.out.cell
  go_wp2_with fail
  have K_6 := Lib.hid (And.intro (OX_19.out.drew).cell (Ava_19.out.drew).cell)
  go_region_held3 (fun w' => w'.cell? ⟨w4.heap.size, 0, none⟩ = some (.slice (some ⟨g_w4, 0, none⟩) xs.length xs.length) ∧ w'.cell? ⟨w.heap.size, 0, none⟩ = some va) (first | exact K_8.out | exact K_7.out | exact K_6.out) ((first | (go_at_call 15; refine (toSubst_any xs va _ ((Rd.on Rva_19.out (bdrew _)).at) hxva).mono ?_; rintro e w7 ⟨g_w7, rfl, ho, hb0⟩; have hb := bthen (bdrew _) hb0; have B_20 := Lib.hid (since_on B_19.out hb); have Ava_20 := Lib.hid (One.on Ava_19.out hb); have Rva_20 := Lib.hid (Rd.on Rva_19.out hb); have W_20 := Lib.hid (Rd.on W_19.out hb); have OW_20 := Lib.hid (One.on OW_19.out hb); have X_20 := Lib.hid (own_below X_19.out hb); have OX_20 := Lib.hid (One.on OX_19.out hb); have G_20 := Lib.hid (own_below G_19.out hb); have OG_20 := Lib.hid (One.on OG_19.out hb); have Z_7 := Lib.hid hb.size; have Y_21 := Lib.hid (Rd.new (Row1.own ho HLva.out.symm)); have K_7 := Lib.hid (And.intro OX_20.out.cell Ava_20.out.cell); clear B_19 Ava_19 Rva_19 W_19 OW_19 X_19 OX_19 G_19 OG_19 ho hb hb0) | (go_at_call 17; refine (eqSubst_same xs _ _ _ (Row1.own X_20.out HLva.out.symm) Y_21.out.at).mono ?_; rintro e w8 ⟨rfl, hb⟩; have B_22 := Lib.hid (since_on B_20.out hb); have Ava_22 := Lib.hid (One.on Ava_20.out hb); have Rva_22 := Lib.hid (Rd.on Rva_20.out hb); have W_22 := Lib.hid (Rd.on W_20.out hb); have OW_22 := Lib.hid (One.on OW_20.out hb); have X_22 := Lib.hid (own_below X_20.out hb); have OX_22 := Lib.hid (One.on OX_20.out hb); have G_22 := Lib.hid (own_below G_20.out hb); have OG_22 := Lib.hid (One.on OG_20.out hb); have Z_8 := Lib.hid hb.size; have K_8 := Lib.hid (And.intro OX_22.out.cell Ava_22.out.cell); clear B_20 Ava_20 Rva_20 W_20 OW_20 X_20 OX_20 G_20 OG_20 Y_21 hb)))
  clear c_OX c_Ava
  have c_OX := OX_22.out.cell
  go_wp2_with fail
  have GM := markSubst_any (w3.heap.size + 1) w4.heap.size _ (xs.map Value.string) 1 _ (show w8.ownsRow (w3.heap.size + 1) 9 1 (.slice (some ⟨g_w4, 0, none⟩) xs.length xs.length) (xs.map Value.string).length (xs.map Value.string) by rw [HLva.out]; exact X_22.out) LX.out (by intro u hu; obtain ⟨z, _, rfl⟩ := List.mem_map.1 hu; exact ⟨z, rfl⟩) (by omega) (by rw [HLva.out]; omega)
  rw [HLva.out] at GM
  refine GM.mono ?_
  clear GM
  rintro e w9 ⟨rfl, _, hw⟩
  have B_23 := Lib.hid (since_in B_22.out hw (by have := Z_1.out; have := Z_2.out; have := Z_3.out; have := Z_4.out; have := Z_5.out; have := Z_6.out; have := Z_7.out; have := Z_8.out; omega))
  have Ava_23 := Lib.hid (One.within Ava_22.out hw (by have := Z_1.out; have := Z_2.out; have := Z_3.out; have := Z_4.out; have := Z_5.out; have := Z_6.out; have := Z_7.out; have := Z_8.out; omega))
  have Rva_23 := Lib.hid (Rd.within Rva_22.out hw (by have := Z_1.out; have := Z_2.out; have := Z_3.out; have := Z_4.out; have := Z_5.out; have := Z_6.out; have := Z_7.out; have := Z_8.out; omega))
  have W_23 := Lib.hid (Rd.within W_22.out hw (by have := Z_1.out; have := Z_2.out; have := Z_3.out; have := Z_4.out; have := Z_5.out; have := Z_6.out; have := Z_7.out; have := Z_8.out; omega))
  have OW_23 := Lib.hid (One.within OW_22.out hw (by have := Z_1.out; have := Z_2.out; have := Z_3.out; have := Z_4.out; have := Z_5.out; have := Z_6.out; have := Z_7.out; have := Z_8.out; omega))
  have OX_23 := Lib.hid (One.within OX_22.out hw (by have := Z_1.out; have := Z_2.out; have := Z_3.out; have := Z_4.out; have := Z_5.out; have := Z_6.out; have := Z_7.out; have := Z_8.out; omega))
  have G_23 := Lib.hid (own_within G_22.out hw (by have := Z_1.out; have := Z_2.out; have := Z_3.out; have := Z_4.out; have := Z_5.out; have := Z_6.out; have := Z_7.out; have := Z_8.out; omega))
  have OG_23 := Lib.hid (One.within OG_22.out hw (by have := Z_1.out; have := Z_2.out; have := Z_3.out; have := Z_4.out; have := Z_5.out; have := Z_6.out; have := Z_7.out; have := Z_8.out; omega))
  have Z_9 := Lib.hid hw.size
  clear B_22 Ava_22 Rva_22 W_22 OW_22 X_22 OX_22 G_22 OG_22 hw c_OX
  have c_OG := OG_23.out.cell
  have c_OW := OW_23.out.cell
  go_wp2_with fail
  refine (eqSubst_same R _ _ _ (Row1.own G_23.out HM.out.symm) W_23.out.at).mono ?_
  rintro e w10 ⟨rfl, hb⟩
  have B_24 := Lib.hid (since_on B_23.out hb)
  have Ava_24 := Lib.hid (One.on Ava_23.out hb)
  have Rva_24 := Lib.hid (Rd.on Rva_23.out hb)
  have W_24 := Lib.hid (Rd.on W_23.out hb)
  have OW_24 := Lib.hid (One.on OW_23.out hb)
  have OX_24 := Lib.hid (One.on OX_23.out hb)
  have G_24 := Lib.hid (own_below G_23.out hb)
  have OG_24 := Lib.hid (One.on OG_23.out hb)
  have Z_10 := Lib.hid hb.size
  clear B_23 Ava_23 Rva_23 W_23 OW_23 OX_23 G_23 OG_23 hb
  clear c_OG c_OW
  have c_OG := OG_24.out.cell
  go_wp2_with fail
  have GM := markSubst_any (w4.heap.size + 1) w5.heap.size _ (R.map Value.string) 1 _ (show w10.ownsRow (w4.heap.size + 1) 9 1 (.slice A_v R.length q_v) (R.map Value.string).length (R.map Value.string) by rw [HM.out]; exact G_24.out) LG.out (by intro u hu; obtain ⟨z, _, rfl⟩ := List.mem_map.1 hu; exact ⟨z, rfl⟩) (by omega) (by rw [HM.out]; have := HN.out; omega)
  rw [HM.out] at GM
  refine GM.mono ?_
  clear GM
  rintro e w11 ⟨rfl, ho, hw⟩
  have B_25 := Lib.hid (since_in B_24.out hw (by have := Z_1.out; have := Z_2.out; have := Z_3.out; have := Z_4.out; have := Z_5.out; have := Z_6.out; have := Z_7.out; have := Z_8.out; have := Z_9.out; have := Z_10.out; omega))
  have Ava_25 := Lib.hid (One.within Ava_24.out hw (by have := Z_1.out; have := Z_2.out; have := Z_3.out; have := Z_4.out; have := Z_5.out; have := Z_6.out; have := Z_7.out; have := Z_8.out; have := Z_9.out; have := Z_10.out; omega))
  have Rva_25 := Lib.hid (Rd.within Rva_24.out hw (by have := Z_1.out; have := Z_2.out; have := Z_3.out; have := Z_4.out; have := Z_5.out; have := Z_6.out; have := Z_7.out; have := Z_8.out; have := Z_9.out; have := Z_10.out; omega))
  have W_25 := Lib.hid (Rd.within W_24.out hw (by have := Z_1.out; have := Z_2.out; have := Z_3.out; have := Z_4.out; have := Z_5.out; have := Z_6.out; have := Z_7.out; have := Z_8.out; have := Z_9.out; have := Z_10.out; omega))
  have OW_25 := Lib.hid (One.within OW_24.out hw (by have := Z_1.out; have := Z_2.out; have := Z_3.out; have := Z_4.out; have := Z_5.out; have := Z_6.out; have := Z_7.out; have := Z_8.out; have := Z_9.out; have := Z_10.out; omega))
  have OX_25 := Lib.hid (One.within OX_24.out hw (by have := Z_1.out; have := Z_2.out; have := Z_3.out; have := Z_4.out; have := Z_5.out; have := Z_6.out; have := Z_7.out; have := Z_8.out; have := Z_9.out; have := Z_10.out; omega))
  have OG_25 := Lib.hid (One.within OG_24.out hw (by have := Z_1.out; have := Z_2.out; have := Z_3.out; have := Z_4.out; have := Z_5.out; have := Z_6.out; have := Z_7.out; have := Z_8.out; have := Z_9.out; have := Z_10.out; omega))
  have Z_11 := Lib.hid hw.size
  have G_26 := Lib.hid (Rd.new (Row1.own ho (by rw [marksS_len])))
  clear B_24 Ava_24 Rva_24 W_24 OW_24 OX_24 G_24 OG_24 hw ho c_OG
  have c_OG := OG_25.out.cell
  go_wp2_with fail
  refine (heldSubst_any R.length (.slice A_v R.length q_v) 1 _ G_26.out.at (by omega) (by have := HN.out; omega)).mono ?_
  rintro e w12 ⟨rfl, hb⟩
  have B_27 := Lib.hid (since_on B_25.out hb)
  have Ava_27 := Lib.hid (One.on Ava_25.out hb)
  have Rva_27 := Lib.hid (Rd.on Rva_25.out hb)
  have W_27 := Lib.hid (Rd.on W_25.out hb)
  have OW_27 := Lib.hid (One.on OW_25.out hb)
  have OX_27 := Lib.hid (One.on OX_25.out hb)
  have OG_27 := Lib.hid (One.on OG_25.out hb)
  have G_27 := Lib.hid (Rd.on G_26.out hb)
  have Z_12 := Lib.hid hb.size
  clear B_25 Ava_25 Rva_25 W_25 OW_25 OX_25 OG_25 G_26 hb c_OG
  have c_Ava := Ava_27.out.cell
  go_wp2_with fail
  refine (toSubst_any xs va _ (Rva_27.out.at) hxva).mono ?_
  rintro e w13 ⟨g_w13, rfl, ho, hb⟩
  have B_28 := Lib.hid (since_on B_27.out hb)
  have Ava_28 := Lib.hid (One.on Ava_27.out hb)
  have Rva_28 := Lib.hid (Rd.on Rva_27.out hb)
  have W_28 := Lib.hid (Rd.on W_27.out hb)
  have OW_28 := Lib.hid (One.on OW_27.out hb)
  have OX_28 := Lib.hid (One.on OX_27.out hb)
  have OG_28 := Lib.hid (One.on OG_27.out hb)
  have G_28 := Lib.hid (Rd.on G_27.out hb)
  have Z_13 := Lib.hid hb.size
  have Y_29 := Lib.hid (Rd.new (Row1.own ho HLva.out.symm))
  clear B_27 Ava_27 Rva_27 W_27 OW_27 OX_27 OG_27 G_27 ho hb
  clear c_Ava
  go_wp2_with fail
  refine (H2.out _ _ Y_29.out.at).mono ?_
  rintro e w14 ⟨t, rfl, ho, hb⟩
  obtain ⟨A_t, q_t, rfl⟩ := own_shape ho
  have B_30 := Lib.hid (since_on B_28.out hb)
  have Ava_30 := Lib.hid (One.on Ava_28.out hb)
  have Rva_30 := Lib.hid (Rd.on Rva_28.out hb)
  have W_30 := Lib.hid (Rd.on W_28.out hb)
  have OW_30 := Lib.hid (One.on OW_28.out hb)
  have OX_30 := Lib.hid (One.on OX_28.out hb)
  have OG_30 := Lib.hid (One.on OG_28.out hb)
  have G_30 := Lib.hid (Rd.on G_28.out hb)
  have Y_30 := Lib.hid (Rd.on Y_29.out hb)
  have Z_14 := Lib.hid hb.size
  have T_31 := Lib.hid (Rd.new (Row1.own ho HM.out.symm))
  clear B_28 Ava_28 Rva_28 W_28 OW_28 OX_28 OG_28 G_28 Y_29 ho hb
  have c_OW := OW_30.out.cell
  have B_32 := Lib.hid (since_on B_30.out (bnew w14 (.cells #[(.slice A_t R.length q_t)] 26)))
  have Ava_32 := Lib.hid (One.on Ava_30.out (bnew w14 (.cells #[(.slice A_t R.length q_t)] 26)))
  have Rva_32 := Lib.hid (Rd.on Rva_30.out (bnew w14 (.cells #[(.slice A_t R.length q_t)] 26)))
  have W_32 := Lib.hid (Rd.on W_30.out (bnew w14 (.cells #[(.slice A_t R.length q_t)] 26)))
  have OW_32 := Lib.hid (One.on OW_30.out (bnew w14 (.cells #[(.slice A_t R.length q_t)] 26)))
  have OX_32 := Lib.hid (One.on OX_30.out (bnew w14 (.cells #[(.slice A_t R.length q_t)] 26)))
  have OG_32 := Lib.hid (One.on OG_30.out (bnew w14 (.cells #[(.slice A_t R.length q_t)] 26)))
  have G_32 := Lib.hid (Rd.on G_30.out (bnew w14 (.cells #[(.slice A_t R.length q_t)] 26)))
  have T_32 := Lib.hid (Rd.on T_31.out (bnew w14 (.cells #[(.slice A_t R.length q_t)] 26)))
  clear B_30 Ava_30 Rva_30 W_30 OW_30 OX_30 OG_30 G_30 T_31
  have OT_33 := Lib.hid (One.new w14 26 (.slice A_t R.length q_t))
  have d_W := OW_32.out.cell
  go_wp2_with fail
  refine (eqSubst_same R _ _ _ T_32.out.at W_32.out.at).mono ?_
  rintro e w15 ⟨rfl, hb⟩
  have B_34 := Lib.hid (since_on B_32.out hb)
  have Ava_34 := Lib.hid (One.on Ava_32.out hb)
  have Rva_34 := Lib.hid (Rd.on Rva_32.out hb)
  have W_34 := Lib.hid (Rd.on W_32.out hb)
  have OW_34 := Lib.hid (One.on OW_32.out hb)
  have OX_34 := Lib.hid (One.on OX_32.out hb)
  have OG_34 := Lib.hid (One.on OG_32.out hb)
  have G_34 := Lib.hid (Rd.on G_32.out hb)
  have T_34 := Lib.hid (Rd.on T_32.out hb)
  have OT_34 := Lib.hid (One.on OT_33.out hb)
  have Z_15 := Lib.hid (by have h := hb.size; simp only [World.size_alloc] at h; exact h)
  clear B_32 Ava_32 Rva_32 W_32 OW_32 OX_32 OG_32 G_32 T_32 OT_33 hb
  clear c_OW d_W
  have c_OG := OG_34.out.cell
  go_wp2_with fail
  refine (heldSubst_any R.length (.slice A_v R.length q_v) 1 _ G_34.out.at (by omega) (by have := HN.out; omega)).mono ?_
  rintro e w16 ⟨rfl, hb⟩
  have B_35 := Lib.hid (since_on B_34.out hb)
  have Ava_35 := Lib.hid (One.on Ava_34.out hb)
  have Rva_35 := Lib.hid (Rd.on Rva_34.out hb)
  have W_35 := Lib.hid (Rd.on W_34.out hb)
  have OW_35 := Lib.hid (One.on OW_34.out hb)
  have OX_35 := Lib.hid (One.on OX_34.out hb)
  have OG_35 := Lib.hid (One.on OG_34.out hb)
  have G_35 := Lib.hid (Rd.on G_34.out hb)
  have T_35 := Lib.hid (Rd.on T_34.out hb)
  have OT_35 := Lib.hid (One.on OT_34.out hb)
  have Z_16 := Lib.hid hb.size
  clear B_34 Ava_34 Rva_34 W_34 OW_34 OX_34 OG_34 G_34 T_34 OT_34 hb c_OG
  go_wp2_with fail
  go_ret
  exact ⟨rfl, B_35.out⟩
end Go.Proofs.Ytnnkhjjecmldfaa
