/- Walks: the law of CountAfter. -/
import Derived.Test.YtglleimmmfnhcaaCnt2
import Derived.Test.YtglleimmmfnhcaaState
import Derived.Test.YtglleimmmfnhcaaSzLe
import Derived.Test.YtglleimmmfnhcaaSubM
import Derived.Test.YtglleimmmfnhcaaMark
import Derived.Test.YtglleimmmfnhcaaToInt
import Derived.Deep.RegionHeld3
namespace Go.Proofs.Ytglleimmmfnhcaa
open Go.RowKit
set_option maxRecDepth 20000

set_option maxHeartbeats 4000000 in
theorem law_CountAfter (va : Value) (xs : List ByteArray) (vcs : Value) (cs : List Int) (n : Int) (w : World) (hava : Row1 w w.heap.size va (xs.map .string)) (hsva : ∀ s ∈ xs, s.size ≤ maxLen) (hacs : Row1 w w.heap.size vcs (ints cs)) (_ : ∀ z ∈ cs, (Lit.int .i64 z).wf = true) (_ : (Lit.int .i64 n).wf = true) :
    Calls Try.prog 9 #[.agg #[va], vcs, .int .i64 n] w fun e w' => e = .returned (.bool true) ∧ Below w.heap.size w w' := by
  have B_1 := Lib.hid (show Below w.heap.size w (w.alloc (.cells #[va] 24)) from bnew _ _)
  have Ava_2 := Lib.hid (One.new w 24 va)
  have Rva_3 := Lib.hid ((Rd.new hava).on B_1.out)
  have HLva := Lib.hid (show (xs.map Value.string).length = xs.length from List.length_map _)
  have HSva := Lib.hid hsva
  clear hava
  obtain ⟨Acs, cpcs, hvcs⟩ : ∃ A c, vcs = .slice A cs.length c := by obtain ⟨A, c, h, _⟩ := hacs; exact ⟨A, c, by rw [h, ints_len]⟩
  subst hvcs
  have Rcs_4 := Lib.hid ((Rd.new hacs).on B_1.out)
  have HLcs := Lib.hid (ints_len cs)
  clear hacs
  by_cases bigcs : 1048576 < cs.length
  · go_enter Try.func9, Try.ntmps9
    go_wp2_with fail
    go_ret
    exact ⟨rfl, B_1.out⟩
  by_cases hneg0 : szR xs 1048576 < 0
  · skip
    go_enter Try.func9, Try.ntmps9
    go_wp2_with fail
    refine (szSubst_any xs va 1048576 _ (Rva_3.out.at) HSva.out (by omega) (by omega)).mono ?_
    rintro e w1 ⟨rfl, hb⟩
    have B_5 := Lib.hid (since_on B_1.out hb)
    have Ava_5 := Lib.hid (One.on Ava_2.out hb)
    have Rva_5 := Lib.hid (Rd.on Rva_3.out hb)
    have Rcs_5 := Lib.hid (Rd.on Rcs_4.out hb)
    have Z_1 := Lib.hid (by have h := hb.size; simp only [World.size_alloc] at h; exact h)
    clear B_1 Ava_2 Rva_3 Rcs_4 hb
    go_wp2_with fail
    go_ret
    exact ⟨rfl, B_5.out⟩
  have hxva : xs.length ≤ 1048576 := by have := szR_nonneg (show 0 ≤ szR xs 1048576 by omega); omega
  have h1 := fun (v v2 : Value) (W : World) (hR : Row1 W W.heap.size v (xs.map .string)) (hR2 : Row1 W W.heap.size v2 (ints cs)) => specCountAfter_any xs cs n v v2 W hR HSva.out hR2
  have h2 := fun (v v2 : Value) (W : World) (hR : Row1 W W.heap.size v (xs.map .string)) (hR2 : Row1 W W.heap.size v2 (ints cs)) => implCountAfter_any xs cs n v v2 W hR HSva.out hR2
  obtain ⟨R, hR⟩ : ∃ R, R = cnR xs cs n := ⟨_, rfl⟩
  have hN : R.length ≤ 1048576 := by rw [hR]; exact cnR_len hxva
  obtain ⟨b, hb⟩ : ∃ b, b = (cnP xs cs n).isSome := ⟨_, rfl⟩
  rw [← hR, ← hb] at h1 h2
  have HM := Lib.hid (show (ints R).length = R.length from List.length_map _)
  have H1 := Lib.hid h1; have H2 := Lib.hid h2; have HN := Lib.hid hN
  clear h1 h2 hR hN hb
  go_enter Try.func9, Try.ntmps9
  go_wp2_with fail
  refine (szSubst_any xs va 1048576 _ (Rva_3.out.at) HSva.out (by omega) (by omega)).mono ?_
  rintro e w1 ⟨rfl, hb⟩
  have B_5 := Lib.hid (since_on B_1.out hb)
  have Ava_5 := Lib.hid (One.on Ava_2.out hb)
  have Rva_5 := Lib.hid (Rd.on Rva_3.out hb)
  have Rcs_5 := Lib.hid (Rd.on Rcs_4.out hb)
  have Z_1 := Lib.hid (by have h := hb.size; simp only [World.size_alloc] at h; exact h)
  clear B_1 Ava_2 Rva_3 Rcs_4 hb
  have c_Ava := Ava_5.out.cell
  go_wp2_with fail
  refine (toSubst_any xs va _ (Rva_5.out.at) hxva).mono ?_
  rintro e w2 ⟨g_w2, rfl, ho, hb⟩
  have B_6 := Lib.hid (since_on B_5.out hb)
  have Ava_6 := Lib.hid (One.on Ava_5.out hb)
  have Rva_6 := Lib.hid (Rd.on Rva_5.out hb)
  have Rcs_6 := Lib.hid (Rd.on Rcs_5.out hb)
  have Z_2 := Lib.hid hb.size
  have Y_7 := Lib.hid (Rd.new (Row1.own ho HLva.out.symm))
  clear B_5 Ava_5 Rva_5 Rcs_5 ho hb
  clear c_Ava
  go_wp2_with fail
  refine (toIntS_any cs (.slice Acs cs.length cpcs) _ (Rcs_6.out.at) (by omega)).mono ?_
  rintro e w3 ⟨g_w3, rfl, ho, hb⟩
  have B_8 := Lib.hid (since_on B_6.out hb)
  have Ava_8 := Lib.hid (One.on Ava_6.out hb)
  have Rva_8 := Lib.hid (Rd.on Rva_6.out hb)
  have Rcs_8 := Lib.hid (Rd.on Rcs_6.out hb)
  have Y_8 := Lib.hid (Rd.on Y_7.out hb)
  have Z_3 := Lib.hid hb.size
  have Ycs_9 := Lib.hid (Rd.new (Row1.own ho HLcs.out.symm))
  clear B_6 Ava_6 Rva_6 Rcs_6 Y_7 ho hb
  go_wp2_with fail
  refine (H1.out _ _ _ Y_8.out.at Ycs_9.out.at).mono ?_
  rintro e w4 ⟨u, rfl, ho, hb⟩
  have B_10 := Lib.hid (since_on B_8.out hb)
  have Ava_10 := Lib.hid (One.on Ava_8.out hb)
  have Rva_10 := Lib.hid (Rd.on Rva_8.out hb)
  have Rcs_10 := Lib.hid (Rd.on Rcs_8.out hb)
  have Y_10 := Lib.hid (Rd.on Y_8.out hb)
  have Ycs_10 := Lib.hid (Rd.on Ycs_9.out hb)
  have Z_4 := Lib.hid hb.size
  have W_11 := Lib.hid (Rd.new (Row1.own ho HM.out.symm))
  clear B_8 Ava_8 Rva_8 Rcs_8 Y_8 Ycs_9 ho hb
  have c_Ava := Ava_10.out.cell
  go_wp2_with fail
  refine (toSubst_any xs va _ (Rva_10.out.at) hxva).mono ?_
  rintro e w5 ⟨g_w5, rfl, ho, hb⟩
  have B_12 := Lib.hid (since_on B_10.out hb)
  have Ava_12 := Lib.hid (One.on Ava_10.out hb)
  have Rva_12 := Lib.hid (Rd.on Rva_10.out hb)
  have Rcs_12 := Lib.hid (Rd.on Rcs_10.out hb)
  have W_12 := Lib.hid (Rd.on W_11.out hb)
  have Z_5 := Lib.hid hb.size
  have LX := Lib.hid (fun k hk => (own_lt ho (g := k) hk).2)
  have X_13 := Lib.hid (ho)
  clear B_10 Ava_10 Rva_10 Rcs_10 W_11 ho hb
  clear c_Ava
  have B_14 := Lib.hid (since_on B_12.out (bnew w5 (.cells #[(.slice (some ⟨g_w5, 0, none⟩) xs.length xs.length)] 28)))
  have Ava_14 := Lib.hid (One.on Ava_12.out (bnew w5 (.cells #[(.slice (some ⟨g_w5, 0, none⟩) xs.length xs.length)] 28)))
  have Rva_14 := Lib.hid (Rd.on Rva_12.out (bnew w5 (.cells #[(.slice (some ⟨g_w5, 0, none⟩) xs.length xs.length)] 28)))
  have Rcs_14 := Lib.hid (Rd.on Rcs_12.out (bnew w5 (.cells #[(.slice (some ⟨g_w5, 0, none⟩) xs.length xs.length)] 28)))
  have W_14 := Lib.hid (Rd.on W_12.out (bnew w5 (.cells #[(.slice (some ⟨g_w5, 0, none⟩) xs.length xs.length)] 28)))
  have X_14 := Lib.hid (own_below X_13.out (bnew w5 (.cells #[(.slice (some ⟨g_w5, 0, none⟩) xs.length xs.length)] 28)))
  clear B_12 Ava_12 Rva_12 Rcs_12 W_12 X_13
  have OX_15 := Lib.hid (One.new w5 28 (.slice (some ⟨g_w5, 0, none⟩) xs.length xs.length))
  go_wp2_with fail
  refine (toIntS_any cs (.slice Acs cs.length cpcs) _ (Rcs_14.out.at) (by omega)).mono ?_
  rintro e w6 ⟨g_w6, rfl, ho, hb⟩
  have B_16 := Lib.hid (since_on B_14.out hb)
  have Ava_16 := Lib.hid (One.on Ava_14.out hb)
  have Rva_16 := Lib.hid (Rd.on Rva_14.out hb)
  have Rcs_16 := Lib.hid (Rd.on Rcs_14.out hb)
  have W_16 := Lib.hid (Rd.on W_14.out hb)
  have X_16 := Lib.hid (own_below X_14.out hb)
  have OX_16 := Lib.hid (One.on OX_15.out hb)
  have Z_6 := Lib.hid (by have h := hb.size; simp only [World.size_alloc] at h; exact h)
  rw [World.size_alloc] at ho
  have LXcs := Lib.hid (fun k hk => (own_lt ho (g := k) hk).2)
  have Xcs_17 := Lib.hid (ho)
  clear B_14 Ava_14 Rva_14 Rcs_14 W_14 X_14 OX_15 ho hb
  have c_OX := OX_16.out.cell
  go_wp2_with fail
  refine (H2.out _ _ _ (Row1.own X_16.out HLva.out.symm) (Row1.own Xcs_17.out HLcs.out.symm)).mono ?_
  rintro e w7 ⟨v, rfl, ho, hb⟩
  have B_18 := Lib.hid (since_on B_16.out hb)
  have Ava_18 := Lib.hid (One.on Ava_16.out hb)
  have Rva_18 := Lib.hid (Rd.on Rva_16.out hb)
  have Rcs_18 := Lib.hid (Rd.on Rcs_16.out hb)
  have W_18 := Lib.hid (Rd.on W_16.out hb)
  have X_18 := Lib.hid (own_below X_16.out hb)
  have OX_18 := Lib.hid (One.on OX_16.out hb)
  have Xcs_18 := Lib.hid (own_below Xcs_17.out hb)
  have Z_7 := Lib.hid hb.size
  have LG := Lib.hid (fun k hk => (own_lt ho (g := k) hk).2)
  have G_19 := Lib.hid (ho)
  clear B_16 Ava_16 Rva_16 Rcs_16 W_16 X_16 OX_16 Xcs_17 ho hb c_OX
  go_wp2_with fail
  refine (eqIntS_same R _ _ _ _ (Row1.own G_19.out HM.out.symm) W_18.out.at).mono ?_
  rintro e w8 ⟨rfl, nn, hnn⟩
  have hb := show Below _ _ w8 from (by rw [hnn]; exact bdrewN _ nn)
  have B_20 := Lib.hid (since_on B_18.out hb)
  have Ava_20 := Lib.hid (One.on Ava_18.out hb)
  have Rva_20 := Lib.hid (Rd.on Rva_18.out hb)
  have Rcs_20 := Lib.hid (Rd.on Rcs_18.out hb)
  have W_20 := Lib.hid (Rd.on W_18.out hb)
  have X_20 := Lib.hid (own_below X_18.out hb)
  have OX_20 := Lib.hid (One.on OX_18.out hb)
  have Xcs_20 := Lib.hid (own_below Xcs_18.out hb)
  have G_20 := Lib.hid (own_below G_19.out hb)
  have Z_8 := Lib.hid hb.size
  clear B_18 Ava_18 Rva_18 Rcs_18 W_18 X_18 OX_18 Xcs_18 G_19 hb hnn
  have c_OX := OX_20.out.cell
  have c_Ava := Ava_20.out.cell
  go_wp2_with fail
  have K_0 := Lib.hid (And.intro (OX_20.out.drew).cell (Ava_20.out.drew).cell)
  go_region_held3 (fun w' => w'.cell? ⟨w5.heap.size, 0, none⟩ = some (.slice (some ⟨g_w5, 0, none⟩) xs.length xs.length) ∧ w'.cell? ⟨w.heap.size, 0, none⟩ = some va) (first | exact K_2.out | exact K_1.out | exact K_0.out) ((first | (go_at_call 15; refine (toSubst_any xs va _ ((Rd.on Rva_20.out (bdrew _)).at) hxva).mono ?_; rintro e w9 ⟨g_w9, rfl, ho, hb0⟩; have hb := bthen (bdrew _) hb0; have B_21 := Lib.hid (since_on B_20.out hb); have Ava_21 := Lib.hid (One.on Ava_20.out hb); have Rva_21 := Lib.hid (Rd.on Rva_20.out hb); have Rcs_21 := Lib.hid (Rd.on Rcs_20.out hb); have W_21 := Lib.hid (Rd.on W_20.out hb); have X_21 := Lib.hid (own_below X_20.out hb); have OX_21 := Lib.hid (One.on OX_20.out hb); have Xcs_21 := Lib.hid (own_below Xcs_20.out hb); have G_21 := Lib.hid (own_below G_20.out hb); have Z_9 := Lib.hid hb.size; have Y_22 := Lib.hid (Rd.new (Row1.own ho HLva.out.symm)); have K_1 := Lib.hid (And.intro OX_21.out.cell Ava_21.out.cell); clear B_20 Ava_20 Rva_20 Rcs_20 W_20 X_20 OX_20 Xcs_20 G_20 ho hb hb0) | (go_at_call 17; refine (eqSubst_same xs _ _ _ (Row1.own X_21.out HLva.out.symm) Y_22.out.at).mono ?_; rintro e w10 ⟨rfl, hb⟩; have B_23 := Lib.hid (since_on B_21.out hb); have Ava_23 := Lib.hid (One.on Ava_21.out hb); have Rva_23 := Lib.hid (Rd.on Rva_21.out hb); have Rcs_23 := Lib.hid (Rd.on Rcs_21.out hb); have W_23 := Lib.hid (Rd.on W_21.out hb); have X_23 := Lib.hid (own_below X_21.out hb); have OX_23 := Lib.hid (One.on OX_21.out hb); have Xcs_23 := Lib.hid (own_below Xcs_21.out hb); have G_23 := Lib.hid (own_below G_21.out hb); have Z_10 := Lib.hid hb.size; have K_2 := Lib.hid (And.intro OX_23.out.cell Ava_23.out.cell); clear B_21 Ava_21 Rva_21 Rcs_21 W_21 X_21 OX_21 Xcs_21 G_21 Y_22 hb)))
  clear c_OX c_Ava K_0 K_1 K_2
  go_wp2_with fail
  refine (toIntS_any cs (.slice Acs cs.length cpcs) _ (Rcs_23.out.at) (by omega)).mono ?_
  rintro e w11 ⟨g_w11, rfl, ho, hb⟩
  have B_24 := Lib.hid (since_on B_23.out hb)
  have Ava_24 := Lib.hid (One.on Ava_23.out hb)
  have Rva_24 := Lib.hid (Rd.on Rva_23.out hb)
  have Rcs_24 := Lib.hid (Rd.on Rcs_23.out hb)
  have W_24 := Lib.hid (Rd.on W_23.out hb)
  have X_24 := Lib.hid (own_below X_23.out hb)
  have OX_24 := Lib.hid (One.on OX_23.out hb)
  have Xcs_24 := Lib.hid (own_below Xcs_23.out hb)
  have G_24 := Lib.hid (own_below G_23.out hb)
  have Z_11 := Lib.hid hb.size
  have Ycs_25 := Lib.hid (Rd.new (Row1.own ho HLcs.out.symm))
  clear B_23 Ava_23 Rva_23 Rcs_23 W_23 X_23 OX_23 Xcs_23 G_23 ho hb
  go_wp2_with fail
  refine (eqIntS_same cs _ _ _ _ (Row1.own Xcs_24.out HLcs.out.symm) Ycs_25.out.at).mono ?_
  rintro e w12 ⟨rfl, nn, hnn⟩
  have hb := show Below _ _ w12 from (by rw [hnn]; exact bdrewN _ nn)
  have B_26 := Lib.hid (since_on B_24.out hb)
  have Ava_26 := Lib.hid (One.on Ava_24.out hb)
  have Rva_26 := Lib.hid (Rd.on Rva_24.out hb)
  have Rcs_26 := Lib.hid (Rd.on Rcs_24.out hb)
  have W_26 := Lib.hid (Rd.on W_24.out hb)
  have X_26 := Lib.hid (own_below X_24.out hb)
  have OX_26 := Lib.hid (One.on OX_24.out hb)
  have Xcs_26 := Lib.hid (own_below Xcs_24.out hb)
  have G_26 := Lib.hid (own_below G_24.out hb)
  have Z_12 := Lib.hid hb.size
  clear B_24 Ava_24 Rva_24 Rcs_24 W_24 X_24 OX_24 Xcs_24 G_24 Ycs_25 hb hnn
  have c_OX := OX_26.out.cell
  go_wp2_with fail
  have GM := markSubst_any w4.heap.size w5.heap.size _ (xs.map Value.string) 1 _ (show w12.ownsRow w4.heap.size 9 1 (.slice (some ⟨g_w5, 0, none⟩) xs.length xs.length) (xs.map Value.string).length (xs.map Value.string) by rw [HLva.out]; exact X_26.out) LX.out (by intro u hu; obtain ⟨z, _, rfl⟩ := List.mem_map.1 hu; exact ⟨z, rfl⟩) (by omega) (by rw [HLva.out]; omega)
  rw [HLva.out] at GM
  obtain ⟨kk, hkk⟩ : ∃ kk, kk = 1 + xs.length := ⟨_, rfl⟩
  rw [← hkk] at GM
  refine GM.mono ?_
  clear GM
  rintro e w13 ⟨rfl, _, hw⟩
  have B_27 := Lib.hid (since_in B_26.out hw (by have := Z_1.out; have := Z_2.out; have := Z_3.out; have := Z_4.out; have := Z_5.out; have := Z_6.out; have := Z_7.out; have := Z_8.out; have := Z_9.out; have := Z_10.out; have := Z_11.out; have := Z_12.out; omega))
  have Ava_27 := Lib.hid (One.within Ava_26.out hw (by have := Z_1.out; have := Z_2.out; have := Z_3.out; have := Z_4.out; have := Z_5.out; have := Z_6.out; have := Z_7.out; have := Z_8.out; have := Z_9.out; have := Z_10.out; have := Z_11.out; have := Z_12.out; omega))
  have Rva_27 := Lib.hid (Rd.within Rva_26.out hw (by have := Z_1.out; have := Z_2.out; have := Z_3.out; have := Z_4.out; have := Z_5.out; have := Z_6.out; have := Z_7.out; have := Z_8.out; have := Z_9.out; have := Z_10.out; have := Z_11.out; have := Z_12.out; omega))
  have Rcs_27 := Lib.hid (Rd.within Rcs_26.out hw (by have := Z_1.out; have := Z_2.out; have := Z_3.out; have := Z_4.out; have := Z_5.out; have := Z_6.out; have := Z_7.out; have := Z_8.out; have := Z_9.out; have := Z_10.out; have := Z_11.out; have := Z_12.out; omega))
  have W_27 := Lib.hid (Rd.within W_26.out hw (by have := Z_1.out; have := Z_2.out; have := Z_3.out; have := Z_4.out; have := Z_5.out; have := Z_6.out; have := Z_7.out; have := Z_8.out; have := Z_9.out; have := Z_10.out; have := Z_11.out; have := Z_12.out; omega))
  have OX_27 := Lib.hid (One.within OX_26.out hw (by have := Z_1.out; have := Z_2.out; have := Z_3.out; have := Z_4.out; have := Z_5.out; have := Z_6.out; have := Z_7.out; have := Z_8.out; have := Z_9.out; have := Z_10.out; have := Z_11.out; have := Z_12.out; omega))
  have Xcs_27 := Lib.hid (own_within Xcs_26.out hw (by have := Z_1.out; have := Z_2.out; have := Z_3.out; have := Z_4.out; have := Z_5.out; have := Z_6.out; have := Z_7.out; have := Z_8.out; have := Z_9.out; have := Z_10.out; have := Z_11.out; have := Z_12.out; omega))
  have G_27 := Lib.hid (own_within G_26.out hw (by have := Z_1.out; have := Z_2.out; have := Z_3.out; have := Z_4.out; have := Z_5.out; have := Z_6.out; have := Z_7.out; have := Z_8.out; have := Z_9.out; have := Z_10.out; have := Z_11.out; have := Z_12.out; omega))
  have Z_13 := Lib.hid hw.size
  clear B_26 Ava_26 Rva_26 Rcs_26 W_26 X_26 OX_26 Xcs_26 G_26 hw c_OX
  have hk0 : (0 : Int) ≤ (kk : Int) := by omega
  have hk1 : kk ≤ 1048577 := by omega
  clear hkk
  go_wp2_with fail
  have GM := markIntS_any (w5.heap.size + 1) (.slice (some ⟨g_w6, 0, none⟩) cs.length cs.length) (ints cs) (kk : Int) _ (show w13.ownsRow (w5.heap.size + 1) 3 1 (.slice (some ⟨g_w6, 0, none⟩) cs.length cs.length) (ints cs).length (ints cs) by rw [HLcs.out]; exact Xcs_27.out) (by intro u hu; obtain ⟨z, _, rfl⟩ := List.mem_map.1 hu; exact ⟨z, rfl⟩) (by omega) (by rw [HLcs.out]; omega)
  rw [HLcs.out] at GM
  refine GM.mono ?_
  clear GM
  have hlo := Lib.hid (fun g hg => (own_lt Xcs_27.out (g := g) hg).1)
  rintro e w14 ⟨rfl, _, hgr⟩
  have hw := Within.of_grown (lo := (w5.heap.size + 1)) (hi := w6.heap.size) hgr (fun g hg => ⟨hlo.out g hg, LXcs.out g hg⟩)
  have B_28 := Lib.hid (since_in B_27.out hw (by have := Z_1.out; have := Z_2.out; have := Z_3.out; have := Z_4.out; have := Z_5.out; have := Z_6.out; have := Z_7.out; have := Z_8.out; have := Z_9.out; have := Z_10.out; have := Z_11.out; have := Z_12.out; have := Z_13.out; omega))
  have Ava_28 := Lib.hid (One.within Ava_27.out hw (by have := Z_1.out; have := Z_2.out; have := Z_3.out; have := Z_4.out; have := Z_5.out; have := Z_6.out; have := Z_7.out; have := Z_8.out; have := Z_9.out; have := Z_10.out; have := Z_11.out; have := Z_12.out; have := Z_13.out; omega))
  have Rva_28 := Lib.hid (Rd.within Rva_27.out hw (by have := Z_1.out; have := Z_2.out; have := Z_3.out; have := Z_4.out; have := Z_5.out; have := Z_6.out; have := Z_7.out; have := Z_8.out; have := Z_9.out; have := Z_10.out; have := Z_11.out; have := Z_12.out; have := Z_13.out; omega))
  have Rcs_28 := Lib.hid (Rd.within Rcs_27.out hw (by have := Z_1.out; have := Z_2.out; have := Z_3.out; have := Z_4.out; have := Z_5.out; have := Z_6.out; have := Z_7.out; have := Z_8.out; have := Z_9.out; have := Z_10.out; have := Z_11.out; have := Z_12.out; have := Z_13.out; omega))
  have W_28 := Lib.hid (Rd.within W_27.out hw (by have := Z_1.out; have := Z_2.out; have := Z_3.out; have := Z_4.out; have := Z_5.out; have := Z_6.out; have := Z_7.out; have := Z_8.out; have := Z_9.out; have := Z_10.out; have := Z_11.out; have := Z_12.out; have := Z_13.out; omega))
  have OX_28 := Lib.hid (One.within OX_27.out hw (by have := Z_1.out; have := Z_2.out; have := Z_3.out; have := Z_4.out; have := Z_5.out; have := Z_6.out; have := Z_7.out; have := Z_8.out; have := Z_9.out; have := Z_10.out; have := Z_11.out; have := Z_12.out; have := Z_13.out; omega))
  have G_28 := Lib.hid (own_within G_27.out hw (by have := Z_1.out; have := Z_2.out; have := Z_3.out; have := Z_4.out; have := Z_5.out; have := Z_6.out; have := Z_7.out; have := Z_8.out; have := Z_9.out; have := Z_10.out; have := Z_11.out; have := Z_12.out; have := Z_13.out; omega))
  have Z_14 := Lib.hid hw.size
  clear B_27 Ava_27 Rva_27 Rcs_27 W_27 OX_27 Xcs_27 G_27 hw hgr hlo
  have hk2 : (0 : Int) ≤ (kk : Int) + (cs.length : Int) := by omega
  go_wp2_with fail
  refine (eqIntS_same R _ _ _ _ (Row1.own G_28.out HM.out.symm) W_28.out.at).mono ?_
  rintro e w15 ⟨rfl, nn, hnn⟩
  have hb := show Below _ _ w15 from (by rw [hnn]; exact bdrewN _ nn)
  have B_29 := Lib.hid (since_on B_28.out hb)
  have Ava_29 := Lib.hid (One.on Ava_28.out hb)
  have Rva_29 := Lib.hid (Rd.on Rva_28.out hb)
  have Rcs_29 := Lib.hid (Rd.on Rcs_28.out hb)
  have W_29 := Lib.hid (Rd.on W_28.out hb)
  have OX_29 := Lib.hid (One.on OX_28.out hb)
  have G_29 := Lib.hid (own_below G_28.out hb)
  have Z_15 := Lib.hid hb.size
  clear B_28 Ava_28 Rva_28 Rcs_28 W_28 OX_28 G_28 hb hnn
  go_wp2_with fail
  have GM := markIntS_any w6.heap.size v (ints R) 1 _ (show w15.ownsRow w6.heap.size 3 1 v (ints R).length (ints R) by rw [HM.out]; exact G_29.out) (by intro u hu; obtain ⟨z, _, rfl⟩ := List.mem_map.1 hu; exact ⟨z, rfl⟩) (by omega) (by rw [HM.out]; have := HN.out; omega)
  rw [HM.out] at GM
  refine GM.mono ?_
  clear GM
  have hlo := Lib.hid (fun g hg => (own_lt G_29.out (g := g) hg).1)
  rintro e w16 ⟨rfl, ho, hgr⟩
  have hw := Within.of_grown (lo := w6.heap.size) (hi := w7.heap.size) hgr (fun g hg => ⟨hlo.out g hg, LG.out g hg⟩)
  have B_30 := Lib.hid (since_in B_29.out hw (by have := Z_1.out; have := Z_2.out; have := Z_3.out; have := Z_4.out; have := Z_5.out; have := Z_6.out; have := Z_7.out; have := Z_8.out; have := Z_9.out; have := Z_10.out; have := Z_11.out; have := Z_12.out; have := Z_13.out; have := Z_14.out; have := Z_15.out; omega))
  have Ava_30 := Lib.hid (One.within Ava_29.out hw (by have := Z_1.out; have := Z_2.out; have := Z_3.out; have := Z_4.out; have := Z_5.out; have := Z_6.out; have := Z_7.out; have := Z_8.out; have := Z_9.out; have := Z_10.out; have := Z_11.out; have := Z_12.out; have := Z_13.out; have := Z_14.out; have := Z_15.out; omega))
  have Rva_30 := Lib.hid (Rd.within Rva_29.out hw (by have := Z_1.out; have := Z_2.out; have := Z_3.out; have := Z_4.out; have := Z_5.out; have := Z_6.out; have := Z_7.out; have := Z_8.out; have := Z_9.out; have := Z_10.out; have := Z_11.out; have := Z_12.out; have := Z_13.out; have := Z_14.out; have := Z_15.out; omega))
  have Rcs_30 := Lib.hid (Rd.within Rcs_29.out hw (by have := Z_1.out; have := Z_2.out; have := Z_3.out; have := Z_4.out; have := Z_5.out; have := Z_6.out; have := Z_7.out; have := Z_8.out; have := Z_9.out; have := Z_10.out; have := Z_11.out; have := Z_12.out; have := Z_13.out; have := Z_14.out; have := Z_15.out; omega))
  have W_30 := Lib.hid (Rd.within W_29.out hw (by have := Z_1.out; have := Z_2.out; have := Z_3.out; have := Z_4.out; have := Z_5.out; have := Z_6.out; have := Z_7.out; have := Z_8.out; have := Z_9.out; have := Z_10.out; have := Z_11.out; have := Z_12.out; have := Z_13.out; have := Z_14.out; have := Z_15.out; omega))
  have OX_30 := Lib.hid (One.within OX_29.out hw (by have := Z_1.out; have := Z_2.out; have := Z_3.out; have := Z_4.out; have := Z_5.out; have := Z_6.out; have := Z_7.out; have := Z_8.out; have := Z_9.out; have := Z_10.out; have := Z_11.out; have := Z_12.out; have := Z_13.out; have := Z_14.out; have := Z_15.out; omega))
  have Z_16 := Lib.hid hw.size
  have G_31 := Lib.hid (Rd.new (Row1.own ho (by rw [marksI_len])))
  clear B_29 Ava_29 Rva_29 Rcs_29 W_29 OX_29 G_29 hw hgr hlo ho
  have hk3 : (0 : Int) ≤ 1 + (R.length : Int) := by omega
  go_wp2_with fail
  refine (heldIntS_any R.length v 1 _ _ G_31.out.at (by omega) (by have := HN.out; omega)).mono ?_
  rintro e w17 ⟨rfl, nn, hnn⟩
  have hb := show Below _ _ w17 from (by rw [hnn]; exact bdrewN _ nn)
  have B_32 := Lib.hid (since_on B_30.out hb)
  have Ava_32 := Lib.hid (One.on Ava_30.out hb)
  have Rva_32 := Lib.hid (Rd.on Rva_30.out hb)
  have Rcs_32 := Lib.hid (Rd.on Rcs_30.out hb)
  have W_32 := Lib.hid (Rd.on W_30.out hb)
  have OX_32 := Lib.hid (One.on OX_30.out hb)
  have G_32 := Lib.hid (Rd.on G_31.out hb)
  have Z_17 := Lib.hid hb.size
  clear B_30 Ava_30 Rva_30 Rcs_30 W_30 OX_30 G_31 hb hnn
  have c_Ava := Ava_32.out.cell
  go_wp2_with fail
  refine (toSubst_any xs va _ (Rva_32.out.at) hxva).mono ?_
  rintro e w18 ⟨g_w18, rfl, ho, hb⟩
  have B_33 := Lib.hid (since_on B_32.out hb)
  have Ava_33 := Lib.hid (One.on Ava_32.out hb)
  have Rva_33 := Lib.hid (Rd.on Rva_32.out hb)
  have Rcs_33 := Lib.hid (Rd.on Rcs_32.out hb)
  have W_33 := Lib.hid (Rd.on W_32.out hb)
  have OX_33 := Lib.hid (One.on OX_32.out hb)
  have G_33 := Lib.hid (Rd.on G_32.out hb)
  have Z_18 := Lib.hid hb.size
  have Y_34 := Lib.hid (Rd.new (Row1.own ho HLva.out.symm))
  clear B_32 Ava_32 Rva_32 Rcs_32 W_32 OX_32 G_32 ho hb
  clear c_Ava
  go_wp2_with fail
  refine (toIntS_any cs (.slice Acs cs.length cpcs) _ (Rcs_33.out.at) (by omega)).mono ?_
  rintro e w19 ⟨g_w19, rfl, ho, hb⟩
  have B_35 := Lib.hid (since_on B_33.out hb)
  have Ava_35 := Lib.hid (One.on Ava_33.out hb)
  have Rva_35 := Lib.hid (Rd.on Rva_33.out hb)
  have Rcs_35 := Lib.hid (Rd.on Rcs_33.out hb)
  have W_35 := Lib.hid (Rd.on W_33.out hb)
  have OX_35 := Lib.hid (One.on OX_33.out hb)
  have G_35 := Lib.hid (Rd.on G_33.out hb)
  have Y_35 := Lib.hid (Rd.on Y_34.out hb)
  have Z_19 := Lib.hid hb.size
  have Ycs_36 := Lib.hid (Rd.new (Row1.own ho HLcs.out.symm))
  clear B_33 Ava_33 Rva_33 Rcs_33 W_33 OX_33 G_33 Y_34 ho hb
  go_wp2_with fail
  refine (H2.out _ _ _ Y_35.out.at Ycs_36.out.at).mono ?_
  rintro e w20 ⟨t, rfl, ho, hb⟩
  have B_37 := Lib.hid (since_on B_35.out hb)
  have Ava_37 := Lib.hid (One.on Ava_35.out hb)
  have Rva_37 := Lib.hid (Rd.on Rva_35.out hb)
  have Rcs_37 := Lib.hid (Rd.on Rcs_35.out hb)
  have W_37 := Lib.hid (Rd.on W_35.out hb)
  have OX_37 := Lib.hid (One.on OX_35.out hb)
  have G_37 := Lib.hid (Rd.on G_35.out hb)
  have Y_37 := Lib.hid (Rd.on Y_35.out hb)
  have Ycs_37 := Lib.hid (Rd.on Ycs_36.out hb)
  have Z_20 := Lib.hid hb.size
  have T_38 := Lib.hid (Rd.new (Row1.own ho HM.out.symm))
  clear B_35 Ava_35 Rva_35 Rcs_35 W_35 OX_35 G_35 Y_35 Ycs_36 ho hb
  go_wp2_with fail
  refine (eqIntS_same R _ _ _ _ T_38.out.at W_37.out.at).mono ?_
  rintro e w21 ⟨rfl, nn, hnn⟩
  have hb := show Below _ _ w21 from (by rw [hnn]; exact bdrewN _ nn)
  have B_39 := Lib.hid (since_on B_37.out hb)
  have Ava_39 := Lib.hid (One.on Ava_37.out hb)
  have Rva_39 := Lib.hid (Rd.on Rva_37.out hb)
  have Rcs_39 := Lib.hid (Rd.on Rcs_37.out hb)
  have W_39 := Lib.hid (Rd.on W_37.out hb)
  have OX_39 := Lib.hid (One.on OX_37.out hb)
  have G_39 := Lib.hid (Rd.on G_37.out hb)
  have T_39 := Lib.hid (Rd.on T_38.out hb)
  have Z_21 := Lib.hid hb.size
  clear B_37 Ava_37 Rva_37 Rcs_37 W_37 OX_37 G_37 T_38 hb hnn
  go_wp2_with fail
  refine (heldIntS_any R.length v 1 _ _ G_39.out.at (by omega) (by have := HN.out; omega)).mono ?_
  rintro e w22 ⟨rfl, nn, hnn⟩
  have hb := show Below _ _ w22 from (by rw [hnn]; exact bdrewN _ nn)
  have B_40 := Lib.hid (since_on B_39.out hb)
  have Ava_40 := Lib.hid (One.on Ava_39.out hb)
  have Rva_40 := Lib.hid (Rd.on Rva_39.out hb)
  have Rcs_40 := Lib.hid (Rd.on Rcs_39.out hb)
  have W_40 := Lib.hid (Rd.on W_39.out hb)
  have OX_40 := Lib.hid (One.on OX_39.out hb)
  have G_40 := Lib.hid (Rd.on G_39.out hb)
  have T_40 := Lib.hid (Rd.on T_39.out hb)
  have Z_22 := Lib.hid hb.size
  clear B_39 Ava_39 Rva_39 Rcs_39 W_39 OX_39 G_39 T_39 hb hnn
  go_wp2_with fail
  go_ret
  exact ⟨rfl, B_40.out⟩
end Go.Proofs.Ytglleimmmfnhcaa
