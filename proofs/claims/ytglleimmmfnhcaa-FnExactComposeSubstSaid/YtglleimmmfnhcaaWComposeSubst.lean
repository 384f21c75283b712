/- Walks: the law of ComposeSubst. -/
import Derived.Test.YtglleimmmfnhcaaComp
import Derived.Test.YtglleimmmfnhcaaState
import Derived.Test.YtglleimmmfnhcaaSzLe
import Derived.Deep.RegionHeld3
import Derived.Deep.CutRange
namespace Go.Proofs.Ytglleimmmfnhcaa
open Go.RowKit
set_option maxRecDepth 20000

set_option maxHeartbeats 40000000 in
theorem law_ComposeSubst (va : Value) (xs : List ByteArray) (vb : Value) (ys : List ByteArray) (w : World) (hava : Row1 w w.heap.size va (xs.map .string)) (hsva : ∀ s ∈ xs, s.size ≤ maxLen) (havb : Row1 w w.heap.size vb (ys.map .string)) (hsvb : ∀ s ∈ ys, s.size ≤ maxLen) :
    Calls Try.prog 7 #[.agg #[va], .agg #[vb]] w fun e w' => e = .returned (.bool true) ∧ Below w.heap.size w w' := by
  have B_1 := Lib.hid (show Below w.heap.size w ((w.alloc (.cells #[va] 24)).alloc (.cells #[vb] 24)) from bthen (bnew _ _) (bnew _ _))
  have Ava_2 := Lib.hid ((One.new w 24 va).alloc (.cells #[vb] 24))
  have Avb_3 := Lib.hid (show One ((w.alloc (.cells #[va] 24)).alloc (.cells #[vb] 24)) (w.heap.size + 1) 24 vb from by have h := One.new (w.alloc (.cells #[va] 24)) 24 vb; rw [World.size_alloc] at h; exact h)
  have Rva_4 := Lib.hid ((Rd.new hava).on B_1.out)
  have HLva := Lib.hid (show (xs.map Value.string).length = xs.length from List.length_map _)
  have HSva := Lib.hid hsva
  clear hava
  have Rvb_5 := Lib.hid ((Rd.new havb).on B_1.out)
  have HLvb := Lib.hid (show (ys.map Value.string).length = ys.length from List.length_map _)
  have HSvb := Lib.hid hsvb
  clear havb
  by_cases hneg0 : szR xs (1048576) < 0
  · skip
    go_enter Try.func7, Try.ntmps7
    go_wp2_with fail
    refine (szSubst_any xs va (1048576) _ (Rva_4.out.at) HSva.out (by omega) (by have := szR_le xs 1048576; omega)).mono ?_
    rintro e w1 ⟨rfl, hb⟩
    have B_6 := Lib.hid (since_on B_1.out hb)
    have Ava_6 := Lib.hid (One.on Ava_2.out hb)
    have Avb_6 := Lib.hid (One.on Avb_3.out hb)
    have Rva_6 := Lib.hid (Rd.on Rva_4.out hb)
    have Rvb_6 := Lib.hid (Rd.on Rvb_5.out hb)
    have Z_1 := Lib.hid (by have h := hb.size; simp only [World.size_alloc] at h; exact h)
    clear B_1 Ava_2 Avb_3 Rva_4 Rvb_5 hb
    go_wp2_with fail
    go_ret
    exact ⟨rfl, B_6.out⟩
  by_cases hneg1 : szR ys (szR xs 1048576) < 0
  · skip
    go_enter Try.func7, Try.ntmps7
    go_wp2_with fail
    refine (szSubst_any xs va (1048576) _ (Rva_4.out.at) HSva.out (by omega) (by have := szR_le xs 1048576; omega)).mono ?_
    rintro e w1 ⟨rfl, hb⟩
    have B_6 := Lib.hid (since_on B_1.out hb)
    have Ava_6 := Lib.hid (One.on Ava_2.out hb)
    have Avb_6 := Lib.hid (One.on Avb_3.out hb)
    have Rva_6 := Lib.hid (Rd.on Rva_4.out hb)
    have Rvb_6 := Lib.hid (Rd.on Rvb_5.out hb)
    have Z_1 := Lib.hid (by have h := hb.size; simp only [World.size_alloc] at h; exact h)
    clear B_1 Ava_2 Avb_3 Rva_4 Rvb_5 hb
    have c_Avb := Avb_6.out.cell
    go_wp2_with fail
    refine (szSubst_any ys vb (szR xs 1048576) _ (Rvb_6.out.at) HSvb.out (by omega) (by have := szR_le xs 1048576; omega)).mono ?_
    rintro e w2 ⟨rfl, hb⟩
    have B_7 := Lib.hid (since_on B_6.out hb)
    have Ava_7 := Lib.hid (One.on Ava_6.out hb)
    have Avb_7 := Lib.hid (One.on Avb_6.out hb)
    have Rva_7 := Lib.hid (Rd.on Rva_6.out hb)
    have Rvb_7 := Lib.hid (Rd.on Rvb_6.out hb)
    have Z_2 := Lib.hid hb.size
    clear c_Avb B_6 Ava_6 Avb_6 Rva_6 Rvb_6 hb
    go_wp2_with fail
    go_ret
    exact ⟨rfl, B_7.out⟩
  have hxva : xs.length ≤ 1048576 := by have := szR_nonneg (show 0 ≤ szR xs 1048576 by omega); omega
  have hxvb : ys.length ≤ 1048576 := by have := szR_nonneg (show 0 ≤ szR ys (szR xs 1048576) by omega); have := szR_le xs 1048576; omega
  have h1 := fun (v v2 : Value) (W : World) (hR : Row1 W W.heap.size v (xs.map .string)) (hR2 : Row1 W W.heap.size v2 (ys.map .string)) => specComposeSubst_any xs ys v v2 W hR HSva.out hR2 HSvb.out
  have h2 := fun (v v2 : Value) (W : World) (hR : Row1 W W.heap.size v (xs.map .string)) (hR2 : Row1 W W.heap.size v2 (ys.map .string)) => implComposeSubst_any xs ys v v2 W hR HSva.out hR2 HSvb.out
  obtain ⟨R, hR⟩ : ∃ R, R = csR xs ys := ⟨_, rfl⟩
  have hN : R.length ≤ 1048576 := by rw [hR]; have := csR_len xs ys; omega
  obtain ⟨b, hb⟩ : ∃ b, b = csB xs ys := ⟨_, rfl⟩
  rw [← hR, ← hb] at h1 h2
  have HM := Lib.hid (show (R.map Value.string).length = R.length from List.length_map _)
  have H1 := Lib.hid h1; have H2 := Lib.hid h2; have HN := Lib.hid hN
  clear h1 h2 hR hN hb
  go_enter Try.func7, Try.ntmps7
  go_wp2_with fail
  refine (szSubst_any xs va (1048576) _ (Rva_4.out.at) HSva.out (by omega) (by have := szR_le xs 1048576; omega)).mono ?_
  rintro e w1 ⟨rfl, hb⟩
  have B_6 := Lib.hid (since_on B_1.out hb)
  have Ava_6 := Lib.hid (One.on Ava_2.out hb)
  have Avb_6 := Lib.hid (One.on Avb_3.out hb)
  have Rva_6 := Lib.hid (Rd.on Rva_4.out hb)
  have Rvb_6 := Lib.hid (Rd.on Rvb_5.out hb)
  have Z_1 := Lib.hid (by have h := hb.size; simp only [World.size_alloc] at h; exact h)
  clear B_1 Ava_2 Avb_3 Rva_4 Rvb_5 hb
  have c_Avb := Avb_6.out.cell
  go_wp2_with fail
  refine (szSubst_any ys vb (szR xs 1048576) _ (Rvb_6.out.at) HSvb.out (by omega) (by have := szR_le xs 1048576; omega)).mono ?_
  rintro e w2 ⟨rfl, hb⟩
  have B_7 := Lib.hid (since_on B_6.out hb)
  have Ava_7 := Lib.hid (One.on Ava_6.out hb)
  have Avb_7 := Lib.hid (One.on Avb_6.out hb)
  have Rva_7 := Lib.hid (Rd.on Rva_6.out hb)
  have Rvb_7 := Lib.hid (Rd.on Rvb_6.out hb)
  have Z_2 := Lib.hid hb.size
  clear c_Avb B_6 Ava_6 Avb_6 Rva_6 Rvb_6 hb
  have c_Ava := Ava_7.out.cell
  have c_Avb := Avb_7.out.cell
  go_wp2_with fail
  go_cut [6, 7] from 27 to 34 (fun p q wx => ∃ (gb : Nat) (B : Option Addr) (cb : Nat), p = .pointer (some ⟨gb, 0, none⟩) ∧ q = .bool b ∧ One wx gb 28 (.slice B R.length cb) ∧ Row1 wx wx.heap.size (.slice B R.length cb) (R.map Value.string) ∧ Below w2.heap.size w2 wx)
  case first =>
    have cz_Ava := ((One.drew Ava_7.out).alloc (.cells #[.slice none 0 0] 28)).cell
    have cy_Ava := (One.alloc Ava_7.out (.cells #[.slice none 0 0] 28)).cell
    have cz_Avb := ((One.drew Avb_7.out).alloc (.cells #[.slice none 0 0] 28)).cell
    have cy_Avb := (One.alloc Avb_7.out (.cells #[.slice none 0 0] 28)).cell
    go_region_with (first | (go_at_call 15; (with_reducible refine (toSubst_any xs va _ (Rd.on Rva_7.out (by first | exact bdrew _ | exact bthen (bdrew _) (bnew _ _))).at hxva).mono ?_); rintro e wA ⟨gA, rfl, ho, hb⟩; have HA1 := Lib.hid (show Below w2.heap.size w2 wA from bthen (by first | exact bdrew _ | exact bthen (bdrew _) (bnew _ _)) hb); have YA1 := Lib.hid (Rd.new (Row1.own ho HLva.out.symm)); (first | (have OB1 := Lib.hid (OB0.out.on hb)) | (have OB1 := Lib.hid ((One.new _ 28 (.slice none 0 0)).on hb)) | (have OB1 := Lib.hid ((One.drew (One.new _ 28 (.slice none 0 0))).on hb)) | skip); have cA1_Ava := (One.on Ava_7.out HA1.out).cell; have cZ1_Ava := ((One.on Ava_7.out HA1.out).alloc (.cells #[.slice none 0 0] 28)).cell; have cA1_Avb := (One.on Avb_7.out HA1.out).cell; have cZ1_Avb := ((One.on Avb_7.out HA1.out).alloc (.cells #[.slice none 0 0] 28)).cell; clear ho hb) | (go_at_call 15; (with_reducible refine (toSubst_any ys vb _ (Rd.on Rvb_7.out (by first | exact HA1.out | exact bthen HA1.out (bnew _ _))).at hxvb).mono ?_); rintro e wB ⟨gB, rfl, ho, hb⟩; have HA2 := Lib.hid (show Below w2.heap.size w2 wB from bthen (by first | exact HA1.out | exact bthen HA1.out (bnew _ _)) hb); have YA2 := Lib.hid (Rd.on YA1.out (bthen (by first | exact Below.refl _ _ | exact bnew _ _) hb)); have YB2 := Lib.hid (Rd.new (Row1.own ho HLvb.out.symm)); (first | (have OB2 := Lib.hid (OB1.out.on hb)) | (have OB2 := Lib.hid ((One.new _ 28 (.slice none 0 0)).on hb)) | (have OB2 := Lib.hid ((One.drew (One.new _ 28 (.slice none 0 0))).on hb)) | skip); have cA2_Ava := (One.on Ava_7.out HA2.out).cell; have cA2_Avb := (One.on Avb_7.out HA2.out).cell; clear ho hb) | (go_at_call 24; refine (H1.out _ _ _ (Rd.on YA2.out (by first | exact Below.refl _ _ | exact bnew _ _)).at (Rd.on YB2.out (by first | exact Below.refl _ _ | exact bnew _ _)).at).mono ?_; rintro e wC ⟨u0, rfl, ho, hb⟩; obtain ⟨A0, q0, rfl⟩ := own_shape ho; have HA3 := Lib.hid (show Below w2.heap.size w2 wC from bthen (by first | exact HA2.out | exact bthen HA2.out (bnew _ _)) hb); (first | (have OB3 := Lib.hid (OB2.out.on hb)) | (have OB3 := Lib.hid ((One.new _ 28 (.slice none 0 0)).on hb)) | (have OB3 := Lib.hid ((One.drew (One.new _ 28 (.slice none 0 0))).on hb)) | skip); have HO3 := Lib.hid ho; have cN := (One.new wC 28 (.slice none 0 0)).cell; have fN := (One.new wC 28 (.slice none 0 0)).frozen; try (have cB := OB3.out.cell; try dsimp only [World.drew] at cB); try (have fB := OB3.out.frozen; try dsimp only [World.drew] at fB); clear ho hb))
    all_goals
      go_wp2_with fail
      go_meet
      case rel =>
        first
          | exact ⟨_, _, _, rfl, rfl, One.new _ _ _, (Rd.on (Rd.new (Row1.own HO3.out HM.out.symm)) (bnew _ _)).at, bthen HA3.out (bnew _ _)⟩
          | exact ⟨_, _, _, rfl, rfl, (One.new _ _ _).set _, Row1.own (own_set (HO3.out.alloc _) (one_ne (One.new _ _ _) (HO3.out.alloc _) types_box) _) HM.out.symm, (bthen HA3.out (bnew _ _)).setCell HA3.out.size _⟩
          | exact ⟨_, _, _, rfl, rfl, OB3.out.set _, Row1.own (own_set HO3.out (one_ne OB3.out HO3.out types_box) _) HM.out.symm, HA3.out.setCell (by first | exact Nat.le_refl _ | exact HA1.out.size | exact HA2.out.size) _⟩
  obtain ⟨w3, rfl⟩ : ∃ x, x = wc := ⟨wc, rfl⟩
  obtain ⟨gu, A_u, q_u, rfl, rfl, ho, hr, hb⟩ := hcut
  have B_8 := Lib.hid (since_on B_7.out hb)
  have Ava_8 := Lib.hid (One.on Ava_7.out hb)
  have Avb_8 := Lib.hid (One.on Avb_7.out hb)
  have Rva_8 := Lib.hid (Rd.on Rva_7.out hb)
  have Rvb_8 := Lib.hid (Rd.on Rvb_7.out hb)
  have Z_3 := Lib.hid hb.size
  have OW_9 := Lib.hid ho
  have W_10 := Lib.hid (Rd.new hr)
  have Z_4 := Lib.hid ho.lt
  clear B_7 Ava_7 Avb_7 Rva_7 Rvb_7 ho hr hb c_Ava c_Avb
  have c_Ava := Ava_8.out.cell
  have c_Avb := Avb_8.out.cell
  go_wp2_with fail
  refine (toSubst_any xs va _ (Rva_8.out.at) hxva).mono ?_
  rintro e w4 ⟨g_w4, rfl, ho, hb⟩
  have B_11 := Lib.hid (since_on B_8.out hb)
  have Ava_11 := Lib.hid (One.on Ava_8.out hb)
  have Avb_11 := Lib.hid (One.on Avb_8.out hb)
  have Rva_11 := Lib.hid (Rd.on Rva_8.out hb)
  have Rvb_11 := Lib.hid (Rd.on Rvb_8.out hb)
  have OW_11 := Lib.hid (One.on OW_9.out hb)
  have W_11 := Lib.hid (Rd.on W_10.out hb)
  have Z_5 := Lib.hid hb.size
  have LXva := Lib.hid (fun k hk => (own_lt ho (g := k) hk).2)
  have Xva_12 := Lib.hid (ho)
  clear B_8 Ava_8 Avb_8 Rva_8 Rvb_8 OW_9 W_10 ho hb
  clear c_Ava c_Avb
  have c_Avb := Avb_11.out.cell
  have B_13 := Lib.hid (since_on B_11.out (bnew w4 (.cells #[(.slice (some ⟨g_w4, 0, none⟩) xs.length xs.length)] 28)))
  have Ava_13 := Lib.hid (One.on Ava_11.out (bnew w4 (.cells #[(.slice (some ⟨g_w4, 0, none⟩) xs.length xs.length)] 28)))
  have Avb_13 := Lib.hid (One.on Avb_11.out (bnew w4 (.cells #[(.slice (some ⟨g_w4, 0, none⟩) xs.length xs.length)] 28)))
  have Rva_13 := Lib.hid (Rd.on Rva_11.out (bnew w4 (.cells #[(.slice (some ⟨g_w4, 0, none⟩) xs.length xs.length)] 28)))
  have Rvb_13 := Lib.hid (Rd.on Rvb_11.out (bnew w4 (.cells #[(.slice (some ⟨g_w4, 0, none⟩) xs.length xs.length)] 28)))
  have OW_13 := Lib.hid (One.on OW_11.out (bnew w4 (.cells #[(.slice (some ⟨g_w4, 0, none⟩) xs.length xs.length)] 28)))
  have W_13 := Lib.hid (Rd.on W_11.out (bnew w4 (.cells #[(.slice (some ⟨g_w4, 0, none⟩) xs.length xs.length)] 28)))
  have Xva_13 := Lib.hid (own_below Xva_12.out (bnew w4 (.cells #[(.slice (some ⟨g_w4, 0, none⟩) xs.length xs.length)] 28)))
  clear B_11 Ava_11 Avb_11 Rva_11 Rvb_11 OW_11 W_11 Xva_12
  have OXva_14 := Lib.hid (One.new w4 28 (.slice (some ⟨g_w4, 0, none⟩) xs.length xs.length))
  have d_Avb := Avb_13.out.cell
  go_wp2_with fail
  refine (toSubst_any ys vb _ (Rvb_13.out.at) hxvb).mono ?_
  rintro e w5 ⟨g_w5, rfl, ho, hb⟩
  have B_15 := Lib.hid (since_on B_13.out hb)
  have Ava_15 := Lib.hid (One.on Ava_13.out hb)
  have Avb_15 := Lib.hid (One.on Avb_13.out hb)
  have Rva_15 := Lib.hid (Rd.on Rva_13.out hb)
  have Rvb_15 := Lib.hid (Rd.on Rvb_13.out hb)
  have OW_15 := Lib.hid (One.on OW_13.out hb)
  have W_15 := Lib.hid (Rd.on W_13.out hb)
  have Xva_15 := Lib.hid (own_below Xva_13.out hb)
  have OXva_15 := Lib.hid (One.on OXva_14.out hb)
  have Z_6 := Lib.hid (by have h := hb.size; simp only [World.size_alloc] at h; exact h)
  rw [World.size_alloc] at ho
  have LXvb := Lib.hid (fun k hk => (own_lt ho (g := k) hk).2)
  have Xvb_16 := Lib.hid (ho)
  clear B_13 Ava_13 Avb_13 Rva_13 Rvb_13 OW_13 W_13 Xva_13 OXva_14 ho hb
  clear c_Avb d_Avb
  have c_OXva := OXva_15.out.cell
  have B_17 := Lib.hid (since_on B_15.out (bnew w5 (.cells #[(.slice (some ⟨g_w5, 0, none⟩) ys.length ys.length)] 28)))
  have Ava_17 := Lib.hid (One.on Ava_15.out (bnew w5 (.cells #[(.slice (some ⟨g_w5, 0, none⟩) ys.length ys.length)] 28)))
  have Avb_17 := Lib.hid (One.on Avb_15.out (bnew w5 (.cells #[(.slice (some ⟨g_w5, 0, none⟩) ys.length ys.length)] 28)))
  have Rva_17 := Lib.hid (Rd.on Rva_15.out (bnew w5 (.cells #[(.slice (some ⟨g_w5, 0, none⟩) ys.length ys.length)] 28)))
  have Rvb_17 := Lib.hid (Rd.on Rvb_15.out (bnew w5 (.cells #[(.slice (some ⟨g_w5, 0, none⟩) ys.length ys.length)] 28)))
  have OW_17 := Lib.hid (One.on OW_15.out (bnew w5 (.cells #[(.slice (some ⟨g_w5, 0, none⟩) ys.length ys.length)] 28)))
  have W_17 := Lib.hid (Rd.on W_15.out (bnew w5 (.cells #[(.slice (some ⟨g_w5, 0, none⟩) ys.length ys.length)] 28)))
  have Xva_17 := Lib.hid (own_below Xva_15.out (bnew w5 (.cells #[(.slice (some ⟨g_w5, 0, none⟩) ys.length ys.length)] 28)))
  have OXva_17 := Lib.hid (One.on OXva_15.out (bnew w5 (.cells #[(.slice (some ⟨g_w5, 0, none⟩) ys.length ys.length)] 28)))
  have Xvb_17 := Lib.hid (own_below Xvb_16.out (bnew w5 (.cells #[(.slice (some ⟨g_w5, 0, none⟩) ys.length ys.length)] 28)))
  clear B_15 Ava_15 Avb_15 Rva_15 Rvb_15 OW_15 W_15 Xva_15 OXva_15 Xvb_16
  have OXvb_18 := Lib.hid (One.new w5 28 (.slice (some ⟨g_w5, 0, none⟩) ys.length ys.length))
  have d_OX := OXva_17.out.cell
  go_wp2_with fail
  refine (H2.out _ _ _ (Row1.own Xva_17.out HLva.out.symm) (Row1.own Xvb_17.out HLvb.out.symm)).mono ?_
  rintro e w6 ⟨v, rfl, ho, hb⟩
  obtain ⟨A_v, q_v, rfl⟩ := own_shape ho
  have B_19 := Lib.hid (since_on B_17.out hb)
  have Ava_19 := Lib.hid (One.on Ava_17.out hb)
  have Avb_19 := Lib.hid (One.on Avb_17.out hb)
  have Rva_19 := Lib.hid (Rd.on Rva_17.out hb)
  have Rvb_19 := Lib.hid (Rd.on Rvb_17.out hb)
  have OW_19 := Lib.hid (One.on OW_17.out hb)
  have W_19 := Lib.hid (Rd.on W_17.out hb)
  have Xva_19 := Lib.hid (own_below Xva_17.out hb)
  have OXva_19 := Lib.hid (One.on OXva_17.out hb)
  have Xvb_19 := Lib.hid (own_below Xvb_17.out hb)
  have OXvb_19 := Lib.hid (One.on OXvb_18.out hb)
  have Z_7 := Lib.hid (by have h := hb.size; simp only [World.size_alloc] at h; exact h)
  rw [World.size_alloc] at ho
  have LG := Lib.hid (fun k hk => (own_lt ho (g := k) hk).2)
  have G_20 := Lib.hid (ho)
  clear B_17 Ava_17 Avb_17 Rva_17 Rvb_17 OW_17 W_17 Xva_17 OXva_17 Xvb_17 OXvb_18 ho hb
  clear c_OXva d_OX
  have c_OW := OW_19.out.cell
  have B_21 := Lib.hid (since_on B_19.out (bnew w6 (.cells #[(.slice A_v R.length q_v)] 28)))
  have Ava_21 := Lib.hid (One.on Ava_19.out (bnew w6 (.cells #[(.slice A_v R.length q_v)] 28)))
  have Avb_21 := Lib.hid (One.on Avb_19.out (bnew w6 (.cells #[(.slice A_v R.length q_v)] 28)))
  have Rva_21 := Lib.hid (Rd.on Rva_19.out (bnew w6 (.cells #[(.slice A_v R.length q_v)] 28)))
  have Rvb_21 := Lib.hid (Rd.on Rvb_19.out (bnew w6 (.cells #[(.slice A_v R.length q_v)] 28)))
  have OW_21 := Lib.hid (One.on OW_19.out (bnew w6 (.cells #[(.slice A_v R.length q_v)] 28)))
  have W_21 := Lib.hid (Rd.on W_19.out (bnew w6 (.cells #[(.slice A_v R.length q_v)] 28)))
  have Xva_21 := Lib.hid (own_below Xva_19.out (bnew w6 (.cells #[(.slice A_v R.length q_v)] 28)))
  have OXva_21 := Lib.hid (One.on OXva_19.out (bnew w6 (.cells #[(.slice A_v R.length q_v)] 28)))
  have Xvb_21 := Lib.hid (own_below Xvb_19.out (bnew w6 (.cells #[(.slice A_v R.length q_v)] 28)))
  have OXvb_21 := Lib.hid (One.on OXvb_19.out (bnew w6 (.cells #[(.slice A_v R.length q_v)] 28)))
  have G_21 := Lib.hid (own_below G_20.out (bnew w6 (.cells #[(.slice A_v R.length q_v)] 28)))
  clear B_19 Ava_19 Avb_19 Rva_19 Rvb_19 OW_19 W_19 Xva_19 OXva_19 Xvb_19 OXvb_19 G_20
  have OG_22 := Lib.hid (One.new w6 28 (.slice A_v R.length q_v))
  have d_W := OW_21.out.cell
  go_wp2_with fail
  refine (eqSubst_same R _ _ _ (Row1.own G_21.out HM.out.symm) W_21.out.at).mono ?_
  rintro e w7 ⟨rfl, hb⟩
  have B_23 := Lib.hid (since_on B_21.out hb)
  have Ava_23 := Lib.hid (One.on Ava_21.out hb)
  have Avb_23 := Lib.hid (One.on Avb_21.out hb)
  have Rva_23 := Lib.hid (Rd.on Rva_21.out hb)
  have Rvb_23 := Lib.hid (Rd.on Rvb_21.out hb)
  have OW_23 := Lib.hid (One.on OW_21.out hb)
  have W_23 := Lib.hid (Rd.on W_21.out hb)
  have Xva_23 := Lib.hid (own_below Xva_21.out hb)
  have OXva_23 := Lib.hid (One.on OXva_21.out hb)
  have Xvb_23 := Lib.hid (own_below Xvb_21.out hb)
  have OXvb_23 := Lib.hid (One.on OXvb_21.out hb)
  have G_23 := Lib.hid (own_below G_21.out hb)
  have OG_23 := Lib.hid (One.on OG_22.out hb)
  have Z_8 := Lib.hid (by have h := hb.size; simp only [World.size_alloc] at h; exact h)
  clear B_21 Ava_21 Avb_21 Rva_21 Rvb_21 OW_21 W_21 Xva_21 OXva_21 Xvb_21 OXvb_21 G_21 OG_22 hb
  clear c_OW d_W
  have c_OXva := OXva_23.out.cell
  have c_Ava := Ava_23.out.cell
  have c_Avb := Avb_23.out.cell
  go_wp2_with fail
  have K_00 := Lib.hid (And.intro (OXva_23.out.drew).cell (Ava_23.out.drew).cell)
  go_region_held3 (fun w' => w'.cell? ⟨w4.heap.size, 0, none⟩ = some (.slice (some ⟨g_w4, 0, none⟩) xs.length xs.length) ∧ w'.cell? ⟨w.heap.size, 0, none⟩ = some va) (first | exact K_20.out | exact K_10.out | exact K_00.out) ((first | (go_at_call 15; refine (toSubst_any xs va _ ((Rd.on Rva_23.out (bdrew _)).at) hxva).mono ?_; rintro e w8 ⟨g_w8, rfl, ho, hb0⟩; have hb := bthen (bdrew _) hb0; have B_24 := Lib.hid (since_on B_23.out hb); have Ava_24 := Lib.hid (One.on Ava_23.out hb); have Avb_24 := Lib.hid (One.on Avb_23.out hb); have Rva_24 := Lib.hid (Rd.on Rva_23.out hb); have Rvb_24 := Lib.hid (Rd.on Rvb_23.out hb); have OW_24 := Lib.hid (One.on OW_23.out hb); have W_24 := Lib.hid (Rd.on W_23.out hb); have Xva_24 := Lib.hid (own_below Xva_23.out hb); have OXva_24 := Lib.hid (One.on OXva_23.out hb); have Xvb_24 := Lib.hid (own_below Xvb_23.out hb); have OXvb_24 := Lib.hid (One.on OXvb_23.out hb); have G_24 := Lib.hid (own_below G_23.out hb); have OG_24 := Lib.hid (One.on OG_23.out hb); have Z_9 := Lib.hid hb.size; have Y_25 := Lib.hid (Rd.new (Row1.own ho HLva.out.symm)); have K_10 := Lib.hid (And.intro OXva_24.out.cell Ava_24.out.cell); clear B_23 Ava_23 Avb_23 Rva_23 Rvb_23 OW_23 W_23 Xva_23 OXva_23 Xvb_23 OXvb_23 G_23 OG_23 ho hb hb0) | (go_at_call 17; refine (eqSubst_same xs _ _ _ (Row1.own Xva_24.out HLva.out.symm) Y_25.out.at).mono ?_; rintro e w9 ⟨rfl, hb⟩; have B_26 := Lib.hid (since_on B_24.out hb); have Ava_26 := Lib.hid (One.on Ava_24.out hb); have Avb_26 := Lib.hid (One.on Avb_24.out hb); have Rva_26 := Lib.hid (Rd.on Rva_24.out hb); have Rvb_26 := Lib.hid (Rd.on Rvb_24.out hb); have OW_26 := Lib.hid (One.on OW_24.out hb); have W_26 := Lib.hid (Rd.on W_24.out hb); have Xva_26 := Lib.hid (own_below Xva_24.out hb); have OXva_26 := Lib.hid (One.on OXva_24.out hb); have Xvb_26 := Lib.hid (own_below Xvb_24.out hb); have OXvb_26 := Lib.hid (One.on OXvb_24.out hb); have G_26 := Lib.hid (own_below G_24.out hb); have OG_26 := Lib.hid (One.on OG_24.out hb); have Z_10 := Lib.hid hb.size; have K_20 := Lib.hid (And.intro OXva_26.out.cell Ava_26.out.cell); clear B_24 Ava_24 Avb_24 Rva_24 Rvb_24 OW_24 W_24 Xva_24 OXva_24 Xvb_24 OXvb_24 G_24 OG_24 Y_25 hb)))
  clear c_OXva c_Ava c_Avb K_00 K_10 K_20
  have c_OXvb := OXvb_26.out.cell
  have c_Ava := Ava_26.out.cell
  have c_Avb := Avb_26.out.cell
  go_wp2_with fail
  have K_01 := Lib.hid (And.intro (OXvb_26.out.drew).cell (Avb_26.out.drew).cell)
  go_region_held3 (fun w' => w'.cell? ⟨w5.heap.size, 0, none⟩ = some (.slice (some ⟨g_w5, 0, none⟩) ys.length ys.length) ∧ w'.cell? ⟨w.heap.size + 1, 0, none⟩ = some vb) (first | exact K_21.out | exact K_11.out | exact K_01.out) ((first | (go_at_call 15; refine (toSubst_any ys vb _ ((Rd.on Rvb_26.out (bdrew _)).at) hxvb).mono ?_; rintro e w10 ⟨g_w10, rfl, ho, hb0⟩; have hb := bthen (bdrew _) hb0; have B_27 := Lib.hid (since_on B_26.out hb); have Ava_27 := Lib.hid (One.on Ava_26.out hb); have Avb_27 := Lib.hid (One.on Avb_26.out hb); have Rva_27 := Lib.hid (Rd.on Rva_26.out hb); have Rvb_27 := Lib.hid (Rd.on Rvb_26.out hb); have OW_27 := Lib.hid (One.on OW_26.out hb); have W_27 := Lib.hid (Rd.on W_26.out hb); have Xva_27 := Lib.hid (own_below Xva_26.out hb); have OXva_27 := Lib.hid (One.on OXva_26.out hb); have Xvb_27 := Lib.hid (own_below Xvb_26.out hb); have OXvb_27 := Lib.hid (One.on OXvb_26.out hb); have G_27 := Lib.hid (own_below G_26.out hb); have OG_27 := Lib.hid (One.on OG_26.out hb); have Z_11 := Lib.hid hb.size; have Y_28 := Lib.hid (Rd.new (Row1.own ho HLvb.out.symm)); have K_11 := Lib.hid (And.intro OXvb_27.out.cell Avb_27.out.cell); clear B_26 Ava_26 Avb_26 Rva_26 Rvb_26 OW_26 W_26 Xva_26 OXva_26 Xvb_26 OXvb_26 G_26 OG_26 ho hb hb0) | (go_at_call 17; refine (eqSubst_same ys _ _ _ (Row1.own Xvb_27.out HLvb.out.symm) Y_28.out.at).mono ?_; rintro e w11 ⟨rfl, hb⟩; have B_29 := Lib.hid (since_on B_27.out hb); have Ava_29 := Lib.hid (One.on Ava_27.out hb); have Avb_29 := Lib.hid (One.on Avb_27.out hb); have Rva_29 := Lib.hid (Rd.on Rva_27.out hb); have Rvb_29 := Lib.hid (Rd.on Rvb_27.out hb); have OW_29 := Lib.hid (One.on OW_27.out hb); have W_29 := Lib.hid (Rd.on W_27.out hb); have Xva_29 := Lib.hid (own_below Xva_27.out hb); have OXva_29 := Lib.hid (One.on OXva_27.out hb); have Xvb_29 := Lib.hid (own_below Xvb_27.out hb); have OXvb_29 := Lib.hid (One.on OXvb_27.out hb); have G_29 := Lib.hid (own_below G_27.out hb); have OG_29 := Lib.hid (One.on OG_27.out hb); have Z_12 := Lib.hid hb.size; have K_21 := Lib.hid (And.intro OXvb_29.out.cell Avb_29.out.cell); clear B_27 Ava_27 Avb_27 Rva_27 Rvb_27 OW_27 W_27 Xva_27 OXva_27 Xvb_27 OXvb_27 G_27 OG_27 Y_28 hb)))
  clear c_OXvb c_Ava c_Avb K_01 K_11 K_21
  have c_OXva := OXva_29.out.cell
  go_wp2_with fail
  have GM := markSubst_any (w3.heap.size) w4.heap.size _ (xs.map Value.string) (1) _ (show w11.ownsRow (w3.heap.size) 9 1 (.slice (some ⟨g_w4, 0, none⟩) xs.length xs.length) (xs.map Value.string).length (xs.map Value.string) by rw [HLva.out]; exact Xva_29.out) LXva.out (by intro u hu; obtain ⟨z, _, rfl⟩ := List.mem_map.1 hu; exact ⟨z, rfl⟩) (by omega) (by rw [HLva.out]; omega)
  rw [HLva.out] at GM
  refine GM.mono ?_
  clear GM
  rintro e w12 ⟨rfl, _, hw⟩
  have B_30 := Lib.hid (since_in B_29.out hw (by have := Z_1.out; have := Z_2.out; have := Z_3.out; have := Z_4.out; have := Z_5.out; have := Z_6.out; have := Z_7.out; have := Z_8.out; have := Z_9.out; have := Z_10.out; have := Z_11.out; have := Z_12.out; omega))
  have Ava_30 := Lib.hid (One.within Ava_29.out hw (by have := Z_1.out; have := Z_2.out; have := Z_3.out; have := Z_4.out; have := Z_5.out; have := Z_6.out; have := Z_7.out; have := Z_8.out; have := Z_9.out; have := Z_10.out; have := Z_11.out; have := Z_12.out; omega))
  have Avb_30 := Lib.hid (One.within Avb_29.out hw (by have := Z_1.out; have := Z_2.out; have := Z_3.out; have := Z_4.out; have := Z_5.out; have := Z_6.out; have := Z_7.out; have := Z_8.out; have := Z_9.out; have := Z_10.out; have := Z_11.out; have := Z_12.out; omega))
  have Rva_30 := Lib.hid (Rd.within Rva_29.out hw (by have := Z_1.out; have := Z_2.out; have := Z_3.out; have := Z_4.out; have := Z_5.out; have := Z_6.out; have := Z_7.out; have := Z_8.out; have := Z_9.out; have := Z_10.out; have := Z_11.out; have := Z_12.out; omega))
  have Rvb_30 := Lib.hid (Rd.within Rvb_29.out hw (by have := Z_1.out; have := Z_2.out; have := Z_3.out; have := Z_4.out; have := Z_5.out; have := Z_6.out; have := Z_7.out; have := Z_8.out; have := Z_9.out; have := Z_10.out; have := Z_11.out; have := Z_12.out; omega))
  have OW_30 := Lib.hid (One.within OW_29.out hw (by have := Z_1.out; have := Z_2.out; have := Z_3.out; have := Z_4.out; have := Z_5.out; have := Z_6.out; have := Z_7.out; have := Z_8.out; have := Z_9.out; have := Z_10.out; have := Z_11.out; have := Z_12.out; omega))
  have W_30 := Lib.hid (Rd.within W_29.out hw (by have := Z_1.out; have := Z_2.out; have := Z_3.out; have := Z_4.out; have := Z_5.out; have := Z_6.out; have := Z_7.out; have := Z_8.out; have := Z_9.out; have := Z_10.out; have := Z_11.out; have := Z_12.out; omega))
  have OXva_30 := Lib.hid (One.within OXva_29.out hw (by have := Z_1.out; have := Z_2.out; have := Z_3.out; have := Z_4.out; have := Z_5.out; have := Z_6.out; have := Z_7.out; have := Z_8.out; have := Z_9.out; have := Z_10.out; have := Z_11.out; have := Z_12.out; omega))
  have Xvb_30 := Lib.hid (own_within Xvb_29.out hw (by have := Z_1.out; have := Z_2.out; have := Z_3.out; have := Z_4.out; have := Z_5.out; have := Z_6.out; have := Z_7.out; have := Z_8.out; have := Z_9.out; have := Z_10.out; have := Z_11.out; have := Z_12.out; omega))
  have OXvb_30 := Lib.hid (One.within OXvb_29.out hw (by have := Z_1.out; have := Z_2.out; have := Z_3.out; have := Z_4.out; have := Z_5.out; have := Z_6.out; have := Z_7.out; have := Z_8.out; have := Z_9.out; have := Z_10.out; have := Z_11.out; have := Z_12.out; omega))
  have G_30 := Lib.hid (own_within G_29.out hw (by have := Z_1.out; have := Z_2.out; have := Z_3.out; have := Z_4.out; have := Z_5.out; have := Z_6.out; have := Z_7.out; have := Z_8.out; have := Z_9.out; have := Z_10.out; have := Z_11.out; have := Z_12.out; omega))
  have OG_30 := Lib.hid (One.within OG_29.out hw (by have := Z_1.out; have := Z_2.out; have := Z_3.out; have := Z_4.out; have := Z_5.out; have := Z_6.out; have := Z_7.out; have := Z_8.out; have := Z_9.out; have := Z_10.out; have := Z_11.out; have := Z_12.out; omega))
  have Z_13 := Lib.hid hw.size
  clear B_29 Ava_29 Avb_29 Rva_29 Rvb_29 OW_29 W_29 Xva_29 OXva_29 Xvb_29 OXvb_29 G_29 OG_29 hw c_OXva
  have c_OXvb := OXvb_30.out.cell
  go_wp2_with fail
  have GM := markSubst_any (w4.heap.size + 1) w5.heap.size _ (ys.map Value.string) (1 + xs.length) _ (show w12.ownsRow (w4.heap.size + 1) 9 1 (.slice (some ⟨g_w5, 0, none⟩) ys.length ys.length) (ys.map Value.string).length (ys.map Value.string) by rw [HLvb.out]; exact Xvb_30.out) LXvb.out (by intro u hu; obtain ⟨z, _, rfl⟩ := List.mem_map.1 hu; exact ⟨z, rfl⟩) (by omega) (by rw [HLvb.out]; omega)
  rw [HLvb.out] at GM
  refine GM.mono ?_
  clear GM
  rintro e w13 ⟨rfl, _, hw⟩
  have B_31 := Lib.hid (since_in B_30.out hw (by have := Z_1.out; have := Z_2.out; have := Z_3.out; have := Z_4.out; have := Z_5.out; have := Z_6.out; have := Z_7.out; have := Z_8.out; have := Z_9.out; have := Z_10.out; have := Z_11.out; have := Z_12.out; have := Z_13.out; omega))
  have Ava_31 := Lib.hid (One.within Ava_30.out hw (by have := Z_1.out; have := Z_2.out; have := Z_3.out; have := Z_4.out; have := Z_5.out; have := Z_6.out; have := Z_7.out; have := Z_8.out; have := Z_9.out; have := Z_10.out; have := Z_11.out; have := Z_12.out; have := Z_13.out; omega))
  have Avb_31 := Lib.hid (One.within Avb_30.out hw (by have := Z_1.out; have := Z_2.out; have := Z_3.out; have := Z_4.out; have := Z_5.out; have := Z_6.out; have := Z_7.out; have := Z_8.out; have := Z_9.out; have := Z_10.out; have := Z_11.out; have := Z_12.out; have := Z_13.out; omega))
  have Rva_31 := Lib.hid (Rd.within Rva_30.out hw (by have := Z_1.out; have := Z_2.out; have := Z_3.out; have := Z_4.out; have := Z_5.out; have := Z_6.out; have := Z_7.out; have := Z_8.out; have := Z_9.out; have := Z_10.out; have := Z_11.out; have := Z_12.out; have := Z_13.out; omega))
  have Rvb_31 := Lib.hid (Rd.within Rvb_30.out hw (by have := Z_1.out; have := Z_2.out; have := Z_3.out; have := Z_4.out; have := Z_5.out; have := Z_6.out; have := Z_7.out; have := Z_8.out; have := Z_9.out; have := Z_10.out; have := Z_11.out; have := Z_12.out; have := Z_13.out; omega))
  have OW_31 := Lib.hid (One.within OW_30.out hw (by have := Z_1.out; have := Z_2.out; have := Z_3.out; have := Z_4.out; have := Z_5.out; have := Z_6.out; have := Z_7.out; have := Z_8.out; have := Z_9.out; have := Z_10.out; have := Z_11.out; have := Z_12.out; have := Z_13.out; omega))
  have W_31 := Lib.hid (Rd.within W_30.out hw (by have := Z_1.out; have := Z_2.out; have := Z_3.out; have := Z_4.out; have := Z_5.out; have := Z_6.out; have := Z_7.out; have := Z_8.out; have := Z_9.out; have := Z_10.out; have := Z_11.out; have := Z_12.out; have := Z_13.out; omega))
  have OXva_31 := Lib.hid (One.within OXva_30.out hw (by have := Z_1.out; have := Z_2.out; have := Z_3.out; have := Z_4.out; have := Z_5.out; have := Z_6.out; have := Z_7.out; have := Z_8.out; have := Z_9.out; have := Z_10.out; have := Z_11.out; have := Z_12.out; have := Z_13.out; omega))
  have OXvb_31 := Lib.hid (One.within OXvb_30.out hw (by have := Z_1.out; have := Z_2.out; have := Z_3.out; have := Z_4.out; have := Z_5.out; have := Z_6.out; have := Z_7.out; have := Z_8.out; have := Z_9.out; have := Z_10.out; have := Z_11.out; have := Z_12.out; have := Z_13.out; omega))
  have G_31 := Lib.hid (own_within G_30.out hw (by have := Z_1.out; have := Z_2.out; have := Z_3.out; have := Z_4.out; have := Z_5.out; have := Z_6.out; have := Z_7.out; have := Z_8.out; have := Z_9.out; have := Z_10.out; have := Z_11.out; have := Z_12.out; have := Z_13.out; omega))
  have OG_31 := Lib.hid (One.within OG_30.out hw (by have := Z_1.out; have := Z_2.out; have := Z_3.out; have := Z_4.out; have := Z_5.out; have := Z_6.out; have := Z_7.out; have := Z_8.out; have := Z_9.out; have := Z_10.out; have := Z_11.out; have := Z_12.out; have := Z_13.out; omega))
  have Z_14 := Lib.hid hw.size
  clear B_30 Ava_30 Avb_30 Rva_30 Rvb_30 OW_30 W_30 OXva_30 Xvb_30 OXvb_30 G_30 OG_30 hw c_OXvb
  have c_OG := OG_31.out.cell
  have c_OW := OW_31.out.cell
  go_wp2_with fail
  refine (eqSubst_same R _ _ _ (Row1.own G_31.out HM.out.symm) W_31.out.at).mono ?_
  rintro e w14 ⟨rfl, hb⟩
  have B_32 := Lib.hid (since_on B_31.out hb)
  have Ava_32 := Lib.hid (One.on Ava_31.out hb)
  have Avb_32 := Lib.hid (One.on Avb_31.out hb)
  have Rva_32 := Lib.hid (Rd.on Rva_31.out hb)
  have Rvb_32 := Lib.hid (Rd.on Rvb_31.out hb)
  have OW_32 := Lib.hid (One.on OW_31.out hb)
  have W_32 := Lib.hid (Rd.on W_31.out hb)
  have OXva_32 := Lib.hid (One.on OXva_31.out hb)
  have OXvb_32 := Lib.hid (One.on OXvb_31.out hb)
  have G_32 := Lib.hid (own_below G_31.out hb)
  have OG_32 := Lib.hid (One.on OG_31.out hb)
  have Z_15 := Lib.hid hb.size
  clear B_31 Ava_31 Avb_31 Rva_31 Rvb_31 OW_31 W_31 OXva_31 OXvb_31 G_31 OG_31 hb
  clear c_OG c_OW
  have c_OG := OG_32.out.cell
  go_wp2_with fail
  have GM := markSubst_any (w5.heap.size + 1) w6.heap.size _ (R.map Value.string) 1 _ (show w14.ownsRow (w5.heap.size + 1) 9 1 (.slice A_v R.length q_v) (R.map Value.string).length (R.map Value.string) by rw [HM.out]; exact G_32.out) LG.out (by intro u hu; obtain ⟨z, _, rfl⟩ := List.mem_map.1 hu; exact ⟨z, rfl⟩) (by omega) (by rw [HM.out]; have := HN.out; omega)
  rw [HM.out] at GM
  refine GM.mono ?_
  clear GM
  rintro e w15 ⟨rfl, ho, hw⟩
  have B_33 := Lib.hid (since_in B_32.out hw (by have := Z_1.out; have := Z_2.out; have := Z_3.out; have := Z_4.out; have := Z_5.out; have := Z_6.out; have := Z_7.out; have := Z_8.out; have := Z_9.out; have := Z_10.out; have := Z_11.out; have := Z_12.out; have := Z_13.out; have := Z_14.out; have := Z_15.out; omega))
  have Ava_33 := Lib.hid (One.within Ava_32.out hw (by have := Z_1.out; have := Z_2.out; have := Z_3.out; have := Z_4.out; have := Z_5.out; have := Z_6.out; have := Z_7.out; have := Z_8.out; have := Z_9.out; have := Z_10.out; have := Z_11.out; have := Z_12.out; have := Z_13.out; have := Z_14.out; have := Z_15.out; omega))
  have Avb_33 := Lib.hid (One.within Avb_32.out hw (by have := Z_1.out; have := Z_2.out; have := Z_3.out; have := Z_4.out; have := Z_5.out; have := Z_6.out; have := Z_7.out; have := Z_8.out; have := Z_9.out; have := Z_10.out; have := Z_11.out; have := Z_12.out; have := Z_13.out; have := Z_14.out; have := Z_15.out; omega))
  have Rva_33 := Lib.hid (Rd.within Rva_32.out hw (by have := Z_1.out; have := Z_2.out; have := Z_3.out; have := Z_4.out; have := Z_5.out; have := Z_6.out; have := Z_7.out; have := Z_8.out; have := Z_9.out; have := Z_10.out; have := Z_11.out; have := Z_12.out; have := Z_13.out; have := Z_14.out; have := Z_15.out; omega))
  have Rvb_33 := Lib.hid (Rd.within Rvb_32.out hw (by have := Z_1.out; have := Z_2.out; have := Z_3.out; have := Z_4.out; have := Z_5.out; have := Z_6.out; have := Z_7.out; have := Z_8.out; have := Z_9.out; have := Z_10.out; have := Z_11.out; have := Z_12.out; have := Z_13.out; have := Z_14.out; have := Z_15.out; omega))
  have OW_33 := Lib.hid (One.within OW_32.out hw (by have := Z_1.out; have := Z_2.out; have := Z_3.out; have := Z_4.out; have := Z_5.out; have := Z_6.out; have := Z_7.out; have := Z_8.out; have := Z_9.out; have := Z_10.out; have := Z_11.out; have := Z_12.out; have := Z_13.out; have := Z_14.out; have := Z_15.out; omega))
  have W_33 := Lib.hid (Rd.within W_32.out hw (by have := Z_1.out; have := Z_2.out; have := Z_3.out; have := Z_4.out; have := Z_5.out; have := Z_6.out; have := Z_7.out; have := Z_8.out; have := Z_9.out; have := Z_10.out; have := Z_11.out; have := Z_12.out; have := Z_13.out; have := Z_14.out; have := Z_15.out; omega))
  have OXva_33 := Lib.hid (One.within OXva_32.out hw (by have := Z_1.out; have := Z_2.out; have := Z_3.out; have := Z_4.out; have := Z_5.out; have := Z_6.out; have := Z_7.out; have := Z_8.out; have := Z_9.out; have := Z_10.out; have := Z_11.out; have := Z_12.out; have := Z_13.out; have := Z_14.out; have := Z_15.out; omega))
  have OXvb_33 := Lib.hid (One.within OXvb_32.out hw (by have := Z_1.out; have := Z_2.out; have := Z_3.out; have := Z_4.out; have := Z_5.out; have := Z_6.out; have := Z_7.out; have := Z_8.out; have := Z_9.out; have := Z_10.out; have := Z_11.out; have := Z_12.out; have := Z_13.out; have := Z_14.out; have := Z_15.out; omega))
  have OG_33 := Lib.hid (One.within OG_32.out hw (by have := Z_1.out; have := Z_2.out; have := Z_3.out; have := Z_4.out; have := Z_5.out; have := Z_6.out; have := Z_7.out; have := Z_8.out; have := Z_9.out; have := Z_10.out; have := Z_11.out; have := Z_12.out; have := Z_13.out; have := Z_14.out; have := Z_15.out; omega))
  have Z_16 := Lib.hid hw.size
  have G_34 := Lib.hid (Rd.new (Row1.own ho (by rw [marksS_len])))
  clear B_32 Ava_32 Avb_32 Rva_32 Rvb_32 OW_32 W_32 OXva_32 OXvb_32 G_32 OG_32 hw ho c_OG
  have c_OG := OG_33.out.cell
  go_wp2_with fail
  refine (heldSubst_any R.length (.slice A_v R.length q_v) 1 _ G_34.out.at (by omega) (by have := HN.out; omega)).mono ?_
  rintro e w16 ⟨rfl, hb⟩
  have B_35 := Lib.hid (since_on B_33.out hb)
  have Ava_35 := Lib.hid (One.on Ava_33.out hb)
  have Avb_35 := Lib.hid (One.on Avb_33.out hb)
  have Rva_35 := Lib.hid (Rd.on Rva_33.out hb)
  have Rvb_35 := Lib.hid (Rd.on Rvb_33.out hb)
  have OW_35 := Lib.hid (One.on OW_33.out hb)
  have W_35 := Lib.hid (Rd.on W_33.out hb)
  have OXva_35 := Lib.hid (One.on OXva_33.out hb)
  have OXvb_35 := Lib.hid (One.on OXvb_33.out hb)
  have OG_35 := Lib.hid (One.on OG_33.out hb)
  have G_35 := Lib.hid (Rd.on G_34.out hb)
  have Z_17 := Lib.hid hb.size
  clear B_33 Ava_33 Avb_33 Rva_33 Rvb_33 OW_33 W_33 OXva_33 OXvb_33 OG_33 G_34 hb c_OG
  have c_Ava := Ava_35.out.cell
  have c_Avb := Avb_35.out.cell
  have c_OW := OW_35.out.cell
  go_wp2_with fail
  go_cut [15, 16] from 94 to 101 (fun p q wx => ∃ (gb : Nat) (B : Option Addr) (cb : Nat), p = .pointer (some ⟨gb, 0, none⟩) ∧ q = .bool b ∧ One wx gb 28 (.slice B R.length cb) ∧ Row1 wx wx.heap.size (.slice B R.length cb) (R.map Value.string) ∧ Below w16.heap.size w16 wx)
  case first =>
    have cz_Ava := ((One.drew Ava_35.out).alloc (.cells #[.slice none 0 0] 28)).cell
    have cy_Ava := (One.alloc Ava_35.out (.cells #[.slice none 0 0] 28)).cell
    have cz_Avb := ((One.drew Avb_35.out).alloc (.cells #[.slice none 0 0] 28)).cell
    have cy_Avb := (One.alloc Avb_35.out (.cells #[.slice none 0 0] 28)).cell
    go_region_with (first | (go_at_call 15; (with_reducible refine (toSubst_any xs va _ (Rd.on Rva_35.out (by first | exact bdrew _ | exact bthen (bdrew _) (bnew _ _))).at hxva).mono ?_); rintro e wA ⟨gA, rfl, ho, hb⟩; have HA1 := Lib.hid (show Below w16.heap.size w16 wA from bthen (by first | exact bdrew _ | exact bthen (bdrew _) (bnew _ _)) hb); have YA1 := Lib.hid (Rd.new (Row1.own ho HLva.out.symm)); (first | (have OB1 := Lib.hid (OB0.out.on hb)) | (have OB1 := Lib.hid ((One.new _ 28 (.slice none 0 0)).on hb)) | (have OB1 := Lib.hid ((One.drew (One.new _ 28 (.slice none 0 0))).on hb)) | skip); have cA1_Ava := (One.on Ava_35.out HA1.out).cell; have cZ1_Ava := ((One.on Ava_35.out HA1.out).alloc (.cells #[.slice none 0 0] 28)).cell; have cA1_Avb := (One.on Avb_35.out HA1.out).cell; have cZ1_Avb := ((One.on Avb_35.out HA1.out).alloc (.cells #[.slice none 0 0] 28)).cell; clear ho hb) | (go_at_call 15; (with_reducible refine (toSubst_any ys vb _ (Rd.on Rvb_35.out (by first | exact HA1.out | exact bthen HA1.out (bnew _ _))).at hxvb).mono ?_); rintro e wB ⟨gB, rfl, ho, hb⟩; have HA2 := Lib.hid (show Below w16.heap.size w16 wB from bthen (by first | exact HA1.out | exact bthen HA1.out (bnew _ _)) hb); have YA2 := Lib.hid (Rd.on YA1.out (bthen (by first | exact Below.refl _ _ | exact bnew _ _) hb)); have YB2 := Lib.hid (Rd.new (Row1.own ho HLvb.out.symm)); (first | (have OB2 := Lib.hid (OB1.out.on hb)) | (have OB2 := Lib.hid ((One.new _ 28 (.slice none 0 0)).on hb)) | (have OB2 := Lib.hid ((One.drew (One.new _ 28 (.slice none 0 0))).on hb)) | skip); have cA2_Ava := (One.on Ava_35.out HA2.out).cell; have cA2_Avb := (One.on Avb_35.out HA2.out).cell; clear ho hb) | (go_at_call 25; refine (H2.out _ _ _ (Rd.on YA2.out (by first | exact Below.refl _ _ | exact bnew _ _)).at (Rd.on YB2.out (by first | exact Below.refl _ _ | exact bnew _ _)).at).mono ?_; rintro e wC ⟨u0, rfl, ho, hb⟩; obtain ⟨A0, q0, rfl⟩ := own_shape ho; have HA3 := Lib.hid (show Below w16.heap.size w16 wC from bthen (by first | exact HA2.out | exact bthen HA2.out (bnew _ _)) hb); (first | (have OB3 := Lib.hid (OB2.out.on hb)) | (have OB3 := Lib.hid ((One.new _ 28 (.slice none 0 0)).on hb)) | (have OB3 := Lib.hid ((One.drew (One.new _ 28 (.slice none 0 0))).on hb)) | skip); have HO3 := Lib.hid ho; have cN := (One.new wC 28 (.slice none 0 0)).cell; have fN := (One.new wC 28 (.slice none 0 0)).frozen; try (have cB := OB3.out.cell; try dsimp only [World.drew] at cB); try (have fB := OB3.out.frozen; try dsimp only [World.drew] at fB); clear ho hb))
    all_goals
      go_wp2_with fail
      go_meet
      case rel =>
        first
          | exact ⟨_, _, _, rfl, rfl, One.new _ _ _, (Rd.on (Rd.new (Row1.own HO3.out HM.out.symm)) (bnew _ _)).at, bthen HA3.out (bnew _ _)⟩
          | exact ⟨_, _, _, rfl, rfl, (One.new _ _ _).set _, Row1.own (own_set (HO3.out.alloc _) (one_ne (One.new _ _ _) (HO3.out.alloc _) types_box) _) HM.out.symm, (bthen HA3.out (bnew _ _)).setCell HA3.out.size _⟩
          | exact ⟨_, _, _, rfl, rfl, OB3.out.set _, Row1.own (own_set HO3.out (one_ne OB3.out HO3.out types_box) _) HM.out.symm, HA3.out.setCell (by first | exact Nat.le_refl _ | exact HA1.out.size | exact HA2.out.size) _⟩
  obtain ⟨w17, rfl⟩ : ∃ x, x = wc := ⟨wc, rfl⟩
  obtain ⟨gt, A_t, q_t, rfl, rfl, ho, hr, hb⟩ := hcut
  have B_36 := Lib.hid (since_on B_35.out hb)
  have Ava_36 := Lib.hid (One.on Ava_35.out hb)
  have Avb_36 := Lib.hid (One.on Avb_35.out hb)
  have Rva_36 := Lib.hid (Rd.on Rva_35.out hb)
  have Rvb_36 := Lib.hid (Rd.on Rvb_35.out hb)
  have OW_36 := Lib.hid (One.on OW_35.out hb)
  have W_36 := Lib.hid (Rd.on W_35.out hb)
  have OXva_36 := Lib.hid (One.on OXva_35.out hb)
  have OXvb_36 := Lib.hid (One.on OXvb_35.out hb)
  have OG_36 := Lib.hid (One.on OG_35.out hb)
  have G_36 := Lib.hid (Rd.on G_35.out hb)
  have Z_18 := Lib.hid hb.size
  have OT_37 := Lib.hid ho
  have T_38 := Lib.hid (Rd.new hr)
  have Z_19 := Lib.hid ho.lt
  clear B_35 Ava_35 Avb_35 Rva_35 Rvb_35 OW_35 W_35 OXva_35 OXvb_35 OG_35 G_35 ho hr hb c_Ava c_Avb c_OW
  have c_OT := OT_37.out.cell
  have c_OW := OW_36.out.cell
  go_wp2_with fail
  refine (eqSubst_same R _ _ _ T_38.out.at W_36.out.at).mono ?_
  rintro e w18 ⟨rfl, hb⟩
  have B_39 := Lib.hid (since_on B_36.out hb)
  have Ava_39 := Lib.hid (One.on Ava_36.out hb)
  have Avb_39 := Lib.hid (One.on Avb_36.out hb)
  have Rva_39 := Lib.hid (Rd.on Rva_36.out hb)
  have Rvb_39 := Lib.hid (Rd.on Rvb_36.out hb)
  have OW_39 := Lib.hid (One.on OW_36.out hb)
  have W_39 := Lib.hid (Rd.on W_36.out hb)
  have OXva_39 := Lib.hid (One.on OXva_36.out hb)
  have OXvb_39 := Lib.hid (One.on OXvb_36.out hb)
  have OG_39 := Lib.hid (One.on OG_36.out hb)
  have G_39 := Lib.hid (Rd.on G_36.out hb)
  have OT_39 := Lib.hid (One.on OT_37.out hb)
  have T_39 := Lib.hid (Rd.on T_38.out hb)
  have Z_20 := Lib.hid hb.size
  clear B_36 Ava_36 Avb_36 Rva_36 Rvb_36 OW_36 W_36 OXva_36 OXvb_36 OG_36 G_36 OT_37 T_38 hb
  clear c_OT c_OW
  have c_OG := OG_39.out.cell
  go_wp2_with fail
  refine (heldSubst_any R.length (.slice A_v R.length q_v) 1 _ G_39.out.at (by omega) (by have := HN.out; omega)).mono ?_
  rintro e w19 ⟨rfl, hb⟩
  have B_40 := Lib.hid (since_on B_39.out hb)
  have Ava_40 := Lib.hid (One.on Ava_39.out hb)
  have Avb_40 := Lib.hid (One.on Avb_39.out hb)
  have Rva_40 := Lib.hid (Rd.on Rva_39.out hb)
  have Rvb_40 := Lib.hid (Rd.on Rvb_39.out hb)
  have OW_40 := Lib.hid (One.on OW_39.out hb)
  have W_40 := Lib.hid (Rd.on W_39.out hb)
  have OXva_40 := Lib.hid (One.on OXva_39.out hb)
  have OXvb_40 := Lib.hid (One.on OXvb_39.out hb)
  have OG_40 := Lib.hid (One.on OG_39.out hb)
  have G_40 := Lib.hid (Rd.on G_39.out hb)
  have OT_40 := Lib.hid (One.on OT_39.out hb)
  have T_40 := Lib.hid (Rd.on T_39.out hb)
  have Z_21 := Lib.hid hb.size
  clear B_39 Ava_39 Avb_39 Rva_39 Rvb_39 OW_39 W_39 OXva_39 OXvb_39 OG_39 G_39 OT_39 T_39 hb c_OG
  go_wp2_with fail
  go_ret
  exact ⟨rfl, B_40.out⟩
end Go.Proofs.Ytglleimmmfnhcaa
