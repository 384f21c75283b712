/- Walks: the laws of ParseSubst and NamedSubst. Conditions: none beyond the hypotheses of each lemma. -/
import Derived.Test.YtciiokegifgbdaaDoorNamed
import Derived.Test.YtciiokegifgbdaaDoorSubM
namespace Go.Proofs.YtciiokegifgbdaaDoor
open Go.RowKit
set_option maxRecDepth 20000

theorem psR_len (s : ByteArray) : (psR s).length ≤ 4 := by
  unfold psR
  split
  · rename_i h; exact (subst_parts h).2.1
  · simp
set_option maxHeartbeats 4000000 in
theorem law_ParseSubst (s : ByteArray) (w : World) (_ : s.size ≤ maxLen) (hm : MaxL w) :
    Calls Tryd.prog 6 #[.string s] w fun e w' => e = .returned (.bool true) ∧ Below w.heap.size w w' := by
  by_cases bigs : 1048576 < s.size
  · clear hm
    go_enter Tryd.func6, Tryd.ntmps6
    go_wp2_with fail
    go_ret
    exact ⟨rfl, Below.refl _ _⟩
  have h1 := fun W => specParseSubst_any s W (by omega)
  have h2 := fun W (hb : Below w.heap.size w W) => implParseSubst_any s W (by omega) (hm.on hb)
  obtain ⟨R, hR⟩ : ∃ R, R = psR s := ⟨_, rfl⟩
  have hN : R.length ≤ 4 := by rw [hR]; exact psR_len _
  obtain ⟨b, hb⟩ : ∃ b, b = psB s := ⟨_, rfl⟩
  rw [← hR, ← hb] at h1 h2
  have HM := Lib.hid (show (R.map Value.string).length = R.length from List.length_map _)
  have H1 := Lib.hid h1; have H2 := Lib.hid h2; have HN := Lib.hid hN
  clear h1 h2 hR hN hb hm
  go_enter Tryd.func6, Tryd.ntmps6
  go_wp2_with fail
  refine (H1.out _).mono ?_
  rintro e w3 ⟨u, rfl, ho, hb⟩
  obtain ⟨A_u, q_u, rfl⟩ := own_shape ho
  have B_7 := Lib.hid hb
  have HB3 := Lib.hid hb.size
  have W_8 := Lib.hid (Rd.new (Row1.own ho HM.out.symm))
  clear ho hb
  have B_9 := Lib.hid (since_on B_7.out (bnew w3 (.cells #[(.slice A_u R.length q_u)] 36)))
  have W_9 := Lib.hid (Rd.on W_8.out (bnew w3 (.cells #[(.slice A_u R.length q_u)] 36)))
  clear B_7 W_8
  have OW_10 := Lib.hid (One.new w3 36 (.slice A_u R.length q_u))
  go_wp2_with fail
  refine (H2.out _ B_9.out).mono ?_
  rintro e w5 ⟨v, rfl, ho, hb⟩
  obtain ⟨A_v, q_v, rfl⟩ := own_shape ho
  have B_15 := Lib.hid (since_on B_9.out hb)
  have W_15 := Lib.hid (Rd.on W_9.out hb)
  have OW_15 := Lib.hid (One.on OW_10.out hb)
  have Z_5 := Lib.hid (by have h := hb.size; simp only [World.size_alloc] at h; exact h)
  rw [World.size_alloc] at ho
  have LG := Lib.hid (fun k hk => (own_lt ho (g := k) hk).2)
  have G_16 := Lib.hid (ho)
  clear B_9 W_9 OW_10 ho hb
  have c_OW := OW_15.out.cell
  have B_17 := Lib.hid (since_on B_15.out (bnew w5 (.cells #[(.slice A_v R.length q_v)] 36)))
  have W_17 := Lib.hid (Rd.on W_15.out (bnew w5 (.cells #[(.slice A_v R.length q_v)] 36)))
  have OW_17 := Lib.hid (One.on OW_15.out (bnew w5 (.cells #[(.slice A_v R.length q_v)] 36)))
  have G_17 := Lib.hid (own_below G_16.out (bnew w5 (.cells #[(.slice A_v R.length q_v)] 36)))
  clear B_15 W_15 OW_15 G_16
  have OG_18 := Lib.hid (One.new w5 36 (.slice A_v R.length q_v))
  have d_W := OW_17.out.cell
  go_wp2_with fail
  refine (eqSubst_same R _ _ _ (Row1.own G_17.out HM.out.symm) W_17.out.at).mono ?_
  rintro e w6 ⟨rfl, hb⟩
  have B_19 := Lib.hid (since_on B_17.out hb)
  have W_19 := Lib.hid (Rd.on W_17.out hb)
  have OW_19 := Lib.hid (One.on OW_17.out hb)
  have G_19 := Lib.hid (own_below G_17.out hb)
  have OG_19 := Lib.hid (One.on OG_18.out hb)
  have Z_6 := Lib.hid (by have h := hb.size; simp only [World.size_alloc] at h; exact h)
  clear B_17 W_17 OW_17 G_17 OG_18 hb
  clear c_OW d_W
  have c_OG := OG_19.out.cell
  go_wp2_with fail
  have GM := markSubst_any (w3.heap.size + 1) w5.heap.size _ (R.map Value.string) 1 _ (show w6.ownsRow (w3.heap.size + 1) 9 1 (.slice A_v R.length q_v) (R.map Value.string).length (R.map Value.string) by rw [HM.out]; exact G_19.out) LG.out (by intro u hu; obtain ⟨z, _, rfl⟩ := List.mem_map.1 hu; exact ⟨z, rfl⟩) (by omega) (by rw [HM.out]; have := HN.out; omega)
  rw [HM.out] at GM
  refine GM.mono ?_
  clear GM
  rintro e w11 ⟨rfl, ho, hw⟩
  have BZ := B_19.out.size
  have WZ := W_19.out.le
  have B_25 := Lib.hid (since_in B_19.out hw (by have h1 := W_19.out.le; have h2 := HB3.out; omega))
  have W_25 := Lib.hid (Rd.within W_19.out hw (by omega))
  have OW_25 := Lib.hid (One.within OW_19.out hw (by omega))
  have OG_25 := Lib.hid (One.within OG_19.out hw (by omega))
  have Z_11 := Lib.hid hw.size
  have G_26 := Lib.hid (Rd.new (Row1.own ho (by rw [marksS_len])))
  clear B_19 W_19 OW_19 G_19 OG_19 hw ho c_OG BZ WZ
  have c_OG := OG_25.out.cell
  go_wp2_with fail
  refine (heldSubst_any R.length (.slice A_v R.length q_v) 1 _ G_26.out.at (by omega) (by have := HN.out; omega)).mono ?_
  rintro e w12 ⟨rfl, hb⟩
  have B_27 := Lib.hid (since_on B_25.out hb)
  have W_27 := Lib.hid (Rd.on W_25.out hb)
  have OW_27 := Lib.hid (One.on OW_25.out hb)
  have OG_27 := Lib.hid (One.on OG_25.out hb)
  have G_27 := Lib.hid (Rd.on G_26.out hb)
  clear B_25 W_25 OW_25 OG_25 G_26 hb c_OG
  go_wp2_with fail
  refine (H2.out _ B_27.out).mono ?_
  rintro e w14 ⟨t, rfl, ho, hb⟩
  obtain ⟨A_t, q_t, rfl⟩ := own_shape ho
  have B_30 := Lib.hid (since_on B_27.out hb)
  have W_30 := Lib.hid (Rd.on W_27.out hb)
  have OW_30 := Lib.hid (One.on OW_27.out hb)
  have OG_30 := Lib.hid (One.on OG_27.out hb)
  have G_30 := Lib.hid (Rd.on G_27.out hb)
  have T_31 := Lib.hid (Rd.new (Row1.own ho HM.out.symm))
  clear B_27 W_27 OW_27 OG_27 G_27 ho hb
  have c_OW := OW_30.out.cell
  have B_32 := Lib.hid (since_on B_30.out (bnew w14 (.cells #[(.slice A_t R.length q_t)] 36)))
  have W_32 := Lib.hid (Rd.on W_30.out (bnew w14 (.cells #[(.slice A_t R.length q_t)] 36)))
  have OW_32 := Lib.hid (One.on OW_30.out (bnew w14 (.cells #[(.slice A_t R.length q_t)] 36)))
  have OG_32 := Lib.hid (One.on OG_30.out (bnew w14 (.cells #[(.slice A_t R.length q_t)] 36)))
  have G_32 := Lib.hid (Rd.on G_30.out (bnew w14 (.cells #[(.slice A_t R.length q_t)] 36)))
  have T_32 := Lib.hid (Rd.on T_31.out (bnew w14 (.cells #[(.slice A_t R.length q_t)] 36)))
  clear B_30 W_30 OW_30 OG_30 G_30 T_31
  have d_W := OW_32.out.cell
  go_wp2_with fail
  refine (eqSubst_same R _ _ _ T_32.out.at W_32.out.at).mono ?_
  rintro e w15 ⟨rfl, hb⟩
  have B_34 := Lib.hid (since_on B_32.out hb)
  have OG_34 := Lib.hid (One.on OG_32.out hb)
  have G_34 := Lib.hid (Rd.on G_32.out hb)
  clear B_32 W_32 OW_32 OG_32 G_32 T_32 hb
  clear c_OW d_W
  have c_OG := OG_34.out.cell
  go_wp2_with fail
  refine (heldSubst_any R.length (.slice A_v R.length q_v) 1 _ G_34.out.at (by omega) (by have := HN.out; omega)).mono ?_
  rintro e w16 ⟨rfl, hb⟩
  have B_35 := Lib.hid (since_on B_34.out hb)
  clear B_34 OG_34 G_34 hb c_OG
  go_wp2_with fail
  go_ret
  exact ⟨rfl, B_35.out⟩
set_option maxHeartbeats 4000000 in
theorem law_NamedSubst (s : ByteArray) (w : World) (_ : s.size ≤ maxLen) (hm : MaxL w) :
    Calls Tryd.prog 7 #[.string s] w fun e w' => e = .returned (.bool true) ∧ Below w.heap.size w w' := by
  by_cases bigs : 1048576 < s.size
  · clear hm
    go_enter Tryd.func7, Tryd.ntmps7
    go_wp2_with fail
    go_ret
    exact ⟨rfl, Below.refl _ _⟩
  have h1 := fun W => specNamedSubst_any s W
  have h2 := fun W (hb : Below w.heap.size w W) => implNamedSubst_any s W (hm.on hb)
  obtain ⟨R, hR⟩ : ∃ R, R = psR (nmT s) := ⟨_, rfl⟩
  have hN : R.length ≤ 4 := by rw [hR]; exact psR_len _
  obtain ⟨b, hb⟩ : ∃ b, b = psB (nmT s) := ⟨_, rfl⟩
  rw [← hR, ← hb] at h1 h2
  have HM := Lib.hid (show (R.map Value.string).length = R.length from List.length_map _)
  have H1 := Lib.hid h1; have H2 := Lib.hid h2; have HN := Lib.hid hN
  clear h1 h2 hR hN hb hm
  go_enter Tryd.func7, Tryd.ntmps7
  go_wp2_with fail
  refine (H1.out _).mono ?_
  rintro e w3 ⟨u, rfl, ho, hb⟩
  obtain ⟨A_u, q_u, rfl⟩ := own_shape ho
  have B_7 := Lib.hid hb
  have HB3 := Lib.hid hb.size
  have W_8 := Lib.hid (Rd.new (Row1.own ho HM.out.symm))
  clear ho hb
  have B_9 := Lib.hid (since_on B_7.out (bnew w3 (.cells #[(.slice A_u R.length q_u)] 36)))
  have W_9 := Lib.hid (Rd.on W_8.out (bnew w3 (.cells #[(.slice A_u R.length q_u)] 36)))
  clear B_7 W_8
  have OW_10 := Lib.hid (One.new w3 36 (.slice A_u R.length q_u))
  go_wp2_with fail
  refine (H2.out _ B_9.out).mono ?_
  rintro e w5 ⟨v, rfl, ho, hb⟩
  obtain ⟨A_v, q_v, rfl⟩ := own_shape ho
  have B_15 := Lib.hid (since_on B_9.out hb)
  have W_15 := Lib.hid (Rd.on W_9.out hb)
  have OW_15 := Lib.hid (One.on OW_10.out hb)
  have Z_5 := Lib.hid (by have h := hb.size; simp only [World.size_alloc] at h; exact h)
  rw [World.size_alloc] at ho
  have LG := Lib.hid (fun k hk => (own_lt ho (g := k) hk).2)
  have G_16 := Lib.hid (ho)
  clear B_9 W_9 OW_10 ho hb
  have c_OW := OW_15.out.cell
  have B_17 := Lib.hid (since_on B_15.out (bnew w5 (.cells #[(.slice A_v R.length q_v)] 36)))
  have W_17 := Lib.hid (Rd.on W_15.out (bnew w5 (.cells #[(.slice A_v R.length q_v)] 36)))
  have OW_17 := Lib.hid (One.on OW_15.out (bnew w5 (.cells #[(.slice A_v R.length q_v)] 36)))
  have G_17 := Lib.hid (own_below G_16.out (bnew w5 (.cells #[(.slice A_v R.length q_v)] 36)))
  clear B_15 W_15 OW_15 G_16
  have OG_18 := Lib.hid (One.new w5 36 (.slice A_v R.length q_v))
  have d_W := OW_17.out.cell
  go_wp2_with fail
  refine (eqSubst_same R _ _ _ (Row1.own G_17.out HM.out.symm) W_17.out.at).mono ?_
  rintro e w6 ⟨rfl, hb⟩
  have B_19 := Lib.hid (since_on B_17.out hb)
  have W_19 := Lib.hid (Rd.on W_17.out hb)
  have OW_19 := Lib.hid (One.on OW_17.out hb)
  have G_19 := Lib.hid (own_below G_17.out hb)
  have OG_19 := Lib.hid (One.on OG_18.out hb)
  have Z_6 := Lib.hid (by have h := hb.size; simp only [World.size_alloc] at h; exact h)
  clear B_17 W_17 OW_17 G_17 OG_18 hb
  clear c_OW d_W
  have c_OG := OG_19.out.cell
  go_wp2_with fail
  have GM := markSubst_any (w3.heap.size + 1) w5.heap.size _ (R.map Value.string) 1 _ (show w6.ownsRow (w3.heap.size + 1) 9 1 (.slice A_v R.length q_v) (R.map Value.string).length (R.map Value.string) by rw [HM.out]; exact G_19.out) LG.out (by intro u hu; obtain ⟨z, _, rfl⟩ := List.mem_map.1 hu; exact ⟨z, rfl⟩) (by omega) (by rw [HM.out]; have := HN.out; omega)
  rw [HM.out] at GM
  refine GM.mono ?_
  clear GM
  rintro e w11 ⟨rfl, ho, hw⟩
  have BZ := B_19.out.size
  have WZ := W_19.out.le
  have B_25 := Lib.hid (since_in B_19.out hw (by have h1 := W_19.out.le; have h2 := HB3.out; omega))
  have W_25 := Lib.hid (Rd.within W_19.out hw (by omega))
  have OW_25 := Lib.hid (One.within OW_19.out hw (by omega))
  have OG_25 := Lib.hid (One.within OG_19.out hw (by omega))
  have Z_11 := Lib.hid hw.size
  have G_26 := Lib.hid (Rd.new (Row1.own ho (by rw [marksS_len])))
  clear B_19 W_19 OW_19 G_19 OG_19 hw ho c_OG BZ WZ
  have c_OG := OG_25.out.cell
  go_wp2_with fail
  refine (heldSubst_any R.length (.slice A_v R.length q_v) 1 _ G_26.out.at (by omega) (by have := HN.out; omega)).mono ?_
  rintro e w12 ⟨rfl, hb⟩
  have B_27 := Lib.hid (since_on B_25.out hb)
  have W_27 := Lib.hid (Rd.on W_25.out hb)
  have OW_27 := Lib.hid (One.on OW_25.out hb)
  have OG_27 := Lib.hid (One.on OG_25.out hb)
  have G_27 := Lib.hid (Rd.on G_26.out hb)
  clear B_25 W_25 OW_25 OG_25 G_26 hb c_OG
  go_wp2_with fail
  refine (H2.out _ B_27.out).mono ?_
  rintro e w14 ⟨t, rfl, ho, hb⟩
  obtain ⟨A_t, q_t, rfl⟩ := own_shape ho
  have B_30 := Lib.hid (since_on B_27.out hb)
  have W_30 := Lib.hid (Rd.on W_27.out hb)
  have OW_30 := Lib.hid (One.on OW_27.out hb)
  have OG_30 := Lib.hid (One.on OG_27.out hb)
  have G_30 := Lib.hid (Rd.on G_27.out hb)
  have T_31 := Lib.hid (Rd.new (Row1.own ho HM.out.symm))
  clear B_27 W_27 OW_27 OG_27 G_27 ho hb
  have c_OW := OW_30.out.cell
  have B_32 := Lib.hid (since_on B_30.out (bnew w14 (.cells #[(.slice A_t R.length q_t)] 36)))
  have W_32 := Lib.hid (Rd.on W_30.out (bnew w14 (.cells #[(.slice A_t R.length q_t)] 36)))
  have OW_32 := Lib.hid (One.on OW_30.out (bnew w14 (.cells #[(.slice A_t R.length q_t)] 36)))
  have OG_32 := Lib.hid (One.on OG_30.out (bnew w14 (.cells #[(.slice A_t R.length q_t)] 36)))
  have G_32 := Lib.hid (Rd.on G_30.out (bnew w14 (.cells #[(.slice A_t R.length q_t)] 36)))
  have T_32 := Lib.hid (Rd.on T_31.out (bnew w14 (.cells #[(.slice A_t R.length q_t)] 36)))
  clear B_30 W_30 OW_30 OG_30 G_30 T_31
  have d_W := OW_32.out.cell
  go_wp2_with fail
  refine (eqSubst_same R _ _ _ T_32.out.at W_32.out.at).mono ?_
  rintro e w15 ⟨rfl, hb⟩
  have B_34 := Lib.hid (since_on B_32.out hb)
  have OG_34 := Lib.hid (One.on OG_32.out hb)
  have G_34 := Lib.hid (Rd.on G_32.out hb)
  clear B_32 W_32 OW_32 OG_32 G_32 T_32 hb
  clear c_OW d_W
  have c_OG := OG_34.out.cell
  go_wp2_with fail
  refine (heldSubst_any R.length (.slice A_v R.length q_v) 1 _ G_34.out.at (by omega) (by have := HN.out; omega)).mono ?_
  rintro e w16 ⟨rfl, hb⟩
  have B_35 := Lib.hid (since_on B_34.out hb)
  clear B_34 OG_34 G_34 hb c_OG
  go_wp2_with fail
  go_ret
  exact ⟨rfl, B_35.out⟩
end Go.Proofs.YtciiokegifgbdaaDoor
