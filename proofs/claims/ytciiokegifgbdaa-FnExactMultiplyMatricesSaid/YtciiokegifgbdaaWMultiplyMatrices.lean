/- Walks: the law of MultiplyMatrices. -/
import Derived.Test.YtciiokegifgbdaaMul2
namespace Go.Proofs.Ytciiokegifgbdaa
open Go.RowKit
set_option maxRecDepth 20000

theorem totL_all {N : Nat} : ∀ {l : List (List Int)}, (∀ r ∈ l, r.length = N) → totL l = l.length * N
  | [], _ => by simp [totL]
  | x :: l, h => by
    rw [totL, totL_all (fun r hr => h r (List.mem_cons_of_mem _ hr)), h x List.mem_cons_self, List.length_cons, Nat.add_mul, Nat.one_mul, Nat.add_comm]
theorem mmR_len (a b : List (List Int)) : (mmR a b).length ≤ 4 ∧ totL (mmR a b) ≤ 16 := by
  cases h : mmB a b
  · rw [(mm_no h).2]; simp [totL]
  · rw [(mm_yes h).2]
    unfold mmB at h
    simp only [Bool.and_eq_true, decide_eq_true_eq] at h
    obtain ⟨⟨h1, h2⟩, h3⟩ := h
    have h4 := (sqB_parts h1).2.1
    have h5 : ∀ r ∈ mulM a b, r.length = b.length := by
      intro r hr
      obtain ⟨x, _, rfl⟩ := List.mem_map.1 hr
      exact mulRow_len x b
    rw [totL_all h5, mulM_len]
    exact ⟨h4, Nat.mul_le_mul h4 (by omega : b.length ≤ 4)⟩
set_option maxHeartbeats 4000000 in
theorem law_MultiplyMatrices (va : Value) (a : List (List Int)) (vb : Value) (b : List (List Int)) (w : World) (ha : Row2 w w.heap.size va a) (_ : ∀ x ∈ a, ∀ n ∈ x, (Lit.int .i64 n).wf = true) (hb : Row2 w w.heap.size vb b) (_ : ∀ x ∈ b, ∀ n ∈ x, (Lit.int .i64 n).wf = true) :
    Calls Try.prog 5 #[va, vb] w fun e w' => e = .returned (.bool true) ∧ Below w.heap.size w w' := by
  have HSA := Lib.hid (szIntSS_any a va 1048576 w _ ha (by omega) (by omega))
  have hle1 := szM_le a 1048576
  by_cases hneg0 : szM a 1048576 < 0
  · go_enter Try.func5, Try.ntmps5
    go_wp2_with fail
    (with_reducible refine HSA.out.mono ?_)
    rintro e w' ⟨rfl, hww⟩
    cases hww.symm
    go_wp2_with fail
    go_ret
    exact ⟨rfl, Below.refl _ _⟩
  have hN1 := szM_nonneg (show 0 ≤ szM a 1048576 by omega)
  have HSB := Lib.hid (szIntSS_any b vb (szM a 1048576) w _ hb (by omega) (by omega))
  have hle2 := szM_le b (szM a 1048576)
  by_cases hneg1 : szM b (szM a 1048576) < 0
  · go_enter Try.func5, Try.ntmps5
    go_wp2_with fail
    (with_reducible refine HSA.out.mono ?_)
    rintro e w' ⟨rfl, hww⟩
    cases hww.symm
    go_wp2_with fail
    (with_reducible refine HSB.out.mono ?_)
    rintro e w' ⟨rfl, hww⟩
    cases hww.symm
    go_wp2_with fail
    go_ret
    exact ⟨rfl, Below.refl _ _⟩
  have hN2 := szM_nonneg (show 0 ≤ szM b (szM a 1048576) by omega)
  have hxa : a.length ≤ 1048576 := by omega
  have hta : totL a ≤ 1048576 := by omega
  have hxb : b.length ≤ 1048576 := by omega
  have htb : totL b ≤ 1048576 := by omega
  have h1 := fun (v v2 : Value) (W : World) (hR : Row2 W W.heap.size v a) (hR2 : Row2 W W.heap.size v2 b) => specMultiplyMatrices_any a b v v2 W hR hR2
  have h2 := fun (v v2 : Value) (W : World) (hR : Row2 W W.heap.size v a) (hR2 : Row2 W W.heap.size v2 b) => implMultiplyMatrices_any a b v v2 W hR hR2
  obtain ⟨R, hR⟩ : ∃ R, R = mmR a b := ⟨_, rfl⟩
  have hN : R.length ≤ 4 ∧ totL R ≤ 16 := by rw [hR]; exact mmR_len a b
  obtain ⟨bo, hbo⟩ : ∃ bo, bo = mmB a b := ⟨_, rfl⟩
  rw [← hR, ← hbo] at h1 h2
  have H1 := Lib.hid h1; have H2 := Lib.hid h2; have HN := Lib.hid hN
  have B_0 := Lib.hid (Below.refl w.heap.size w)
  have Ra_0 := Lib.hid (Rd2.new ha); have Rb_0 := Lib.hid (Rd2.new hb)
  obtain ⟨s1, hs1⟩ : ∃ s1, s1 = szM a 1048576 := ⟨_, rfl⟩
  obtain ⟨s2, hs2⟩ : ∃ s2, s2 = szM b s1 := ⟨_, rfl⟩
  rw [← hs1] at HSA HSB hneg0 hneg1
  rw [← hs2] at HSB hneg1
  clear h1 h2 hR hN hbo ha hb hle1 hle2 hN1 hN2 hs1 hs2
  go_enter Try.func5, Try.ntmps5
  go_wp2_with fail
  (with_reducible refine HSA.out.mono ?_)
  rintro e w' ⟨rfl, hww⟩
  cases hww.symm
  go_wp2_with fail
  (with_reducible refine HSB.out.mono ?_)
  rintro e w' ⟨rfl, hww⟩
  cases hww.symm
  go_wp2_with fail
  refine (toIntSS_any a va _ (Ra_0.out.at) hxa hta).mono ?_
  rintro e w1 ⟨g_w1, rfl, ho, hb⟩
  have B_1 := Lib.hid (since_on B_0.out hb)
  have Ra_1 := Lib.hid (Rd2.on Ra_0.out hb)
  have Rb_1 := Lib.hid (Rd2.on Rb_0.out hb)
  have Z_1 := Lib.hid hb.size
  have Ya_2 := Lib.hid (Rd2.new ho.row2)
  clear B_0 Ra_0 Rb_0 ho hb
  go_wp2_with fail
  refine (toIntSS_any b vb _ (Rb_1.out.at) hxb htb).mono ?_
  rintro e w2 ⟨g_w2, rfl, ho, hb⟩
  have B_3 := Lib.hid (since_on B_1.out hb)
  have Ra_3 := Lib.hid (Rd2.on Ra_1.out hb)
  have Rb_3 := Lib.hid (Rd2.on Rb_1.out hb)
  have Ya_3 := Lib.hid (Rd2.on Ya_2.out hb)
  have Z_2 := Lib.hid hb.size
  have Yb_4 := Lib.hid (Rd2.new ho.row2)
  clear B_1 Ra_1 Rb_1 Ya_2 ho hb
  go_wp2_with fail
  refine (H1.out _ _ _ Ya_3.out.at Yb_4.out.at).mono ?_
  rintro e w3 ⟨u, rfl, ho, hb⟩
  have B_5 := Lib.hid (since_on B_3.out hb)
  have Ra_5 := Lib.hid (Rd2.on Ra_3.out hb)
  have Rb_5 := Lib.hid (Rd2.on Rb_3.out hb)
  have Ya_5 := Lib.hid (Rd2.on Ya_3.out hb)
  have Yb_5 := Lib.hid (Rd2.on Yb_4.out hb)
  have Z_3 := Lib.hid hb.size
  have W_6 := Lib.hid (Rd2.new ho.row2)
  clear B_3 Ra_3 Rb_3 Ya_3 Yb_4 ho hb
  go_wp2_with fail
  refine (toIntSS_any a va _ (Ra_5.out.at) hxa hta).mono ?_
  rintro e w4 ⟨g_w4, rfl, ho, hb⟩
  have B_7 := Lib.hid (since_on B_5.out hb)
  have Ra_7 := Lib.hid (Rd2.on Ra_5.out hb)
  have Rb_7 := Lib.hid (Rd2.on Rb_5.out hb)
  have W_7 := Lib.hid (Rd2.on W_6.out hb)
  have Z_4 := Lib.hid hb.size
  have Xa_8 := Lib.hid (ho)
  clear B_5 Ra_5 Rb_5 W_6 ho hb
  go_wp2_with fail
  refine (toIntSS_any b vb _ (Rb_7.out.at) hxb htb).mono ?_
  rintro e w5 ⟨g_w5, rfl, ho, hb⟩
  have B_9 := Lib.hid (since_on B_7.out hb)
  have Ra_9 := Lib.hid (Rd2.on Ra_7.out hb)
  have Rb_9 := Lib.hid (Rd2.on Rb_7.out hb)
  have W_9 := Lib.hid (Rd2.on W_7.out hb)
  have Xa_9 := Lib.hid (Own2.below Xa_8.out hb)
  have Z_5 := Lib.hid hb.size
  have Xb_10 := Lib.hid (ho)
  clear B_7 Ra_7 Rb_7 W_7 Xa_8 ho hb
  go_wp2_with fail
  refine (H2.out _ _ _ Xa_9.out.row2 Xb_10.out.row2).mono ?_
  rintro e w6 ⟨v, rfl, ho, hb⟩
  have B_11 := Lib.hid (since_on B_9.out hb)
  have Ra_11 := Lib.hid (Rd2.on Ra_9.out hb)
  have Rb_11 := Lib.hid (Rd2.on Rb_9.out hb)
  have W_11 := Lib.hid (Rd2.on W_9.out hb)
  have Xa_11 := Lib.hid (Own2.below Xa_9.out hb)
  have Xb_11 := Lib.hid (Own2.below Xb_10.out hb)
  have Z_6 := Lib.hid hb.size
  have G_12 := Lib.hid (ho)
  clear B_9 Ra_9 Rb_9 W_9 Xa_9 Xb_10 ho hb
  go_wp2_with fail
  refine (eqIntSS_same R _ _ _ _ (Rd2.new G_12.out.row2).row W_11.out.at).mono ?_
  rintro e w7 ⟨rfl, nn, hnn⟩
  have hb := show Below _ _ w7 from (by rw [hnn]; exact bdrewN _ nn)
  have B_13 := Lib.hid (since_on B_11.out hb)
  have Ra_13 := Lib.hid (Rd2.on Ra_11.out hb)
  have Rb_13 := Lib.hid (Rd2.on Rb_11.out hb)
  have W_13 := Lib.hid (Rd2.on W_11.out hb)
  have Xa_13 := Lib.hid (Own2.below Xa_11.out hb)
  have Xb_13 := Lib.hid (Own2.below Xb_11.out hb)
  have G_13 := Lib.hid (Own2.below G_12.out hb)
  have Z_7 := Lib.hid hb.size
  clear B_11 Ra_11 Rb_11 W_11 Xa_11 Xb_11 G_12 hb hnn
  go_wp2_with fail
  refine (toIntSS_any a va _ (Ra_13.out.at) hxa hta).mono ?_
  rintro e w8 ⟨g_w8, rfl, ho, hb⟩
  have B_14 := Lib.hid (since_on B_13.out hb)
  have Ra_14 := Lib.hid (Rd2.on Ra_13.out hb)
  have Rb_14 := Lib.hid (Rd2.on Rb_13.out hb)
  have W_14 := Lib.hid (Rd2.on W_13.out hb)
  have Xa_14 := Lib.hid (Own2.below Xa_13.out hb)
  have Xb_14 := Lib.hid (Own2.below Xb_13.out hb)
  have G_14 := Lib.hid (Own2.below G_13.out hb)
  have Z_8 := Lib.hid hb.size
  have Ya_15 := Lib.hid (Rd2.new ho.row2)
  clear B_13 Ra_13 Rb_13 W_13 Xa_13 Xb_13 G_13 ho hb
  go_wp2_with fail
  refine (eqIntSS_same a _ _ _ _ (Rd2.new Xa_14.out.row2).row Ya_15.out.at).mono ?_
  rintro e w9 ⟨rfl, nn, hnn⟩
  have hb := show Below _ _ w9 from (by rw [hnn]; exact bdrewN _ nn)
  have B_16 := Lib.hid (since_on B_14.out hb)
  have Ra_16 := Lib.hid (Rd2.on Ra_14.out hb)
  have Rb_16 := Lib.hid (Rd2.on Rb_14.out hb)
  have W_16 := Lib.hid (Rd2.on W_14.out hb)
  have Xa_16 := Lib.hid (Own2.below Xa_14.out hb)
  have Xb_16 := Lib.hid (Own2.below Xb_14.out hb)
  have G_16 := Lib.hid (Own2.below G_14.out hb)
  have Z_9 := Lib.hid hb.size
  clear B_14 Ra_14 Rb_14 W_14 Xa_14 Xb_14 G_14 Ya_15 hb hnn
  go_wp2_with fail
  refine (toIntSS_any b vb _ (Rb_16.out.at) hxb htb).mono ?_
  rintro e w10 ⟨g_w10, rfl, ho, hb⟩
  have B_17 := Lib.hid (since_on B_16.out hb)
  have Ra_17 := Lib.hid (Rd2.on Ra_16.out hb)
  have Rb_17 := Lib.hid (Rd2.on Rb_16.out hb)
  have W_17 := Lib.hid (Rd2.on W_16.out hb)
  have Xa_17 := Lib.hid (Own2.below Xa_16.out hb)
  have Xb_17 := Lib.hid (Own2.below Xb_16.out hb)
  have G_17 := Lib.hid (Own2.below G_16.out hb)
  have Z_10 := Lib.hid hb.size
  have Yb_18 := Lib.hid (Rd2.new ho.row2)
  clear B_16 Ra_16 Rb_16 W_16 Xa_16 Xb_16 G_16 ho hb
  go_wp2_with fail
  refine (eqIntSS_same b _ _ _ _ (Rd2.new Xb_17.out.row2).row Yb_18.out.at).mono ?_
  rintro e w11 ⟨rfl, nn, hnn⟩
  have hb := show Below _ _ w11 from (by rw [hnn]; exact bdrewN _ nn)
  have B_19 := Lib.hid (since_on B_17.out hb)
  have Ra_19 := Lib.hid (Rd2.on Ra_17.out hb)
  have Rb_19 := Lib.hid (Rd2.on Rb_17.out hb)
  have W_19 := Lib.hid (Rd2.on W_17.out hb)
  have Xa_19 := Lib.hid (Own2.below Xa_17.out hb)
  have Xb_19 := Lib.hid (Own2.below Xb_17.out hb)
  have G_19 := Lib.hid (Own2.below G_17.out hb)
  have Z_11 := Lib.hid hb.size
  clear B_17 Ra_17 Rb_17 W_17 Xa_17 Xb_17 G_17 Yb_18 hb hnn
  go_wp2_with fail
  have GM := markIntSS_any w3.heap.size w4.heap.size (.slice (some ⟨g_w4, 0, none⟩) a.length a.length) a 1 _ Xa_19.out (by omega) (by have := HN.out; omega) (by have := HN.out; omega)
  obtain ⟨kka, hkk⟩ : ∃ kk : Int, kk = 1 + totL a := ⟨_, rfl⟩
  rw [← hkk] at GM
  have hka : 0 ≤ kka ∧ kka ≤ 1500000 := by omega
  obtain ⟨hka, hja⟩ := hka
  clear hkk
  refine GM.mono ?_
  clear GM
  rintro e w12 ⟨rfl, ho, hw⟩
  have B_20 := Lib.hid (since_in B_19.out hw (by have := Z_1.out; have := Z_2.out; have := Z_3.out; have := Z_4.out; have := Z_5.out; have := Z_6.out; have := Z_7.out; have := Z_8.out; have := Z_9.out; have := Z_10.out; have := Z_11.out; omega))
  have Ra_20 := Lib.hid (Rd2.within Ra_19.out hw (by have := Z_1.out; have := Z_2.out; have := Z_3.out; have := Z_4.out; have := Z_5.out; have := Z_6.out; have := Z_7.out; have := Z_8.out; have := Z_9.out; have := Z_10.out; have := Z_11.out; omega))
  have Rb_20 := Lib.hid (Rd2.within Rb_19.out hw (by have := Z_1.out; have := Z_2.out; have := Z_3.out; have := Z_4.out; have := Z_5.out; have := Z_6.out; have := Z_7.out; have := Z_8.out; have := Z_9.out; have := Z_10.out; have := Z_11.out; omega))
  have W_20 := Lib.hid (Rd2.within W_19.out hw (by have := Z_1.out; have := Z_2.out; have := Z_3.out; have := Z_4.out; have := Z_5.out; have := Z_6.out; have := Z_7.out; have := Z_8.out; have := Z_9.out; have := Z_10.out; have := Z_11.out; omega))
  have Xb_20 := Lib.hid (Own2.within Xb_19.out hw (by have := Z_1.out; have := Z_2.out; have := Z_3.out; have := Z_4.out; have := Z_5.out; have := Z_6.out; have := Z_7.out; have := Z_8.out; have := Z_9.out; have := Z_10.out; have := Z_11.out; omega))
  have G_20 := Lib.hid (Own2.within G_19.out hw (by have := Z_1.out; have := Z_2.out; have := Z_3.out; have := Z_4.out; have := Z_5.out; have := Z_6.out; have := Z_7.out; have := Z_8.out; have := Z_9.out; have := Z_10.out; have := Z_11.out; omega))
  have Z_12 := Lib.hid hw.size
  clear B_19 Ra_19 Rb_19 W_19 Xa_19 Xb_19 G_19 hw ho
  go_wp2_with fail
  have GM := markIntSS_any w4.heap.size w5.heap.size (.slice (some ⟨g_w5, 0, none⟩) b.length b.length) b kka _ Xb_20.out (by omega) (by have := HN.out; omega) (by have := HN.out; omega)
  obtain ⟨kkb, hkk⟩ : ∃ kk : Int, kk = kka + totL b := ⟨_, rfl⟩
  rw [← hkk] at GM
  have hkb : 0 ≤ kkb ∧ kkb ≤ 3000000 := by omega
  obtain ⟨hkb, hjb⟩ := hkb
  clear hkk
  refine GM.mono ?_
  clear GM
  rintro e w13 ⟨rfl, ho, hw⟩
  have B_21 := Lib.hid (since_in B_20.out hw (by have := Z_1.out; have := Z_2.out; have := Z_3.out; have := Z_4.out; have := Z_5.out; have := Z_6.out; have := Z_7.out; have := Z_8.out; have := Z_9.out; have := Z_10.out; have := Z_11.out; have := Z_12.out; omega))
  have Ra_21 := Lib.hid (Rd2.within Ra_20.out hw (by have := Z_1.out; have := Z_2.out; have := Z_3.out; have := Z_4.out; have := Z_5.out; have := Z_6.out; have := Z_7.out; have := Z_8.out; have := Z_9.out; have := Z_10.out; have := Z_11.out; have := Z_12.out; omega))
  have Rb_21 := Lib.hid (Rd2.within Rb_20.out hw (by have := Z_1.out; have := Z_2.out; have := Z_3.out; have := Z_4.out; have := Z_5.out; have := Z_6.out; have := Z_7.out; have := Z_8.out; have := Z_9.out; have := Z_10.out; have := Z_11.out; have := Z_12.out; omega))
  have W_21 := Lib.hid (Rd2.within W_20.out hw (by have := Z_1.out; have := Z_2.out; have := Z_3.out; have := Z_4.out; have := Z_5.out; have := Z_6.out; have := Z_7.out; have := Z_8.out; have := Z_9.out; have := Z_10.out; have := Z_11.out; have := Z_12.out; omega))
  have G_21 := Lib.hid (Own2.within G_20.out hw (by have := Z_1.out; have := Z_2.out; have := Z_3.out; have := Z_4.out; have := Z_5.out; have := Z_6.out; have := Z_7.out; have := Z_8.out; have := Z_9.out; have := Z_10.out; have := Z_11.out; have := Z_12.out; omega))
  have Z_13 := Lib.hid hw.size
  clear B_20 Ra_20 Rb_20 W_20 Xb_20 G_20 hw ho
  go_wp2_with fail
  refine (eqIntSS_same R _ _ _ _ (Rd2.new G_21.out.row2).row W_21.out.at).mono ?_
  rintro e w14 ⟨rfl, nn, hnn⟩
  have hb := show Below _ _ w14 from (by rw [hnn]; exact bdrewN _ nn)
  have B_22 := Lib.hid (since_on B_21.out hb)
  have Ra_22 := Lib.hid (Rd2.on Ra_21.out hb)
  have Rb_22 := Lib.hid (Rd2.on Rb_21.out hb)
  have W_22 := Lib.hid (Rd2.on W_21.out hb)
  have G_22 := Lib.hid (Own2.below G_21.out hb)
  have Z_14 := Lib.hid hb.size
  clear B_21 Ra_21 Rb_21 W_21 G_21 hb hnn
  go_wp2_with fail
  have GM := markIntSS_any w5.heap.size w6.heap.size v R 1 _ G_22.out (by omega) (by have := HN.out; omega) (by have := HN.out; omega)
  refine GM.mono ?_
  clear GM
  rintro e w15 ⟨rfl, ho, hw⟩
  have B_23 := Lib.hid (since_in B_22.out hw (by have := Z_1.out; have := Z_2.out; have := Z_3.out; have := Z_4.out; have := Z_5.out; have := Z_6.out; have := Z_7.out; have := Z_8.out; have := Z_9.out; have := Z_10.out; have := Z_11.out; have := Z_12.out; have := Z_13.out; have := Z_14.out; omega))
  have Ra_23 := Lib.hid (Rd2.within Ra_22.out hw (by have := Z_1.out; have := Z_2.out; have := Z_3.out; have := Z_4.out; have := Z_5.out; have := Z_6.out; have := Z_7.out; have := Z_8.out; have := Z_9.out; have := Z_10.out; have := Z_11.out; have := Z_12.out; have := Z_13.out; have := Z_14.out; omega))
  have Rb_23 := Lib.hid (Rd2.within Rb_22.out hw (by have := Z_1.out; have := Z_2.out; have := Z_3.out; have := Z_4.out; have := Z_5.out; have := Z_6.out; have := Z_7.out; have := Z_8.out; have := Z_9.out; have := Z_10.out; have := Z_11.out; have := Z_12.out; have := Z_13.out; have := Z_14.out; omega))
  have W_23 := Lib.hid (Rd2.within W_22.out hw (by have := Z_1.out; have := Z_2.out; have := Z_3.out; have := Z_4.out; have := Z_5.out; have := Z_6.out; have := Z_7.out; have := Z_8.out; have := Z_9.out; have := Z_10.out; have := Z_11.out; have := Z_12.out; have := Z_13.out; have := Z_14.out; omega))
  have Z_15 := Lib.hid hw.size
  have G_24 := Lib.hid (Rd2.new ho.row2)
  clear B_22 Ra_22 Rb_22 W_22 G_22 hw ho
  go_wp2_with fail
  refine (heldIntSS_any R v 1 _ _ G_24.out.at (by omega) (by have := HN.out; omega) (by have := HN.out; omega)).mono ?_
  rintro e w16 ⟨rfl, nn, hnn⟩
  have hb := show Below _ _ w16 from (by rw [hnn]; exact bdrewN _ nn)
  have B_25 := Lib.hid (since_on B_23.out hb)
  have Ra_25 := Lib.hid (Rd2.on Ra_23.out hb)
  have Rb_25 := Lib.hid (Rd2.on Rb_23.out hb)
  have W_25 := Lib.hid (Rd2.on W_23.out hb)
  have G_25 := Lib.hid (Rd2.on G_24.out hb)
  have Z_16 := Lib.hid hb.size
  clear B_23 Ra_23 Rb_23 W_23 G_24 hb hnn
  go_wp2_with fail
  refine (toIntSS_any a va _ (Ra_25.out.at) hxa hta).mono ?_
  rintro e w17 ⟨g_w17, rfl, ho, hb⟩
  have B_26 := Lib.hid (since_on B_25.out hb)
  have Ra_26 := Lib.hid (Rd2.on Ra_25.out hb)
  have Rb_26 := Lib.hid (Rd2.on Rb_25.out hb)
  have W_26 := Lib.hid (Rd2.on W_25.out hb)
  have G_26 := Lib.hid (Rd2.on G_25.out hb)
  have Z_17 := Lib.hid hb.size
  have Ya_27 := Lib.hid (Rd2.new ho.row2)
  clear B_25 Ra_25 Rb_25 W_25 G_25 ho hb
  go_wp2_with fail
  refine (toIntSS_any b vb _ (Rb_26.out.at) hxb htb).mono ?_
  rintro e w18 ⟨g_w18, rfl, ho, hb⟩
  have B_28 := Lib.hid (since_on B_26.out hb)
  have Ra_28 := Lib.hid (Rd2.on Ra_26.out hb)
  have Rb_28 := Lib.hid (Rd2.on Rb_26.out hb)
  have W_28 := Lib.hid (Rd2.on W_26.out hb)
  have G_28 := Lib.hid (Rd2.on G_26.out hb)
  have Ya_28 := Lib.hid (Rd2.on Ya_27.out hb)
  have Z_18 := Lib.hid hb.size
  have Yb_29 := Lib.hid (Rd2.new ho.row2)
  clear B_26 Ra_26 Rb_26 W_26 G_26 Ya_27 ho hb
  go_wp2_with fail
  refine (H2.out _ _ _ Ya_28.out.at Yb_29.out.at).mono ?_
  rintro e w19 ⟨t, rfl, ho, hb⟩
  have B_30 := Lib.hid (since_on B_28.out hb)
  have Ra_30 := Lib.hid (Rd2.on Ra_28.out hb)
  have Rb_30 := Lib.hid (Rd2.on Rb_28.out hb)
  have W_30 := Lib.hid (Rd2.on W_28.out hb)
  have G_30 := Lib.hid (Rd2.on G_28.out hb)
  have Ya_30 := Lib.hid (Rd2.on Ya_28.out hb)
  have Yb_30 := Lib.hid (Rd2.on Yb_29.out hb)
  have Z_19 := Lib.hid hb.size
  have T_31 := Lib.hid (Rd2.new ho.row2)
  clear B_28 Ra_28 Rb_28 W_28 G_28 Ya_28 Yb_29 ho hb
  go_wp2_with fail
  refine (eqIntSS_same R _ _ _ _ T_31.out.at W_30.out.at).mono ?_
  rintro e w20 ⟨rfl, nn, hnn⟩
  have hb := show Below _ _ w20 from (by rw [hnn]; exact bdrewN _ nn)
  have B_32 := Lib.hid (since_on B_30.out hb)
  have Ra_32 := Lib.hid (Rd2.on Ra_30.out hb)
  have Rb_32 := Lib.hid (Rd2.on Rb_30.out hb)
  have W_32 := Lib.hid (Rd2.on W_30.out hb)
  have G_32 := Lib.hid (Rd2.on G_30.out hb)
  have T_32 := Lib.hid (Rd2.on T_31.out hb)
  have Z_20 := Lib.hid hb.size
  clear B_30 Ra_30 Rb_30 W_30 G_30 T_31 hb hnn
  go_wp2_with fail
  refine (heldIntSS_any R v 1 _ _ G_32.out.at (by omega) (by have := HN.out; omega) (by have := HN.out; omega)).mono ?_
  rintro e w21 ⟨rfl, nn, hnn⟩
  have hb := show Below _ _ w21 from (by rw [hnn]; exact bdrewN _ nn)
  have B_33 := Lib.hid (since_on B_32.out hb)
  have Ra_33 := Lib.hid (Rd2.on Ra_32.out hb)
  have Rb_33 := Lib.hid (Rd2.on Rb_32.out hb)
  have W_33 := Lib.hid (Rd2.on W_32.out hb)
  have G_33 := Lib.hid (Rd2.on G_32.out hb)
  have T_33 := Lib.hid (Rd2.on T_32.out hb)
  have Z_21 := Lib.hid hb.size
  clear B_32 Ra_32 Rb_32 W_32 G_32 T_32 hb hnn
  go_wp2_with fail
  go_ret
  exact ⟨rfl, B_33.out⟩
end Go.Proofs.Ytciiokegifgbdaa
