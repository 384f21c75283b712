/- Walks and plain laws of the functions that a law reaches, several texts in one (part 11). Conditions: none beyond the hypotheses of each lemma. -/
import Derived.Deep.RegionHeld3
import Derived.Test.YtciiokegifgbdaaG10
/- Walks: the law of matrices. Conditions: none beyond the hypotheses of each lemma. -/
namespace Go.Proofs.Ytciiokegifgbdaa
open Go.RowKit
set_option maxRecDepth 20000

theorem MaxC.on {w w' : World} {m : Int} (h : w.cell? ⟨0, 0, none⟩ = some (.int .i64 m)) (hb : Below w.heap.size w w') : w'.cell? ⟨0, 0, none⟩ = some (.int .i64 m) := by
  have h0 : 0 < w.heap.size := by
    rcases Nat.lt_or_ge 0 w.heap.size with h1 | h1
    · exact h1
    · simp [World.cell?, Array.getElem?_eq_none h1] at h
  exact (hb.cell (p := ⟨0, 0, none⟩) h0).trans h
/-- an image, as a law passes it -/
structure Sub (p : Nat) (T : TypeId) (v : Value) (xs : List ByteArray) (w : World) : Prop where
  box : One w p T v
  row : Row1 w w.heap.size v (xs.map .string)
theorem Sub.on {p : Nat} {T : TypeId} {v : Value} {xs : List ByteArray} {w w' : World} (h : Sub p T v xs w) (hb : Below w.heap.size w w') : Sub p T v xs w' := ⟨h.box.on hb, h.row.on hb⟩
theorem wrap_next (k : Nat) (h : k < 4) : IntKind.i64.wrap ((k : Int) + 1) = (k : Int) + 1 := by
  rcases (show k = 0 ∨ k = 1 ∨ k = 2 ∨ k = 3 by omega) with rfl | rfl | rfl | rfl <;> decide
set_option maxHeartbeats 8000000 in
theorem law_FnMatrices (va : Value) (ns : List Int) (w : World) (hsh : w.ShapedOpen Try.prog) (ha : Row1 w w.heap.size va (ns.map (.int .u8))) (hwf : ∀ n ∈ ns, (Lit.int .u8 n).wf = true) :
    Calls Try.prog 6 #[va] w fun e w' => e = .returned (.bool true) ∧ Below w.heap.size w w' := by
  obtain ⟨mx, hmx⟩ : ∃ m, w.cell? ⟨0, 0, none⟩ = some (.int .i64 m) := Try.laysM144.s1_3 w hsh
  have HMX := Lib.hid hmx
  have hns : ∀ n ∈ ns, 0 ≤ n ∧ n ≤ 255 := fun n hn => by
    have h := hwf n hn
    have e1 : IntKind.u8.min = 0 := rfl
    have e2 : IntKind.u8.max = 255 := rfl
    simp [Lit.wf, e1, e2] at h
    omega
  have ha2 : Row1 w w.heap.size va (u8s ns) := ha
  have HRD := Lib.hid (Rd.new ha2)
  obtain ⟨A, cap, rfl, hcap, hat⟩ := u8_at ha2
  by_cases big : 1048576 < ns.length
  · clear ha ha2 hat hsh hmx
    go_enter Try.func6, Try.ntmps6
    go_wp2_with fail
    go_ret
    exact ⟨rfl, Below.refl _ _⟩
  have hl : ns.length ≤ 1048576 := by omega
  have HMS := Lib.hid (makeSubst_any _ ns 0 w hns hl (by decide) ha2)
  have HNS := Lib.hid hns
  clear ha ha2 hat hsh hmx hwf hns
  go_enter Try.func6, Try.ntmps6
  go_wp2_with fail
  refine HMS.out.mono ?_
  rintro e w1 ⟨vs, xs, rfl, hx, hr, hb⟩
  obtain ⟨As, cs, rfl⟩ := hr.shape
  have hsz : ∀ s ∈ xs, s.size ≤ maxLen := fun s hs => by have := ((subst_parts hx).2.2 s hs).2.1; unfold maxLen; omega
  have HSZ := Lib.hid hsz
  have HX := Lib.hid hx
  obtain ⟨hn1, hn4, _⟩ := subst_parts hx
  obtain ⟨n, hn⟩ : ∃ n, n = xs.length := ⟨_, rfl⟩
  have B1 := Lib.hid (bthen hb (bnew w1 (.cells #[.slice As xs.length cs] 33)))
  have S1 := Lib.hid (show Sub w1.heap.size 33 (.slice As xs.length cs) xs (w1.alloc (.cells #[.slice As xs.length cs] 33)) from ⟨One.new _ _ _, hr.on (bnew _ _)⟩)
  clear hb hr hx hsz
  have c1 := S1.out.box.cell
  go_wp2_with fail
  refine (implMatrixOf_any xs _ _ S1.out.row HSZ.out).mono ?_
  rintro e w2 ⟨vm, rfl, ho, hb⟩
  rw [show moR xs = matR xs from mo_yes HX.out] at ho
  have B2 := Lib.hid (bthen B1.out hb)
  have S2 := Lib.hid (S1.out.on hb)
  have M2 := Lib.hid (Rd2.new ho.row2)
  clear ho hb c1
  have c2 := S2.out.box.cell
  obtain ⟨Am, cm, rfl, hcm⟩ := M2.out.row.shape
  rw [matR_len] at *
  go_wp2_with fail
  refine (implSubstOk_any xs _ _ S2.out.row HSZ.out).mono ?_
  rw [HX.out]
  rintro e w3 ⟨rfl, hb⟩
  have B3 := Lib.hid (bthen B2.out hb)
  have S3 := Lib.hid (S2.out.on hb)
  have M3 := Lib.hid (M2.out.on hb)
  clear hb c2
  have c3 := S3.out.box.cell
  obtain ⟨bs, os, cs2, hes, hbs, hcs, hss⟩ := S3.out.row.openAt (by omega)
  cases hes
  obtain ⟨bm, om, cm2, hem, hbm, hcm2, hmm⟩ := M3.out.at.open2 (N := xs.length) (by rw [matR_len]; omega) (by omega) (matR_rows xs)
  rw [matR_len] at hem
  cases hem
  have HSS := Lib.hid hss; have HMM := Lib.hid hmm
  clear hss hmm hbs hbm
  go_wp2_with fail
  go_loopw [49] (fun i wr => ∃ k : Nat, k ≤ xs.length ∧ i = .int .i64 k ∧ wr = w3) (fun i _ => xs.length - (intOf i).toNat)
  case atStart => exact ⟨0, Nat.zero_le _, rfl, rfl⟩
  case round =>
    obtain ⟨k, hk, rfl, rfl⟩ := hrel
    by_cases hlt : k < xs.length
    · have gs := HSS.out k hlt
      have HCE := Lib.hid (colS_end HX.out hlt)
      have hxs : xs[k].size ≤ 8 := ((subst_parts HX.out).2.2 _ (List.getElem_mem hlt)).2.1
      obtain ⟨x, hxk⟩ : ∃ x, x = xs[k] := ⟨_, rfl⟩
      rw [← hxk] at gs HCE hxs
      clear hxk
      go_wp2_with fail
      go_loop [8, 56] (fun t i => ∃ j : Nat, j ≤ xs.length ∧ i = .int .i64 j ∧ t = .int .i64 (colS (matR xs) k j)) (fun _ i => xs.length - (intOf i).toNat)
      case atStart => exact ⟨0, Nat.zero_le _, rfl, rfl⟩
      case round =>
        obtain ⟨j, hj, rfl, rfl⟩ := hrel
        have HB := Lib.hid (colS_bound HX.out k)
        by_cases hjl : j < xs.length
        · obtain ⟨b', o', c', hb', hc', g1, G1⟩ := HMM.out j (by rw [matR_len]; exact hjl)
          have g2 := G1 k hlt
          have hz := getD_small (lo := 0) (hi := 8) (by omega) (mat_small HX.out) j k
          have hz2 : (matR xs).getD j [] = (matR xs)[j]'(by rw [matR_len]; exact hjl) := by rw [List.getD_eq_getElem?_getD, List.getElem?_eq_getElem (by rw [matR_len]; exact hjl)]; rfl
          rw [hz2] at hz
          have HN := Lib.hid (show colS (matR xs) k (j + 1) = colS (matR xs) k j + ((matR xs)[j]'(by rw [matR_len]; exact hjl)).getD k 0 by rw [← hz2]; rfl)
          have ht := HB.out j
          obtain ⟨T, hT⟩ : ∃ T, T = colS (matR xs) k j := ⟨_, rfl⟩
          obtain ⟨z, hzz⟩ : ∃ z, z = ((matR xs)[j]'(by rw [matR_len]; exact hjl)).getD k 0 := ⟨_, rfl⟩
          rw [← hzz] at g2 hz HN
          rw [← hT] at ht HN ⊢
          clear G1 hz2 hzz hT
          go_wp2
          go_round
          case rel => exact ⟨j + 1, by omega, by go_num, by rw [HN.out]⟩
          case measure => simp [intOf]; omega
        · obtain rfl : j = xs.length := by omega
          rw [HCE.out]
          go_wp2
          go_roundw
          case rel => exact ⟨k + 1, by omega, by go_num, trivial⟩
          case measure => simp [intOf]; omega
    · obtain rfl : k = xs.length := by omega
      go_wp2_with fail
      refine (implComposeSubst_any xs xs _ _ _ S3.out.row HSZ.out S3.out.row HSZ.out).mono ?_
      rintro e w4 ⟨vq, rfl, ho, hb⟩
      obtain ⟨Aq, cq, rfl⟩ := own_shape ho
      have hbb := bthen hb (bnew w4 (.cells #[.slice Aq (csR xs xs).length cq] 33))
      have B4 := Lib.hid (bthen B3.out hbb)
      have S4 := Lib.hid (S3.out.on hbb)
      have M4 := Lib.hid (M3.out.on hbb)
      have Q4 := Lib.hid (show Sub w4.heap.size 33 (.slice Aq (csR xs xs).length cq) (csR xs xs) (w4.alloc (.cells #[.slice Aq (csR xs xs).length cq] 33)) from ⟨One.new _ _ _, Row1.own (own_below ho (bnew _ _)) (List.length_map _).symm⟩)
      clear ho hb hbb c3 B3 S3 M3 HSS HMM
      go_wp2_with fail
      refine (implMultiplyMatrices_any (matR xs) (matR xs) _ _ _ M4.out.at M4.out.at).mono ?_
      rw [mat_mm HX.out, (mm_yes (mat_mm HX.out)).2]
      rintro e w5 ⟨vp, rfl, ho, hb⟩
      have hpl : (mulM (matR xs) (matR xs)).length = xs.length := by rw [mulM_len, matR_len]
      obtain ⟨Ap, cp, rfl⟩ := ho.shape
      rw [hpl]
      have HPL := Lib.hid hpl
      have B5 := Lib.hid (bthen B4.out hb)
      have S5 := Lib.hid (S4.out.on hb)
      have Q5 := Lib.hid (Q4.out.on hb)
      have P5 := Lib.hid (Rd2.new ho.row2)
      rw [hpl] at P5
      clear ho hb B4 S4 M4 Q4 hpl
      cases hq : csB xs xs
      · have W5 := Lib.hid hq
        clear hq
        have q0 := W5.out
        have cS := S5.out.box.cell
        go_wp2_with fail
        refine (makeSize_any _ ns 40 _ HNS.out hl (by decide) (HRD.out.on B5.out).at).mono ?_
        rintro e w10 ⟨N, hN1, hN3, rfl, hb⟩
        have B10 := Lib.hid (bthen B5.out hb)
        have S10 := Lib.hid (S5.out.on hb)
        clear hb cS q0
        go_wp2_with fail
        refine (makeMatrix_any _ ns 41 N _ HNS.out hl (by decide) (by omega) (HRD.out.on B10.out).at).mono ?_
        rintro e w11 ⟨va, a, rfl, ha1, ha2, ha3, har, hb⟩
        have DA := Lib.hid (show Drawn N a from ⟨ha1, ha2, ha3⟩)
        have B11 := Lib.hid (bthen B10.out hb)
        have S11 := Lib.hid (S10.out.on hb)
        have RA11 := Lib.hid (Rd2.new har)
        clear hb har ha1 ha2 ha3 B10 S10
        go_wp2_with fail
        refine (makeMatrix_any _ ns 60 N _ HNS.out hl (by decide) (by omega) (HRD.out.on B11.out).at).mono ?_
        rintro e w12 ⟨vb, b, rfl, hb1, hb2, hb3, hbr, hb⟩
        have DB := Lib.hid (show Drawn N b from ⟨hb1, hb2, hb3⟩)
        have B12 := Lib.hid (bthen B11.out hb)
        have S12 := Lib.hid (S11.out.on hb)
        have RA12 := Lib.hid (RA11.out.on hb)
        have RB12 := Lib.hid (Rd2.new hbr)
        clear hb hbr hb1 hb2 hb3 B11 S11 RA11
        have HMM1 := Lib.hid (DA.out.mm DB.out hN1 hN3)
        have HMM2 := Lib.hid (DB.out.mm DA.out hN1 hN3)
        go_wp2_with fail
        refine (implMultiplyMatrices_any a b _ _ _ RA12.out.at RB12.out.at).mono ?_
        rw [HMM1.out, (mm_yes HMM1.out).2]
        rintro e w13 ⟨vc, rfl, ho, hb⟩
        have B13 := Lib.hid (bthen B12.out hb)
        have S13 := Lib.hid (S12.out.on hb)
        have RA13 := Lib.hid (RA12.out.on hb)
        have RB13 := Lib.hid (RB12.out.on hb)
        have RC13 := Lib.hid (Rd2.new ho.row2)
        clear hb ho B12 S12 RA12 RB12
        go_wp2_with fail
        refine (implMultiplyMatrices_any b a _ _ _ RB13.out.at RA13.out.at).mono ?_
        rw [HMM2.out, (mm_yes HMM2.out).2]
        rintro e w14 ⟨vd, rfl, ho, hb⟩
        have B14 := Lib.hid (bthen B13.out hb)
        have S14 := Lib.hid (S13.out.on hb)
        have RA14 := Lib.hid (RA13.out.on hb)
        have RB14 := Lib.hid (RB13.out.on hb)
        have RC14 := Lib.hid (RC13.out.on hb)
        have RD14 := Lib.hid (Rd2.new ho.row2)
        clear hb ho B13 S13 RA13 RB13 RC13
        obtain ⟨X, hX⟩ : ∃ X, X = dtR a := ⟨_, rfl⟩
        obtain ⟨Y, hY⟩ : ∃ Y, Y = dtR b := ⟨_, rfl⟩
        obtain ⟨P, hP⟩ : ∃ P, X * Y = P := ⟨_, rfl⟩
        obtain ⟨T, hT⟩ : ∃ T, T = trR (mulM a b) := ⟨_, rfl⟩
        have hbX := DA.out.small hN1 hN3
        have hbY := DB.out.small hN1 hN3
        rw [← hX] at hbX
        rw [← hY] at hbY
        have hbP := box_mul (A := 6000000) (B := 6000000) (x := X) (y := Y) hbX hbY
        rw [hP] at hbP
        have hw64 : wrap64 P = P := by unfold wrap64; omega
        have E1 := Lib.hid (show dtR (mulM a b) = P by rw [DA.out.det DB.out hN1 hN3, ← hX, ← hY, hP])
        have E2 := Lib.hid (show dtR (mulM b a) = P by rw [DB.out.det DA.out hN1 hN3, ← hX, ← hY, Int.mul_comm, hP])
        have E3 := Lib.hid (show trR (mulM b a) = T by rw [hT, DA.out.tr DB.out hN1 hN3])
        have EX := Lib.hid hX.symm
        have EY := Lib.hid hY.symm
        have ET := Lib.hid hT.symm
        clear hX hY hT
        go_wp2_with fail
        refine (implDeterminantOf_any _ _ _ RC14.out.at).mono ?_
        rw [E1.out]
        rintro e w15 ⟨rfl, hb⟩
        have B15 := Lib.hid (bthen B14.out hb); have S15 := Lib.hid (S14.out.on hb); have RA15 := Lib.hid (RA14.out.on hb); have RB15 := Lib.hid (RB14.out.on hb); have RC15 := Lib.hid (RC14.out.on hb); have RD15 := Lib.hid (RD14.out.on hb)
        clear hb B14 S14 RA14 RB14 RC14 RD14
        go_wp2_with fail
        refine (implDeterminantOf_any _ _ _ RA15.out.at).mono ?_
        rw [EX.out]
        rintro e w16 ⟨rfl, hb⟩
        have B16 := Lib.hid (bthen B15.out hb); have S16 := Lib.hid (S15.out.on hb); have RB16 := Lib.hid (RB15.out.on hb); have RC16 := Lib.hid (RC15.out.on hb); have RD16 := Lib.hid (RD15.out.on hb)
        clear hb B15 S15 RA15 RB15 RC15 RD15
        go_wp2_with fail
        refine (implDeterminantOf_any _ _ _ RB16.out.at).mono ?_
        rw [EY.out]
        rintro e w17 ⟨rfl, hb⟩
        have B17 := Lib.hid (bthen B16.out hb); have S17 := Lib.hid (S16.out.on hb); have RC17 := Lib.hid (RC16.out.on hb); have RD17 := Lib.hid (RD16.out.on hb)
        clear hb B16 S16 RB16 RC16 RD16
        go_wp2_with fail
        refine (implTraceOf_any _ _ _ _ RC17.out.at).mono ?_
        rw [ET.out]
        rintro e w18 ⟨rfl, rfl⟩
        go_wp2_with fail
        refine (implTraceOf_any _ _ _ _ RD17.out.at).mono ?_
        rw [E3.out]
        rintro e w19 ⟨rfl, rfl⟩
        go_wp2_with fail
        refine (implDeterminantOf_any _ _ _ RD17.out.at).mono ?_
        rw [E2.out]
        rintro e w20 ⟨rfl, hb⟩
        have B20 := Lib.hid (bthen B17.out hb); have S20 := Lib.hid (S17.out.on hb); have RC20 := Lib.hid (RC17.out.on hb)
        clear hb B17 S17 RC17 RD17
        go_wp2_with fail
        refine (implDeterminantOf_any _ _ _ RC20.out.at).mono ?_
        rw [E1.out]
        rintro e w21 ⟨rfl, hb⟩
        have B21 := Lib.hid (bthen B20.out hb); have S21 := Lib.hid (S20.out.on hb)
        clear hb B20 S20 RC20
        have c21 := S21.out.box.cell
        go_wp2_with fail
        refine (implIsPrimitiveSubst_any xs _ _ S21.out.row HSZ.out).mono ?_
        obtain ⟨pr, hpr⟩ : ∃ pr, primR xs = pr := ⟨_, rfl⟩
        rw [hpr]
        have HPR := Lib.hid hpr
        clear hpr
        rintro e w22 ⟨rfl, hb⟩
        have B22 := Lib.hid (bthen B21.out hb); have S22 := Lib.hid (S21.out.on hb)
        clear hb B21 S21 c21
        go_wp2_with fail
        go_loopw [25] (fun i wr => ∃ k : Nat, k ≤ xs.length ∧ i = .int .i64 k ∧ Below w.heap.size w wr ∧ Sub w1.heap.size 33 (.slice (some ⟨bs, os, none⟩) xs.length cs) xs wr) (fun i _ => xs.length - (intOf i).toNat)
        case atStart => exact ⟨0, Nat.zero_le _, rfl, B22.out, S22.out⟩
        case round =>
          obtain ⟨k, hk, rfl, hB, hS⟩ := hrel
          have B23 := Lib.hid hB; have S23 := Lib.hid hS
          clear hB hS B22 S22
          have c23 := S23.out.box.cell
          by_cases hlt : k < xs.length
          · have e1 := abcd_at (k := k) (by omega)
            have es := ltr_size k
            have HR := Lib.hid (implReachedBy_any xs _ (ltr k) _ (S23.out.on (bdrew _)).row HSZ.out (by rw [es]; decide))
            rw [ltr_data] at HR
            have HRF := Lib.hid (rb_factor HX.out hlt)
            have hrs := rb_size HX.out hlt
            have HRP := Lib.hid (fun hp => rb_prim (k := k) hp HX.out hlt)
            obtain ⟨R, hR⟩ : ∃ R : ByteArray, R = ⟨(rbL xs [lc k]).toArray⟩ := ⟨_, rfl⟩
            rw [← hR] at HR HRF hrs HRP
            clear hR
            go_wp2_with fail
            have e3 := wrap_next k (by omega)
            have e4 : (k : Int) + 1 ≤ 4 := by omega
            have e5 : (0 : Int) ≤ (k : Int) + 1 := by omega
            have e6 : (k : Int) ≤ (k : Int) + 1 := by omega
            have e7 : ((k : Int) + 1).toNat = k + 1 := by omega
            have K1 := Lib.hid ((S23.out.on (bdrew _)).box.cell)
            go_region_held3 (fun w' => w'.cell? ⟨w1.heap.size, 0, none⟩ = some (.slice (some ⟨bs, os, none⟩) xs.length cs)) (first | exact K2.out | exact K1.out) ((go_at_call 26; refine HR.out.mono ?_; rintro e w24 ⟨rfl, hb⟩; have B24 := Lib.hid (bthen B23.out (bthen (bdrew _) hb)); have S24 := Lib.hid ((S23.out.on (bdrew _)).on hb); have K2 := Lib.hid (S24.out.box.cell); clear hb))

            have HFF := Lib.hid (implIsFactor_any R (ltr k) w24 mx (MaxC.on HMX.out B24.out) (by unfold maxLen; omega) (by rw [es]; decide))
            rw [HRF.out] at HFF
            clear B23 S23 c23 HR HRF K1 K2 e3 e4 e5 e6 e7
            cases pr
            · clear HRP HPR
              go_wp2_with fail
              refine HFF.out.mono ?_
              rintro e w25 ⟨rfl, rfl⟩
              go_wp2_with fail
              go_roundw
              case rel => exact ⟨k + 1, by omega, by go_num, B24.out, S24.out⟩
              case measure => simp [intOf]; omega
            · have e2 : (⟨#[97, 98, 99, 100]⟩ : ByteArray).extract 0 xs.length = R := (HRP.out HPR.out).symm
              clear HRP HPR
              go_wp2_with fail
              refine HFF.out.mono ?_
              rintro e w25 ⟨rfl, rfl⟩
              go_wp2_with fail
              go_roundw
              case rel => exact ⟨k + 1, by omega, by go_num, B24.out, S24.out⟩
              case measure => simp [intOf]; omega
          · go_wp2_with fail
            refine (implReachedBy_any xs _ ⟨#[101]⟩ _ S23.out.row HSZ.out (by decide)).mono ?_
            rw [show rbL xs (⟨#[101]⟩ : ByteArray).data.toList = [] from rb_e HX.out]
            rintro e w24 ⟨rfl, hb⟩
            have B24 := Lib.hid (bthen B23.out hb)
            clear hb
            go_wp2_with fail
            go_ret
            exact ⟨rfl, B24.out⟩
      · have W5 := Lib.hid hq
        clear hq
        have q0 := W5.out
        have HQ := cs_yes W5.out
        have HZ := Lib.hid (show substB (csZ xs xs) = true by rw [← cs_end HX.out HX.out rfl]; exact W5.out)
        have HQL := Lib.hid (cs_sizes HX.out HX.out rfl)
        rw [HQ] at Q5
        have HCL : (csZ xs xs).length = xs.length := List.length_map _
        have HMO := Lib.hid (show moR (csZ xs xs) = mulM (matR xs) (matR xs) by rw [mo_yes HZ.out, mat_comp HX.out])
        obtain ⟨pm, hpm⟩ : ∃ pm, mulM (matR xs) (matR xs) = pm := ⟨_, rfl⟩
        rw [hpm] at HPL P5 HMO
        clear hpm HQ HCL
        have cQ := Q5.out.box.cell
        go_wp2_with fail
        refine (implMatrixOf_any (csZ xs xs) _ _ Q5.out.row HQL.out).mono ?_
        rw [HMO.out]
        rintro e w6 ⟨vr, rfl, ho, hb⟩
        have B6 := Lib.hid (bthen B5.out hb)
        have S6 := Lib.hid (S5.out.on hb)
        have P6 := Lib.hid (P5.out.on hb)
        have R6 := Lib.hid (Rd2.new ho.row2)
        clear ho hb B5 S5 P5 cQ Q5
        have hpl := HPL.out
        obtain ⟨bp, op, cp2, hep, hcp2, hpp⟩ := P6.out.at.openAt (by omega)
        obtain ⟨br, or, cr, rfl, hcr, hrr⟩ := R6.out.at.openAt (by omega)
        rw [hpl] at hep ⊢
        cases hep
        have HPP := Lib.hid hpp; have HRR := Lib.hid hrr
        clear hpp hrr q0
        go_wp2_with fail
        go_loopw [106] (fun i wr => ∃ k : Nat, k ≤ xs.length ∧ i = .int .i64 k ∧ ∃ m, wr = w6.drewN m) (fun i _ => xs.length - (intOf i).toNat)
        case atStart => exact ⟨0, Nat.zero_le _, rfl, 0, rfl⟩
        case round =>
          obtain ⟨k, hk, rfl, m, rfl⟩ := hrel
          by_cases hlt : k < xs.length
          · have hlp : k < pm.length := by omega
            obtain ⟨u, hu⟩ := HPP.out k hlp
            obtain ⟨u', hu'⟩ := HRR.out k hlp
            obtain ⟨g1, r1⟩ := hu w6 (fun _ _ => rfl)
            obtain ⟨g2, r2⟩ := hu' w6 (fun _ _ => rfl)
            have HS := Lib.hid (same_same _ _ _ _ _ (r1.drewN m) (r2.drewN m))
            clear hu hu' r1 r2
            go_wp2_with fail
            refine HS.out.mono ?_
            rintro e w7 ⟨rfl, m2, rfl⟩
            go_wp2_with fail
            go_roundw
            case rel => exact ⟨k + 1, by omega, by go_num, m + m2, rfl⟩
            case measure => simp [intOf]; omega
          · have B8 := Lib.hid (bthen B6.out (bdrewN w6 m))
            have S8 := Lib.hid (S6.out.on (bdrewN w6 m))
            obtain ⟨w8, hw8⟩ : ∃ w8, w6.drewN m = w8 := ⟨_, rfl⟩
            rw [hw8] at B8 S8 ⊢
            clear hw8 HPP HRR P6 R6 B6 S6 HMO HZ HQL
            have q0 := W5.out
            have cS := S8.out.box.cell
            go_wp2_with fail
            refine (makeSize_any _ ns 40 _ HNS.out hl (by decide) (HRD.out.on B8.out).at).mono ?_
            rintro e w10 ⟨N, hN1, hN3, rfl, hb⟩
            have B10 := Lib.hid (bthen B8.out hb)
            have S10 := Lib.hid (S8.out.on hb)
            clear hb cS q0
            go_wp2_with fail
            refine (makeMatrix_any _ ns 41 N _ HNS.out hl (by decide) (by omega) (HRD.out.on B10.out).at).mono ?_
            rintro e w11 ⟨va, a, rfl, ha1, ha2, ha3, har, hb⟩
            have DA := Lib.hid (show Drawn N a from ⟨ha1, ha2, ha3⟩)
            have B11 := Lib.hid (bthen B10.out hb)
            have S11 := Lib.hid (S10.out.on hb)
            have RA11 := Lib.hid (Rd2.new har)
            clear hb har ha1 ha2 ha3 B10 S10
            go_wp2_with fail
            refine (makeMatrix_any _ ns 60 N _ HNS.out hl (by decide) (by omega) (HRD.out.on B11.out).at).mono ?_
            rintro e w12 ⟨vb, b, rfl, hb1, hb2, hb3, hbr, hb⟩
            have DB := Lib.hid (show Drawn N b from ⟨hb1, hb2, hb3⟩)
            have B12 := Lib.hid (bthen B11.out hb)
            have S12 := Lib.hid (S11.out.on hb)
            have RA12 := Lib.hid (RA11.out.on hb)
            have RB12 := Lib.hid (Rd2.new hbr)
            clear hb hbr hb1 hb2 hb3 B11 S11 RA11
            have HMM1 := Lib.hid (DA.out.mm DB.out hN1 hN3)
            have HMM2 := Lib.hid (DB.out.mm DA.out hN1 hN3)
            go_wp2_with fail
            refine (implMultiplyMatrices_any a b _ _ _ RA12.out.at RB12.out.at).mono ?_
            rw [HMM1.out, (mm_yes HMM1.out).2]
            rintro e w13 ⟨vc, rfl, ho, hb⟩
            have B13 := Lib.hid (bthen B12.out hb)
            have S13 := Lib.hid (S12.out.on hb)
            have RA13 := Lib.hid (RA12.out.on hb)
            have RB13 := Lib.hid (RB12.out.on hb)
            have RC13 := Lib.hid (Rd2.new ho.row2)
            clear hb ho B12 S12 RA12 RB12
            go_wp2_with fail
            refine (implMultiplyMatrices_any b a _ _ _ RB13.out.at RA13.out.at).mono ?_
            rw [HMM2.out, (mm_yes HMM2.out).2]
            rintro e w14 ⟨vd, rfl, ho, hb⟩
            have B14 := Lib.hid (bthen B13.out hb)
            have S14 := Lib.hid (S13.out.on hb)
            have RA14 := Lib.hid (RA13.out.on hb)
            have RB14 := Lib.hid (RB13.out.on hb)
            have RC14 := Lib.hid (RC13.out.on hb)
            have RD14 := Lib.hid (Rd2.new ho.row2)
            clear hb ho B13 S13 RA13 RB13 RC13
            obtain ⟨X, hX⟩ : ∃ X, X = dtR a := ⟨_, rfl⟩
            obtain ⟨Y, hY⟩ : ∃ Y, Y = dtR b := ⟨_, rfl⟩
            obtain ⟨P, hP⟩ : ∃ P, X * Y = P := ⟨_, rfl⟩
            obtain ⟨T, hT⟩ : ∃ T, T = trR (mulM a b) := ⟨_, rfl⟩
            have hbX := DA.out.small hN1 hN3
            have hbY := DB.out.small hN1 hN3
            rw [← hX] at hbX
            rw [← hY] at hbY
            have hbP := box_mul (A := 6000000) (B := 6000000) (x := X) (y := Y) hbX hbY
            rw [hP] at hbP
            have hw64 : wrap64 P = P := by unfold wrap64; omega
            have E1 := Lib.hid (show dtR (mulM a b) = P by rw [DA.out.det DB.out hN1 hN3, ← hX, ← hY, hP])
            have E2 := Lib.hid (show dtR (mulM b a) = P by rw [DB.out.det DA.out hN1 hN3, ← hX, ← hY, Int.mul_comm, hP])
            have E3 := Lib.hid (show trR (mulM b a) = T by rw [hT, DA.out.tr DB.out hN1 hN3])
            have EX := Lib.hid hX.symm
            have EY := Lib.hid hY.symm
            have ET := Lib.hid hT.symm
            clear hX hY hT
            go_wp2_with fail
            refine (implDeterminantOf_any _ _ _ RC14.out.at).mono ?_
            rw [E1.out]
            rintro e w15 ⟨rfl, hb⟩
            have B15 := Lib.hid (bthen B14.out hb); have S15 := Lib.hid (S14.out.on hb); have RA15 := Lib.hid (RA14.out.on hb); have RB15 := Lib.hid (RB14.out.on hb); have RC15 := Lib.hid (RC14.out.on hb); have RD15 := Lib.hid (RD14.out.on hb)
            clear hb B14 S14 RA14 RB14 RC14 RD14
            go_wp2_with fail
            refine (implDeterminantOf_any _ _ _ RA15.out.at).mono ?_
            rw [EX.out]
            rintro e w16 ⟨rfl, hb⟩
            have B16 := Lib.hid (bthen B15.out hb); have S16 := Lib.hid (S15.out.on hb); have RB16 := Lib.hid (RB15.out.on hb); have RC16 := Lib.hid (RC15.out.on hb); have RD16 := Lib.hid (RD15.out.on hb)
            clear hb B15 S15 RA15 RB15 RC15 RD15
            go_wp2_with fail
            refine (implDeterminantOf_any _ _ _ RB16.out.at).mono ?_
            rw [EY.out]
            rintro e w17 ⟨rfl, hb⟩
            have B17 := Lib.hid (bthen B16.out hb); have S17 := Lib.hid (S16.out.on hb); have RC17 := Lib.hid (RC16.out.on hb); have RD17 := Lib.hid (RD16.out.on hb)
            clear hb B16 S16 RB16 RC16 RD16
            go_wp2_with fail
            refine (implTraceOf_any _ _ _ _ RC17.out.at).mono ?_
            rw [ET.out]
            rintro e w18 ⟨rfl, rfl⟩
            go_wp2_with fail
            refine (implTraceOf_any _ _ _ _ RD17.out.at).mono ?_
            rw [E3.out]
            rintro e w19 ⟨rfl, rfl⟩
            go_wp2_with fail
            refine (implDeterminantOf_any _ _ _ RD17.out.at).mono ?_
            rw [E2.out]
            rintro e w20 ⟨rfl, hb⟩
            have B20 := Lib.hid (bthen B17.out hb); have S20 := Lib.hid (S17.out.on hb); have RC20 := Lib.hid (RC17.out.on hb)
            clear hb B17 S17 RC17 RD17
            go_wp2_with fail
            refine (implDeterminantOf_any _ _ _ RC20.out.at).mono ?_
            rw [E1.out]
            rintro e w21 ⟨rfl, hb⟩
            have B21 := Lib.hid (bthen B20.out hb); have S21 := Lib.hid (S20.out.on hb)
            clear hb B20 S20 RC20
            have c21 := S21.out.box.cell
            go_wp2_with fail
            refine (implIsPrimitiveSubst_any xs _ _ S21.out.row HSZ.out).mono ?_
            obtain ⟨pr, hpr⟩ : ∃ pr, primR xs = pr := ⟨_, rfl⟩
            rw [hpr]
            have HPR := Lib.hid hpr
            clear hpr
            rintro e w22 ⟨rfl, hb⟩
            have B22 := Lib.hid (bthen B21.out hb); have S22 := Lib.hid (S21.out.on hb)
            clear hb B21 S21 c21
            go_wp2_with fail
            go_loopw [25] (fun i wr => ∃ k : Nat, k ≤ xs.length ∧ i = .int .i64 k ∧ Below w.heap.size w wr ∧ Sub w1.heap.size 33 (.slice (some ⟨bs, os, none⟩) xs.length cs) xs wr) (fun i _ => xs.length - (intOf i).toNat)
            case atStart => exact ⟨0, Nat.zero_le _, rfl, B22.out, S22.out⟩
            case round =>
              obtain ⟨k, hk, rfl, hB, hS⟩ := hrel
              have B23 := Lib.hid hB; have S23 := Lib.hid hS
              clear hB hS B22 S22
              have c23 := S23.out.box.cell
              by_cases hlt : k < xs.length
              · have e1 := abcd_at (k := k) (by omega)
                have es := ltr_size k
                have HR := Lib.hid (implReachedBy_any xs _ (ltr k) _ (S23.out.on (bdrew _)).row HSZ.out (by rw [es]; decide))
                rw [ltr_data] at HR
                have HRF := Lib.hid (rb_factor HX.out hlt)
                have hrs := rb_size HX.out hlt
                have HRP := Lib.hid (fun hp => rb_prim (k := k) hp HX.out hlt)
                obtain ⟨R, hR⟩ : ∃ R : ByteArray, R = ⟨(rbL xs [lc k]).toArray⟩ := ⟨_, rfl⟩
                rw [← hR] at HR HRF hrs HRP
                clear hR
                go_wp2_with fail
                have e3 := wrap_next k (by omega)
                have e4 : (k : Int) + 1 ≤ 4 := by omega
                have e5 : (0 : Int) ≤ (k : Int) + 1 := by omega
                have e6 : (k : Int) ≤ (k : Int) + 1 := by omega
                have e7 : ((k : Int) + 1).toNat = k + 1 := by omega
                have K1 := Lib.hid ((S23.out.on (bdrew _)).box.cell)
                go_region_held3 (fun w' => w'.cell? ⟨w1.heap.size, 0, none⟩ = some (.slice (some ⟨bs, os, none⟩) xs.length cs)) (first | exact K2.out | exact K1.out) ((go_at_call 26; refine HR.out.mono ?_; rintro e w24 ⟨rfl, hb⟩; have B24 := Lib.hid (bthen B23.out (bthen (bdrew _) hb)); have S24 := Lib.hid ((S23.out.on (bdrew _)).on hb); have K2 := Lib.hid (S24.out.box.cell); clear hb))

                have HFF := Lib.hid (implIsFactor_any R (ltr k) w24 mx (MaxC.on HMX.out B24.out) (by unfold maxLen; omega) (by rw [es]; decide))
                rw [HRF.out] at HFF
                clear B23 S23 c23 HR HRF K1 K2 e3 e4 e5 e6 e7
                cases pr
                · clear HRP HPR
                  go_wp2_with fail
                  refine HFF.out.mono ?_
                  rintro e w25 ⟨rfl, rfl⟩
                  go_wp2_with fail
                  go_roundw
                  case rel => exact ⟨k + 1, by omega, by go_num, B24.out, S24.out⟩
                  case measure => simp [intOf]; omega
                · have e2 : (⟨#[97, 98, 99, 100]⟩ : ByteArray).extract 0 xs.length = R := (HRP.out HPR.out).symm
                  clear HRP HPR
                  go_wp2_with fail
                  refine HFF.out.mono ?_
                  rintro e w25 ⟨rfl, rfl⟩
                  go_wp2_with fail
                  go_roundw
                  case rel => exact ⟨k + 1, by omega, by go_num, B24.out, S24.out⟩
                  case measure => simp [intOf]; omega
              · go_wp2_with fail
                refine (implReachedBy_any xs _ ⟨#[101]⟩ _ S23.out.row HSZ.out (by decide)).mono ?_
                rw [show rbL xs (⟨#[101]⟩ : ByteArray).data.toList = [] from rb_e HX.out]
                rintro e w24 ⟨rfl, hb⟩
                have B24 := Lib.hid (bthen B23.out hb)
                clear hb
                go_wp2_with fail
                go_ret
                exact ⟨rfl, B24.out⟩
end Go.Proofs.Ytciiokegifgbdaa
