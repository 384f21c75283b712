/- Walks: numbers of letters after applications, the program's way. -/
import Derived.Test.YtglleimmmfnhcaaCnt
import Derived.Deep.CutRange
import Derived.BigRegion
namespace Go.Proofs.Ytglleimmmfnhcaa
open Go.RowKit
set_option maxRecDepth 20000

/-- the new numbers while the row q is added up: m products are in -/
def caPart (S : List Int) (N q : Nat) (d : Int) : List Int := S.take q ++ d :: List.replicate (N - (q + 1)) 0
theorem caPart_len {S : List Int} {N q : Nat} (hS : S.length = N) (h : q < N) (d : Int) : (caPart S N q d).length = N := by
  unfold caPart; rw [List.length_append, List.length_take, List.length_cons, List.length_replicate]; omega
theorem caPart_zero {S : List Int} {N q : Nat} (h : q < N) : caPart S N q 0 = S.take q ++ List.replicate (N - q) 0 := by
  unfold caPart; rw [show N - q = (N - (q + 1)) + 1 by omega, List.replicate_succ]
theorem caPart_end {S : List Int} {N q : Nat} (hS : S.length = N) (h : q < N) : caPart S N q (S[q]'(by omega)) = S.take (q + 1) ++ List.replicate (N - (q + 1)) 0 := by
  unfold caPart; rw [List.take_succ_eq_append_getElem (by omega), List.append_assoc]; rfl
theorem caPart_get {S : List Int} {N q : Nat} (hS : S.length = N) (h : q < N) (d : Int) : (ints (caPart S N q d))[q]? = some (.int .i64 d) := by
  have hl : (S.take q).length = q := by rw [List.length_take]; omega
  unfold caPart
  rw [List.getElem?_map, List.getElem?_append_right (by omega), hl, Nat.sub_self]; rfl
theorem caPart_set {S : List Int} {N q : Nat} (hS : S.length = N) (h : q < N) (d e : Int) : (ints (caPart S N q d)).set q (.int .i64 e) = ints (caPart S N q e) := by
  have hl : (S.take q).length = q := by rw [List.length_take]; omega
  unfold caPart ints
  rw [← List.map_set, List.set_append_right _ _ (by omega), hl, Nat.sub_self]; rfl
set_option maxHeartbeats 4000000 in
theorem implCountAfter_any (xs : List ByteArray) (cs : List Int) (n : Int) (va vc : Value) (w : World) (ha : Row1 w w.heap.size va (xs.map .string)) (hs : ∀ s ∈ xs, s.size ≤ maxLen) (hc : Row1 w w.heap.size vc (ints cs)) :
    Calls Try.prog 32 #[.agg #[va], vc, .int .i64 n] w fun e w' => ∃ v, e = .returned (.tuple #[v, .bool (cnP xs cs n).isSome]) ∧ w'.ownsRow w.heap.size 3 1 v (cnR xs cs n).length (ints (cnR xs cs n)) ∧ Below w.heap.size w w' := by
  obtain ⟨i0, hi, hz0, hz1, hz2⟩ := info_parts info_int
  have HI := Lib.hid hi; have HZ0 := Lib.hid hz0; have HZ1 := Lib.hid hz1; have HZ2 := Lib.hid hz2
  clear hi hz0 hz1 hz2
  obtain ⟨A, cp, rfl⟩ := ha.shape
  have hcl := hc.len
  rw [ints_len] at hcl
  obtain ⟨C, ccp, rfl, hccp, hcm, hcell⟩ := hc
  rw [ints_len] at hccp ⊢
  have s0 := Stands.start w 28 (.slice A xs.length cp)
  have HOK := Lib.hid (implSubstOk_any xs _ _ (s0.row ha) hs)
  have HS0 := Lib.hid s0
  have HA := Lib.hid ha
  have HCC := Lib.hid hcell
  have c0 := s0.box
  clear s0 ha hs hcell
  have HFAIL := Lib.hid (fun (h : cnB xs cs n = false) => And.intro (cn_no h) (show cnR xs cs n = [] by unfold cnR; rw [cn_no h]; rfl))
  cases hx : substB xs
  · have HF := Lib.hid (HFAIL.out (cn_no1 hx))
    go_enter Try.func32, Try.ntmps32
    go_wp2_with fail
    refine HOK.out.mono ?_
    rw [hx]
    rintro e w1 ⟨rfl, hb1⟩
    have S1 := Lib.hid (HS0.out.on hb1); clear hb1
    go_wp2_with fail
    go_ret2
    exact ⟨_, by rw [HF.out.1] <;> rfl, by rw [HF.out.2]; exact World.ownsRow_nil _ _ _ _, S1.out.below⟩
  have HX := Lib.hid hx; clear hx
  by_cases hl : cs.length = xs.length
  case neg =>
    have HF := Lib.hid (HFAIL.out (cn_no2 hl))
    have hne : ((cs.length : Int) != (xs.length : Int)) = true := by rw [bne_iff_ne]; omega
    go_enter Try.func32, Try.ntmps32
    go_wp2_with fail
    refine HOK.out.mono ?_
    rw [HX.out]
    rintro e w1 ⟨rfl, hb1⟩
    have S1 := Lib.hid (HS0.out.on hb1); clear hb1
    have c1 := S1.out.box
    clear c0
    go_wp2_with fail
    go_ret2
    exact ⟨_, by rw [HF.out.1] <;> rfl, by rw [HF.out.2]; exact World.ownsRow_nil _ _ _ _, S1.out.below⟩
  have hne : ((cs.length : Int) != (xs.length : Int)) = false := by rw [hl]; simp
  cases hn : (decide (0 ≤ n) && decide (n ≤ 40))
  · have HF := Lib.hid (HFAIL.out (cn_no3 hn))
    have HN := Lib.hid hn; clear hn
    go_enter Try.func32, Try.ntmps32
    go_wp2_with fail
    refine HOK.out.mono ?_
    rw [HX.out]
    rintro e w1 ⟨rfl, hb1⟩
    have S1 := Lib.hid (HS0.out.on hb1); clear hb1
    have c1 := S1.out.box
    clear c0
    go_wp2_with (go_at_call 55; refine (within_any _ _ _ _).mono ?_; rw [HN.out]; rintro e w' ⟨rfl, rfl⟩)
    go_ret2
    exact ⟨_, by rw [HF.out.1] <;> rfl, by rw [HF.out.2]; exact World.ownsRow_nil _ _ _ _, S1.out.below⟩
  have hn2 : 0 ≤ n ∧ n ≤ 40 := by simpa using hn
  obtain ⟨N, rfl⟩ := Int.eq_ofNat_of_zero_le hn2.1
  have HN := Lib.hid hn; clear hn
  obtain ⟨h1x, h4x, _⟩ := subst_parts HX.out
  obtain ⟨bc, oc, rfl, hbc, hcc⟩ := HCC.out (by intro h; have h2 := congrArg List.length h; rw [ints_len] at h2; have h3 : cs.length = 0 := h2; omega)
  have HCELL := Lib.hid hcc; clear hcc HCC
  have HL := Lib.hid hl
  have HML := Lib.hid (matR_len xs); have HMR := Lib.hid (matR_rows xs); have HMS := Lib.hid (matR_small HX.out)
  have HCI := Lib.hid (fun h => cn_yes (cn_in HX.out hl HN.out h))
  have HC4 := Lib.hid (fun k hk h => HFAIL.out (cn_no4 (k := k) hk h))
  clear HFAIL
  go_enter Try.func32, Try.ntmps32
  go_wp2_with fail
  refine HOK.out.mono ?_
  rw [HX.out]
  rintro e w1 ⟨rfl, hb1⟩
  have S1 := Lib.hid (HS0.out.on hb1); clear hb1
  have c1 := S1.out.box
  clear c0
  go_wp2_with (go_at_call 55; refine (within_any _ _ _ _).mono ?_; rw [HN.out]; rintro e w' ⟨rfl, rfl⟩)
  go_loopw [35] (fun i wr => ∃ k : Nat, k ≤ cs.length ∧ i = .int .i64 k ∧ wr = w1 ∧ ∀ j (hj : j < cs.length), j < k → (decide (0 ≤ cs[j]) && decide (cs[j] ≤ 1000)) = true) (fun i _ => cs.length - (intOf i).toNat)
  case atStart => exact ⟨0, Nat.zero_le _, rfl, rfl, fun j _ h => absurd h (Nat.not_lt_zero j)⟩
  case round =>
    obtain ⟨k, hk, rfl, rfl, hall⟩ := hrel
    have HALL := Lib.hid hall; clear hall
    by_cases hlt : k < cs.length
    · have g1 := (S1.out.below.cell (p := ⟨bc, oc + k, none⟩) hbc).trans (HCELL.out k _ (map_get (Value.int .i64) cs k hlt))
      cases hq : (decide (0 ≤ cs[k]) && decide (cs[k] ≤ 1000))
      · have HF := Lib.hid (HC4.out k hlt hq)
        have HQ := Lib.hid hq; clear hq
        go_wp2_with (go_at_call 55; refine (within_any _ _ _ _).mono ?_; rw [HQ.out]; rintro e w' ⟨rfl, rfl⟩)
        go_ret2
        exact ⟨_, by rw [HF.out.1] <;> rfl, by rw [HF.out.2]; exact World.ownsRow_nil _ _ _ _, S1.out.below⟩
      · have HQ := Lib.hid hq; clear hq
        go_wp2_with (go_at_call 55; refine (within_any _ _ _ _).mono ?_; rw [HQ.out]; rintro e w' ⟨rfl, rfl⟩)
        go_roundw
        case rel =>
          refine ⟨k + 1, by omega, by go_num, by first | rfl | trivial, fun j hj hjk => ?_⟩
          by_cases e : j = k
          · subst e; exact HQ.out
          · exact HALL.out j hj (by omega)
        case measure => simp [intOf]; omega
    · obtain rfl : k = xs.length := by omega
      have hsm : ∀ c ∈ cs, (decide (0 ≤ c) && decide (c ≤ 1000)) = true := by
        intro c hc
        obtain ⟨j, hj, rfl⟩ := List.mem_iff_getElem.1 hc
        exact HALL.out j hj (by omega)
      have HGO := Lib.hid (HCI.out hsm)
      have HSM := Lib.hid (show small 1000000000000 cs from fun c hc => by have := hsm c hc; simp only [Bool.and_eq_true, decide_eq_true_eq] at this; omega)
      clear hsm HALL
      have HMX := Lib.hid (fun W (S : Stands w 28 (.slice A xs.length cp) W) => implMatrix_any xs _ W (S.row HA.out) HX.out)
      obtain ⟨mm, hmm⟩ : ∃ mm, mm = matR xs := ⟨_, rfl⟩
      rw [← hmm] at HML HMR HMS HGO HMX
      clear hmm
      obtain ⟨w2, rfl⟩ : ∃ w2, w2 = wr := ⟨_, rfl⟩
      have c1a := (S1.out.alloc (.cells #[] 3)).box
      have HO0 := Lib.hid (show ((w2.alloc (.cells #[] 3)).drew).ownsRow (w.heap.size + 1) 3 1 (.slice (some ⟨w2.heap.size, 0, none⟩) 0 0) 0 [] from own_below (by simpa using World.ownsRow_made (base := w.heap.size + 1) (e := 3) (size := 1) w2 #[] 0 S1.out.size (Nat.zero_le _) rfl) (bdrew _))
      have HCW2 := Lib.hid (show ∀ (j : Nat) (u : Value), (ints cs)[j]? = some u → ((w2.alloc (.cells #[] 3)).drew).cell? ((⟨bc, oc, none⟩ : Addr).add j) = some u from fun j u hu => by rw [Addr.add_lit]; exact ((((S1.out.alloc (.cells #[] 3)).drew.below).cell (p := ⟨bc, oc + j, none⟩) hbc).trans (HCELL.out j u hu)))
      go_wp2_with fail
      go_cut [10, 11] from 43 to 47 (fun p q wx => ∃ (g4 c4 : Nat) (vm : Value), p = .slice (some ⟨g4, 0, none⟩) xs.length c4 ∧ vm = q ∧ wx.ownsRow (w.heap.size + 1) 3 1 (.slice (some ⟨g4, 0, none⟩) xs.length c4) xs.length (ints cs) ∧ Row2 wx wx.heap.size vm mm ∧ Stands w 28 (.slice A xs.length cp) wx)
      case first =>
        go_region_law (first
          | (refine step_append_lies _ rfl (.tmp 43) (.tmp 44) 41 rfl (w.heap.size + 1) 3 i0 (.int .i64 0) 1 8 Try.underlying41 HI.out HZ0.out HZ1.out HZ2.out rfl (by decide) (.slice (some ⟨w2.heap.size, 0, none⟩) 0 0) 0 [] rfl HO0.out ⟨bc, oc, none⟩ xs.length ccp (ints cs) rfl (by rw [ints_len, HL.out]; omega) HCW2.out (by intro u hu; obtain ⟨z, _, rfl⟩ := List.mem_map.1 hu; rfl) (by omega) (by unfold maxLen; omega) (by omega) (by have := S1.out.size; simp; omega) _ rfl ?_; intro g4 c4 w3 hown' hgrow _ _; have S3 := Lib.hid (stands_grown ((S1.out.alloc (.cells #[] 3)).drew) hgrow (fun g hg => (own_lt HO0.out hg).1)); have O3 := Lib.hid (show w3.ownsRow (w.heap.size + 1) 3 1 (.slice (some ⟨g4, 0, none⟩) xs.length c4) xs.length (ints cs) from by simpa using hown'); have c3 := S3.out.box; clear hown' hgrow)
          | (go_simp; go_at_call 65; (with_reducible refine (HMX.out _ S3.out).mono ?_); rintro e w4 ⟨vm, rfl, ho, hb⟩; have M4 := Lib.hid ho.row2; have S4 := Lib.hid (S3.out.on hb); have O4 := Lib.hid (own_below O3.out hb); clear ho hb))
        all_goals
          go_wp2_with fail
          (try go_simp)
          go_meet
          case rel =>
            refine ⟨g4, c4, vm, ?_, ?_, O4.out, M4.out, S4.out⟩
            · simp
            · simp
      clear c1 c1a HO0 HCW2
      obtain ⟨w3, rfl⟩ : ∃ x, x = wc := ⟨wc, rfl⟩
      obtain ⟨g4, c4, vm, rfl, rfl, ho, hr, hst⟩ := hcut
      have O3 := Lib.hid ho
      have M3 := Lib.hid (Rd2.new hr)
      have S3 := Lib.hid hst
      clear ho hr hst
      go_wp2_with fail
      go_loopw [10, 49] (fun v i wr => ∃ (k g gc : Nat) (l : List Int), v = .slice (some ⟨g, 0, none⟩) xs.length gc ∧ k ≤ N ∧ i = .int .i64 k ∧ caGo mm N cs = caGo mm (N - k) l ∧ l.length = xs.length ∧ small 1000000000000 l ∧ wr.ownsRow (w.heap.size + 1) 3 1 (.slice (some ⟨g, 0, none⟩) xs.length gc) xs.length (ints l) ∧ Rd2 w3.heap.size vm mm wr ∧ Stands w 28 (.slice A xs.length cp) wr) (fun _ i _ => N - (intOf i).toNat)
      case atStart => exact ⟨0, _, _, cs, rfl, Nat.zero_le _, rfl, rfl, HL.out, HSM.out, O3.out, M3.out, S3.out⟩
      case round =>
        clear O3 M3 S3
        obtain ⟨wo, rfl⟩ : ∃ wo, wo = wr := ⟨_, rfl⟩
        obtain ⟨k, g, gc, l, rfl, hk, rfl, hgo, hll, hsm, hown, h2m, hst⟩ := hrel
        have HG := Lib.hid hgo; have HLL := Lib.hid hll; have HSL := Lib.hid hsm; have HOL := Lib.hid hown; have HM := Lib.hid h2m; have HS := Lib.hid hst
        obtain ⟨bm, om, cm, hvm, hbm, hcm, hMM⟩ := h2m.row.open2 (by have := HML.out; omega) (by omega) HMR.out
        rw [HML.out] at hvm hcm
        subst hvm
        have HMM := Lib.hid hMM
        have HW0 := Lib.hid (show w3.heap.size ≤ wo.heap.size from h2m.le)
        clear hgo hll hsm hown h2m hst hMM
        by_cases hlt : k < N
        · have hNk : N - k = (N - (k + 1)) + 1 := by omega
          have HNO := Lib.hid (fun h => HG.out.trans (by rw [hNk, ca_no (m := mm) (now := l) h]))
          have HYES := Lib.hid (fun h => HG.out.trans (by rw [hNk, ca_yes (m := mm) (now := l) h]))
          have HCL := Lib.hid (show (caStep mm l).length = xs.length from by rw [caStep_len]; exact HML.out)
          clear hNk
          go_wp2_with (at_make; refine wpList_make_full _ rfl _ _ 41 rfl wo.heap.size 3 i0 _ 1 Try.underlying41 HI.out HZ0.out HZ1.out _ _ _ _ xs.length rfl rfl rfl rfl (by rw [HZ2.out]; omega) (by unfold maxLen; omega) (Nat.le_refl _) ?_)
          intro w5 hown5 hgrow5
          rw [toList_madeCells_one] at hown5
          have HO5 := Lib.hid (show w5.ownsRow wo.heap.size 3 1 (.slice (some ⟨wo.heap.size, 0, none⟩) xs.length xs.length) xs.length (ints ((caStep mm l).take 0 ++ List.replicate (xs.length - 0) 0)) from by simpa [ints] using hown5)
          have HB5 := Lib.hid ((Below.refl wo.heap.size wo).grown hgrow5 (Nat.le_refl _) (fun g hg => by cases hg))
          clear hown5 hgrow5
          go_wp2_with fail
          go_loopw [56] (fun j wr => ∃ q : Nat, q ≤ xs.length ∧ j = .int .i64 q ∧ wr.ownsRow wo.heap.size 3 1 (.slice (some ⟨wo.heap.size, 0, none⟩) xs.length xs.length) xs.length (ints ((caStep mm l).take q ++ List.replicate (xs.length - q) 0)) ∧ caOk ((caStep mm l).take q) = true ∧ Below wo.heap.size wo wr) (fun j _ => xs.length - (intOf j).toNat)
          case atStart => exact ⟨0, Nat.zero_le _, rfl, HO5.out, rfl, HB5.out⟩
          case round =>
            clear HO5 HB5
            obtain ⟨q, hq, rfl, ho4, hok, hb4⟩ := hrel
            have HO4 := Lib.hid ho4; have HOK4 := Lib.hid hok; have HB4 := Lib.hid hb4
            clear ho4 hok hb4
            by_cases hql : q < xs.length
            · have hqm : q < mm.length := by have := HML.out; omega
              obtain ⟨b3, o3, c3, hb3, hc3, g3, G3⟩ := HMM.out q hqm
              have HG3 := Lib.hid G3
              have g3' := (HB4.out.cell (p := ⟨bm, om + q, none⟩) (Nat.lt_of_lt_of_le hbm HW0.out)).trans g3
              have HRL := Lib.hid (HMR.out _ (List.getElem_mem hqm))
              have HRS := Lib.hid (HMS.out _ (List.getElem_mem hqm))
              have HCG := Lib.hid (show (caStep mm l)[q]'(by have := HCL.out; omega) = dotTo mm[q] l mm[q].length from by simp [caStep])
              have HOS := Lib.hid (caOk_step (l := caStep mm l) (k := q) (by have := HCL.out; omega))
              have HOF := Lib.hid (caOk_fail (l := caStep mm l) (k := q) (by have := HCL.out; omega))
              have HPE := Lib.hid (caPart_end HCL.out hql)
              have HPZ := Lib.hid (caPart_zero (S := caStep mm l) hql)
              rw [HCG.out] at HOS HOF HPE
              obtain ⟨row, hrow⟩ : ∃ row, row = mm[q] := ⟨_, rfl⟩
              rw [← hrow] at HG3 HRL HRS HOS HOF HPE
              rw [HRL.out] at HOS HOF HPE
              clear G3 g3 hrow hqm HCG
              go_wp2_with fail
              go_loopw [63] (fun j w6 => ∃ m : Nat, m ≤ xs.length ∧ j = .int .i64 m ∧ w6.ownsRow wo.heap.size 3 1 (.slice (some ⟨wo.heap.size, 0, none⟩) xs.length xs.length) xs.length (ints (caPart (caStep mm l) xs.length q (dotTo row l m))) ∧ Below wo.heap.size wo w6) (fun j _ => xs.length - (intOf j).toNat)
              case atStart => exact ⟨0, Nat.zero_le _, rfl, by rw [show dotTo row l 0 = 0 from rfl, HPZ.out]; exact HO4.out, HB4.out⟩
              case round =>
                clear g3' HO4 HB4
                obtain ⟨m, hm, rfl, ho6, hb6⟩ := hrel
                have HO6 := Lib.hid ho6; have HB6 := Lib.hid hb6
                have OL6 := Lib.hid (own_below HOL.out hb6)
                clear ho6 hb6
                obtain ⟨d1, d2⟩ := dot_bound HRS.out HSL.out m
                by_cases hml : m < xs.length
                · have g5 := (HB6.out.cell (p := ⟨b3, o3 + m, none⟩) (Nat.lt_of_lt_of_le hb3 HW0.out)).trans (HG3.out m hml)
                  have g6 := OL6.out.cellAt m (by have := HLL.out; omega)
                  have hg6 : (ints l)[m]? = some (.int .i64 (l.getD m 0)) := by
                    rw [List.getElem?_map, List.getElem?_eq_getElem (by have := HLL.out; omega), List.getD_eq_getElem?_getD, List.getElem?_eq_getElem (by have := HLL.out; omega)]; rfl
                  rw [hg6] at g6
                  have g7 := HO6.out.cellAt q (by omega)
                  rw [caPart_get HCL.out hql] at g7
                  have f7 := HO6.out.frozenAt q
                  have hb1 := small_get HRS.out (by omega) m
                  have hb2 := small_get HSL.out (by omega) m
                  obtain ⟨p1, p2⟩ := mul_bound hb1 hb2
                  have HD := Lib.hid (show dotTo row l (m + 1) = dotTo row l m + row.getD m 0 * l.getD m 0 from rfl)
                  have HST := Lib.hid (fun (e : Int) => And.intro (HO6.out.stored q (.int .i64 e)) (caPart_set HCL.out hql (dotTo row l m) e))
                  obtain ⟨y, hy⟩ : ∃ y, y = row.getD m 0 := ⟨_, rfl⟩
                  obtain ⟨z, hz⟩ : ∃ z, z = l.getD m 0 := ⟨_, rfl⟩
                  obtain ⟨d, hd⟩ : ∃ d, d = dotTo row l m := ⟨_, rfl⟩
                  rw [← hy] at g5 p1 p2 HD hb1
                  rw [← hz] at g6 p1 p2 HD hb2
                  rw [← hd] at HD d1 d2 g7 HST
                  have hl1 := HLL.out
                  clear hg6 hy hz hd
                  go_wp2_with fail
                  go_region
                  all_goals
                    go_wp2
                    go_roundw
                    case rel =>
                      obtain ⟨⟨h1, h2⟩, h3⟩ := HST.out (d + y * z)
                      rw [h3] at h1
                      exact ⟨m + 1, by omega, by go_num, by rw [HD.out]; exact own_below h1 (bdrew _), ((HB6.out.grown h2 HB6.out.size (fun g hg => by simp at hg; omega)).drew)⟩
                    case measure => simp [intOf]; omega
                · obtain rfl : m = xs.length := by omega
                  have g7 := HO6.out.cellAt q (by omega)
                  rw [caPart_get HCL.out hql] at g7
                  obtain ⟨x, hx⟩ : ∃ x, x = dotTo row l xs.length := ⟨_, rfl⟩
                  rw [← hx] at HOS HOF HPE d1 d2 g7 HO6
                  rw [HPE.out] at HO6
                  clear hx
                  by_cases hbig : x ≤ 1000000000000
                  · rw [HOK4.out, decide_eq_true hbig] at HOS
                    go_wp2
                    go_roundw
                    case rel => exact ⟨q + 1, by omega, by go_num, HO6.out, by rw [HOS.out]; rfl, HB6.out⟩
                    case measure => simp [intOf]; omega
                  · have HN0 := Lib.hid (HNO.out (HOF.out (by omega)))
                    have HF := Lib.hid (show cnP xs cs N = none from HGO.out.trans HN0.out)
                    have HBB := Lib.hid (HS.out.on HB6.out)
                    go_wp2
                    go_ret2
                    exact ⟨_, by rw [HF.out] <;> rfl, by unfold cnR; rw [HF.out]; exact World.ownsRow_nil _ _ _ _, HBB.out.below⟩
            · obtain rfl : q = xs.length := by omega
              have HE := Lib.hid (show (caStep mm l).take xs.length = caStep mm l from List.take_of_length_le (by have := HCL.out; omega))
              rw [HE.out, Nat.sub_self, List.replicate_zero, List.append_nil] at HO4
              rw [HE.out] at HOK4
              have M5 := Lib.hid (HM.out.on HB4.out)
              have S5 := Lib.hid (HS.out.on HB4.out)
              go_wp2
              go_roundw
              case rel => exact ⟨k + 1, _, _, caStep mm l, rfl, by omega, by go_num, HYES.out HOK4.out, HCL.out, caOk_small HOK4.out (caStep_nonneg HMS.out HSL.out), own_base HO4.out HS.out.size, M5.out, S5.out⟩
              case measure => simp [intOf]; omega
        · obtain rfl : k = N := by omega
          have HF := Lib.hid (show cnP xs cs k = some l from HGO.out.trans (HG.out.trans (by rw [Nat.sub_self]; rfl)))
          have hl1 := HLL.out
          go_wp2
          go_ret2
          exact ⟨_, by rw [HF.out] <;> rfl, by unfold cnR; rw [HF.out]; show World.ownsRow _ _ _ _ _ l.length _; rw [HLL.out]; exact own_base HOL.out (Nat.le_succ _), HS.out.below⟩
end Go.Proofs.Ytglleimmmfnhcaa
