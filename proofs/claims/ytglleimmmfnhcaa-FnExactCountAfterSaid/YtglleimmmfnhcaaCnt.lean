/- Walks: numbers of letters after applications. -/
import Derived.Test.YtglleimmmfnhcaaMat
import Derived.Test.YtglleimmmfnhcaaCntP
import Derived.Test.YtglleimmmfnhcaaIn
import Derived.Deep.RegionLaw
import Derived.Deep.AppendLies
namespace Go.Proofs.Ytglleimmmfnhcaa
open Go.RowKit
set_option maxRecDepth 20000

def cnB (xs : List ByteArray) (cs : List Int) (n : Int) : Bool := substB xs && decide (cs.length = xs.length) && (decide (0 ≤ n) && decide (n ≤ 40)) && cs.all fun c => decide (0 ≤ c) && decide (c ≤ 1000)
def cnP (xs : List ByteArray) (cs : List Int) (n : Int) : Option (List Int) := if cnB xs cs n = true then caGo (matR xs) n.toNat cs else none
/-- what CountAfter returns -/
def cnR (xs : List ByteArray) (cs : List Int) (n : Int) : List Int := (cnP xs cs n).getD []
theorem cn_no {xs : List ByteArray} {cs : List Int} {n : Int} (h : cnB xs cs n = false) : cnP xs cs n = none := by unfold cnP; rw [h]; rfl
theorem cn_yes {xs : List ByteArray} {cs : List Int} {n : Nat} (h : cnB xs cs n = true) : cnP xs cs n = caGo (matR xs) n cs := by unfold cnP; rw [if_pos h]; rfl
theorem cn_no1 {xs : List ByteArray} {cs : List Int} {n : Int} (h : substB xs = false) : cnB xs cs n = false := by unfold cnB; rw [h]; rfl
theorem cn_no2 {xs : List ByteArray} {cs : List Int} {n : Int} (h : ¬ cs.length = xs.length) : cnB xs cs n = false := by unfold cnB; rw [decide_eq_false h]; simp
theorem cn_no3 {xs : List ByteArray} {cs : List Int} {n : Int} (h : (decide (0 ≤ n) && decide (n ≤ 40)) = false) : cnB xs cs n = false := by unfold cnB; rw [h]; simp
theorem cn_no4 {xs : List ByteArray} {cs : List Int} {n : Int} {k : Nat} (hk : k < cs.length) (h : (decide (0 ≤ cs[k]) && decide (cs[k] ≤ 1000)) = false) : cnB xs cs n = false := by
  have h2 : (cs.all fun c => decide (0 ≤ c) && decide (c ≤ 1000)) = false := by
    rw [List.all_eq_false]; exact ⟨cs[k], List.getElem_mem hk, by rw [h]; simp⟩
  unfold cnB; rw [h2]; simp
theorem cn_in {xs : List ByteArray} {cs : List Int} {n : Int} (h1 : substB xs = true) (h2 : cs.length = xs.length) (h3 : (decide (0 ≤ n) && decide (n ≤ 40)) = true) (h4 : ∀ c ∈ cs, (decide (0 ≤ c) && decide (c ≤ 1000)) = true) : cnB xs cs n = true := by
  unfold cnB; rw [h1, h3, decide_eq_true h2, List.all_eq_true.2 h4]; rfl
theorem matR_rows (xs : List ByteArray) : ∀ r ∈ matR xs, r.length = xs.length := by
  intro r hr; simp only [matR, List.mem_map] at hr; obtain ⟨i, _, rfl⟩ := hr; exact rowR_len xs i
theorem matR_small {xs : List ByteArray} (hx : substB xs = true) : ∀ r ∈ matR xs, small 8 r := by
  intro r hr x hxr
  simp only [matR, List.mem_map] at hr
  obtain ⟨i, _, rfl⟩ := hr
  simp only [rowR, List.mem_map] at hxr
  obtain ⟨s, hs, rfl⟩ := hxr
  have h1 := ((subst_parts hx).2.2 s hs).2.1
  have h2 := countC_le s.data.toList (lc i)
  rw [Lib.size_eq] at h1
  omega
set_option maxHeartbeats 4000000 in
theorem specCountAfter_any (xs : List ByteArray) (cs : List Int) (n : Int) (va vc : Value) (w : World) (ha : Row1 w w.heap.size va (xs.map .string)) (hs : ∀ s ∈ xs, s.size ≤ maxLen) (hc : Row1 w w.heap.size vc (ints cs)) :
    Calls Try.prog 30 #[.agg #[va], vc, .int .i64 n] w fun e w' => ∃ v, e = .returned (.tuple #[v, .bool (cnP xs cs n).isSome]) ∧ w'.ownsRow w.heap.size 3 1 v (cnR xs cs n).length (ints (cnR xs cs n)) ∧ Below w.heap.size w w' := by
  obtain ⟨i0, hi, hz0, hz1, hz2⟩ := info_parts info_int
  have HI := Lib.hid hi; have HZ0 := Lib.hid hz0; have HZ1 := Lib.hid hz1; have HZ2 := Lib.hid hz2
  clear hi hz0 hz1 hz2
  obtain ⟨A, cp, rfl⟩ := ha.shape
  have hcl := hc.len
  rw [ints_len] at hcl
  obtain ⟨C, ccp, rfl, hccp, hcm, hcell⟩ := hc
  rw [ints_len] at hccp ⊢
  have s0 := Stands.start w 28 (.slice A xs.length cp)
  have HOK := Lib.hid (specSubstOk_any xs _ _ (s0.row ha) hs)
  have HS0 := Lib.hid s0
  have HA := Lib.hid ha
  have HCC := Lib.hid hcell
  have c0 := s0.box
  clear s0 ha hs hcell
  have HFAIL := Lib.hid (fun (h : cnB xs cs n = false) => And.intro (cn_no h) (show cnR xs cs n = [] by unfold cnR; rw [cn_no h]; rfl))
  cases hx : substB xs
  · have HF := Lib.hid (HFAIL.out (cn_no1 hx))
    go_enter Try.func30, Try.ntmps30
    go_wp2_with fail
    refine HOK.out.mono ?_
    rw [hx]
    rintro e w1 ⟨rfl, hb1⟩
    have S1 := Lib.hid (HS0.out.on hb1); clear hb1
    go_wp2_with fail
    go_ret2
    exact ⟨_, by rw [HF.out.1] <;> rfl, by rw [HF.out.2]; exact World.ownsRow_nil _ _ _ _, S1.out.below⟩
  have HX := Lib.hid hx; clear hx
  by_cases hl : cs.length = xs.length
  case neg =>
    have HF := Lib.hid (HFAIL.out (cn_no2 hl))
    have hne : ((cs.length : Int) != (xs.length : Int)) = true := by rw [bne_iff_ne]; omega
    go_enter Try.func30, Try.ntmps30
    go_wp2_with fail
    refine HOK.out.mono ?_
    rw [HX.out]
    rintro e w1 ⟨rfl, hb1⟩
    have S1 := Lib.hid (HS0.out.on hb1); clear hb1
    have c1 := S1.out.box
    clear c0
    go_wp2_with fail
    go_ret2
    exact ⟨_, by rw [HF.out.1] <;> rfl, by rw [HF.out.2]; exact World.ownsRow_nil _ _ _ _, S1.out.below⟩
  have hne : ((cs.length : Int) != (xs.length : Int)) = false := by rw [hl]; simp
  cases hn : (decide (0 ≤ n) && decide (n ≤ 40))
  · have HF := Lib.hid (HFAIL.out (cn_no3 hn))
    have HN := Lib.hid hn; clear hn
    go_enter Try.func30, Try.ntmps30
    go_wp2_with fail
    refine HOK.out.mono ?_
    rw [HX.out]
    rintro e w1 ⟨rfl, hb1⟩
    have S1 := Lib.hid (HS0.out.on hb1); clear hb1
    have c1 := S1.out.box
    clear c0
    go_wp2_with (go_at_call 50; refine (l01In_any _ _ _ _).mono ?_; rw [HN.out]; rintro e w' ⟨rfl, rfl⟩)
    go_ret2
    exact ⟨_, by rw [HF.out.1] <;> rfl, by rw [HF.out.2]; exact World.ownsRow_nil _ _ _ _, S1.out.below⟩
  have hn2 : 0 ≤ n ∧ n ≤ 40 := by simpa using hn
  obtain ⟨N, rfl⟩ := Int.eq_ofNat_of_zero_le hn2.1
  have HN := Lib.hid hn; clear hn
  obtain ⟨h1x, h4x, _⟩ := subst_parts HX.out
  obtain ⟨bc, oc, rfl, hbc, hcc⟩ := HCC.out (by intro h; have h2 := congrArg List.length h; rw [ints_len] at h2; have h3 : cs.length = 0 := h2; omega)
  have HCELL := Lib.hid hcc; clear hcc HCC
  have HL := Lib.hid hl
  have HML := Lib.hid (matR_len xs); have HMR := Lib.hid (matR_rows xs); have HMS := Lib.hid (matR_small HX.out)
  have HCI := Lib.hid (fun h => cn_yes (cn_in HX.out hl HN.out h))
  have HC4 := Lib.hid (fun k hk h => HFAIL.out (cn_no4 (k := k) hk h))
  clear HFAIL
  go_enter Try.func30, Try.ntmps30
  go_wp2_with fail
  refine HOK.out.mono ?_
  rw [HX.out]
  rintro e w1 ⟨rfl, hb1⟩
  have S1 := Lib.hid (HS0.out.on hb1); clear hb1
  have c1 := S1.out.box
  clear c0
  go_wp2_with (go_at_call 50; refine (l01In_any _ _ _ _).mono ?_; rw [HN.out]; rintro e w' ⟨rfl, rfl⟩)
  go_loopw [37] (fun i wr => ∃ k : Nat, k ≤ cs.length ∧ i = .int .i64 k ∧ wr = w1 ∧ ∀ j (hj : j < cs.length), j < k → (decide (0 ≤ cs[j]) && decide (cs[j] ≤ 1000)) = true) (fun i _ => cs.length - (intOf i).toNat)
  case atStart => exact ⟨0, Nat.zero_le _, rfl, rfl, fun j _ h => absurd h (Nat.not_lt_zero j)⟩
  case round =>
    obtain ⟨k, hk, rfl, rfl, hall⟩ := hrel
    have HALL := Lib.hid hall; clear hall
    by_cases hlt : k < cs.length
    · have g1 := (S1.out.below.cell (p := ⟨bc, oc + k, none⟩) hbc).trans (HCELL.out k _ (map_get (Value.int .i64) cs k hlt))
      cases hq : (decide (0 ≤ cs[k]) && decide (cs[k] ≤ 1000))
      · have HF := Lib.hid (HC4.out k hlt hq)
        have HQ := Lib.hid hq; clear hq
        go_wp2_with (go_at_call 50; refine (l01In_any _ _ _ _).mono ?_; rw [HQ.out]; rintro e w' ⟨rfl, rfl⟩)
        go_ret2
        exact ⟨_, by rw [HF.out.1] <;> rfl, by rw [HF.out.2]; exact World.ownsRow_nil _ _ _ _, S1.out.below⟩
      · have HQ := Lib.hid hq; clear hq
        go_wp2_with (go_at_call 50; refine (l01In_any _ _ _ _).mono ?_; rw [HQ.out]; rintro e w' ⟨rfl, rfl⟩)
        go_roundw
        case rel =>
          refine ⟨k + 1, by omega, by go_num, by first | rfl | trivial, fun j hj hjk => ?_⟩
          by_cases e : j = k
          · subst e; exact HQ.out
          · exact HALL.out j hj (by omega)
        case measure => simp [intOf]; omega
    · obtain rfl : k = cs.length := by omega
      have hsm : ∀ c ∈ cs, (decide (0 ≤ c) && decide (c ≤ 1000)) = true := by
        intro c hc
        obtain ⟨j, hj, rfl⟩ := List.mem_iff_getElem.1 hc
        exact HALL.out j hj hj
      have HGO := Lib.hid (HCI.out hsm)
      have HSM := Lib.hid (show small 1000000000000 cs from fun c hc => by have := hsm c hc; simp only [Bool.and_eq_true, decide_eq_true_eq] at this; omega)
      clear hsm HALL
      go_wp2_with fail
      refine (specMatrix_any xs _ _ (S1.out.row HA.out) HX.out).mono ?_
      rintro e w2 ⟨vm, rfl, ho, hb2⟩
      have S2 := Lib.hid (S1.out.on hb2)
      have M2 := Lib.hid (Rd2.new ho.row2); clear ho hb2 c1
      obtain ⟨mm, hmm⟩ : ∃ mm, mm = matR xs := ⟨_, rfl⟩
      rw [← hmm] at HML HMR HMS M2 HGO
      clear hmm
      have HO0 := Lib.hid (show (w2.alloc (.cells #[] 3)).ownsRow (w.heap.size + 1) 3 1 (.slice (some ⟨w2.heap.size, 0, none⟩) 0 0) 0 [] from by simpa using World.ownsRow_made (base := w.heap.size + 1) (e := 3) (size := 1) w2 #[] 0 S2.out.size (Nat.zero_le _) rfl)
      have HCW := Lib.hid (fun (k : Nat) (u : Value) (hu : (ints cs)[k]? = some u) => (((S2.out.alloc (.cells #[] 3)).below).cell (p := ⟨bc, oc + k, none⟩) hbc).trans (HCELL.out k u hu))
      have HCW2 := Lib.hid (show ∀ (j : Nat) (u : Value), (ints cs)[j]? = some u → (w2.alloc (.cells #[] 3)).cell? ((⟨bc, oc, none⟩ : Addr).add j) = some u from fun j u hu => by rw [Addr.add_lit]; exact HCW.out j u hu)
      go_wp2_with (at_builtin; go_loud (refine wpList_append_own _ rfl _ _ 41 rfl (w.heap.size + 1) 3 i0 (.int .i64 0) 1 8 Try.underlying41 HI.out HZ0.out HZ1.out HZ2.out rfl (by decide) (.slice (some ⟨w2.heap.size, 0, none⟩) 0 0) 0 [] rfl HO0.out ⟨bc, oc, none⟩ xs.length ccp (ints cs) rfl (by rw [ints_len, HL.out]; omega) HCW2.out (by intro u hu; obtain ⟨z, _, rfl⟩ := List.mem_map.1 hu; rfl) (by unfold maxLen; omega) (by omega) (by have := S2.out.size; simp; omega) ?_))
      intro v' w3 hown' hgrow _
      have S3 := Lib.hid (stands_grown (S2.out.alloc _) hgrow (fun g hg => by have h := own_lt (World.ownsRow_made (base := w.heap.size + 1) (e := 3) (size := 1) w2 #[] 0 S2.out.size (Nat.zero_le _) rfl) hg; omega))
      have M3 := Lib.hid (Rd2.mk ((M2.out.on (bnew w2 (.cells #[] 3))).row.grown hgrow (M2.out.on (bnew w2 (.cells #[] 3))).le (fun g hg => by simp [Value.ownBlock] at hg; omega)) (Nat.le_trans (M2.out.on (bnew w2 (.cells #[] 3))).le hgrow.size))
      have O3 := Lib.hid (show w3.ownsRow (w.heap.size + 1) 3 1 v' cs.length (ints cs) from by rw [HL.out]; simpa using hown')
      clear hown' hgrow HCW HO0
      go_wp2_with fail
      go_loopw [11, 12] (fun v i wr => ∃ (k : Nat) (u : Value) (l : List Int), v = u ∧ k ≤ N ∧ i = .int .i64 k ∧ caGo mm N cs = caGo mm (N - k) l ∧ l.length = xs.length ∧ small 1000000000000 l ∧ wr.ownsRow (w.heap.size + 1) 3 1 u l.length (ints l) ∧ Rd2 w2.heap.size vm mm wr ∧ Stands w 28 (.slice A xs.length cp) wr) (fun _ i _ => N - (intOf i).toNat)
      case atStart => exact ⟨0, _, cs, rfl, Nat.zero_le _, rfl, rfl, HL.out, HSM.out, O3.out, M3.out, S3.out⟩
      case round =>
        clear O3 M3 S3
        obtain ⟨wo, rfl⟩ : ∃ wo, wo = wr := ⟨_, rfl⟩
        obtain ⟨k, u, l, rfl, hk, rfl, hgo, hll, hsm, hown, h2m, hst⟩ := hrel
        have HG := Lib.hid hgo; have HLL := Lib.hid hll; have HSL := Lib.hid hsm; have HOL := Lib.hid hown; have HM := Lib.hid h2m; have HS := Lib.hid hst
        obtain ⟨g, gc, rfl, _, _⟩ := hown.form (by omega)
        obtain ⟨bm, om, cm, hvm, hbm, hcm, hMM⟩ := h2m.row.open2 (by have := HML.out; omega) (by omega) HMR.out
        rw [HML.out] at hvm hcm
        subst hvm
        have HMM := Lib.hid hMM
        have HW0 := Lib.hid (show w2.heap.size ≤ wo.heap.size from h2m.le)
        clear hgo hll hsm hown h2m hst hMM
        by_cases hlt : k < N
        · have HR0 := Lib.hid (World.ownsRow_made (base := wo.heap.size) (e := 3) (size := 1) wo #[] 0 (Nat.le_refl _) (Nat.zero_le _) rfl)
          have hNk : N - k = (N - (k + 1)) + 1 := by omega
          have HNO := Lib.hid (fun h => HG.out.trans (by rw [hNk, ca_no (m := mm) (now := l) h]))
          have HYES := Lib.hid (fun h => HG.out.trans (by rw [hNk, ca_yes (m := mm) (now := l) h]))
          have HCL := Lib.hid (show (caStep mm l).length = xs.length from by rw [caStep_len]; exact HML.out)
          clear hNk
          go_wp2_with fail
          go_loopw [13, 58] (fun rv j wr => ∃ (q : Nat) (ru : Value), rv = ru ∧ q ≤ xs.length ∧ j = .int .i64 q ∧ wr.ownsRow wo.heap.size 3 1 ru q (ints ((caStep mm l).take q)) ∧ caOk ((caStep mm l).take q) = true ∧ Below wo.heap.size wo wr) (fun _ j _ => xs.length - (intOf j).toNat)
          case atStart => exact ⟨0, _, rfl, Nat.zero_le _, rfl, by simpa [ints] using HR0.out, rfl, bnew _ _⟩
          case round =>
            clear HR0
            obtain ⟨q, ru, rfl, hq, rfl, ho4, hok, hb4⟩ := hrel
            have HO4 := Lib.hid ho4; have HOK4 := Lib.hid hok; have HB4 := Lib.hid hb4
            have OL4 := Lib.hid (own_below HOL.out hb4)
            clear ho4 hok hb4
            by_cases hql : q < xs.length
            · have hqm : q < mm.length := by have := HML.out; omega
              obtain ⟨b3, o3, c3, hb3, hc3, g3, G3⟩ := HMM.out q hqm
              have HG3 := Lib.hid G3
              have g3' := (HB4.out.cell (p := ⟨bm, om + q, none⟩) (Nat.lt_of_lt_of_le hbm HW0.out)).trans g3
              have HRL := Lib.hid (HMR.out _ (List.getElem_mem hqm))
              have HRS := Lib.hid (HMS.out _ (List.getElem_mem hqm))
              have HST := Lib.hid (caStep_take (now := l) hqm)
              have HCG := Lib.hid (show (caStep mm l)[q]'(by have := HCL.out; omega) = dotTo mm[q] l mm[q].length from by simp [caStep])
              have HOS := Lib.hid (caOk_step (l := caStep mm l) (k := q) (by have := HCL.out; omega))
              have HOF := Lib.hid (caOk_fail (l := caStep mm l) (k := q) (by have := HCL.out; omega))
              rw [HCG.out] at HOS HOF
              obtain ⟨row, hrow⟩ : ∃ row, row = mm[q] := ⟨_, rfl⟩
              rw [← hrow] at HG3 HRL HRS HST HOS HOF
              rw [HRL.out] at HST HOS HOF
              clear G3 g3 hrow hqm HCG
              go_wp2_with fail
              go_loop [16, 64] (fun x j => ∃ m : Nat, m ≤ xs.length ∧ j = .int .i64 m ∧ x = .int .i64 (dotTo row l m)) (fun _ j => xs.length - (intOf j).toNat)
              case atStart => exact ⟨0, Nat.zero_le _, rfl, rfl⟩
              case round =>
                clear g3'
                obtain ⟨m, hm, rfl, rfl⟩ := hrel
                obtain ⟨d1, d2⟩ := dot_bound HRS.out HSL.out m
                by_cases hml : m < xs.length
                · have g5 := (HB4.out.cell (p := ⟨b3, o3 + m, none⟩) (Nat.lt_of_lt_of_le hb3 HW0.out)).trans (HG3.out m hml)
                  have g6 := OL4.out.cellAt m (by have := HLL.out; omega)
                  have hg6 : (ints l)[m]? = some (.int .i64 (l.getD m 0)) := by
                    rw [List.getElem?_map, List.getElem?_eq_getElem (by have := HLL.out; omega), List.getD_eq_getElem?_getD, List.getElem?_eq_getElem (by have := HLL.out; omega)]; rfl
                  rw [hg6] at g6
                  have hb1 := small_get HRS.out (by omega) m
                  have hb2 := small_get HSL.out (by omega) m
                  obtain ⟨p1, p2⟩ := mul_bound hb1 hb2
                  have HD := Lib.hid (show dotTo row l (m + 1) = dotTo row l m + row.getD m 0 * l.getD m 0 from rfl)
                  obtain ⟨y, hy⟩ : ∃ y, y = row.getD m 0 := ⟨_, rfl⟩
                  obtain ⟨z, hz⟩ : ∃ z, z = l.getD m 0 := ⟨_, rfl⟩
                  obtain ⟨d, hd⟩ : ∃ d, d = dotTo row l m := ⟨_, rfl⟩
                  rw [← hy] at g5 p1 p2 HD hb1
                  rw [← hz] at g6 p1 p2 HD hb2
                  rw [← hd] at HD d1 d2 ⊢
                  have hl1 := HLL.out
                  clear hg6 hy hz hd
                  go_wp2
                  go_round
                  case rel => exact ⟨m + 1, by omega, by go_num, by rw [HD.out]⟩
                  case measure => simp [intOf]; omega
                · obtain rfl : m = xs.length := by omega
                  obtain ⟨x, hx⟩ : ∃ x, x = dotTo row l xs.length := ⟨_, rfl⟩
                  rw [← hx] at HST HOS HOF d1 d2 ⊢
                  clear hx
                  by_cases hbig : x ≤ 1000000000000
                  · rw [HOK4.out, decide_eq_true hbig] at HOS
                    go_wp2_with (at_builtin; refine wpList_append_own _ rfl _ _ 41 rfl wo.heap.size 3 i0 (.int .i64 0) 1 8 Try.underlying41 HI.out HZ0.out HZ1.out HZ2.out rfl (by decide) _ _ _ rfl (HO4.out.alloc _) ⟨_, 0, none⟩ 1 1 [.int .i64 x] rfl rfl (cell_one_new _ _ _) (by intro u hu; simp at hu; subst hu; rfl) (by unfold maxLen; omega) (by omega) (by have := HB4.out.size; simp; omega) ?_)
                    intro v' w5 hown' hgrow _
                    have HB5 := Lib.hid (since_grown (bthen HB4.out (bnew _ _)) hgrow (fun g hg => (own_lt HO4.out hg).1))
                    have HO5 := Lib.hid hown'
                    clear hown' hgrow
                    go_wp2
                    go_roundw
                    case rel => exact ⟨q + 1, v', rfl, by omega, by go_num, by rw [HST.out]; simpa [ints] using HO5.out, by rw [HOS.out]; rfl, HB5.out⟩
                    case measure => simp [intOf]; omega
                  · have HN0 := Lib.hid (HNO.out (HOF.out (by omega)))
                    have HF := Lib.hid (show cnP xs cs N = none from HGO.out.trans HN0.out)
                    have HB6 := Lib.hid (HS.out.on HB4.out)
                    go_wp2
                    go_ret2
                    exact ⟨_, by rw [HF.out] <;> rfl, by unfold cnR; rw [HF.out]; exact World.ownsRow_nil _ _ _ _, HB6.out.below⟩
            · obtain rfl : q = xs.length := by omega
              have HE := Lib.hid (show (caStep mm l).take xs.length = caStep mm l from List.take_of_length_le (by have := HCL.out; omega))
              rw [HE.out] at HO4 HOK4
              have M5 := Lib.hid (HM.out.on HB4.out)
              have S5 := Lib.hid (HS.out.on HB4.out)
              go_wp2
              go_roundw
              case rel => exact ⟨k + 1, _, caStep mm l, rfl, by omega, by go_num, HYES.out HOK4.out, HCL.out, caOk_small HOK4.out (caStep_nonneg HMS.out HSL.out), by rw [HCL.out]; exact own_base HO4.out HS.out.size, M5.out, S5.out⟩
              case measure => simp [intOf]; omega
        · obtain rfl : k = N := by omega
          have HF := Lib.hid (show cnP xs cs k = some l from HGO.out.trans (HG.out.trans (by rw [Nat.sub_self]; rfl)))
          go_wp2
          go_ret2
          exact ⟨_, by rw [HF.out] <;> rfl, by unfold cnR; rw [HF.out]; exact own_base HOL.out (Nat.le_succ _), HS.out.below⟩
end Go.Proofs.Ytglleimmmfnhcaa
