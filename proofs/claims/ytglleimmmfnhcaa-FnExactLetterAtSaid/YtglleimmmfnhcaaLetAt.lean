/- Walks: one letter of a fixed point. -/
import Derived.Test.YtglleimmmfnhcaaFix2
import Derived.Test.YtglleimmmfnhcaaLetAtP
import Derived.Test.YtglleimmmfnhcaaBox
import Derived.Test.YtglleimmmfnhcaaPrimP
import Derived.Deep.LoopGhost
namespace Go.Proofs.Ytglleimmmfnhcaa
open Go.RowKit
set_option maxRecDepth 20000

/-- what LetterAt returns -/
def laB (xs : List ByteArray) (l : List UInt8) (n : Int) : Bool := gB xs l && (decide (0 ≤ n) && decide (n ≤ 10000))
def laL (xs : List ByteArray) (l : List UInt8) (n : Int) : Array UInt8 := if laB xs l n = true then #[fxAt xs (l.headD 0) n.toNat] else #[]
theorem la_no {xs : List ByteArray} {l : List UInt8} {n : Int} (h : laB xs l n = false) : laL xs l n = #[] := by unfold laL; rw [h]; rfl
theorem la_yes {xs : List ByteArray} {l : List UInt8} {n : Int} (h : laB xs l n = true) : laL xs l n = #[fxAt xs (l.headD 0) n.toNat] := by unfold laL; rw [if_pos h]
theorem la_no1 {xs : List ByteArray} {l : List UInt8} {n : Int} (h : gB xs l = false) : laB xs l n = false := by unfold laB; rw [h]; rfl
theorem la_no2 {xs : List ByteArray} {l : List UInt8} {n : Int} (h : (decide (0 ≤ n) && decide (n ≤ 10000)) = false) : laB xs l n = false := by unfold laB; rw [h]; simp
theorem la_in {xs : List ByteArray} {l : List UInt8} {n : Int} (h1 : gB xs l = true) (h2 : (decide (0 ≤ n) && decide (n ≤ 10000)) = true) : laB xs l n = true := by unfold laB; rw [h1, h2]; rfl
theorem run_back_at {w : World} {base g n c : Nat} {l : List UInt8} (h : OwnT w base 5 (.slice (some ⟨g, 0, none⟩) n c) l) (m c' : Nat) (z : UInt8) (hm : l[m]? = some z) :
    (convert 62 9 (.slice (some ⟨g, m, none⟩) 1 c')).run Try.prog w = .ok (.string ⟨#[z]⟩) w := by
  obtain ⟨hlt, hz⟩ := List.getElem?_eq_some_iff.1 hm
  exact run_convert_bytes_back w 62 9 5 ⟨g, m, none⟩ c' [z] Try.underlying62 Try.underlying5 Try.underlying9 fun j hj => by
    have hj0 : j = 0 := by simp at hj; exact hj
    subst hj0
    rw [Addr.add_lit, Nat.add_zero, h.cellAt m hlt, hz]; rfl
set_option maxHeartbeats 2000000 in
theorem implLetterAt_any (xs : List ByteArray) (va : Value) (s : ByteArray) (n : Int) (w : World) (ha : Row1 w w.heap.size va (xs.map .string)) (hs : ∀ s ∈ xs, s.size ≤ maxLen) (ht : s.size ≤ maxLen) :
    Calls Try.prog 21 #[.agg #[va], .string s, .int .i64 n] w fun e w' => e = .returned (.tuple #[.string ⟨laL xs s.data.toList n⟩, .bool (laB xs s.data.toList n)]) ∧ Below w.heap.size w w' := by
  have s0 := Stands.start w 28 va
  have HOK := Lib.hid (implSubstOk_any xs va _ (s0.row ha) hs)
  have c0 := s0.box
  have HS0 := Lib.hid s0
  have HA := Lib.hid ha
  have HNO := Lib.hid (fun (h : laB xs s.data.toList n = false) => And.intro h (la_no h))
  clear s0 ha hs
  cases hx : substB xs
  · have HF := Lib.hid (HNO.out (la_no1 (gB_no1 hx)))
    go_enter Try.func21, Try.ntmps21
    go_wp2_with fail
    refine HOK.out.mono ?_
    rw [hx]
    rintro e w1 ⟨rfl, hb1⟩
    have S1 := Lib.hid (HS0.out.on hb1); clear hb1
    go_wp2_with fail
    go_ret2
    exact ⟨by rw [HF.out.1, HF.out.2] <;> rfl, S1.out.below⟩
  have HX := Lib.hid hx
  cases hg : growB xs s.data.toList
  · have HF := Lib.hid (HNO.out (la_no1 (by unfold gB; rw [hg]; simp)))
    have HG := Lib.hid hg; clear hg hx
    go_enter Try.func21, Try.ntmps21
    go_wp2_with fail
    refine HOK.out.mono ?_
    rw [HX.out]
    rintro e w1 ⟨rfl, hb1⟩
    have S1 := Lib.hid (HS0.out.on hb1); clear hb1
    have c1 := S1.out.box
    clear c0
    go_wp2_with fail
    refine (isGrowing_any xs va s _ (S1.out.row HA.out) HX.out ht).mono ?_
    rw [HG.out]
    rintro e w2 ⟨rfl, hb2⟩
    have S2 := Lib.hid (S1.out.on hb2); clear hb2
    go_wp2_with fail
    go_ret2
    exact ⟨by rw [HF.out.1, HF.out.2] <;> rfl, S2.out.below⟩
  have HGB := Lib.hid (show gB xs s.data.toList = true by unfold gB; rw [hx, hg]; rfl)
  have HG := Lib.hid hg; clear hg hx
  cases hn : (decide (0 ≤ n) && decide (n ≤ 10000))
  · have HF := Lib.hid (HNO.out (la_no2 hn))
    have HN := Lib.hid hn; clear hn
    go_enter Try.func21, Try.ntmps21
    go_wp2_with fail
    refine HOK.out.mono ?_
    rw [HX.out]
    rintro e w1 ⟨rfl, hb1⟩
    have S1 := Lib.hid (HS0.out.on hb1); clear hb1
    have c1 := S1.out.box
    clear c0
    go_wp2_with fail
    refine (isGrowing_any xs va s _ (S1.out.row HA.out) HX.out ht).mono ?_
    rw [HG.out]
    rintro e w2 ⟨rfl, hb2⟩
    have S2 := Lib.hid (S1.out.on hb2); clear hb2
    go_wp2_with (go_at_call 55; refine (within_any _ _ _ _).mono ?_; rw [HN.out]; rintro e w' ⟨rfl, rfl⟩)
    go_ret2
    exact ⟨by rw [HF.out.1, HF.out.2] <;> rfl, S2.out.below⟩
  have hn2 : 0 ≤ n ∧ n ≤ 10000 := by simpa using hn
  obtain ⟨h0, hs1, hgr, hhd⟩ := gB_at HGB.out
  obtain ⟨m, rfl⟩ := Int.eq_ofNat_of_zero_le hn2.1
  have HF := Lib.hid (la_in HGB.out hn)
  have HV := Lib.hid (show laL xs s.data.toList (m : Int) = #[fxAt xs s[0] m] by rw [la_yes (la_in HGB.out hn), hhd, Int.toNat_natCast])
  have HN := Lib.hid hn; have HGR := Lib.hid hgr
  have hm400 : m ≤ 10000 := by omega
  have HFX := Lib.hid (fun t c w' base g (h : m + 1 ≤ (fixIt xs s[0] t).length) (ho : OwnT w' base 5 (.slice (some ⟨g, 0, none⟩) (fixIt xs s[0] t).length c) (fixIt xs s[0] t)) => run_back_at ho m (c - m) (fxAt xs s[0] m) (fx_some hgr (by omega)))
  clear hn hgr hhd HNO
  go_enter Try.func21, Try.ntmps21
  go_wp2_with fail
  refine HOK.out.mono ?_
  rw [HX.out]
  rintro e w1 ⟨rfl, hb1⟩
  have S1 := Lib.hid (HS0.out.on hb1); clear hb1
  have c1 := S1.out.box
  clear c0
  go_wp2_with fail
  refine (isGrowing_any xs va s _ (S1.out.row HA.out) HX.out ht).mono ?_
  rw [HG.out]
  rintro e w2 ⟨rfl, hb2⟩
  have S2 := Lib.hid (S1.out.on hb2); clear hb2
  have c2 := S2.out.box
  clear c1
  go_wp2_with (go_at_call 55; refine (within_any _ _ _ _).mono ?_; rw [HN.out]; rintro e w' ⟨rfl, rfl⟩)
  refine (fixed_any xs va s (m + 1) _ (S2.out.row HA.out) h0 HGR.out (by omega)).mono ?_
  rintro e w3 ⟨t, g, cc, rfl, ho, hle, hle8, hb3⟩
  have S3 := Lib.hid (S2.out.on hb3); clear hb3
  have hback := HFX.out t cc w3 _ g hle ho
  obtain ⟨_, hcap, _⟩ := ho.cap
  have hmc : (m : Int) + 1 ≤ (cc : Int) := by omega
  have hmc2 : (m : Int) ≤ (m : Int) + 1 := by omega
  clear ho c2
  go_wp2_with fail
  go_ret2
  exact ⟨by rw [HF.out, HV.out] <;> rfl, S3.out.below⟩
theorem info_intL : (Try.prog.info? 3).map (fun i => (i.zero, i.size, i.bytes)) = some (some (.int .i64 0), 1, 8) := by kernel_rfl
theorem info_rowL : (Try.prog.info? 41).map (fun i => (i.zero, i.size, i.bytes)) = some (some (.slice none 0 0), 1, 24) := by kernel_rfl
theorem types_il : (3 : TypeId) ≠ 41 := by decide
theorem stands_grownL {w wc w' : World} {T : TypeId} {va : Value} {row : Option Nat} (h : Stands w T va wc) (hg : wc.grownBy w' row) (hr : ∀ g, row = some g → w.heap.size + 1 ≤ g) : Stands w T va w' := Below.grown h hg (Stands.size h) hr
def slLen : Value → Nat
  | .slice _ n _ => n
  | _ => 0
set_option maxHeartbeats 8000000 in
theorem specLetterAtL_any (xs : List ByteArray) (va : Value) (k n : Nat) (w : World) (ha : Row1 w w.heap.size va (xs.map .string)) (hs : ∀ s ∈ xs, s.size ≤ maxLen) (hk : k < xs.length) (hg : Grows xs (lc k)) (hgb : gB xs (ltr k).data.toList = true) (hkk : letK xs (ltr k).data.toList = k) (hn : n ≤ 10000) :
    Calls Try.prog 20 #[.agg #[va], .string (ltr k), .int .i64 n] w fun e w' => e = .returned (.tuple #[.string ⟨#[fxAt xs (lc k) n]⟩, .bool true]) ∧ Below w.heap.size w w' := by
  obtain ⟨i0, hi, hz0, hz1, hz2⟩ := info_parts info_intL
  have HI := Lib.hid hi; have HZ0 := Lib.hid hz0; have HZ1 := Lib.hid hz1; have HZ2 := Lib.hid hz2
  clear hi hz0 hz1 hz2
  obtain ⟨i1, hi, hz0, hz1, hz2⟩ := info_parts info_rowL
  have HJ := Lib.hid hi; have HY0 := Lib.hid hz0; have HY1 := Lib.hid hz1; have HY2 := Lib.hid hz2
  clear hi hz0 hz1 hz2
  have h4 := (subst_parts hg.ok).2.1
  obtain ⟨b, o, cp, rfl, hbB, hcp, hcell⟩ := ha.openAt (by omega)
  have HC := Lib.hid hcell; clear hcell
  have s0 := Stands.start w 28 (.slice (some ⟨b, o, none⟩) xs.length cp)
  have HL := l05Letter_any xs _ (ltr k) _ (s0.row ha) hs (by rw [ltr_size]; unfold maxLen; omega)
  rw [gK_yes hgb, hkk] at HL
  have HLH := Lib.hid HL; clear HL
  have HS0 := Lib.hid s0
  have c0 := s0.box
  have hN : (decide ((0 : Int) ≤ (n : Int)) && decide ((n : Int) ≤ 10000)) = true := by simp; omega
  have HN := Lib.hid hN; clear hN
  have HG := Lib.hid hg
  obtain ⟨z, hz⟩ : ∃ z, z = fxAt xs (lc k) n := ⟨_, rfl⟩
  rw [← hz]
  have HZ := Lib.hid hz
  have hes := ltr_size k
  clear hz hgb hkk s0 ha hs hg
  have HIMG := Lib.hid (fun (j : Nat) (hj : j < xs.length) => show imgAt xs (lc j) = xs[j] from by
    have h2 := lc_nat (j := j) (by omega)
    have := imgAt_get (xs := xs) (c := lc j) (by omega)
    rw [this]; congr 1; omega)
  obtain ⟨tk, htk⟩ : ∃ tk, tk = ltr k := ⟨_, rfl⟩
  rw [← htk] at HLH hes ⊢
  clear htk
  go_enter Try.func20, Try.ntmps20
  go_wp2_with fail
  refine HLH.out.mono ?_
  rintro e w1 ⟨rfl, hb1⟩
  have S1 := Lib.hid (HS0.out.on hb1); clear hb1
  have c1 := (((S1.out.alloc (.cells #[] 41))).alloc (.cells #[] 3)).box
  have HV0 := Lib.hid (World.ownsRow_made (base := w.heap.size + 1) (e := 41) (size := 1) w1 #[] 0 S1.out.size (Nat.zero_le _) rfl)
  clear c0
  go_wp2_with (go_at_call 50; refine (l01In_any _ _ _ _).mono ?_; rw [HN.out]; rintro e w' ⟨rfl, rfl⟩)
  have HR0 := Lib.hid (World.ownsRow_made (base := w1.heap.size + 1) (e := 3) (size := 1) (w1.alloc (.cells #[] 41)) #[] 0 (by simp) (Nat.zero_le _) rfl)
  go_loopw [10, 34] (fun v i wr => ∃ (j : Nat) (u : Value), v = u ∧ j ≤ xs.length ∧ i = .int .i64 j ∧ wr.ownsRow (w1.heap.size + 1) 3 1 u j (ints (List.replicate j 1)) ∧ Below (w1.alloc (.cells #[] 41)).heap.size (w1.alloc (.cells #[] 41)) wr) (fun _ i _ => xs.length - (intOf i).toNat)
  case atStart => exact ⟨0, _, rfl, Nat.zero_le _, rfl, by simpa [ints] using HR0.out, bnew _ _⟩
  case round =>
    clear c1 HR0
    obtain ⟨j, u, rfl, hj, rfl, ho, hb⟩ := hrel
    have HO := Lib.hid ho; have HB := Lib.hid hb; clear ho hb
    by_cases hlt : j < xs.length
    · go_wp2_with (at_builtin; refine wpList_append_own _ rfl _ _ 41 rfl (w1.heap.size + 1) 3 i0 (.int .i64 0) 1 8 Try.underlying41 HI.out HZ0.out HZ1.out HZ2.out rfl (by decide) _ _ _ rfl (HO.out.alloc _) ⟨_, 0, none⟩ 1 1 [.int .i64 1] rfl rfl (cell_one_new _ _ _) (by intro u hu; simp at hu; subst hu; rfl) (by unfold maxLen; omega) (by omega) (by have := HB.out.size; simp at this ⊢; omega) ?_)
      intro v' w3 hown' hgrow _
      have HB3 := Lib.hid (since_grown (bthen HB.out (bnew _ _)) hgrow (fun g hg => by have := (own_lt HO.out hg).1; simp; omega))
      have HO3 := Lib.hid hown'
      clear hown' hgrow
      go_wp2
      go_roundw
      case rel => exact ⟨j + 1, v', rfl, by omega, by go_num, by have h := HO3.out; rw [List.replicate_succ']; simpa [ints] using h, HB3.out⟩
      case measure => simp [intOf]; omega
    · obtain rfl : j = xs.length := by omega
      obtain ⟨gu, cr, rfl, _, _⟩ := HO.out.form (by omega)
      have HRW := Lib.hid (show wr.ownsRow (w1.alloc (.cells #[] 41)).heap.size 3 1 (.slice (some ⟨gu, 0, none⟩) xs.length cr) (szRow xs 0).length (ints (szRow xs 0)) from by
        have h := szRow_zero xs xs.length (Nat.le_refl _)
        rw [List.take_of_length_le (by rw [szRow_len]; exact Nat.le_refl _)] at h
        rw [szRow_len, h, World.size_alloc]; exact HO.out)
      have HVB := Lib.hid (own_below HV0.out HB.out)
      go_wp2_with (at_builtin; refine wpList_append_lies _ rfl _ _ 49 rfl (w.heap.size + 1) 41 i1 (.slice none 0 0) 1 24 Try.underlying49 HJ.out HY0.out HY1.out HY2.out rfl (by decide) _ _ _ rfl (HVB.out.alloc _) ⟨_, 0, none⟩ 1 1 [.slice (some ⟨gu, 0, none⟩) xs.length cr] rfl rfl (cell_one_new _ _ _) (by intro u hu; simp at hu; subst hu; rfl) (by omega) (by simp [maxLen]) (by simp) (by have := HB.out.size; have := S1.out.size; simp at *; omega) _ rfl ?_)
      intro gz cz w4 hown' hgrow _ _
      have HV4 := Lib.hid (show OwnV 41 3 w4 (w.heap.size + 1) (.slice (some ⟨gz, 0, none⟩) 1 cz) [.slice (some ⟨gu, 0, none⟩) xs.length cr] (szRows xs 1) from
        (OwnV.empty (by simpa using HV0.out)).push (u := .slice (some ⟨gu, 0, none⟩) xs.length cr) (ys := szRow xs 0) types_il (by have := S1.out.size; simp; omega) (bthen HB.out (bnew _ _)) (HRW.out.alloc _) (by simpa using hown') (by simpa using hgrow))
      have S4 := Lib.hid (stands_grownL ((S1.out.alloc _).on (bthen HB.out (bnew _ _))) hgrow (fun g hg => (own_lt HVB.out hg).1))
      clear hown' hgrow
      go_wp2_with fail
      clear HVB HRW
      go_loopw [9, 10] (fun sv nv wr => ∃ (m gv cv gu cu : Nat) (vs : List Value), sv = .slice (some ⟨gv, 0, none⟩) (m + 1) cv ∧ nv = .slice (some ⟨gu, 0, none⟩) xs.length cu ∧ m ≤ n ∧ vs[m]? = some (.slice (some ⟨gu, 0, none⟩) xs.length cu) ∧ OwnV 41 3 wr (w.heap.size + 1) (.slice (some ⟨gv, 0, none⟩) (m + 1) cv) vs (szRows xs (m + 1)) ∧ Stands w 28 (.slice (some ⟨b, o, none⟩) xs.length cp) wr) (fun sv _ _ => n + 1 - slLen sv)
      case atStart => exact ⟨0, _, _, _, _, _, rfl, rfl, Nat.zero_le _, rfl, HV4.out, S4.out⟩
      case round =>
        clear HV4 S4
        obtain ⟨wo, rfl⟩ : ∃ wo, wo = wr := ⟨_, rfl⟩
        obtain ⟨m, gv, cv, gu, cu, vs, rfl, rfl, hmn, hvs, hov, hst⟩ := hrel
        have hvl : vs.length = m + 1 := by rw [hov.len, szRows_len]
        have hu := hov.row m (by omega) (by rw [szRows_len]; omega)
        rw [(List.getElem?_eq_some_iff.1 hvs).2, szRows_get _ (Nat.lt_succ_self m), szRow_len] at hu
        have HU := Lib.hid hu; have HV := Lib.hid hov; have HST := Lib.hid hst; have HVL := Lib.hid hvl
        have g1 := hu.cellAt k (by omega)
        rw [szRow_val xs hk] at g1
        have hy := smI_bound xs m [lc k]
        have HLE := Lib.hid (smI_le (xs := xs) (m := m) (l := [lc k]) hn)
        obtain ⟨y, hyy⟩ : ∃ y, y = smI xs m [lc k] := ⟨_, rfl⟩
        rw [← hyy] at g1 hy HLE
        clear hu hov hst hvl hvs hyy
        by_cases hle : y ≤ n
        · have hmlt : m < n := Nat.lt_of_lt_of_le (pow_long HG.out m) (HLE.out.1 hle)
          have c2 := (HST.out.alloc (.cells #[] 3)).box
          have HR5 := Lib.hid (World.ownsRow_made (base := wo.heap.size) (e := 3) (size := 1) wo #[] 0 (Nat.le_refl _) (Nat.zero_le _) rfl)
          go_wp2_with fail
          go_loopw [11, 54] (fun nx jv w5 => ∃ (j : Nat) (u5 : Value), nx = u5 ∧ j ≤ xs.length ∧ jv = .int .i64 j ∧ w5.ownsRow wo.heap.size 3 1 u5 j (ints ((szRow xs (m + 1)).take j)) ∧ Below wo.heap.size wo w5) (fun _ jv _ => xs.length - (intOf jv).toNat)
          case atStart => exact ⟨0, _, rfl, Nat.zero_le _, rfl, by simpa [ints] using HR5.out, bnew _ _⟩
          case round =>
            clear HR5 c2 g1
            obtain ⟨j, u5, rfl, hj, rfl, ho, hb⟩ := hrel
            have HO := Lib.hid ho; have HB := Lib.hid hb; clear ho hb
            by_cases hjl : j < xs.length
            · have g5 := ((bthen HST.out.below HB.out).cell (p := ⟨b, o + j, none⟩) hbB).trans (HC.out j hjl)
              have HRT := Lib.hid (szRow_take xs (m := m + 1) hjl)
              have hlj := lc_nat (j := j) (by omega)
              have hok := imgAt_ok HG.out.ok (c := lc j) (by omega)
              have hsm := smI_next xs m (lc j)
              rw [HIMG.out j hjl] at hok hsm
              obtain ⟨x, hx⟩ : ∃ x, x = xs[j] := ⟨_, rfl⟩
              rw [← hx] at g5 hok hsm
              have hx8 := hok.2.1
              have HWB := Lib.hid hok.2.2
              have HSM := Lib.hid hsm
              have HU5 := Lib.hid (own_below HU.out HB.out)
              clear hok hsm hx hlj
              go_wp2_with fail
              go_loop [14, 15] (fun sv iv => ∃ i : Nat, i ≤ x.size ∧ iv = .int .i64 i ∧ sv = .int .i64 (smI xs m (x.data.toList.take i))) (fun _ iv => x.size - (intOf iv).toNat)
              case atStart => exact ⟨0, Nat.zero_le _, rfl, by rw [List.take_zero, smI_nil]⟩
              case round =>
                clear g5
                obtain ⟨i, hi, rfl, rfl⟩ := hrel
                have hb1 := smI_bound xs m (x.data.toList.take i)
                by_cases hil : i < x.size
                · obtain ⟨q1, q2, q3⟩ := wordIn_byte HWB.out i hil
                  have hts := take_snoc x i hil
                  have HADD := Lib.hid (show smI xs m (x.data.toList.take (i + 1)) = if smI xs m (x.data.toList.take i) + smI xs m [x[i]] < 10001 then smI xs m (x.data.toList.take i) + smI xs m [x[i]] else 10001 by rw [hts, smI_add]; split <;> omega)
                  obtain ⟨c, hc⟩ : ∃ c, c = x[i] := ⟨_, rfl⟩
                  have hb2 := smI_bound xs m [c]
                  rw [← hc] at q1 q2 q3 HADD
                  obtain ⟨mm, hmm⟩ : ∃ mm : Nat, mm = c.toNat - 97 := ⟨_, rfl⟩
                  have e1 : IntKind.u8.wrap ((c.toNat : Int) - 97) = (mm : Int) := by rw [IntWalk.u8_in _ ⟨by omega, by omega⟩]; omega
                  have hml : mm < xs.length := by omega
                  have hmi : (mm : Int) < (xs.length : Int) := by omega
                  have g6 := HU5.out.cellAt mm (by omega)
                  rw [szRow_val xs hml, show lc mm = c from by rw [hmm]; exact lc_of (by omega)] at g6
                  obtain ⟨s1, hs1⟩ : ∃ s1, s1 = smI xs m (x.data.toList.take i) := ⟨_, rfl⟩
                  obtain ⟨s2, hs2⟩ : ∃ s2, s2 = smI xs m [c] := ⟨_, rfl⟩
                  rw [← hs1] at HADD hb1 ⊢
                  rw [← hs2] at HADD hb2 g6
                  have HCC := Lib.hid hc
                  clear hs1 hs2 hts hmm
                  rw [hc] at e1
                  clear hc
                  go_wp2
                  go_round
                  case rel => exact ⟨i + 1, by omega, by go_num, by rw [HADD.out] <;> rfl⟩
                  case measure => simp [intOf]; omega
                · have e := take_all x i (by omega)
                  rw [e, HSM.out] at hb1 ⊢
                  obtain ⟨s1, hs1⟩ : ∃ s1, s1 = smI xs (m + 1) [lc j] := ⟨_, rfl⟩
                  rw [← hs1] at hb1 HRT ⊢
                  clear e hs1
                  go_wp2_with (at_builtin; refine wpList_append_own _ rfl _ _ 41 rfl wo.heap.size 3 i0 (.int .i64 0) 1 8 Try.underlying41 HI.out HZ0.out HZ1.out HZ2.out rfl (by decide) _ _ _ rfl (HO.out.alloc _) ⟨_, 0, none⟩ 1 1 [.int .i64 s1] rfl rfl (cell_one_new _ _ _) (by intro u hu; simp at hu; subst hu; rfl) (by unfold maxLen; omega) (by omega) (by have := HB.out.size; simp; omega) ?_)
                  intro v' w6 hown' hgrow _
                  have HB3 := Lib.hid (since_grown (bthen HB.out (bnew _ _)) hgrow (fun g hg => (own_lt HO.out hg).1))
                  have HO3 := Lib.hid hown'
                  clear hown' hgrow
                  go_wp2
                  go_roundw
                  case rel => exact ⟨j + 1, v', rfl, by omega, by go_num, by rw [HRT.out]; simpa [ints] using HO3.out, HB3.out⟩
                  case measure => simp [intOf]; omega
            · obtain rfl : j = xs.length := by omega
              obtain ⟨gn, cn, rfl, _, _⟩ := HO.out.form (by omega)
              have HRW := Lib.hid (show wr.ownsRow wo.heap.size 3 1 (.slice (some ⟨gn, 0, none⟩) xs.length cn) (szRow xs (m + 1)).length (ints (szRow xs (m + 1))) from by
                have h := HO.out
                rw [List.take_of_length_le (by rw [szRow_len]; exact Nat.le_refl _)] at h
                rw [szRow_len]; exact h)
              have hvo := (HV.out.below HB.out).own
              rw [szRows_len] at hvo
              have HVO := Lib.hid hvo; clear hvo
              go_wp2_with (at_builtin; refine wpList_append_lies _ rfl _ _ 49 rfl (w.heap.size + 1) 41 i1 (.slice none 0 0) 1 24 Try.underlying49 HJ.out HY0.out HY1.out HY2.out rfl (by decide) _ _ _ rfl (HVO.out.alloc _) ⟨_, 0, none⟩ 1 1 [.slice (some ⟨gn, 0, none⟩) xs.length cn] rfl rfl (cell_one_new _ _ _) (by intro u hu; simp at hu; subst hu; rfl) (by omega) (by unfold maxLen; omega) (by omega) (by have := HB.out.size; have := HST.out.size; simp; omega) _ rfl ?_)
              intro g6 c6 w6 hown' hgrow _ _
              have hv6 := HV.out.push (u := .slice (some ⟨gn, 0, none⟩) xs.length cn) (ys := szRow xs (m + 1)) types_il (Nat.le_trans (by omega) HST.out.size) (bthen HB.out (bnew _ _)) (HRW.out.alloc _) (by rw [szRows_len]; exact hown') hgrow
              rw [← szRows_succ] at hv6
              have HV6 := Lib.hid hv6
              have S6 := Lib.hid (stands_grownL (HST.out.on (bthen HB.out (bnew _ _))) hgrow (fun g hg => (own_lt HVO.out hg).1))
              clear hown' hgrow hv6
              go_wp2
              go_roundw
              case rel => exact ⟨m + 1, _, _, _, _, _, rfl, rfl, by omega, by rw [List.getElem?_append_right (by rw [HVL.out]; exact Nat.le_refl _), HVL.out, Nat.sub_self]; rfl, HV6.out, S6.out⟩
              case measure => simp [slLen]; omega
        · have hlt : (n : Int) < y := by omega
          have HT := Lib.hid (show Tgt xs m [lc k] n z by
            rw [HZ.out]
            exact tgt_fx HG.out (Nat.lt_of_not_le fun h => hle (HLE.out.2 h)))
          obtain ⟨bz, oz, cz2, heq, hbz, _, hcz⟩ := HV.out.row2.open2 (by rw [szRows_len]; omega) (by omega : 0 < xs.length) (szRows_all xs (m + 1))
          rw [szRows_len] at heq
          cases heq
          have HCZ := Lib.hid (fun p (hp : p < m + 1) => hcz p (by rw [szRows_len]; exact hp))
          have c2 := HST.out.box
          clear hcz hy
          go_wp2_with fail
          go_loopw [2, 8, 16] (fun nv kv iv wq => ∃ (q nn kk d : Nat) (qi : Int), iv = .int .i64 qi ∧ nv = .int .i64 nn ∧ kv = .int .i64 kk ∧ qi = (q : Int) - 1 ∧ q ≤ m ∧ kk < xs.length ∧ nn ≤ 10000 ∧ Tgt xs q [lc kk] nn z ∧ wq = wo.drewN d) (fun _ _ iv _ => (intOf iv + 1).toNat)
          case atStart => exact ⟨m, n, k, 0, _, rfl, rfl, rfl, by omega, Nat.le_refl _, hk, hn, HT.out, rfl⟩
          case round =>
            clear g1 hle hlt HLE
            obtain ⟨q, nn, kk, d, qi, rfl, rfl, rfl, hqi, hqm, hkk, hnn, htg, rfl⟩ := hrel
            have HTG := Lib.hid htg; clear htg
            rcases q with _ | p
            · have e1 := abcd_at (k := kk) (by omega)
              have HE := Lib.hid (show z = lc kk from HTG.out.zero)
              have hq0 : qi < 0 := by omega
              clear hqi
              go_wp2
              go_ret2
              exact ⟨by rw [HE.out] <;> rfl, below_drewN HST.out.below _⟩
            · obtain rfl : qi = (p : Int) := by omega
              have g2 := (HST.out.below.cell (p := ⟨b, o + kk, none⟩) hbB).trans (HC.out kk hkk)
              have hts := HTG.out.step
              have hlk := lc_nat (j := kk) (by omega)
              have hok := imgAt_ok HG.out.ok (c := lc kk) (by omega)
              rw [HIMG.out kk hkk] at hts hok
              obtain ⟨x, hx⟩ : ∃ x, x = xs[kk] := ⟨_, rfl⟩
              rw [← hx] at g2 hts hok
              have hx8 := hok.2.1
              have HWB := Lib.hid hok.2.2
              have HTS := Lib.hid hts
              obtain ⟨bp, op, cp2, hbp, hcp2, g3, G4⟩ := HCZ.out p (by omega)
              have HG4 := Lib.hid G4
              rw [Nat.zero_add] at g3
              clear hok hts hx hlk hqi G4
              go_wp2_with fail
              go_loopw [2, 18] (fun nv jv w6 => ∃ (jj n2 d2 : Nat), jv = .int .i64 jj ∧ nv = .int .i64 n2 ∧ n2 ≤ 10000 ∧ Tgt xs p (x.data.toList.drop jj) n2 z ∧ w6 = wo.drewN d2) (fun _ jv _ => x.size - (intOf jv).toNat)
              case atStart => exact ⟨0, nn, d, rfl, rfl, hnn, HTS.out, rfl⟩
              case round =>
                clear c2 g2
                obtain ⟨jj, n2, d2, rfl, rfl, hn2, htj, rfl⟩ := hrel
                have hjx : jj < x.size := by
                  rcases Nat.lt_or_ge jj x.size with h | h
                  · exact h
                  · rw [List.drop_eq_nil_of_le (by rw [← Lib.size_eq]; exact h)] at htj
                    exact htj.nil.elim
                have hdr : x.data.toList.drop jj = x[jj] :: x.data.toList.drop (jj + 1) := by
                  rw [List.drop_eq_getElem_cons (by rw [← Lib.size_eq]; exact hjx)]; rfl
                rw [hdr] at htj
                obtain ⟨q1, q2, q3⟩ := wordIn_byte HWB.out jj hjx
                obtain ⟨c, hc⟩ : ∃ c, c = x[jj] := ⟨_, rfl⟩
                rw [← hc] at q1 q2 q3 htj
                obtain ⟨mm, hmm⟩ : ∃ mm : Nat, mm = c.toNat - 97 := ⟨_, rfl⟩
                have e1 : IntKind.u8.wrap ((c.toNat : Int) - 97) = (mm : Int) := by rw [IntWalk.u8_in _ ⟨by omega, by omega⟩]; omega
                have hml : mm < xs.length := by omega
                have hmi : (mm : Int) < (xs.length : Int) := by omega
                have hlc : lc mm = c := by rw [hmm]; exact lc_of (by omega)
                have g5 := HG4.out mm hml
                rw [szRows_get xs (by omega : p < m + 1), szRow_get xs hml, hlc] at g5
                have hb := smI_bound xs p [c]
                have HLE2 := Lib.hid (smI_le (xs := xs) (m := p) (l := [c]) hn2)
                have HLN := Lib.hid (smI_len (xs := xs) (m := p) (l := [c]) hn2)
                have HTJ := Lib.hid htj
                have HLC := Lib.hid hlc
                obtain ⟨y2, hy2⟩ : ∃ y2, y2 = smI xs p [c] := ⟨_, rfl⟩
                rw [← hy2] at g5 hb HLE2 HLN
                have e2 : IntKind.i64.wrap ((n2 : Int) - y2) = (n2 : Int) - y2 := IntWalk.i64_in _ (by omega)
                have hjxi : (jj : Int) < (x.size : Int) := by omega
                rw [hc] at e1
                clear hdr htj hlc hmm hy2 q1 q2 q3 hc
                by_cases hle2 : y2 ≤ (n2 : Int)
                · obtain ⟨n3, hn3⟩ := Int.eq_ofNat_of_zero_le (show 0 ≤ (n2 : Int) - y2 by omega)
                  have HT2 := Lib.hid (show Tgt xs p (x.data.toList.drop (jj + 1)) n3 z by
                    have h1 := HTJ.out.pass (HLE2.out.1 hle2)
                    have h2 := HLN.out hle2
                    rw [show n2 - (powL xs p [c]).length = n3 by omega] at h1
                    exact h1)
                  rw [hn3] at e2
                  go_wp2_with fail
                  go_quiet (fail)
                  go_wp2_with fail
                  go_quiet (fail)
                  clear e1 e2
                  go_wp2
                  go_roundw
                  case rel => exact ⟨jj + 1, n3, _, by go_num, rfl, by omega, HT2.out, rfl⟩
                  case measure => simp [intOf]; omega
                · have HT2 := Lib.hid (show Tgt xs p [lc mm] n2 z by
                    rw [HLC.out]
                    exact HTJ.out.stop (Nat.lt_of_not_le fun h => hle2 (HLE2.out.2 h)))
                  go_wp2_with fail
                  go_quiet (fail)
                  clear e2
                  go_wp2
                  go_roundw
                  case rel => exact ⟨p, n2, mm, _, _, rfl, rfl, rfl, rfl, by omega, hml, hn2, HT2.out, rfl⟩
                  case measure => first | (simp [intOf]; done) | (simp [intOf]; omega)
set_option maxHeartbeats 1000000 in
theorem specLetterAt_any (xs : List ByteArray) (va : Value) (s : ByteArray) (n : Int) (w : World) (ha : Row1 w w.heap.size va (xs.map .string)) (hs : ∀ s ∈ xs, s.size ≤ maxLen) (ht : s.size ≤ maxLen) :
    Calls Try.prog 20 #[.agg #[va], .string s, .int .i64 n] w fun e w' => e = .returned (.tuple #[.string ⟨laL xs s.data.toList n⟩, .bool (laB xs s.data.toList n)]) ∧ Below w.heap.size w w' := by
  have s0 := Stands.start w 28 va
  have HL := Lib.hid (l05Letter_any xs va s _ (s0.row ha) hs ht)
  have c0 := s0.box
  have HS0 := Lib.hid s0
  have HNO := Lib.hid (fun (h : laB xs s.data.toList n = false) => And.intro h (la_no h))
  clear s0
  cases hg : gB xs s.data.toList
  · have HF := Lib.hid (HNO.out (la_no1 hg))
    rw [gK_no hg] at HL
    clear hg ha hs
    go_enter Try.func20, Try.ntmps20
    go_wp2_with fail
    refine HL.out.mono ?_
    rintro e w1 ⟨rfl, hb1⟩
    have S1 := Lib.hid (HS0.out.on hb1); clear hb1
    go_wp2_with fail
    go_ret2
    exact ⟨by rw [HF.out.1, HF.out.2] <;> rfl, S1.out.below⟩
  obtain ⟨k, hk, hk4, rfl, hgr, hkk⟩ := gB_parts hg
  cases hn : (decide (0 ≤ n) && decide (n ≤ 10000))
  · have HF := Lib.hid (HNO.out (la_no2 hn))
    have HN := Lib.hid hn
    rw [gK_yes hg, hkk] at HL
    clear hn hg hkk hgr ha hs
    go_enter Try.func20, Try.ntmps20
    go_wp2_with fail
    refine HL.out.mono ?_
    rintro e w1 ⟨rfl, hb1⟩
    have S1 := Lib.hid (HS0.out.on hb1); clear hb1
    go_wp2_with (go_at_call 50; refine (l01In_any _ _ _ _).mono ?_; rw [HN.out]; rintro e w' ⟨rfl, rfl⟩)
    go_ret2
    exact ⟨by rw [HF.out.1, HF.out.2] <;> rfl, S1.out.below⟩
  have hn2 : 0 ≤ n ∧ n ≤ 10000 := by simpa using hn
  obtain ⟨m, rfl⟩ := Int.eq_ofNat_of_zero_le hn2.1
  rw [la_yes (la_in hg hn), la_in hg hn, Int.toNat_natCast]
  exact specLetterAtL_any xs va k m w ha hs hk hgr hg hkk (by omega)
end Go.Proofs.Ytglleimmmfnhcaa
