/- Walks: FixedPoint and IsFixedStart. -/
import Derived.Test.YtglleimmmfnhcaaFix1
import Derived.Deep.RegionWith
namespace Go.Proofs.Ytglleimmmfnhcaa
open Go.RowKit
set_option maxRecDepth 20000

theorem gB_at {xs : List ByteArray} {s : ByteArray} (h : gB xs s.data.toList = true) : ∃ h0 : 0 < s.size, s.size = 1 ∧ Grows xs s[0] ∧ s.data.toList.headD 0 = s[0] := by
  obtain ⟨k, hk, hk4, rfl, hg, _⟩ := gB_parts h
  exact ⟨by rw [ltr_size]; omega, ltr_size k, hg, rfl⟩
theorem fp_no1 {xs : List ByteArray} {l : List UInt8} {n : Int} (h : gB xs l = false) : fpB xs l n = false := by unfold fpB; rw [h]; rfl
theorem fp_no2 {xs : List ByteArray} {l : List UInt8} {n : Int} (h : (decide (0 ≤ n) && decide (n ≤ 400)) = false) : fpB xs l n = false := by unfold fpB; rw [h]; simp
theorem fp_in {xs : List ByteArray} {l : List UInt8} {n : Int} (h1 : gB xs l = true) (h2 : (decide (0 ≤ n) && decide (n ≤ 400)) = true) : fpB xs l n = true := by unfold fpB; rw [h1, h2]; rfl
set_option maxHeartbeats 2000000 in
theorem implFixedPoint_any (xs : List ByteArray) (va : Value) (s : ByteArray) (n : Int) (w : World) (ha : Row1 w w.heap.size va (xs.map .string)) (hs : ∀ s ∈ xs, s.size ≤ maxLen) (ht : s.size ≤ maxLen) :
    Calls Try.prog 16 #[.agg #[va], .string s, .int .i64 n] w fun e w' => e = .returned (.tuple #[.string ⟨(fpL xs s.data.toList n).toArray⟩, .bool (fpB xs s.data.toList n)]) ∧ Below w.heap.size w w' := by
  have s0 := Stands.start w 28 va
  have HOK := Lib.hid (implSubstOk_any xs va _ (s0.row ha) hs)
  have c0 := s0.box
  have HS0 := Lib.hid s0
  have HA := Lib.hid ha
  have HNO := Lib.hid (fun (h : fpB xs s.data.toList n = false) => And.intro h (fp_no h))
  clear s0 ha hs
  cases hx : substB xs
  · have HF := Lib.hid (HNO.out (fp_no1 (gB_no1 hx)))
    go_enter Try.func16, Try.ntmps16
    go_wp2_with fail
    refine HOK.out.mono ?_
    rw [hx]
    rintro e w1 ⟨rfl, hb1⟩
    have S1 := Lib.hid (HS0.out.on hb1); clear hb1
    go_wp2_with fail
    go_ret2
    exact ⟨by rw [HF.out.1, HF.out.2] <;> rfl, S1.out.below⟩
  have HX := Lib.hid hx
  cases hg : growB xs s.data.toList
  · have HF := Lib.hid (HNO.out (fp_no1 (by unfold gB; rw [hg]; simp)))
    have HG := Lib.hid hg; clear hg hx
    go_enter Try.func16, Try.ntmps16
    go_wp2_with fail
    refine HOK.out.mono ?_
    rw [HX.out]
    rintro e w1 ⟨rfl, hb1⟩
    have S1 := Lib.hid (HS0.out.on hb1); clear hb1
    have c1 := S1.out.box
    clear c0
    go_wp2_with fail
    refine (isGrowing_any xs va s _ (S1.out.row HA.out) HX.out ht).mono ?_
    rw [HG.out]
    rintro e w2 ⟨rfl, hb2⟩
    have S2 := Lib.hid (S1.out.on hb2); clear hb2
    go_wp2_with fail
    go_ret2
    exact ⟨by rw [HF.out.1, HF.out.2] <;> rfl, S2.out.below⟩
  have HGB := Lib.hid (show gB xs s.data.toList = true by unfold gB; rw [hx, hg]; rfl)
  have HG := Lib.hid hg; clear hg hx
  cases hn : (decide (0 ≤ n) && decide (n ≤ 400))
  · have HF := Lib.hid (HNO.out (fp_no2 hn))
    have HN := Lib.hid hn; clear hn
    go_enter Try.func16, Try.ntmps16
    go_wp2_with fail
    refine HOK.out.mono ?_
    rw [HX.out]
    rintro e w1 ⟨rfl, hb1⟩
    have S1 := Lib.hid (HS0.out.on hb1); clear hb1
    have c1 := S1.out.box
    clear c0
    go_wp2_with fail
    refine (isGrowing_any xs va s _ (S1.out.row HA.out) HX.out ht).mono ?_
    rw [HG.out]
    rintro e w2 ⟨rfl, hb2⟩
    have S2 := Lib.hid (S1.out.on hb2); clear hb2
    go_wp2_with (go_at_call 55; refine (within_any _ _ _ _).mono ?_; rw [HN.out]; rintro e w' ⟨rfl, rfl⟩)
    go_ret2
    exact ⟨by rw [HF.out.1, HF.out.2] <;> rfl, S2.out.below⟩
  have hn2 : 0 ≤ n ∧ n ≤ 400 := by simpa using hn
  obtain ⟨h0, hs1, hgr, hhd⟩ := gB_at HGB.out
  obtain ⟨m, rfl⟩ := Int.eq_ofNat_of_zero_le hn2.1
  have HF := Lib.hid (fp_in HGB.out hn)
  have HV := Lib.hid (show fpL xs s.data.toList (m : Int) = fixR xs s[0] m by rw [fp_yes (fp_in HGB.out hn), hhd, Int.toNat_natCast])
  have HN := Lib.hid hn; have HGR := Lib.hid hgr
  have hm400 : m ≤ 400 := by omega
  clear hn hgr hhd HNO
  go_enter Try.func16, Try.ntmps16
  go_wp2_with fail
  refine HOK.out.mono ?_
  rw [HX.out]
  rintro e w1 ⟨rfl, hb1⟩
  have S1 := Lib.hid (HS0.out.on hb1); clear hb1
  have c1 := S1.out.box
  clear c0
  go_wp2_with fail
  refine (isGrowing_any xs va s _ (S1.out.row HA.out) HX.out ht).mono ?_
  rw [HG.out]
  rintro e w2 ⟨rfl, hb2⟩
  have S2 := Lib.hid (S1.out.on hb2); clear hb2
  have c2 := S2.out.box
  clear c1
  go_wp2_with (go_at_call 55; refine (within_any _ _ _ _).mono ?_; rw [HN.out]; rintro e w' ⟨rfl, rfl⟩)
  refine (fixed_any xs va s m _ (S2.out.row HA.out) h0 HGR.out (by omega)).mono ?_
  rintro e w3 ⟨t, g, cc, rfl, ho, hle, hle8, hb3⟩
  have S3 := Lib.hid (S2.out.on hb3); clear hb3
  have hback := run_back_T ho m cc hle
  rw [fix_take HGR.out hle] at hback
  obtain ⟨_, hcap, _⟩ := ho.cap
  have hmc : (m : Int) ≤ (cc : Int) := by omega
  clear ho c2
  go_wp2_with fail
  go_ret2
  exact ⟨by rw [HF.out, HV.out] <;> rfl, S3.out.below⟩
set_option maxHeartbeats 2000000 in
theorem specFixedPoint_any (xs : List ByteArray) (va : Value) (s : ByteArray) (n : Int) (w : World) (ha : Row1 w w.heap.size va (xs.map .string)) (hs : ∀ s ∈ xs, s.size ≤ maxLen) (ht : s.size ≤ maxLen) :
    Calls Try.prog 14 #[.agg #[va], .string s, .int .i64 n] w fun e w' => e = .returned (.tuple #[.string ⟨(fpL xs s.data.toList n).toArray⟩, .bool (fpB xs s.data.toList n)]) ∧ Below w.heap.size w w' := by
  have s0 := Stands.start w 28 va
  have HL := Lib.hid (l05Letter_any xs va s _ (s0.row ha) hs ht)
  have c0 := s0.box
  have HS0 := Lib.hid s0
  have HA := Lib.hid ha
  have HNO := Lib.hid (fun (h : fpB xs s.data.toList n = false) => And.intro h (fp_no h))
  clear s0 ha hs
  cases hg : gB xs s.data.toList
  · have HF := Lib.hid (HNO.out (fp_no1 hg))
    rw [gK_no hg] at HL
    clear hg
    go_enter Try.func14, Try.ntmps14
    go_wp2_with fail
    refine HL.out.mono ?_
    rintro e w1 ⟨rfl, hb1⟩
    have S1 := Lib.hid (HS0.out.on hb1); clear hb1
    go_wp2_with fail
    go_ret2
    exact ⟨by rw [HF.out.1, HF.out.2] <;> rfl, S1.out.below⟩
  obtain ⟨k, hk, hk4, rfl, hgr, hkk⟩ := gB_parts hg
  have HGB := Lib.hid hg
  rw [gK_yes hg, hkk] at HL
  have HGR := Lib.hid hgr
  clear hg hkk hgr
  cases hn : (decide (0 ≤ n) && decide (n ≤ 400))
  · have HF := Lib.hid (HNO.out (fp_no2 hn))
    have HN := Lib.hid hn; clear hn
    go_enter Try.func14, Try.ntmps14
    go_wp2_with fail
    refine HL.out.mono ?_
    rintro e w1 ⟨rfl, hb1⟩
    have S1 := Lib.hid (HS0.out.on hb1); clear hb1
    go_wp2_with (go_at_call 50; refine (l01In_any _ _ _ _).mono ?_; rw [HN.out]; rintro e w' ⟨rfl, rfl⟩)
    go_ret2
    exact ⟨by rw [HF.out.1, HF.out.2] <;> rfl, S1.out.below⟩
  have hn2 : 0 ≤ n ∧ n ≤ 400 := by simpa using hn
  obtain ⟨m, rfl⟩ := Int.eq_ofNat_of_zero_le hn2.1
  have HF := Lib.hid (fp_in HGB.out hn)
  have HV := Lib.hid (show fpL xs (ltr k).data.toList (m : Int) = fixR xs (lc k) m by rw [fp_yes (fp_in HGB.out hn), Int.toNat_natCast]; rfl)
  have HN := Lib.hid hn
  have hm400 : m ≤ 400 := by omega
  clear hn HNO
  go_enter Try.func14, Try.ntmps14
  go_wp2_with fail
  refine HL.out.mono ?_
  rintro e w1 ⟨rfl, hb1⟩
  have S1 := Lib.hid (HS0.out.on hb1); clear hb1
  have c1 := S1.out.box
  clear c0
  go_wp2_with (go_at_call 50; refine (l01In_any _ _ _ _).mono ?_; rw [HN.out]; rintro e w' ⟨rfl, rfl⟩)
  refine (l05Start_any xs va k m _ (S1.out.row HA.out) HGR.out hk (by omega)).mono ?_
  rintro e w2 ⟨rfl, hb2⟩
  have S2 := Lib.hid (S1.out.on hb2); clear hb2
  go_wp2_with fail
  go_ret2
  exact ⟨by rw [HF.out, HV.out] <;> rfl, S2.out.below⟩
/-- what IsFixedStart returns -/
def fsB (xs : List ByteArray) (s : ByteArray) : Bool := if s.size = 0 then true else fpB xs (s.extract 0 1).data.toList (s.size : Int) && ((⟨(fpL xs (s.extract 0 1).data.toList (s.size : Int)).toArray⟩ : ByteArray).toList == s.toList)
theorem isEmpty_no {f : ByteArray} (h : 0 < f.size) : f.toList.isEmpty = false := by
  rw [Lib.toList_data]
  cases hd : f.data.toList with
  | nil =>
    have h2 : f.size = 0 := by rw [Lib.size_eq, hd]; rfl
    omega
  | cons a l => rfl
set_option maxHeartbeats 2000000 in
theorem implIsFixedStart_any (xs : List ByteArray) (va : Value) (s : ByteArray) (w : World) (ha : Row1 w w.heap.size va (xs.map .string)) (hs : ∀ s ∈ xs, s.size ≤ maxLen) (ht : s.size ≤ maxLen) :
    Calls Try.prog 19 #[.agg #[va], .string s] w fun e w' => e = .returned (.bool (fsB xs s)) ∧ Below w.heap.size w w' := by
  have s0 := Stands.start w 28 va
  have HFP := Lib.hid (fun W hR => implFixedPoint_any xs va (s.extract 0 1) (s.size : Int) W hR hs (Nat.le_trans (show (s.extract 0 1).size ≤ 1 by rw [ByteArray.size_extract]; omega) (by unfold maxLen; omega)))
  have c0 := s0.box
  have HS0 := Lib.hid s0
  have HA := Lib.hid ha
  clear s0 ha hs
  rcases Nat.eq_zero_or_pos s.size with h0 | h0
  · have hse : s = ⟨#[]⟩ := by
      have h2 : s.data = #[] := Array.eq_empty_of_size_eq_zero h0
      cases s; simp at h2; rw [h2]
    subst hse
    have HF := Lib.hid (show fsB xs ⟨#[]⟩ = true from rfl)
    go_enter Try.func19, Try.ntmps19
    go_wp2_with fail
    go_ret
    exact ⟨by rw [HF.out] <;> rfl, HS0.out.below⟩
  have b1 := isEmpty_no h0
  have HF := Lib.hid (show fsB xs s = (fpB xs (s.extract 0 1).data.toList (s.size : Int) && ((⟨(fpL xs (s.extract 0 1).data.toList (s.size : Int)).toArray⟩ : ByteArray).toList == s.toList)) by unfold fsB; rw [if_neg (by omega)])
  have hz1 : (1 : Int) ≤ (s.size : Int) := by omega
  unfold maxLen at ht
  obtain ⟨own, how⟩ : ∃ own : ByteArray, own = ⟨(fpL xs (s.extract 0 1).data.toList (s.size : Int)).toArray⟩ := ⟨_, rfl⟩
  obtain ⟨ok, hok⟩ : ∃ ok, ok = fpB xs (s.extract 0 1).data.toList (s.size : Int) := ⟨_, rfl⟩
  rw [← how, ← hok] at HF HFP
  clear how hok
  cases b2 : (own.toList == s.toList) <;> cases ok
  all_goals
    rw [b2] at HF
    go_enter Try.func19, Try.ntmps19
    go_wp2_with fail
    go_region_with (go_at_call 16; refine (HFP.out _ (HS0.out.drew.row HA.out)).mono ?_; rintro e w1 ⟨rfl, hb1⟩; have S1 := Lib.hid (HS0.out.drew.on hb1); clear hb1)
    all_goals
      go_wp2_with fail
      go_ret
      refine ⟨by rw [HF.out] <;> rfl, Stands.below (T := 28) (va := va) (Hid.out ?_)⟩
      assumption
set_option maxHeartbeats 2000000 in
theorem specIsFixedStart_any (xs : List ByteArray) (va : Value) (s : ByteArray) (w : World) (ha : Row1 w w.heap.size va (xs.map .string)) (hs : ∀ s ∈ xs, s.size ≤ maxLen) (ht : s.size ≤ maxLen) :
    Calls Try.prog 18 #[.agg #[va], .string s] w fun e w' => e = .returned (.bool (fsB xs s)) ∧ Below w.heap.size w w' := by
  have s0 := Stands.start w 28 va
  have HFP := Lib.hid (fun W hR => specFixedPoint_any xs va (s.extract 0 1) (s.size : Int) W hR hs (Nat.le_trans (show (s.extract 0 1).size ≤ 1 by rw [ByteArray.size_extract]; omega) (by unfold maxLen; omega)))
  have c0 := s0.box
  have HS0 := Lib.hid s0
  have HA := Lib.hid ha
  clear s0 ha hs
  rcases Nat.eq_zero_or_pos s.size with h0 | h0
  · have hse : s = ⟨#[]⟩ := by
      have h2 : s.data = #[] := Array.eq_empty_of_size_eq_zero h0
      cases s; simp at h2; rw [h2]
    subst hse
    have HF := Lib.hid (show fsB xs ⟨#[]⟩ = true from rfl)
    go_enter Try.func18, Try.ntmps18
    go_wp2_with fail
    go_ret
    exact ⟨by rw [HF.out] <;> rfl, HS0.out.below⟩
  have b1 := isEmpty_no h0
  have HF := Lib.hid (show fsB xs s = (fpB xs (s.extract 0 1).data.toList (s.size : Int) && ((⟨(fpL xs (s.extract 0 1).data.toList (s.size : Int)).toArray⟩ : ByteArray).toList == s.toList)) by unfold fsB; rw [if_neg (by omega)])
  have hz1 : (1 : Int) ≤ (s.size : Int) := by omega
  unfold maxLen at ht
  obtain ⟨own, how⟩ : ∃ own : ByteArray, own = ⟨(fpL xs (s.extract 0 1).data.toList (s.size : Int)).toArray⟩ := ⟨_, rfl⟩
  obtain ⟨ok, hok⟩ : ∃ ok, ok = fpB xs (s.extract 0 1).data.toList (s.size : Int) := ⟨_, rfl⟩
  rw [← how, ← hok] at HF HFP
  clear how hok
  cases b2 : (own.toList == s.toList) <;> cases ok
  all_goals
    rw [b2] at HF
    go_enter Try.func18, Try.ntmps18
    go_wp2_with fail
    go_region_with (go_at_call 14; refine (HFP.out _ (HS0.out.drew.row HA.out)).mono ?_; rintro e w1 ⟨rfl, hb1⟩; have S1 := Lib.hid (HS0.out.drew.on hb1); clear hb1)
    all_goals
      go_wp2_with fail
      go_ret
      refine ⟨by rw [HF.out] <;> rfl, Stands.below (T := 28) (va := va) (Hid.out ?_)⟩
      assumption
end Go.Proofs.Ytglleimmmfnhcaa
