/- Walks: the factors of a fixed point. -/
import Derived.Test.YtglleimmmfnhcaaFix2
import Derived.Test.YtglleimmmfnhcaaFac3
namespace Go.Proofs.Ytglleimmmfnhcaa
open Go.RowKit
set_option maxRecDepth 20000

/-- what FixedFactors returns -/
def ffB (xs : List ByteArray) (l : List UInt8) (n : Int) : Bool := gB xs l && (decide ((1 : Int) ≤ n) && decide (n ≤ 8))
def ffS (xs : List ByteArray) (l : List UInt8) : ByteArray := ⟨(fpL xs l 400).toArray⟩
def ffR (xs : List ByteArray) (l : List UInt8) (n : Int) : List ByteArray := if ffB xs l n = true then (facR (ffS xs l) n.toNat).map mkB else []
theorem ff_no {xs : List ByteArray} {l : List UInt8} {n : Int} (h : ffB xs l n = false) : ffR xs l n = [] := by unfold ffR; rw [h]; rfl
theorem ff_yes {xs : List ByteArray} {l : List UInt8} {n : Nat} (h : ffB xs l n = true) : ffR xs l n = (facR (ffS xs l) n).map mkB := by unfold ffR; rw [if_pos h]; rfl
theorem ff_no1 {xs : List ByteArray} {l : List UInt8} {n : Int} (h : gB xs l = false) : ffB xs l n = false := by unfold ffB; rw [h]; rfl
theorem ff_no2 {xs : List ByteArray} {l : List UInt8} {n : Int} (h : (decide ((1 : Int) ≤ n) && decide (n ≤ 8)) = false) : ffB xs l n = false := by unfold ffB; rw [h]; simp
theorem ff_in {xs : List ByteArray} {l : List UInt8} {n : Int} (h1 : gB xs l = true) (h2 : (decide ((1 : Int) ≤ n) && decide (n ≤ 8)) = true) : ffB xs l n = true := by unfold ffB; rw [h1, h2]; rfl
theorem ffS_size (xs : List ByteArray) (l : List UInt8) : (ffS xs l).size ≤ 400 := by
  show (fpL xs l 400).length ≤ 400
  exact fpL_len
theorem ffR_len (xs : List ByteArray) (l : List UInt8) (n : Int) : (ffR xs l n).length ≤ 401 := by
  unfold ffR; split
  · rw [List.length_map]; have := facR_len (ffS xs l) n.toNat; have := ffS_size xs l; omega
  · simp
theorem fp_400 {xs : List ByteArray} {l : List UInt8} : fpB xs l 400 = gB xs l := by unfold fpB; simp
set_option maxHeartbeats 1000000 in
theorem implFixedFactors_any (xs : List ByteArray) (va : Value) (s : ByteArray) (n : Int) (w : World) (ha : Row1 w w.heap.size va (xs.map .string)) (hs : ∀ s ∈ xs, s.size ≤ maxLen) (ht : s.size ≤ maxLen) :
    Calls Try.prog 44 #[.agg #[va], .string s, .int .i64 n] w fun e w' => ∃ v, e = .returned v ∧ w'.ownsRow w.heap.size 9 1 v (ffR xs s.data.toList n).length ((ffR xs s.data.toList n).map .string) ∧ Below w.heap.size w w' := by
  have s0 := Stands.start w 28 va
  have hfp := implFixedPoint_any xs va s 400 _ (s0.row ha) hs ht
  rw [fp_400] at hfp
  have c0 := s0.box
  have HS0 := Lib.hid s0
  have hsz := ffS_size xs s.data.toList
  have HNO := Lib.hid (fun (h : ffB xs s.data.toList n = false) => ff_no h)
  have HSS := Lib.hid (show (⟨(fpL xs s.data.toList 400).toArray⟩ : ByteArray) = ffS xs s.data.toList from rfl)
  rw [HSS.out] at hfp
  clear s0 ha hs
  cases hg : gB xs s.data.toList
  · have HF := Lib.hid (HNO.out (ff_no1 hg))
    rw [hg] at hfp
    have HFP := Lib.hid hfp; clear hfp hg
    go_enter Try.func44, Try.ntmps44
    go_wp2_with fail
    refine HFP.out.mono ?_
    rintro e w1 ⟨rfl, hb1⟩
    have S1 := Lib.hid (HS0.out.on hb1); clear hb1
    go_wp2_with fail
    go_ret
    exact ⟨_, rfl, by rw [HF.out]; exact World.ownsRow_nil _ _ _ _, S1.out.below⟩
  have HG := Lib.hid hg
  rw [hg] at hfp
  have HFP := Lib.hid hfp; clear hfp hg
  cases hn : (decide ((1 : Int) ≤ n) && decide (n ≤ 8))
  · have HF := Lib.hid (HNO.out (ff_no2 hn))
    have HN := Lib.hid hn; clear hn
    go_enter Try.func44, Try.ntmps44
    go_wp2_with fail
    refine HFP.out.mono ?_
    rintro e w1 ⟨rfl, hb1⟩
    have S1 := Lib.hid (HS0.out.on hb1); clear hb1
    go_wp2_with (go_at_call 55; refine (within_any _ _ _ _).mono ?_; rw [HN.out]; rintro e w' ⟨rfl, rfl⟩)
    go_ret
    exact ⟨_, rfl, by rw [HF.out]; exact World.ownsRow_nil _ _ _ _, S1.out.below⟩
  have hn2 : 1 ≤ n ∧ n ≤ 8 := by simpa using hn
  obtain ⟨m, rfl⟩ := Int.eq_ofNat_of_zero_le (show 0 ≤ n by omega)
  have HF := Lib.hid (ff_yes (ff_in HG.out hn))
  have HN := Lib.hid hn; clear hn
  have HFA := Lib.hid (fun W => factorsOf_any (ffS xs s.data.toList) m W hsz (by omega) (by omega))
  obtain ⟨t, ht2⟩ : ∃ t, t = ffS xs s.data.toList := ⟨_, rfl⟩
  rw [← ht2] at HF HFP HFA
  clear ht2 hsz HSS HNO
  go_enter Try.func44, Try.ntmps44
  go_wp2_with fail
  refine HFP.out.mono ?_
  rintro e w1 ⟨rfl, hb1⟩
  have S1 := Lib.hid (HS0.out.on hb1); clear hb1
  go_wp2_with (go_at_call 55; refine (within_any _ _ _ _).mono ?_; rw [HN.out]; rintro e w' ⟨rfl, rfl⟩)
  refine (HFA.out _).mono ?_
  rintro e w2 ⟨g, c, rfl, ho, hb2⟩
  have S2 := Lib.hid (S1.out.on hb2)
  have HO := Lib.hid (own_base ho (Nat.le_trans (Nat.le_succ _) S1.out.size))
  clear ho hb2
  go_wp2_with fail
  go_ret
  exact ⟨_, rfl, by rw [HF.out, enc_map, List.length_map]; exact HO.out, S2.out.below⟩
set_option maxHeartbeats 1000000 in
theorem specFixedFactors_any (xs : List ByteArray) (va : Value) (s : ByteArray) (n : Int) (w : World) (ha : Row1 w w.heap.size va (xs.map .string)) (hs : ∀ s ∈ xs, s.size ≤ maxLen) (ht : s.size ≤ maxLen) :
    Calls Try.prog 43 #[.agg #[va], .string s, .int .i64 n] w fun e w' => ∃ v, e = .returned v ∧ w'.ownsRow w.heap.size 9 1 v (ffR xs s.data.toList n).length ((ffR xs s.data.toList n).map .string) ∧ Below w.heap.size w w' := by
  have s0 := Stands.start w 28 va
  have HL := Lib.hid (l05Letter_any xs va s _ (s0.row ha) hs ht)
  have c0 := s0.box
  have HS0 := Lib.hid s0
  have HA := Lib.hid ha
  have HNO := Lib.hid (fun (h : ffB xs s.data.toList n = false) => ff_no h)
  clear s0 ha hs
  cases hg : gB xs s.data.toList
  · have HF := Lib.hid (HNO.out (ff_no1 hg))
    rw [gK_no hg] at HL
    clear hg
    go_enter Try.func43, Try.ntmps43
    go_wp2_with fail
    refine HL.out.mono ?_
    rintro e w1 ⟨rfl, hb1⟩
    have S1 := Lib.hid (HS0.out.on hb1); clear hb1
    go_wp2_with fail
    go_ret
    exact ⟨_, rfl, by rw [HF.out]; exact World.ownsRow_nil _ _ _ _, S1.out.below⟩
  obtain ⟨k, hk, hk4, rfl, hgr, hkk⟩ := gB_parts hg
  have HG := Lib.hid hg
  rw [gK_yes hg, hkk] at HL
  have HSS := Lib.hid (show (⟨(fixR xs (lc k) 400).toArray⟩ : ByteArray) = ffS xs (ltr k).data.toList from by
    have h2 : fpB xs (ltr k).data.toList 400 = true := by rw [fp_400]; exact hg
    unfold ffS; rw [fp_yes h2]; rfl)
  have HGR := Lib.hid hgr
  have hsz := ffS_size xs (ltr k).data.toList
  clear hg hkk hgr
  cases hn : (decide ((1 : Int) ≤ n) && decide (n ≤ 8))
  · have HF := Lib.hid (HNO.out (ff_no2 hn))
    have HN := Lib.hid hn; clear hn
    go_enter Try.func43, Try.ntmps43
    go_wp2_with fail
    refine HL.out.mono ?_
    rintro e w1 ⟨rfl, hb1⟩
    have S1 := Lib.hid (HS0.out.on hb1); clear hb1
    go_wp2_with (go_at_call 50; refine (l01In_any _ _ _ _).mono ?_; rw [HN.out]; rintro e w' ⟨rfl, rfl⟩)
    go_ret
    exact ⟨_, rfl, by rw [HF.out]; exact World.ownsRow_nil _ _ _ _, S1.out.below⟩
  have hn2 : 1 ≤ n ∧ n ≤ 8 := by simpa using hn
  obtain ⟨m, rfl⟩ := Int.eq_ofNat_of_zero_le (show 0 ≤ n by omega)
  have HF := Lib.hid (ff_yes (ff_in HG.out hn))
  have HN := Lib.hid hn; clear hn
  have HFA := Lib.hid (fun W => l05Factors_any (ffS xs (ltr k).data.toList) m W hsz (by omega) (by omega))
  have hst := fun W hR => l05Start_any xs va k 400 W hR HGR.out hk (by omega)
  rw [HSS.out] at hst
  have HST := Lib.hid hst; clear hst
  obtain ⟨t, ht2⟩ : ∃ t, t = ffS xs (ltr k).data.toList := ⟨_, rfl⟩
  rw [← ht2] at HF HFA HST
  clear ht2 hsz HSS HNO
  go_enter Try.func43, Try.ntmps43
  go_wp2_with fail
  refine HL.out.mono ?_
  rintro e w1 ⟨rfl, hb1⟩
  have S1 := Lib.hid (HS0.out.on hb1); clear hb1
  have c1 := S1.out.box
  clear c0
  go_wp2_with (go_at_call 50; refine (l01In_any _ _ _ _).mono ?_; rw [HN.out]; rintro e w' ⟨rfl, rfl⟩)
  refine (HST.out _ (S1.out.row HA.out)).mono ?_
  rintro e w2 ⟨rfl, hb2⟩
  have S2 := Lib.hid (S1.out.on hb2); clear hb2
  go_wp2_with fail
  refine (HFA.out _).mono ?_
  rintro e w3 ⟨g, c, rfl, ho, hb3⟩
  have S3 := Lib.hid (S2.out.on hb3)
  have HO := Lib.hid (own_base ho (Nat.le_trans (Nat.le_succ _) S2.out.size))
  clear ho hb3
  go_wp2_with fail
  go_ret
  exact ⟨_, rfl, by rw [HF.out, enc_map, List.length_map]; exact HO.out, S3.out.below⟩
end Go.Proofs.Ytglleimmmfnhcaa
