/- Walks: integers and their numerals, the program's and the reference's. Conditions: none beyond the hypotheses of each lemma. -/
import Derived.Test.YtciiokegifgbdaaDoorItoa
import Derived.Test.YtciiokegifgbdaaDoorStr
import Derived.Test.YtciiokegifgbdaaDoorShelf
namespace Go.Proofs.YtciiokegifgbdaaDoor
open Go.RowKit
set_option maxRecDepth 20000

theorem below_grow {w w' : World} (h : ∃ k os, w' = Sort.grow (w.drewN k) os) : Below w.heap.size w w' := by
  obtain ⟨k, os, rfl⟩ := h
  refine ⟨rfl, rfl, rfl, ?_, fun j hj => ?_⟩
  · show w.heap.size ≤ ((w.drewN k).heap ++ os).size
    rw [Array.size_append]; exact Nat.le_add_right _ _
  · show ((w.drewN k).heap ++ os)[j]? = w.heap[j]?
    rw [Array.getElem?_append_left (by exact hj)]; rfl
/-- the library's table of powers of ten lies in this world -/
def Tab (w : World) : Prop := Lib.TabIs Tryd.prog w "internal/strconv.uint64pow10" .u64 Lib.pow10Tab
theorem Tab.on {w w' : World} (h : Tab w) (hb : Below w.heap.size w w') : Tab w' := by
  unfold Tab Lib.TabIs World.var? at *
  cases hg : Tryd.prog.globalNamed "internal/strconv.uint64pow10" with
  | none => simp [hg] at h
  | some g =>
    simp only [hg, Option.bind_some] at h ⊢
    have hlt : g < w.heap.size := by
      rcases Nat.lt_or_ge g w.heap.size with h' | h'
      · exact h'
      · rw [Array.getElem?_eq_none h'] at h; simp at h
    rw [hb.block g hlt]
    exact h
theorem itoa_any (n : Int) (w : World) (h0 : -9223372036854775808 ≤ n) (h1 : n ≤ 9223372036854775807) (ht : Tab w) :
    Calls Tryd.prog 25 #[.int .i64 n] w fun e w' => e = .returned (.string ⟨(Lib.itoa n).toArray⟩) ∧ Below w.heap.size w w' :=
  (Tryd.strconv_Itoa n h0 h1 w ht).mono fun _ _ h => ⟨h.1, below_grow h.2⟩
theorem implFormatInt_any (n : Int) (w : World) (h0 : -9223372036854775808 ≤ n) (h1 : n ≤ 9223372036854775807) (ht : Tab w) :
    Calls Tryd.prog 9 #[.int .i64 n] w fun e w' => e = .returned (.string ⟨(Lib.itoa n).toArray⟩) ∧ Below w.heap.size w w' := by
  have HI := Lib.hid (itoa_any n w h0 h1 ht)
  go_enter Tryd.func9, Tryd.ntmps9
  go_wp2_with (go_at_call 25; refine HI.out.mono ?_; rintro e w1 ⟨rfl, hb1⟩; have HB1 := Lib.hid hb1; clear hb1)
  go_ret
  exact ⟨rfl, HB1.out⟩
/-- what the library's two sentinels hold -/
structure Sents (w : World) : Prop where
  syn : ∃ tp p, w.var? Tryd.prog "strconv.ErrSyntax" = some #[.iface tp p]
  rng : ∃ tp p, w.var? Tryd.prog "strconv.ErrRange" = some #[.iface tp p]
set_option maxHeartbeats 1000000 in
theorem implParseInt_any (s : ByteArray) (w : World) (hs : s.size ≤ 1048576) (ht : Tab w) (hv : Sents w) :
    Calls Tryd.prog 11 #[.string s] w fun e w' => e = .returned (.tuple #[.int .i64 (numOf s.data.toList).1, .bool (numOf s.data.toList).2]) ∧ Below w.heap.size w w' := by
  rcases h : Lib.atoiAll s.data.toList with v | _ | _
  · obtain ⟨b0, b1⟩ := Lib.atoiAll_bounds h
    have HN := Lib.hid (num_ok h)
    have HA := Lib.hid (Tryd.strconv_Atoi_ok s (by omega) v h w)
    have HT := Lib.hid ht
    clear h
    by_cases he : Lib.itoa v = s.data.toList
    · have HE := Lib.hid (show (⟨(Lib.itoa v).toArray⟩ : ByteArray) = s by rw [he])
      have HN2 := Lib.hid (show numOf s.data.toList = (v, true) by rw [HN.out, if_pos he])
      clear HN he
      rw [HN2.out]
      go_enter Tryd.func11, Tryd.ntmps11
      go_wp2_with (go_at_call 27; refine HA.out.mono ?_; rintro e w1 ⟨rfl, hw⟩; have HB1 := Lib.hid (show Below w.heap.size w w1 by (rcases hw with rfl | ⟨t, rfl⟩; exact Below.refl _ _; exact Lib.bytesWorld_below _ _ _)); clear hw)
      refine (itoa_any v w1 b0 b1 (HT.out.on HB1.out)).mono ?_
      rw [HE.out]
      rintro e w2 ⟨rfl, hb2⟩
      have HB2 := Lib.hid (bth HB1.out hb2); clear hb2
      go_wp2_with fail
      go_ret2
      exact ⟨rfl, HB2.out⟩
    · obtain ⟨r, hr⟩ : ∃ r : ByteArray, r = ⟨(Lib.itoa v).toArray⟩ := ⟨_, rfl⟩
      have HR := Lib.hid hr
      have HNE := Lib.hid (show (r.toList == s.toList) = false by
        rw [beq_eq_false_iff_ne]; intro h2; apply he
        rw [← Lib.toList_data s, ← h2, Lib.toList_data r, hr])
      have HN2 := Lib.hid (show numOf s.data.toList = (0, false) by rw [HN.out, if_neg he])
      clear HN he hr
      rw [HN2.out]
      go_enter Tryd.func11, Tryd.ntmps11
      go_wp2_with (go_at_call 27; refine HA.out.mono ?_; rintro e w1 ⟨rfl, hw⟩; have HB1 := Lib.hid (show Below w.heap.size w w1 by (rcases hw with rfl | ⟨t, rfl⟩; exact Below.refl _ _; exact Lib.bytesWorld_below _ _ _)); clear hw)
      refine (itoa_any v w1 b0 b1 (HT.out.on HB1.out)).mono ?_
      rw [← HR.out]
      rintro e w2 ⟨rfl, hb2⟩
      have HB2 := Lib.hid (bth HB1.out hb2); clear hb2
      have hne := HNE.out
      go_wp2_with fail
      go_ret2
      exact ⟨rfl, HB2.out⟩
  · obtain ⟨tp, p, hv1⟩ := hv.syn
    have HA := Lib.hid (Any.strconv_Atoi_syntax_var Tryd.laysC172 s (by omega) h tp p w hv1)
    have HN := Lib.hid (num_err (l := s.data.toList) (by rw [h]; intro v e; cases e))
    clear h hv1
    rw [HN.out]
    go_enter Tryd.func11, Tryd.ntmps11
    go_wp2_with (go_at_call 27; refine HA.out.mono ?_; rintro e w1 ⟨N, rfl, hq1, hq2, hb1⟩; clear hq1 hq2; have HB1 := Lib.hid hb1; clear hb1)
    go_ret2
    exact ⟨rfl, HB1.out⟩
  · obtain ⟨tp, p, hv1⟩ := hv.rng
    have HA := Lib.hid (Tryd.strconv_Atoi_range_var s (by omega) h tp p w hv1)
    have HN := Lib.hid (num_err (l := s.data.toList) (by rw [h]; intro v e; cases e))
    clear h hv1
    rw [HN.out]
    go_enter Tryd.func11, Tryd.ntmps11
    go_wp2_with (go_at_call 27; refine HA.out.mono ?_; rintro e w1 ⟨N, rfl, hq1, hq2, hb1⟩; clear hq1 hq2; have HB1 := Lib.hid hb1; clear hb1)
    go_ret2
    exact ⟨rfl, HB1.out⟩

theorem digits_eq (l : List UInt8) : digitsB l = (l.all isDg && decide (l ≠ [])) := by
  unfold digitsB
  rw [show (l.all digitB) = l.all isDg from rfl]
  cases l <;> rfl
theorem all_at (p : UInt8 → Bool) {t : ByteArray} {k : Nat} (h : t.data.toList.all p = true) (hk : k < t.size) : p t[k] = true := by
  rw [List.all_eq_true] at h
  exact h _ (by rw [ByteArray.getElem_eq_getElem_data, ← Array.getElem_toList]; exact List.getElem_mem _)
theorem dn_take {t : ByteArray} {k : Nat} {n : Int} (hk : k < t.size) (h : dnGo 0 (t.data.toList.take k) = some n) : dnGo 0 (t.data.toList.take (k + 1)) = dnStep n t[k] := by
  rw [take_snoc t k hk, dn_append, h]
  simp only [dnGo]
  cases dnStep n t[k] <;> rfl
theorem dn_none {t : ByteArray} {k : Nat} {n : Int} (hk : k < t.size) (h : dnGo 0 (t.data.toList.take k) = some n) (hs : dnStep n t[k] = none) : dnGo 0 t.data.toList = none := by
  rw [← List.take_append_drop (k + 1) t.data.toList, dn_append, dn_take hk h, hs]
theorem head_at {s : ByteArray} (h : 0 < s.size) : s.data.toList.head? = some s[0] := by
  rw [List.head?_eq_getElem?, List.getElem?_eq_getElem (by rw [← Lib.size_eq]; exact h)]; rfl
theorem unsign_no {s : ByteArray} (h : s.data.toList.head? ≠ some 45) : unsign s.data.toList = s.data.toList := by unfold unsign; rw [if_neg h]
theorem unsign_yes {s : ByteArray} (h : s.data.toList.head? = some 45) : unsign s.data.toList = (s.extract 1 s.size).data.toList := by
  unfold unsign; rw [if_pos h, Lib.extract_to_end, List.drop_one]
theorem ba_ne {r s : ByteArray} (h : ¬ r.data.toList = s.data.toList) : (r.toList == s.toList) = false := by
  rw [beq_eq_false_iff_ne]; intro h2; apply h
  rw [← Lib.toList_data s, ← h2, Lib.toList_data r]

set_option maxHeartbeats 2000000 in
theorem specParseInt_any (s : ByteArray) (w : World) (hs : s.size ≤ 1048576) :
    Calls Tryd.prog 10 #[.string s] w fun e w' => e = .returned (.tuple #[.int .i64 (numOf s.data.toList).1, .bool (numOf s.data.toList).2]) ∧ Below w.heap.size w w' := by
  by_cases h0 : s.size = 0
  · have hd := specIsDigits_any s w (by unfold maxLen; omega)
    have hl : s.data.toList = [] := List.length_eq_zero_iff.1 (by rw [← Lib.size_eq]; exact h0)
    have HN := Lib.hid (show numOf s.data.toList = (0, false) from num_bad1 (by rw [hl]; rfl))
    rw [show digitsB s.data.toList = false by rw [hl]; rfl] at hd
    have HD := Lib.hid hd
    clear hd hl
    rw [HN.out]
    go_enter Tryd.func10, Tryd.ntmps10
    go_wp2_with (go_at_call 26; refine HD.out.mono ?_; rintro e w1 ⟨rfl, rfl⟩)
    go_ret2
    exact ⟨rfl, Below.refl _ _⟩
  have hpos : 0 < s.size := by omega
  by_cases h45 : s[0] = 45
  · obtain ⟨t, ht⟩ : ∃ t : ByteArray, t = s.extract 1 s.size := ⟨_, rfl⟩
    have htl : unsign s.data.toList = t.data.toList := by rw [ht]; exact unsign_yes (by rw [head_at hpos, h45])
    have hts : t.size ≤ s.size := by rw [ht]; rw [ByteArray.size_extract]; omega
    have b1 : ((s[0].toNat : Int) == 45) = true := by rw [h45]; rfl
    have hex : s.extract 1 s.size = t := ht.symm
    have hd := specIsDigits_any t w (by unfold maxLen; omega)
    cases hdg : digitsB t.data.toList
    · have HN := Lib.hid (show numOf s.data.toList = (0, false) from num_bad1 (by rw [htl, ← digits_eq]; exact hdg))
      rw [hdg] at hd
      have HD := Lib.hid hd
      clear hd hdg htl ht
      rw [HN.out]
      go_enter Tryd.func10, Tryd.ntmps10
      go_wp2_with (go_at_call 26; refine HD.out.mono ?_; rintro e w1 ⟨rfl, rfl⟩)
      go_ret2
      exact ⟨rfl, Below.refl _ _⟩
    rw [hdg] at hd
    have HD := Lib.hid hd
    have hall : t.data.toList.all isDg = true := by rw [digits_eq, Bool.and_eq_true] at hdg; exact hdg.1
    have HALL := Lib.hid hall
    clear hd hdg hall
    by_cases h19 : 19 < t.size
    · have HN := Lib.hid (show numOf s.data.toList = (0, false) from num_bad2 (by rw [htl, ← Lib.size_eq]; exact h19))
      clear htl ht
      rw [HN.out]
      go_enter Tryd.func10, Tryd.ntmps10
      go_wp2_with (go_at_call 26; refine HD.out.mono ?_; rintro e w1 ⟨rfl, rfl⟩)
      go_ret2
      exact ⟨rfl, Below.refl _ _⟩
    have HTL := Lib.hid htl
    have HH := Lib.hid (show s.data.toList.head? = some 45 by rw [head_at hpos, h45])
    clear htl ht
    go_enter Tryd.func10, Tryd.ntmps10
    go_wp2_with (go_at_call 26; refine HD.out.mono ?_; rintro e w1 ⟨rfl, rfl⟩)
    go_loop [6, 7] (fun q i => ∃ (k : Nat) (n : Int), k ≤ t.size ∧ q = .int .i64 n ∧ i = .int .i64 k ∧ dnGo 0 (t.data.toList.take k) = some n ∧ -9223372036854775808 ≤ n ∧ n ≤ 0) (fun _ i => t.size - (intOf i).toNat)
    case atStart => exact ⟨0, 0, Nat.zero_le _, rfl, rfl, rfl, by omega, by omega⟩
    case round =>
      obtain ⟨k, n, hk, rfl, rfl, hgo, hn0, hn1⟩ := hrel
      have HGO := Lib.hid hgo; clear hgo
      by_cases hlt : k < t.size
      · have hdk := isDg_val (all_at isDg HALL.out hlt)
        have HST := Lib.hid (dn_take hlt HGO.out)
        have HNO := Lib.hid (fun h => dn_none hlt HGO.out h)
        have HLOW := Lib.hid (fun m h => dn_low (m := m) (all_at isDg HALL.out hlt) ⟨hn0, hn1⟩ h)
        obtain ⟨c, hc⟩ : ∃ c, c = t[k] := ⟨_, rfl⟩
        rw [← hc] at hdk HST HNO HLOW
        obtain ⟨D, hD⟩ : ∃ D : Int, D = (c.toNat : Int) - 48 := ⟨_, rfl⟩
        obtain ⟨Q, hQ⟩ : ∃ Q : Int, (-9223372036854775808 + D).tdiv 10 = Q := ⟨_, rfl⟩
        have hQ2 := tdiv_down D (by omega)
        rw [hQ] at hQ2
        have hstep : dnStep n c = if n < Q then none else some (n * 10 - D) := by unfold dnStep; rw [← hD, hQ]
        have hQ3 : -922337203685477580 ≤ Q ∧ Q ≤ 0 := by omega
        have c1 : t[k] = c := hc.symm
        have d1 : (c.toNat : Int) - 48 = D := hD.symm
        have hD2 : 0 ≤ D ∧ D ≤ 9 := by omega
        by_cases hcut : n < Q
        · have HN := Lib.hid (show numOf s.data.toList = (0, false) from num_bad3 (by rw [HTL.out]; exact HNO.out (by rw [hstep, if_pos hcut])))
          clear hstep hQ2 hc hD
          go_wp2_with fail
          go_ret2
          exact ⟨by rw [HN.out] <;> rfl, Below.refl _ _⟩
        · have hm := HLOW.out (n * 10 - D) (by rw [hstep, if_neg hcut])
          have HS2 := Lib.hid (HST.out.trans (show dnStep n c = some (n * 10 - D) by rw [hstep, if_neg hcut]))
          clear hstep hQ2 hc hD
          go_wp2_with fail
          go_round
          case rel => exact ⟨k + 1, n * 10 - D, by omega, by go_num, by go_num, HS2.out, hm.1, hm.2⟩
          case measure => simp [intOf]; omega
      · obtain rfl : k = t.size := by omega
        have hgo2 : dnGo 0 (unsign s.data.toList) = some n := by rw [HTL.out, ← take_all t t.size (Nat.le_refl _)]; exact HGO.out
        have HE := Lib.hid (num_end1 hgo2 HH.out ⟨hn0, hn1⟩)
        clear hgo2
        have HF := Lib.hid (specFormatInt_any n w hn0 (by omega))
        by_cases he : Lib.itoa n = s.data.toList
        · have HR := Lib.hid (show (⟨(Lib.itoa n).toArray⟩ : ByteArray) = s by rw [he])
          have HN := Lib.hid (show numOf s.data.toList = (n, true) by rw [HE.out, if_pos he])
          clear he
          go_wp2_with fail
          refine HF.out.mono ?_
          rw [HR.out]
          rintro e w2 ⟨rfl, hb2⟩
          have HB2 := Lib.hid hb2; clear hb2
          go_wp2_with fail
          go_ret2
          exact ⟨by rw [HN.out] <;> rfl, HB2.out⟩
        · have HN := Lib.hid (show numOf s.data.toList = (0, false) by rw [HE.out, if_neg he])
          obtain ⟨r, hr⟩ : ∃ r : ByteArray, r = ⟨(Lib.itoa n).toArray⟩ := ⟨_, rfl⟩
          have hne := ba_ne (r := r) (s := s) (by rw [hr]; exact he)
          have HR := Lib.hid hr
          clear he hr
          go_wp2_with fail
          refine HF.out.mono ?_
          rw [← HR.out]
          rintro e w2 ⟨rfl, hb2⟩
          have HB2 := Lib.hid hb2; clear hb2
          go_wp2_with fail
          go_ret2
          exact ⟨by rw [HN.out] <;> rfl, HB2.out⟩
  · have htl : unsign s.data.toList = s.data.toList := by exact unsign_no (by rw [head_at hpos]; intro h; exact h45 (by injection h))
    have hts : s.size ≤ s.size := Nat.le_refl _
    have b1 : ((s[0].toNat : Int) == 45) = false := by rw [beq_eq_false_iff_ne]; intro h; exact h45 (UInt8.toNat_inj.1 (by have : (45 : UInt8).toNat = 45 := rfl; omega))
    have hd := specIsDigits_any s w (by unfold maxLen; omega)
    cases hdg : digitsB s.data.toList
    · have HN := Lib.hid (show numOf s.data.toList = (0, false) from num_bad1 (by rw [htl, ← digits_eq]; exact hdg))
      rw [hdg] at hd
      have HD := Lib.hid hd
      clear hd hdg htl 
      rw [HN.out]
      go_enter Tryd.func10, Tryd.ntmps10
      go_wp2_with (go_at_call 26; refine HD.out.mono ?_; rintro e w1 ⟨rfl, rfl⟩)
      go_ret2
      exact ⟨rfl, Below.refl _ _⟩
    rw [hdg] at hd
    have HD := Lib.hid hd
    have hall : s.data.toList.all isDg = true := by rw [digits_eq, Bool.and_eq_true] at hdg; exact hdg.1
    have HALL := Lib.hid hall
    clear hd hdg hall
    by_cases h19 : 19 < s.size
    · have HN := Lib.hid (show numOf s.data.toList = (0, false) from num_bad2 (by rw [htl, ← Lib.size_eq]; exact h19))
      clear htl 
      rw [HN.out]
      go_enter Tryd.func10, Tryd.ntmps10
      go_wp2_with (go_at_call 26; refine HD.out.mono ?_; rintro e w1 ⟨rfl, rfl⟩)
      go_ret2
      exact ⟨rfl, Below.refl _ _⟩
    have HTL := Lib.hid htl
    have HH := Lib.hid (show s.data.toList.head? ≠ some 45 by rw [head_at hpos]; intro h; exact h45 (by injection h))
    clear htl 
    go_enter Tryd.func10, Tryd.ntmps10
    go_wp2_with (go_at_call 26; refine HD.out.mono ?_; rintro e w1 ⟨rfl, rfl⟩)
    go_loop [6, 7] (fun q i => ∃ (k : Nat) (n : Int), k ≤ s.size ∧ q = .int .i64 n ∧ i = .int .i64 k ∧ dnGo 0 (s.data.toList.take k) = some n ∧ -9223372036854775808 ≤ n ∧ n ≤ 0) (fun _ i => s.size - (intOf i).toNat)
    case atStart => exact ⟨0, 0, Nat.zero_le _, rfl, rfl, rfl, by omega, by omega⟩
    case round =>
      obtain ⟨k, n, hk, rfl, rfl, hgo, hn0, hn1⟩ := hrel
      have HGO := Lib.hid hgo; clear hgo
      by_cases hlt : k < s.size
      · have hdk := isDg_val (all_at isDg HALL.out hlt)
        have HST := Lib.hid (dn_take hlt HGO.out)
        have HNO := Lib.hid (fun h => dn_none hlt HGO.out h)
        have HLOW := Lib.hid (fun m h => dn_low (m := m) (all_at isDg HALL.out hlt) ⟨hn0, hn1⟩ h)
        obtain ⟨c, hc⟩ : ∃ c, c = s[k] := ⟨_, rfl⟩
        rw [← hc] at hdk HST HNO HLOW
        obtain ⟨D, hD⟩ : ∃ D : Int, D = (c.toNat : Int) - 48 := ⟨_, rfl⟩
        obtain ⟨Q, hQ⟩ : ∃ Q : Int, (-9223372036854775808 + D).tdiv 10 = Q := ⟨_, rfl⟩
        have hQ2 := tdiv_down D (by omega)
        rw [hQ] at hQ2
        have hstep : dnStep n c = if n < Q then none else some (n * 10 - D) := by unfold dnStep; rw [← hD, hQ]
        have hQ3 : -922337203685477580 ≤ Q ∧ Q ≤ 0 := by omega
        have c1 : s[k] = c := hc.symm
        have d1 : (c.toNat : Int) - 48 = D := hD.symm
        have hD2 : 0 ≤ D ∧ D ≤ 9 := by omega
        by_cases hcut : n < Q
        · have HN := Lib.hid (show numOf s.data.toList = (0, false) from num_bad3 (by rw [HTL.out]; exact HNO.out (by rw [hstep, if_pos hcut])))
          clear hstep hQ2 hc hD
          go_wp2_with fail
          go_ret2
          exact ⟨by rw [HN.out] <;> rfl, Below.refl _ _⟩
        · have hm := HLOW.out (n * 10 - D) (by rw [hstep, if_neg hcut])
          have HS2 := Lib.hid (HST.out.trans (show dnStep n c = some (n * 10 - D) by rw [hstep, if_neg hcut]))
          clear hstep hQ2 hc hD
          go_wp2_with fail
          go_round
          case rel => exact ⟨k + 1, n * 10 - D, by omega, by go_num, by go_num, HS2.out, hm.1, hm.2⟩
          case measure => simp [intOf]; omega
      · obtain rfl : k = s.size := by omega
        have hgo2 : dnGo 0 (unsign s.data.toList) = some n := by rw [HTL.out, ← take_all s s.size (Nat.le_refl _)]; exact HGO.out
        by_cases hmin : n = -9223372036854775808
        · have HN := Lib.hid (show numOf s.data.toList = (0, false) from num_bad4 (by rw [hgo2, hmin]) HH.out)
          have e1 : (n == -9223372036854775808) = true := by rw [beq_iff_eq]; exact hmin
          clear hgo2 hmin
          go_wp2_with fail
          go_ret2
          exact ⟨by rw [HN.out] <;> rfl, Below.refl _ _⟩
        have e1 : (n == -9223372036854775808) = false := by rw [beq_eq_false_iff_ne]; exact hmin
        have hgt : -9223372036854775807 ≤ n := by omega
        have HE := Lib.hid (num_end2 hgo2 HH.out ⟨by omega, hn1⟩)
        clear hgo2 hmin
        obtain ⟨m, hm⟩ : ∃ m : Int, m = -n := ⟨_, rfl⟩
        rw [← hm] at HE
        have m1 : -n = m := hm.symm
        have hmb : 0 ≤ m ∧ m ≤ 9223372036854775807 := by omega
        clear hm
        have HF := Lib.hid (specFormatInt_any m w (by omega) (by omega))
        by_cases he : Lib.itoa m = s.data.toList
        · have HR := Lib.hid (show (⟨(Lib.itoa m).toArray⟩ : ByteArray) = s by rw [he])
          have HN := Lib.hid (show numOf s.data.toList = (m, true) by rw [HE.out, if_pos he])
          clear he
          go_wp2_with fail
          refine HF.out.mono ?_
          rw [HR.out]
          rintro e w2 ⟨rfl, hb2⟩
          have HB2 := Lib.hid hb2; clear hb2
          go_wp2_with fail
          go_ret2
          exact ⟨by rw [HN.out] <;> rfl, HB2.out⟩
        · have HN := Lib.hid (show numOf s.data.toList = (0, false) by rw [HE.out, if_neg he])
          obtain ⟨r, hr⟩ : ∃ r : ByteArray, r = ⟨(Lib.itoa m).toArray⟩ := ⟨_, rfl⟩
          have hne := ba_ne (r := r) (s := s) (by rw [hr]; exact he)
          have HR := Lib.hid hr
          clear he hr
          go_wp2_with fail
          refine HF.out.mono ?_
          rw [← HR.out]
          rintro e w2 ⟨rfl, hb2⟩
          have HB2 := Lib.hid hb2; clear hb2
          go_wp2_with fail
          go_ret2
          exact ⟨by rw [HN.out] <;> rfl, HB2.out⟩

end Go.Proofs.YtciiokegifgbdaaDoor
