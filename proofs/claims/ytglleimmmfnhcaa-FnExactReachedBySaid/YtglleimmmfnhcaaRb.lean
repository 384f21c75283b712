/- Walks: the letters that are reached, the reference. -/
import Derived.Test.YtglleimmmfnhcaaLetter
import Derived.Test.YtglleimmmfnhcaaGrow
import Derived.Test.YtglleimmmfnhcaaRbP
import Derived.Test.YtglleimmmfnhcaaMat
import Derived.Test.YtglleimmmfnhcaaPlain7
namespace Go.Proofs.Ytglleimmmfnhcaa
open Go.RowKit
set_option maxRecDepth 20000

theorem info_bool : (Try.prog.info? 4).map (fun i => (i.zero, i.size, i.bytes)) = some (some (.bool false), 1, 1) := by kernel_rfl
def lss (xs : List ByteArray) : List (List UInt8) := xs.map fun s => s.data.toList
def bls (b : List Bool) : List Value := b.map .bool
theorem bls_len (b : List Bool) : (bls b).length = b.length := List.length_map _
theorem bls_get {b : List Bool} {i : Nat} (h : i < b.length) : (bls b)[i]? = some (.bool (isIn b i)) := by
  unfold bls isIn; rw [List.getElem?_map, List.getD_eq_getElem?_getD, List.getElem?_eq_getElem h]; rfl
theorem bls_set (b : List Bool) (i : Nat) : (bls b).set i (.bool true) = bls (b.set i true) := by unfold bls; rw [List.map_set]
theorem lss_len (xs : List ByteArray) : (lss xs).length = xs.length := List.length_map _
theorem lss_get {xs : List ByteArray} {i : Nat} (h : i < xs.length) : (lss xs).getD i [] = xs[i].data.toList := by
  unfold lss; rw [List.getD_eq_getElem?_getD, List.getElem?_map, List.getElem?_eq_getElem h]; rfl
theorem inB_at {n : Nat} {s : ByteArray} (h : inB n s.data.toList = true) (m : Nat) (hm : m < s.size) : (s[m].toNat : Int) - 97 < n := by
  rcases Int.lt_or_le ((s[m].toNat : Int) - 97) n with h' | h'
  · exact h'
  · rw [inB_fail n s m hm h'] at h; cases h
/-- what ReachedBy returns -/
noncomputable def rbL (xs : List ByteArray) (t : List UInt8) : List UInt8 := if imgB xs t = true then (if substB xs = true then rbN (lss xs) (letK xs t).toNat else []) else []
theorem rb_no1 {xs : List ByteArray} {t : List UInt8} (h : imgB xs t = false) : rbL xs t = [] := by unfold rbL; rw [h]; rfl
theorem rb_no2 {xs : List ByteArray} {t : List UInt8} (h : substB xs = false) : rbL xs t = [] := by unfold rbL; rw [h]; split <;> rfl
theorem rb_yes {xs : List ByteArray} {t : List UInt8} (h1 : imgB xs t = true) (h2 : substB xs = true) : rbL xs t = rbN (lss xs) (letK xs t).toNat := by unfold rbL; rw [if_pos h1, if_pos h2]
theorem names_len (p : Nat → Bool) (n : Nat) : (namesOf p n).length ≤ n := by
  unfold namesOf; rw [List.length_map]; exact Nat.le_trans (List.length_filter_le _ _) (by rw [List.length_range]; exact Nat.le_refl _)
theorem lss_in {xs : List ByteArray} (hx : substB xs = true) : ∀ l ∈ lss xs, ∀ c ∈ l, c.toNat - 97 < (lss xs).length := by
  intro l hl c hc
  obtain ⟨s, hs, rfl⟩ := List.mem_map.1 hl
  obtain ⟨_, _, h3, h4⟩ := (subst_parts hx).2.2 s hs
  obtain ⟨m, hm, rfl⟩ := List.getElem_of_mem hc
  have hm' : m < s.size := by rw [Lib.size_eq]; exact hm
  have a1 := inB_at h3 m hm'
  have a2 := (subst_parts hx).1
  have e : s[m] = s.data.toList[m] := by simp [ByteArray.getElem_eq_getElem_data]
  rw [← e, lss_len]; omega
theorem rb_end {xs : List ByteArray} {k : Nat} (hx : substB xs = true) (hk : k < xs.length) : namesOf (isIn (sweeps (lss xs) ((List.replicate xs.length false).set k true) 4)) xs.length = rbN (lss xs) k := by
  unfold rbN; rw [lss_len]
  refine names_congr fun j _ => ?_
  have h := sweeps_all (ls := lss xs) (k := k) (by rw [lss_len]; exact (subst_parts hx).2.1) (by rw [lss_len]; exact hk) (lss_in hx) j
  rw [lss_len] at h
  by_cases hr : Rch (lss xs) k j
  · rw [h.2 hr, rch_yes hr]
  · rw [rch_no hr]
    cases hb : isIn (sweeps (lss xs) ((List.replicate xs.length false).set k true) 4) j
    · rfl
    · exact absurd (h.1 hb) hr

set_option maxHeartbeats 4000000 in
theorem specReachedBy_any (xs : List ByteArray) (va : Value) (t : ByteArray) (w : World) (ha : Row1 w w.heap.size va (xs.map .string)) (hs : ∀ s ∈ xs, s.size ≤ maxLen) (ht : t.size ≤ maxLen) :
    Calls Try.prog 22 #[.agg #[va], .string t] w fun e w' => e = .returned (.string ⟨(rbL xs t.data.toList).toArray⟩) ∧ Below w.heap.size w w' := by
  obtain ⟨i0, hi, hz0, hz1, hz2⟩ := info_parts info_bool
  have HI := Lib.hid hi; have HZ0 := Lib.hid hz0; have HZ1 := Lib.hid hz1; have HZ2 := Lib.hid hz2
  clear hi hz0 hz1 hz2
  obtain ⟨A, cp, rfl⟩ := ha.shape
  have s0 := Stands.start w 28 (.slice A xs.length cp)
  have HS0 := Lib.hid s0
  have HA := Lib.hid ha
  have HLT := Lib.hid (l04Letter_any xs _ t _ (s0.row ha) ht)
  have HOK := Lib.hid (fun W hR => specSubstOk_any xs (.slice A xs.length cp) W hR hs)
  have c0 := s0.box
  clear s0 ha hs
  cases himg : imgB xs t.data.toList
  · have HF := Lib.hid (rb_no1 himg)
    have HK := Lib.hid (letK_no himg)
    clear himg
    go_enter Try.func22, Try.ntmps22
    go_wp2_with fail
    refine HLT.out.mono ?_
    rw [HK.out]
    rintro e w1 ⟨rfl, hb1⟩
    have S1 := Lib.hid (HS0.out.on hb1); clear hb1
    go_wp2_with fail
    go_ret
    exact ⟨by rw [HF.out] <;> rfl, S1.out.below⟩
  obtain ⟨k, hkx, htl, hk4, hk⟩ := img_letter himg
  clear htl
  have HIMG := Lib.hid himg; clear himg
  cases hx : substB xs
  · have HF := Lib.hid (rb_no2 (t := t.data.toList) hx)
    have HK := Lib.hid hk; clear hk
    go_enter Try.func22, Try.ntmps22
    go_wp2_with fail
    refine HLT.out.mono ?_
    rw [HK.out]
    rintro e w1 ⟨rfl, hb1⟩
    have S1 := Lib.hid (HS0.out.on hb1); clear hb1
    have c1 := S1.out.box
    clear c0
    go_wp2_with fail
    refine (HOK.out _ (S1.out.row HA.out)).mono ?_
    rw [hx]
    rintro e w2 ⟨rfl, hb2⟩
    have S2 := Lib.hid (S1.out.on hb2); clear hb2
    go_wp2_with fail
    go_ret
    exact ⟨by rw [HF.out] <;> rfl, S2.out.below⟩
  have h4x := (subst_parts hx).2.1
  have h1x := (subst_parts hx).1
  have HX := Lib.hid hx; clear hx
  have HF := Lib.hid (rb_yes HIMG.out HX.out)
  rw [show (letK xs t.data.toList).toNat = k by rw [hk]; rfl] at HF
  have HK := Lib.hid hk; clear hk
  have HFIN := Lib.hid (rb_end HX.out hkx)
  have hne : xs.map Value.string ≠ [] := by intro h; rw [List.map_eq_nil_iff] at h; subst h; simp at h1x
  obtain ⟨b, o, hAe, hbB, hcell⟩ : ∃ b o, A = some ⟨b, o, none⟩ ∧ b < w.heap.size ∧ ∀ (k : Nat) (hk : k < xs.length), w.cell? ⟨b, o + k, none⟩ = some (.string xs[k]) := by
    obtain ⟨A2, c2, he, _, _, hA⟩ := HA.out
    rw [List.length_map] at he
    cases he
    obtain ⟨b, o, rfl, hb, hc⟩ := hA hne
    exact ⟨b, o, rfl, hb, fun k hk => hc k _ (map_get Value.string xs k hk)⟩
  subst hAe
  have HC := Lib.hid hcell
  clear hcell hne
  go_enter Try.func22, Try.ntmps22
  go_wp2_with fail
  refine HLT.out.mono ?_
  rw [HK.out]
  rintro e w1 ⟨rfl, hb1⟩
  have S1 := Lib.hid (HS0.out.on hb1); clear hb1
  have c1 := S1.out.box
  clear c0
  go_wp2_with fail
  refine (HOK.out _ (S1.out.row HA.out)).mono ?_
  rw [HX.out]
  rintro e w2 ⟨rfl, hb2⟩
  have S2 := Lib.hid (S1.out.on hb2); clear hb2 c1
  have c2 := S2.out.box
  go_wp2_with (at_make; refine wpList_make_full _ rfl _ _ 64 rfl w2.heap.size 4 i0 _ 1 Try.underlying64 HI.out HZ0.out HZ1.out _ _ _ _ xs.length rfl rfl rfl rfl (by rw [HZ2.out]; omega) (by unfold maxLen; omega) (Nat.le_refl _) ?_)
  intro w3 hown3 hgrow3
  rw [toList_madeCells_one] at hown3
  have HO3 := Lib.hid (show w3.ownsRow w2.heap.size 4 1 (.slice (some ⟨w2.heap.size, 0, none⟩) xs.length xs.length) xs.length (bls (List.replicate xs.length false)) from by simpa [bls] using hown3)
  have HB3 := Lib.hid ((Below.refl w2.heap.size w2).grown hgrow3 (Nat.le_refl _) (fun g hg => by cases hg))
  have S3 := Lib.hid (S2.out.on HB3.out)
  have c3 := S3.out.box
  have g8 := HO3.out.cellAt k (by omega)
  rw [bls_get (by rw [List.length_replicate]; omega)] at g8
  have g9 := HO3.out.frozenAt k
  have h4 := HO3.out.stored k (.bool true)
  rw [bls_set] at h4
  have HO4 := Lib.hid h4.1
  have HGS := Lib.hid (show ∀ g, (Value.slice (some ⟨w2.heap.size, 0, none⟩) xs.length xs.length).ownBlock = some g → w.heap.size + 1 ≤ g from fun g hg => by cases hg; exact S2.out.size)
  have S4 := Lib.hid (stands_grown S3.out h4.2 HGS.out)
  have c4 := S4.out.box
  obtain ⟨b0, hb0⟩ : ∃ b0, b0 = (List.replicate xs.length false).set k true := ⟨_, rfl⟩
  have HBL := Lib.hid (show b0.length = xs.length by rw [hb0]; simp)
  rw [← hb0] at HO4 HFIN
  have HFR := Lib.hid (fun (W : World) (B : List Bool) (hB : W.ownsRow w2.heap.size 4 1 (.slice (some ⟨w2.heap.size, 0, none⟩) xs.length xs.length) xs.length (bls B)) (q : Nat) => hB.frozenAt q)
  clear hown3 hgrow3 c2 h4 hb0
  go_wp2_with fail
  go_loopw [7] (fun i wr => ∃ r : Nat, r ≤ 4 ∧ i = .int .i64 r ∧ wr.ownsRow w2.heap.size 4 1 (.slice (some ⟨w2.heap.size, 0, none⟩) xs.length xs.length) xs.length (bls (sweeps (lss xs) b0 r)) ∧ Stands w 28 (.slice (some ⟨b, o, none⟩) xs.length cp) wr) (fun i _ => 4 - (intOf i).toNat)
  case atStart => exact ⟨0, Nat.zero_le _, rfl, HO4.out, S4.out⟩
  case round =>
    clear c3 c4 g8 g9 HO3 HB3 HO4 S3 S4
    obtain ⟨wo, rfl⟩ : ∃ wo, wo = wr := ⟨_, rfl⟩
    obtain ⟨r, hr, rfl, hown, hst⟩ := hrel
    have HO5 := Lib.hid hown; have S5 := Lib.hid hst
    clear hown hst
    have c5 := S5.out.box
    by_cases hlt : r < 4
    · have HSW := Lib.hid (show sweeps (lss xs) b0 (r + 1) = sweepTo (lss xs) (sweeps (lss xs) b0 r) xs.length by rw [sweeps, lss_len])
      have HBL2 := Lib.hid ((sweeps_len (lss xs) b0 r).trans HBL.out)
      obtain ⟨B, hB⟩ : ∃ B, B = sweeps (lss xs) b0 r := ⟨_, rfl⟩
      rw [← hB] at HSW HBL2 HO5
      clear hB
      go_wp2_with fail
      go_loopw [38] (fun i wr => ∃ q : Nat, q ≤ xs.length ∧ i = .int .i64 q ∧ wr.ownsRow w2.heap.size 4 1 (.slice (some ⟨w2.heap.size, 0, none⟩) xs.length xs.length) xs.length (bls (sweepTo (lss xs) B q)) ∧ Stands w 28 (.slice (some ⟨b, o, none⟩) xs.length cp) wr) (fun i _ => xs.length - (intOf i).toNat)
      case atStart => exact ⟨0, Nat.zero_le _, rfl, HO5.out, S5.out⟩
      case round =>
        clear c5 HO5 S5
        obtain ⟨wi, rfl⟩ : ∃ wi, wi = wr := ⟨_, rfl⟩
        obtain ⟨q, hq, rfl, hown, hst⟩ := hrel
        have HO6 := Lib.hid hown; have S6 := Lib.hid hst
        clear hown hst
        by_cases hql : q < xs.length
        · have g1 := (S6.out.below.cell (p := ⟨b, o + q, none⟩) hbB).trans (HC.out q hql)
          have HQL := Lib.hid ((sweepTo_len (lss xs) B q).trans HBL2.out)
          have g2 := HO6.out.cellAt q (by omega)
          rw [bls_get (by rw [HQL.out]; exact hql)] at g2
          have HSQ := Lib.hid (show sweepTo (lss xs) B (q + 1) = rstep (lss xs) q (sweepTo (lss xs) B q) from rfl)
          have HLS := Lib.hid (lss_get hql)
          obtain ⟨p1, p2, p3, p4⟩ := (subst_parts HX.out).2.2 xs[q] (List.getElem_mem hql)
          have HP3 := Lib.hid p3; have HP4 := Lib.hid (word_letters p4)
          obtain ⟨Q, hQ⟩ : ∃ Q, Q = sweepTo (lss xs) B q := ⟨_, rfl⟩
          obtain ⟨s, hs⟩ : ∃ s, s = xs[q] := ⟨_, rfl⟩
          rw [← hQ] at HO6 HQL g2 HSQ
          rw [← hs] at g1 HLS p1 p2 HP3 HP4
          clear p3 p4 hQ hs
          cases hin : isIn Q q
          · have HN := Lib.hid (show sweepTo (lss xs) B (q + 1) = Q by rw [HSQ.out, rstep, if_neg (by rw [hin]; simp)])
            rw [hin] at g2
            clear hin
            go_wp2_with fail
            go_roundw
            case rel => exact ⟨q + 1, by omega, by go_num, by rw [HN.out]; exact HO6.out, S6.out⟩
            case measure => simp [intOf]; omega
          · have HN := Lib.hid (show sweepTo (lss xs) B (q + 1) = rowB2 Q s.data.toList by rw [HSQ.out, rstep, if_pos hin, HLS.out])
            rw [hin] at g2
            clear hin
            go_wp2_with fail
            go_loopw [10] (fun i wr => ∃ m : Nat, m ≤ s.size ∧ i = .int .i64 m ∧ wr.ownsRow w2.heap.size 4 1 (.slice (some ⟨w2.heap.size, 0, none⟩) xs.length xs.length) xs.length (bls (rowB2 Q (s.data.toList.take m))) ∧ Stands w 28 (.slice (some ⟨b, o, none⟩) xs.length cp) wr) (fun i _ => s.size - (intOf i).toNat)
            case atStart => exact ⟨0, Nat.zero_le _, rfl, HO6.out, S6.out⟩
            case round =>
              clear g1 g2 HO6 S6
              obtain ⟨wj, rfl⟩ : ∃ wj, wj = wr := ⟨_, rfl⟩
              obtain ⟨m, hm, rfl, hown, hst⟩ := hrel
              have HO7 := Lib.hid hown; have S7 := Lib.hid hst
              clear hown hst
              by_cases hml : m < s.size
              · obtain ⟨b1, b2⟩ := word_byte HP4.out m hml
                have b3 := inB_at HP3.out m hml
                obtain ⟨d, hd⟩ : ∃ d : Nat, d = s[m].toNat - 97 := ⟨_, rfl⟩
                have hdx : d < xs.length := by omega
                have e1 : IntKind.u8.wrap ((s[m].toNat : Int) - 97) = (d : Int) := by rw [IntWalk.u8_in _ ⟨by omega, by omega⟩]; omega
                have g8 := HO7.out.cellAt d (by omega)
                rw [bls_get (by rw [row_len2, HQL.out]; exact hdx)] at g8
                have g9 := HO7.out.frozenAt d
                have h4 := HO7.out.stored d (.bool true)
                rw [bls_set] at h4
                have HRT := Lib.hid (show rowB2 Q (s.data.toList.take (m + 1)) = (rowB2 Q (s.data.toList.take m)).set d true by
                  rw [row_take (by rw [← Lib.size_eq]; exact hml), putB, hd]
                  simp [ByteArray.getElem_eq_getElem_data])
                have H4 := Lib.hid h4
                clear h4 hd b1 b2 b3
                go_wp2_with fail
                go_roundw
                case rel => exact ⟨m + 1, by omega, by go_num, by rw [HRT.out]; exact H4.out.1, stands_grown S7.out H4.out.2 HGS.out⟩
                case measure => simp [intOf]; omega
              · obtain rfl : m = s.size := by omega
                have HTK := Lib.hid (take_all s s.size (Nat.le_refl _))
                go_wp2_with fail
                go_roundw
                case rel => exact ⟨q + 1, by omega, by go_num, by rw [HN.out]; have h := HO7.out; rw [HTK.out] at h; exact h, S7.out⟩
                case measure => simp [intOf]; omega
        · obtain rfl : q = xs.length := by omega
          go_wp2_with fail
          go_roundw
          case rel => exact ⟨r + 1, by omega, by go_num, by rw [HSW.out]; exact HO6.out, S6.out⟩
          case measure => simp [intOf]; omega
    · obtain rfl : r = 4 := by omega
      have HFL := Lib.hid ((sweeps_len (lss xs) b0 4).trans HBL.out)
      obtain ⟨B, hB⟩ : ∃ B, B = sweeps (lss xs) b0 4 := ⟨_, rfl⟩
      rw [← hB] at HFIN HO5 HFL
      clear hB
      go_wp2_with fail
      go_loop [11, 63] (fun v i => ∃ (q : Nat) (out : ByteArray), q ≤ xs.length ∧ out.data.toList = namesOf (isIn B) q ∧ v = .string out ∧ i = .int .i64 q) (fun _ i => xs.length - (intOf i).toNat)
      case atStart => exact ⟨0, ⟨#[]⟩, Nat.zero_le _, rfl, rfl, rfl⟩
      case round =>
        obtain ⟨q, out, hq, ho, rfl, rfl⟩ := hrel
        have hsz : out.size ≤ 4 := by have := names_len (isIn B) q; rw [Lib.size_eq, ho]; omega
        have HOUT := Lib.hid ho; clear ho
        by_cases hql : q < xs.length
        · have e1 := abcd_at (k := q) (by omega)
          have es := ltr_size q
          have g2 := HO5.out.cellAt q (by omega)
          rw [bls_get (by rw [HFL.out]; exact hql)] at g2
          have HNS := Lib.hid (names_step (isIn B) q)
          cases hin : isIn B q
          · rw [hin] at g2 HNS
            clear hin
            go_wp2_with fail
            go_round
            case rel => exact ⟨q + 1, out, by omega, by rw [HNS.out, HOUT.out]; simp, rfl, by go_num⟩
            case measure => simp [intOf]; omega
          · rw [hin] at g2 HNS
            clear hin
            go_wp2_with fail
            go_round
            case rel => exact ⟨q + 1, _, by omega, by rw [data_append, HNS.out, HOUT.out, ltr_data]; rfl, rfl, by go_num⟩
            case measure => simp [intOf]; omega
        · obtain rfl : q = xs.length := by omega
          have HM := Lib.hid (mk_list out (HOUT.out.trans (HFIN.out.trans HF.out.symm)))
          go_wp2_with fail
          go_ret
          exact ⟨by rw [HM.out] <;> rfl, S5.out.below⟩
end Go.Proofs.Ytglleimmmfnhcaa
