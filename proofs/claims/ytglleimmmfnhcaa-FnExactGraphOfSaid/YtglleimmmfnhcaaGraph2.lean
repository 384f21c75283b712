/- Walks: the graph of the factors, the program's own way. -/
import Derived.Test.YtglleimmmfnhcaaGraph0
import Derived.Test.YtglleimmmfnhcaaFac2
namespace Go.Proofs.Ytglleimmmfnhcaa
open Go.RowKit
set_option maxRecDepth 20000

set_option maxHeartbeats 4000000 in
theorem implGraphL_any (s : ByteArray) (m : Nat) (w : World) (hs : s.size ≤ maxLen) (hlen : lenB s.data.toList m = true) :
    Calls Try.prog 39 #[.string s, .int .i64 m] w fun e w' => ∃ v, e = .returned v ∧ OwnG w' w.heap.size w'.heap.size v (grL s m) ∧ Below w.heap.size w w' := by
  obtain ⟨hw1, h1, h4⟩ := lenB_parts hlen
  have h1 : 1 ≤ m := by omega
  have h4 : m ≤ 400 := by omega
  have hsz := word_len hw1
  have HLEN := Lib.hid hlen
  have HWD := Lib.hid hw1
  have HIN := Lib.hid (show (decide ((1 : Int) ≤ (m : Int)) && decide ((m : Int) ≤ 400)) = true from by unfold lenB at hlen; rw [hw1] at hlen; simpa using hlen)
  clear hlen hw1
  obtain ⟨i1, hi, hz0, hz1, hz2⟩ := info_parts info_rowG
  have HJ := Lib.hid hi; have HY0 := Lib.hid hz0; have HY1 := Lib.hid hz1; have HY2 := Lib.hid hz2
  clear hi hz0 hz1 hz2
  have HC1 := Lib.hid (fun W => factorsOf_any s m W hsz h1 (by omega))
  have HC2 := Lib.hid (fun W => factorsOf_any s (m + 1) W hsz (by omega) (by omega))
  have hfl := facR_len s m
  have hfl2 := facR_len s (m + 1)
  have HPT := Lib.hid (fun f h => fac_parts (s := s) (n := m) (f := f) h)
  have HSL := Lib.hid ((srt_facts (wins s m (s.size + 1 - m))).1)
  go_enter Try.func39, Try.ntmps39
  go_wp2_with (go_at_call 69; refine (isLength_any _ _ _ hs).mono ?_; rw [HLEN.out]; rintro e w' ⟨rfl, hww⟩; cases hww.symm)
  refine (HC1.out _).mono ?_
  rintro e w1 ⟨g, c, rfl, ho, hb1⟩
  have HL1 := Lib.hid ho
  have HB1 := Lib.hid hb1
  clear ho hb1
  have HLO := Lib.hid (World.ownsRow_made (base := w.heap.size) (e := 41) (size := 1) w1 #[] 0 HB1.out.size (Nat.zero_le _) rfl)
  go_wp2_with fail
  refine (HC2.out _).mono ?_
  rintro e w2 ⟨gF, cF, rfl, ho, hb2⟩
  have HF2 := Lib.hid (own_base ho (show w.heap.size ≤ _ from by have := HB1.out.size; simp; omega))
  have HL2 := Lib.hid (own_below HL1.out (bthen (bnew w1 (.cells #[] 41)) hb2))
  have HO2 := Lib.hid (own_below HLO.out hb2)
  have HB2 := Lib.hid (bthen HB1.out (bthen (bnew w1 (.cells #[] 41)) hb2))
  clear ho hb2
  have HGL := Lib.hid (show grL s m = (facR s (m + 1)).map (gRow (facR s m) m) from rfl)
  have HSL2 := Lib.hid (show (facR s m).Pairwise (· < ·) from HSL.out)
  obtain ⟨l, hl⟩ : ∃ l, l = facR s m := ⟨_, rfl⟩
  obtain ⟨F, hF⟩ : ∃ F, F = facR s (m + 1) := ⟨_, rfl⟩
  rw [← hl] at HL2 HPT HGL HSL2 hfl ⊢
  rw [← hF] at HF2 HPT HGL hfl2 ⊢
  clear hl hF HSL HL1 HLO HC1 HC2
  go_wp2_with fail
  go_loopw [6, 26] (fun v i wr => ∃ (k : Nat) (u : Value) (vs : List Value), v = u ∧ k ≤ F.length ∧ i = .int .i64 k ∧ OwnV 41 3 wr w.heap.size u vs ((F.map (gRow l m)).take k) ∧ wr.ownsRow w.heap.size 9 1 (.slice (some ⟨g, 0, none⟩) l.length c) l.length (l.map encStr) ∧ wr.ownsRow w.heap.size 9 1 (.slice (some ⟨gF, 0, none⟩) F.length cF) F.length (F.map encStr) ∧ Below w.heap.size w wr) (fun _ i _ => F.length - (intOf i).toNat)
  case atStart => exact ⟨0, _, [], rfl, Nat.zero_le _, rfl, OwnV.empty (by simpa using HO2.out), HL2.out, HF2.out, HB2.out⟩
  case round =>
    obtain ⟨wo, rfl⟩ : ∃ wo, wo = wr := ⟨_, rfl⟩
    obtain ⟨k, u, vs, rfl, hk, rfl, hov, hol, hof, hb⟩ := hrel
    have HV := Lib.hid hov; have HL := Lib.hid hol; have HF := Lib.hid hof; have HB := Lib.hid hb
    have HLEN2 := Lib.hid (show ((F.map (gRow l m)).take k).length = k by rw [List.length_take, List.length_map]; omega)
    clear hov hol hof hb
    by_cases hlt : k < F.length
    · have g1 := HF.out.cellAt k (by omega)
      have hget : (F.map encStr)[k]? = some (.string (mkB F[k])) := by rw [List.getElem?_map, List.getElem?_eq_getElem hlt]; rfl
      rw [hget] at g1
      obtain ⟨hm1, hm2, hfs⟩ := HPT.out _ (List.getElem_mem hlt)
      have HT := Lib.hid (grL_take (l := l) (n := m) hlt)
      have hrow : gRow l m F[k] = [(l.idxOf ((mkB F[k]).extract 0 m).data.toList : Int), (l.idxOf ((mkB F[k]).extract 1 (mkB F[k]).size).data.toList : Int)] := rfl
      rw [hrow] at HT
      obtain ⟨f, hf⟩ : ∃ f, f = mkB F[k] := ⟨_, rfl⟩
      rw [← hf] at g1 hm1 hm2 hfs HT
      have HA1 := Lib.hid (fun W (hW : W.ownsRow w.heap.size 9 1 (.slice (some ⟨g, 0, none⟩) l.length c) l.length (l.map encStr)) => search_any l g c w.heap.size (f.extract 0 m) W hW (by omega) HSL2.out hm1)
      have HA2 := Lib.hid (fun W (hW : W.ownsRow w.heap.size 9 1 (.slice (some ⟨g, 0, none⟩) l.length c) l.length (l.map encStr)) => search_any l g c w.heap.size (f.extract 1 f.size) W hW (by omega) HSL2.out hm2)
      have hb1 : (m : Int) ≤ (f.size : Int) := by omega
      have hb2 : (1 : Int) ≤ (f.size : Int) := by omega
      have hx1 := List.idxOf_lt_length_iff.2 hm1
      have hx2 := List.idxOf_lt_length_iff.2 hm2
      obtain ⟨a, ha⟩ : ∃ a, a = l.idxOf (f.extract 0 m).data.toList := ⟨_, rfl⟩
      obtain ⟨b, hb⟩ : ∃ b, b = l.idxOf (f.extract 1 f.size).data.toList := ⟨_, rfl⟩
      rw [← ha] at HA1 HT hx1
      rw [← hb] at HA2 HT hx2
      clear hget hrow hf ha hb hm1 hm2 hfs
      go_wp2_with fail
      refine (HA1.out _ HL.out).mono ?_
      rintro e w3 ⟨rfl, q1, hq1⟩
      have HQ1 := Lib.hid (show Below wo.heap.size wo w3 from by rw [hq1]; exact bdrewN _ _)
      clear hq1
      go_wp2_with fail
      refine (HA2.out _ (own_below HL.out HQ1.out)).mono ?_
      rintro e w4 ⟨rfl, q2, hq2⟩
      have HQ2 := Lib.hid (show Below wo.heap.size wo w4 from bthen HQ1.out (by rw [hq2]; exact bdrewN _ _))
      clear hq2
      have HCN := Lib.hid (by have h := cell_one_new (w4.alloc (.cells #[.int .i64 a, .int .i64 b] 3)) (.slice (some ⟨w4.heap.size, 0, none⟩) 2 2) 41; rw [World.size_alloc] at h; exact h)
      go_wp2_with (at_builtin; refine wpList_append_lies _ rfl _ _ 49 rfl w.heap.size 41 i1 (.slice none 0 0) 1 24 Try.underlying49 HJ.out HY0.out HY1.out HY2.out rfl (by decide) _ _ _ rfl (((HV.out.below HQ2.out).own.alloc _).alloc _) ⟨w4.heap.size + 1, 0, none⟩ 1 1 [.slice (some ⟨w4.heap.size, 0, none⟩) 2 2] rfl rfl HCN.out (by intro u hu; simp at hu; subst hu; rfl) (by omega) (by rw [HLEN2.out]; unfold maxLen; omega) (by rw [HLEN2.out]; omega) (by have := HB.out.size; have := HQ2.out.size; simp; omega) _ rfl ?_)
      intro g2 c2 w5 hown' hgrow _ _
      have HG := Lib.hid hgrow; have HO3 := Lib.hid hown'; clear hgrow hown'
      go_wp2
      go_roundw
      case rel =>
        have hu := World.ownsRow_lit (base := wo.heap.size) (e := 3) (size := 1) w4 #[.int .i64 a, .int .i64 b] 2 HQ2.out.size (by unfold maxLen; omega) rfl
        have h01 := bthen HQ2.out (bthen (bnew w4 (.cells #[.int .i64 a, .int .i64 b] 3)) (bnew _ (.cells #[.slice (some ⟨w4.heap.size, 0, none⟩) 2 2] 41)))
        have hb3 := since_grown (bthen HB.out h01) HG.out (fun g' hg' => (own_lt HV.out.own hg').1)
        have hv3 := HV.out.push (u := .slice (some ⟨w4.heap.size, 0, none⟩) 2 2) (ys := [(a : Int), (b : Int)]) types_apart HB.out.size h01 (hu.alloc _) (by rw [HLEN2.out]; simpa using HO3.out) HG.out
        rw [← HT.out] at hv3
        have hL3 := (own_below HL.out h01).kept HG.out (own_types types_gs HL.out HV.out.own)
        have hF3 := (own_below HF.out h01).kept HG.out (own_types types_gs HF.out HV.out.own)
        exact ⟨k + 1, _, _, rfl, by omega, by go_num, hv3, hL3, hF3, hb3⟩
      case measure => simp [intOf]; omega
    · obtain rfl : k = F.length := by omega
      have HE := Lib.hid (show (F.map (gRow l m)).take F.length = grL s m from by rw [HGL.out]; exact List.take_of_length_le (by rw [List.length_map]; exact Nat.le_refl _))
      rw [HE.out] at HV
      go_wp2_with fail
      go_ret
      exact ⟨_, rfl, HV.out.own2, HB.out⟩
set_option maxHeartbeats 1000000 in
theorem implGraphOf_any (s : ByteArray) (n : Int) (w : World) (hs : s.size ≤ maxLen) :
    Calls Try.prog 39 #[.string s, .int .i64 n] w fun e w' => ∃ v, e = .returned v ∧ OwnG w' w.heap.size w'.heap.size v (grR s n) ∧ Below w.heap.size w w' := by
  cases hl : lenB s.data.toList n
  · have HP := Lib.hid (gr_no hl)
    go_enter Try.func39, Try.ntmps39
    go_wp2_with (go_at_call 69; refine (isLength_any _ _ _ hs).mono ?_; rw [hl]; rintro e w' ⟨rfl, hww⟩; cases hww.symm)
    go_ret
    exact ⟨_, rfl, by rw [HP.out]; exact Own2.zero _ _ _, Below.refl _ _⟩
  · obtain ⟨h1, h2, h3⟩ := lenB_parts hl
    obtain ⟨m, rfl⟩ := Int.eq_ofNat_of_zero_le (show 0 ≤ n by omega)
    rw [gr_yes hl]
    exact implGraphL_any s m w hs hl
end Go.Proofs.Ytglleimmmfnhcaa
