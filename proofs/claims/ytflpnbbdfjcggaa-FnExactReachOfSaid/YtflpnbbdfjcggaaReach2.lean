/- Walks: the longest part of a word that a factor may miss, the program's own way. -/
import Derived.Test.YtflpnbbdfjcggaaReach
import Derived.Test.YtflpnbbdfjcggaaFac2
import Derived.Deep.QuietTactic
import Derived.BigQuiet
namespace Go.Proofs.Ytflpnbbdfjcggaa
open Go.RowKit
set_option maxRecDepth 20000

def rcI (s : ByteArray) (n : Nat) (l : List (List UInt8)) (k : Nat) : Int := if k = 0 then 0 else rcTo s n l k + 1
theorem rcI_step (s : ByteArray) (n : Nat) (h1 : 1 ≤ n) (l : List (List UInt8)) (k : Nat) : rcI s n l (k + 1) = imax (rcI s n l k) (lng n s.size (placesL s (mkB (l.getD k [])) (s.size + 1 - n)) + 1) := by
  have h2 := lng_bound (n := n) (places_in_sz s (mkB (l.getD k [])) (s.size + 1 - n) (by omega)) (by omega) (by omega) ((placesL s (mkB (l.getD k [])) (s.size + 1 - n)).length - 1)
  have e : rcTo s n l (k + 1) = imax (rcTo s n l k) (lng n s.size (placesL s (mkB (l.getD k [])) (s.size + 1 - n))) := rfl
  unfold rcI
  rw [if_neg (by omega), e]
  unfold lng at h2 ⊢
  generalize lngTo n s.size (placesL s (mkB (l.getD k [])) (s.size + 1 - n)) ((placesL s (mkB (l.getD k [])) (s.size + 1 - n)).length - 1) = a at *
  by_cases h0 : k = 0
  · subst h0
    rw [if_pos rfl]
    simp only [rcTo, imax]
    (repeat' split) <;> omega
  · rw [if_neg h0]
    simp only [imax]
    (repeat' split) <;> omega
theorem rcI_bound (s : ByteArray) (n : Nat) (h1 : 1 ≤ n) (l : List (List UInt8)) (k : Nat) : 0 ≤ rcI s n l k ∧ rcI s n l k ≤ s.size + n + 1 := by
  have h := rcTo_bound s n h1 l k
  unfold rcI; split <;> omega
theorem get_int {P : List Int} {i : Nat} (h : i < P.length) : (P.map (Value.int .i64))[i]? = some (.int .i64 (P.getD i 0)) := by
  rw [List.getElem?_map, List.getElem?_eq_getElem h, getD_at h]; rfl
set_option maxHeartbeats 2000000 in
theorem implReachOf_any (s : ByteArray) (n : Int) (w : World) (hs : s.size ≤ maxLen) :
    Calls Try.prog 30 #[.string s, .int .i64 n] w fun e w' => e = .returned (.int .i64 (rcR s n)) ∧ Below w.heap.size w w' := by
  cases hl : lenB s.data.toList n
  · have HP := Lib.hid (rc_no hl)
    go_enter Try.func30, Try.ntmps30
    go_wp2_with (go_at_call 54; refine (isLength_any _ _ _ hs).mono ?_; rw [hl]; rintro e w' ⟨rfl, hww⟩; cases hww.symm)
    go_ret
    exact ⟨by rw [HP.out] <;> rfl, Below.refl _ _⟩
  obtain ⟨h1, h2, h3⟩ := lenB_parts hl
  obtain ⟨m, rfl⟩ := Int.eq_ofNat_of_zero_le (show 0 ≤ n by omega)
  have hsz := word_len h1
  have HZ := Lib.hid (rc_zero (n := m) hl)
  have HPOS := Lib.hid (rc_pos (n := m) hl)
  have HLN := Lib.hid hl; clear hl
  have HC := Lib.hid (factorsOf_any s m w hsz (by omega) (by omega))
  have hfl := facR_len s m
  have HMEM := Lib.hid (fun f h => fac_places (s := s) (n := m) (f := f) h)
  have HFL := Lib.hid (fun f h => facR_mem (s := s) (n := m) (f := f) h)
  have HRB := Lib.hid (rcI_bound s m (by omega) (facR s m))
  have HST := Lib.hid (rcI_step s m (by omega) (facR s m))
  clear h1
  go_enter Try.func30, Try.ntmps30
  go_wp2_with (go_at_call 54; refine (isLength_any _ _ _ hs).mono ?_; rw [HLN.out]; rintro e w' ⟨rfl, hww⟩; cases hww.symm)
  refine HC.out.mono ?_
  rintro e w1 ⟨g, c, rfl, ho, hb⟩
  have HO := Lib.hid ho; have HB := Lib.hid hb; clear ho hb
  obtain ⟨l, hl⟩ : ∃ l, l = facR s m := ⟨_, rfl⟩
  rw [← hl] at HO HZ HPOS HMEM HFL HRB HST hfl ⊢
  clear hl
  have HEND := Lib.hid (show rcR s (m : Int) = rcI s m l l.length from by
    unfold rcI
    by_cases h0 : l.length = 0
    · rw [if_pos h0]; exact HZ.out h0
    · rw [if_neg h0]; exact HPOS.out (by omega))
  go_wp2_with fail
  go_loopw [5, 19] (fun x j w2 => ∃ k : Nat, k ≤ l.length ∧ j = .int .i64 k ∧ x = .int .i64 (rcI s m l k) ∧ Below w1.heap.size w1 w2) (fun _ j _ => l.length - (intOf j).toNat)
  case atStart => exact ⟨0, Nat.zero_le _, rfl, rfl, Below.refl _ _⟩
  case round =>
    obtain ⟨wo, rfl⟩ : ∃ wo, wo = wr := ⟨_, rfl⟩
    obtain ⟨k, hk, rfl, rfl, hb⟩ := hrel
    have HBO := Lib.hid hb; clear hb
    obtain ⟨r1, r2⟩ := HRB.out k
    by_cases hlt : k < l.length
    · have g1 := (own_below HO.out HBO.out).cellAt k (by omega)
      have hget : (l.map encStr)[k]? = some (.string (mkB l[k])) := by rw [List.getElem?_map, List.getElem?_eq_getElem hlt]; rfl
      rw [hget] at g1
      have hpl := HMEM.out _ (List.getElem_mem hlt)
      obtain ⟨_, _, _, hfn⟩ := HFL.out _ (List.getElem_mem hlt)
      have hgd : l.getD k [] = l[k] := by rw [List.getD_eq_getElem?_getD, List.getElem?_eq_getElem hlt]; rfl
      have hst := HST.out k
      rw [hgd] at hst
      have hin := places_in_sz s (mkB l[k]) (s.size + 1 - m) (by omega)
      obtain ⟨f, hf⟩ : ∃ f, f = mkB l[k] := ⟨_, rfl⟩
      have hfs : f.size = m := by rw [hf]; exact hfn
      rw [← hf] at g1 hst hin hpl
      have hpc := placesIn_any s f wo hsz (by omega) (by omega)
      rw [hfs] at hpc
      obtain ⟨P, hP⟩ : ∃ P, P = placesL s f (s.size + 1 - m) := ⟨_, rfl⟩
      rw [← hP] at hpc hst hin hpl
      have hplen : P.length ≤ s.size + 1 - m := by rw [hP]; exact places_len _ _ _
      have HPC := Lib.hid hpc
      have HS := Lib.hid hst
      have HIN := Lib.hid (inSz_get hin (by omega))
      have HLB := Lib.hid (lng_bound (n := m) hin (by omega) (by omega))
      obtain ⟨r, hr⟩ : ∃ r, r = rcI s m l k := ⟨_, rfl⟩
      rw [← hr] at r1 r2 HS ⊢
      clear hget hfn hgd hf hP hpc hst hin hr
      go_wp2_with fail
      refine HPC.out.mono ?_
      rintro e w2 ⟨v, rfl, ho2, hb2⟩
      obtain ⟨gp, cp, rfl, _, _⟩ := ho2.form hpl
      have HB2 := Lib.hid (HBO.out.trans (hb2.mono HBO.out.size))
      have g2 := ho2.cellAt 0 (by omega)
      have g3 := ho2.cellAt (P.length - 1) (by omega)
      rw [get_int hpl] at g2
      rw [get_int (by omega)] at g3
      have HO2 := Lib.hid ho2
      obtain ⟨p1, p2⟩ := HIN.out 0
      obtain ⟨q1, q2⟩ := HIN.out (P.length - 1)
      have HL0 := Lib.hid (show lngTo m s.size P 0 = imax (P.getD 0 0 + m - 1) (s.size - P.getD (P.length - 1) 0 - 1) from rfl)
      obtain ⟨pa, hpa⟩ : ∃ pa, pa = P.getD 0 0 := ⟨_, rfl⟩
      obtain ⟨pz, hpz⟩ : ∃ pz, pz = P.getD (P.length - 1) 0 := ⟨_, rfl⟩
      rw [← hpa] at g2 p1 p2 HL0
      rw [← hpz] at g3 q1 q2 HL0
      clear ho2 hb2 g1 hpa hpz
      go_wp2_with fail
      go_quiet (fail)
      go_wp2
      clear g2 g3
      go_loopw [9, 10] (fun x j w3 => ∃ (i q : Nat), 1 ≤ i ∧ i ≤ P.length ∧ j = .int .i64 i ∧ x = .int .i64 (lngTo m s.size P (i - 1)) ∧ w3 = w2.drewN q) (fun _ j _ => P.length - (intOf j).toNat)
      case atStart => exact ⟨1, _, Nat.le_refl _, hpl, rfl, by rw [HL0.out, ← imax_eq], rfl⟩
      case round =>
        obtain ⟨i, q, hi1, hi, rfl, rfl, rfl⟩ := hrel
        obtain ⟨b1, b2⟩ := HLB.out (i - 1)
        by_cases hil : i < P.length
        · have g4 := HO2.out.cellAt i (by omega)
          have g5 := HO2.out.cellAt (i - 1) (by omega)
          rw [get_int hil] at g4
          rw [get_int (by omega)] at g5
          obtain ⟨p3, p4⟩ := HIN.out i
          obtain ⟨p5, p6⟩ := HIN.out (i - 1)
          have HN := Lib.hid (show lngTo m s.size P (i + 1 - 1) = imax (lngTo m s.size P (i - 1)) (P.getD i 0 - P.getD (i - 1) 0 + m - 2) from by
            obtain ⟨t, rfl⟩ : ∃ t, i = t + 1 := ⟨i - 1, by omega⟩
            rfl)
          obtain ⟨x, hx⟩ : ∃ x, x = lngTo m s.size P (i - 1) := ⟨_, rfl⟩
          obtain ⟨pa, hpa⟩ : ∃ pa, pa = P.getD i 0 := ⟨_, rfl⟩
          obtain ⟨pz, hpz⟩ : ∃ pz, pz = P.getD (i - 1) 0 := ⟨_, rfl⟩
          rw [← hpa] at g4 p3 p4 HN
          rw [← hpz] at g5 p5 p6 HN
          rw [← hx] at b1 b2 HN ⊢
          clear hx hpa hpz
          go_wp2_with fail
          go_quiet (fail)
          go_wp2
          go_roundw
          case rel => exact ⟨i + 1, _, by omega, by omega, by go_num, by rw [HN.out, ← imax_eq] <;> rfl, rfl⟩
          case measure => simp [intOf]; omega
        · obtain rfl : i = P.length := by omega
          have HX := Lib.hid (show lng m s.size P = lngTo m s.size P (P.length - 1) from rfl)
          rw [HX.out] at HS
          obtain ⟨x, hx⟩ : ∃ x, x = lngTo m s.size P (P.length - 1) := ⟨_, rfl⟩
          rw [← hx] at b1 b2 HS ⊢
          clear hx
          go_wp2_with fail
          go_roundw
          case rel => exact ⟨k + 1, by omega, by go_num, by rw [HS.out, ← imax_eq] <;> rfl, below_drewN HB2.out _⟩
          case measure => simp [intOf]; omega
    · obtain rfl : k = l.length := by omega
      go_wp2_with fail
      go_ret
      exact ⟨by rw [HEND.out] <;> rfl, HB.out.trans (HBO.out.mono HB.out.size)⟩
end Go.Proofs.Ytflpnbbdfjcggaa
