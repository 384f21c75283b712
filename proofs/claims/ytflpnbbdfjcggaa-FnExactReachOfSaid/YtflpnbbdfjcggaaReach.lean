/- Walks: the longest part of a word that a factor may miss. -/
import Derived.Test.YtflpnbbdfjcggaaFac3
import Derived.Test.YtflpnbbdfjcggaaReachP
import Derived.Deep.AppendLies
import Derived.Deep.QuietTactic
namespace Go.Proofs.Ytflpnbbdfjcggaa
open Go.RowKit
set_option maxRecDepth 20000

theorem facR_mem {s : ByteArray} {n : Nat} {f : List UInt8} (h : f ∈ facR s n) : ∃ i, i + n ≤ s.size ∧ f = win s n i ∧ f.length = n := by
  have h2 := ((srt_facts (wins s n (s.size + 1 - n))).2 f).1 h
  simp only [wins, List.mem_map, List.mem_range] at h2
  obtain ⟨i, hi, rfl⟩ := h2
  refine ⟨i, by omega, rfl, ?_⟩
  unfold win
  rw [← Lib.size_eq, ByteArray.size_extract]
  omega
theorem fac_places {s : ByteArray} {n : Nat} {f : List UInt8} (h : f ∈ facR s n) : 0 < (placesL s (mkB f) (s.size + 1 - n)).length := by
  obtain ⟨i, hi, hf, hl⟩ := facR_mem h
  unfold placesL
  rw [List.length_map]
  refine List.length_pos_of_mem (a := i) ?_
  rw [List.mem_filter]
  refine ⟨List.mem_range.2 (by omega), ?_⟩
  unfold standsAt
  rw [beq_iff_eq, Lib.toList_data, Lib.toList_data, show (mkB f).size = n from hl]
  exact hf.symm
theorem places_in_sz (s f : ByteArray) (k : Nat) (hk : k ≤ s.size + 1) : inSz s.size (placesL s f k) := by
  intro p hp
  simp only [placesL, List.mem_map, List.mem_filter, List.mem_range] at hp
  obtain ⟨i, ⟨hi, _⟩, rfl⟩ := hp
  omega
/-- the longest part behind the first k factors -/
def rcTo (s : ByteArray) (n : Nat) (l : List (List UInt8)) : Nat → Int
  | 0 => 0
  | k + 1 => imax (rcTo s n l k) (lng n s.size (placesL s (mkB (l.getD k [])) (s.size + 1 - n)))
theorem rcTo_bound (s : ByteArray) (n : Nat) (h1 : 1 ≤ n) (l : List (List UInt8)) : ∀ k, 0 ≤ rcTo s n l k ∧ rcTo s n l k ≤ s.size + n
  | 0 => by simp only [rcTo]; omega
  | k + 1 => by
    have h := rcTo_bound s n h1 l k
    have h2 := lng_bound (n := n) (places_in_sz s (mkB (l.getD k [])) (s.size + 1 - n) (by omega)) (by omega) (by omega) ((placesL s (mkB (l.getD k [])) (s.size + 1 - n)).length - 1)
    exact imax_bound h h2
/-- what ReachOf returns -/
def rcR (s : ByteArray) (n : Int) : Int := if lenB s.data.toList n = true then (if (facR s n.toNat).length = 0 then 0 else rcTo s n.toNat (facR s n.toNat) (facR s n.toNat).length + 1) else -1
theorem rc_no {s : ByteArray} {n : Int} (h : lenB s.data.toList n = false) : rcR s n = -1 := by unfold rcR; rw [h]; rfl
theorem rc_zero {s : ByteArray} {n : Nat} (h : lenB s.data.toList n = true) (h0 : (facR s n).length = 0) : rcR s n = 0 := by
  unfold rcR; rw [if_pos h]; show (if (facR s n).length = 0 then _ else _) = _; rw [if_pos h0]
theorem rc_pos {s : ByteArray} {n : Nat} (h : lenB s.data.toList n = true) (h0 : 0 < (facR s n).length) : rcR s n = rcTo s n (facR s n) (facR s n).length + 1 := by
  unfold rcR; rw [if_pos h]; show (if (facR s n).length = 0 then _ else _) = _; rw [if_neg (by omega)]; rfl
set_option maxHeartbeats 2000000 in
theorem specReachOf_any (s : ByteArray) (n : Int) (w : World) (hs : s.size ≤ maxLen) :
    Calls Try.prog 29 #[.string s, .int .i64 n] w fun e w' => e = .returned (.int .i64 (rcR s n)) ∧ Below w.heap.size w w' := by
  cases hw : wordB s.data.toList
  · have HP := Lib.hid (rc_no (s := s) (n := n) (by unfold lenB; rw [hw]; rfl))
    go_enter Try.func29, Try.ntmps29
    go_wp2_with (go_at_call 46; refine (specWordOk_any _ _ hs).mono ?_; rw [hw]; rintro e w' ⟨rfl, rfl⟩)
    go_ret
    exact ⟨by rw [HP.out] <;> rfl, Below.refl _ _⟩
  have HW := Lib.hid hw
  cases hn : (decide ((1 : Int) ≤ n) && decide (n ≤ 400))
  · have HP := Lib.hid (rc_no (s := s) (n := n) (by unfold lenB; rw [hn]; simp))
    have HN := Lib.hid hn; clear hn hw
    go_enter Try.func29, Try.ntmps29
    go_wp2_with (first
      | (go_at_call 46; refine (specWordOk_any _ _ hs).mono ?_; rw [HW.out]; rintro e w' ⟨rfl, rfl⟩)
      | (go_at_call 52; refine (l01In_any _ _ _ _).mono ?_; rw [HN.out]; rintro e w' ⟨rfl, rfl⟩))
    go_ret
    exact ⟨by rw [HP.out] <;> rfl, Below.refl _ _⟩
  have hl : lenB s.data.toList n = true := by unfold lenB; rw [hw, hn]; rfl
  obtain ⟨h1, h2, h3⟩ := lenB_parts hl
  obtain ⟨m, rfl⟩ := Int.eq_ofNat_of_zero_le (show 0 ≤ n by omega)
  have hsz := word_len h1
  have HZ := Lib.hid (rc_zero (n := m) hl)
  have HPOS := Lib.hid (rc_pos (n := m) hl)
  have HN := Lib.hid hn; clear hn hl hw
  have HC := Lib.hid (l05Factors_any s m w hsz (by omega) (by omega))
  have hfl := facR_len s m
  have HMEM := Lib.hid (fun f h => fac_places (s := s) (n := m) (f := f) h)
  have HFL := Lib.hid (fun f h => facR_mem (s := s) (n := m) (f := f) h)
  have HRB := Lib.hid (rcTo_bound s m (by omega) (facR s m))
  clear h1
  go_enter Try.func29, Try.ntmps29
  go_wp2_with (first
    | (go_at_call 46; refine (specWordOk_any _ _ hs).mono ?_; rw [HW.out]; rintro e w' ⟨rfl, rfl⟩)
    | (go_at_call 52; refine (l01In_any _ _ _ _).mono ?_; rw [HN.out]; rintro e w' ⟨rfl, rfl⟩))
  refine HC.out.mono ?_
  rintro e w1 ⟨g, c, rfl, ho, hb⟩
  have HO := Lib.hid ho; have HB := Lib.hid hb; clear ho hb
  obtain ⟨l, hl⟩ : ∃ l, l = facR s m := ⟨_, rfl⟩
  rw [← hl] at HO HZ HPOS HMEM HFL HRB hfl ⊢
  clear hl
  rcases Nat.eq_zero_or_pos l.length with h0 | h0
  · have HP := Lib.hid (HZ.out h0)
    have hb0 : ((l.length : Int) == 0) = true := by rw [beq_iff_eq]; omega
    go_wp2_with fail
    go_ret
    exact ⟨by rw [HP.out] <;> rfl, HB.out⟩
  have HP := Lib.hid (HPOS.out h0)
  have hb0 : ((l.length : Int) == 0) = false := by rw [beq_eq_false_iff_ne]; omega
  go_wp2_with fail
  go_loopw [6, 27] (fun x j w2 => ∃ k : Nat, k ≤ l.length ∧ j = .int .i64 k ∧ x = .int .i64 (rcTo s m l k) ∧ w2 = w1) (fun _ j _ => l.length - (intOf j).toNat)
  case atStart => exact ⟨0, Nat.zero_le _, rfl, rfl, rfl⟩
  case round =>
    obtain ⟨k, hk, rfl, rfl, rfl⟩ := hrel
    by_cases hlt : k < l.length
    · have g1 := HO.out.cellAt k (by omega)
      have hget : (l.map encStr)[k]? = some (.string (mkB l[k])) := by rw [List.getElem?_map, List.getElem?_eq_getElem hlt]; rfl
      rw [hget] at g1
      have hpl := HMEM.out _ (List.getElem_mem hlt)
      obtain ⟨_, _, _, hfn⟩ := HFL.out _ (List.getElem_mem hlt)
      have hgd : l.getD k [] = l[k] := by rw [List.getD_eq_getElem?_getD, List.getElem?_eq_getElem hlt]; rfl
      obtain ⟨r1, r2⟩ := HRB.out k
      have HE := Lib.hid (rst_end m s.size (rcTo s m l k) (placesL s (mkB l[k]) (s.size + 1 - m)) hpl)
      have HS := Lib.hid (show rcTo s m l (k + 1) = imax (rcTo s m l k) (lng m s.size (placesL s (mkB l[k]) (s.size + 1 - m))) from by rw [← hgd]; rfl)
      obtain ⟨f, hf⟩ : ∃ f, f = mkB l[k] := ⟨_, rfl⟩
      have hfs : f.size = m := by rw [hf]; exact hfn
      obtain ⟨M0, hM0⟩ : ∃ M0, M0 = rcTo s m l k := ⟨_, rfl⟩
      rw [← hf] at g1 HE HS
      rw [← hM0] at r1 r2 HE HS ⊢
      obtain ⟨K, hK⟩ : ∃ K, K = s.size + 1 - m := ⟨_, rfl⟩
      rw [← hK] at HE HS
      clear hget hpl hfn hgd hf hM0
      go_wp2_with fail
      go_loop [6, 9, 10] (fun x y j => ∃ i : Nat, i ≤ K ∧ j = .int .i64 i ∧ x = .int .i64 (rst m M0 (placesL s f i)).1 ∧ y = .int .i64 (rst m M0 (placesL s f i)).2 ∧ (0 ≤ (rst m M0 (placesL s f i)).1 ∧ (rst m M0 (placesL s f i)).1 ≤ s.size + m ∧ 0 ≤ (rst m M0 (placesL s f i)).2 ∧ (rst m M0 (placesL s f i)).2 ≤ s.size + 1)) (fun _ _ j => K - (intOf j).toNat)
      case atStart => exact ⟨0, Nat.zero_le _, rfl, rfl, rfl, r1, r2, by simp [placesL, rst], by simp [placesL, rst]; omega⟩
      case round =>
        clear g1
        obtain ⟨i, hi, rfl, rfl, rfl, hbd⟩ := hrel
        have HBD := Lib.hid hbd
        obtain ⟨a1, a2, a3, a4⟩ := hbd
        by_cases hil : i + m ≤ s.size
        · have HRS := Lib.hid (rstep_bound (n := m) (sz := s.size) (p := i) HBD.out (by omega))
          cases hst : standsAt s f i
          · have HN := Lib.hid (places_no hst)
            unfold standsAt at hst
            rw [hfs] at hst
            clear a1 a2 a3 a4
            go_wp2
            go_round
            case rel => exact ⟨i + 1, by omega, by go_num, by rw [HN.out], by rw [HN.out], by rw [HN.out]; exact HBD.out⟩
            case measure => simp [intOf]; omega
          · have HN := Lib.hid (show rst m M0 (placesL s f (i + 1)) = rstep m (rst m M0 (placesL s f i)) i from by rw [places_yes hst, rst_snoc])
            unfold standsAt at hst
            rw [hfs] at hst
            obtain ⟨st, hstt⟩ : ∃ st, st = rst m M0 (placesL s f i) := ⟨_, rfl⟩
            rw [← hstt] at HN HRS a1 a2 a3 a4 ⊢
            clear hstt
            obtain ⟨x, y⟩ := st
            simp only [] at a1 a2 a3 a4 ⊢
            go_wp2
            go_round
            case rel => exact ⟨i + 1, by omega, by go_num, by rw [HN.out, imax_eq] <;> rfl, by rw [HN.out] <;> rfl, by rw [HN.out]; exact HRS.out⟩
            case measure => simp [intOf]; omega
        · obtain rfl : i = K := by omega
          obtain ⟨st, hstt⟩ : ∃ st, st = rst m M0 (placesL s f i) := ⟨_, rfl⟩
          rw [← hstt] at HE a1 a2 a3 a4 ⊢
          clear hstt
          obtain ⟨x, y⟩ := st
          simp only [] at a1 a2 a3 a4 ⊢
          have HS2 := Lib.hid (HS.out.trans HE.out.symm)
          go_wp2
          go_roundw
          case rel => exact ⟨k + 1, by omega, by go_num, by rw [HS2.out, imax_eq] <;> rfl, by first | rfl | trivial⟩
          case measure => simp [intOf]; omega
    · obtain rfl : k = l.length := by omega
      obtain ⟨r1, r2⟩ := HRB.out l.length
      go_wp2_with fail
      go_ret
      exact ⟨by rw [HP.out] <;> rfl, HB.out⟩
end Go.Proofs.Ytflpnbbdfjcggaa
