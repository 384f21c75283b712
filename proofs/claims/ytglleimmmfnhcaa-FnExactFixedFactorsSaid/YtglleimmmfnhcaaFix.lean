/- Walks: the fixed point of a growing letter. -/
import Derived.Test.YtglleimmmfnhcaaLetter
import Derived.Test.YtglleimmmfnhcaaBuf
import Derived.Test.YtglleimmmfnhcaaFixP
import Derived.Test.YtglleimmmfnhcaaCut
import Derived.Test.YtglleimmmfnhcaaCarry
import Derived.Deep.RegionLaw
namespace Go.Proofs.Ytglleimmmfnhcaa
open Go.RowKit
set_option maxRecDepth 20000

theorem growB_img {xs : List ByteArray} {l : List UInt8} (h : imgB xs l = false) : growB xs l = false := by
  match l, h with
  | [], _ => rfl
  | [c], h => rw [growB_one, h]; rfl
  | _ :: _ :: _, _ => rfl
/-- a valid substitution and a growing letter of it -/
def gB (xs : List ByteArray) (l : List UInt8) : Bool := substB xs && growB xs l
def gK (xs : List ByteArray) (l : List UInt8) : Int := if gB xs l = true then letK xs l else -1
theorem gK_no {xs : List ByteArray} {l : List UInt8} (h : gB xs l = false) : gK xs l = -1 := by unfold gK; rw [h]; rfl
theorem gK_yes {xs : List ByteArray} {l : List UInt8} (h : gB xs l = true) : gK xs l = letK xs l := by unfold gK; rw [if_pos h]
theorem gB_no1 {xs : List ByteArray} {l : List UInt8} (h : substB xs = false) : gB xs l = false := by unfold gB; rw [h]; rfl
theorem gB_no2 {xs : List ByteArray} {l : List UInt8} (h : imgB xs l = false) : gB xs l = false := by unfold gB; rw [growB_img h]; simp
theorem gB_ltr {xs : List ByteArray} {k : Nat} (hx : substB xs = true) (hi : imgB xs (ltr k).data.toList = true) : gB xs (ltr k).data.toList = growC xs (lc k) := by
  unfold gB; rw [hx, Bool.true_and, ltr_data, growB_one]; rw [ltr_data] at hi; rw [hi, Bool.true_and]
theorem gB_parts {xs : List ByteArray} {s : ByteArray} (h : gB xs s.data.toList = true) : ∃ k, k < xs.length ∧ k < 4 ∧ s = ltr k ∧ Grows xs (lc k) ∧ letK xs s.data.toList = k := by
  have h0 := h
  unfold gB at h
  rw [Bool.and_eq_true] at h
  obtain ⟨hx, hg⟩ := h
  cases hi : imgB xs s.data.toList
  · rw [growB_img hi] at hg; cases hg
  · obtain ⟨k, hk, rfl, hk4, hkk⟩ := img_letter hi
    rw [gB_ltr hx hi] at h0
    exact ⟨k, hk, hk4, rfl, ⟨hx, hi, h0⟩, hkk⟩
/-- what FixedPoint returns -/
def fpB (xs : List ByteArray) (l : List UInt8) (n : Int) : Bool := gB xs l && (decide (0 ≤ n) && decide (n ≤ 400))
def fpL (xs : List ByteArray) (l : List UInt8) (n : Int) : List UInt8 := if fpB xs l n = true then fixR xs (l.headD 0) n.toNat else []
theorem fp_no {xs : List ByteArray} {l : List UInt8} {n : Int} (h : fpB xs l n = false) : fpL xs l n = [] := by unfold fpL; rw [h]; rfl
theorem fp_yes {xs : List ByteArray} {l : List UInt8} {n : Int} (h : fpB xs l n = true) : fpL xs l n = fixR xs (l.headD 0) n.toNat := by unfold fpL; rw [if_pos h]
theorem fpL_len {xs : List ByteArray} {l : List UInt8} {n : Int} : (fpL xs l n).length ≤ 400 := by
  cases h : fpB xs l n
  · rw [fp_no h]; simp
  · rw [fp_yes h]
    unfold fpB at h
    simp only [Bool.and_eq_true, decide_eq_true_eq] at h
    unfold fixR; rw [List.length_take]; omega
/-- Below and an append to the call's own bytes -/
theorem OwnT.since {w W wr w1 : World} {base : Nat} {e : TypeId} {v : Value} {l : List UInt8} (h : Below w.heap.size w W) (ho : OwnT wr base e v l) (hb : w.heap.size ≤ base) (hg : W.grownBy w1 v.ownBlock) : Below w.heap.size w w1 :=
  h.grown hg h.size (fun g hg' => Nat.le_trans hb (ho.lt g hg').1)

set_option maxHeartbeats 1000000 in
theorem l05Letter_any (xs : List ByteArray) (va : Value) (t : ByteArray) (w : World) (ha : Row1 w w.heap.size va (xs.map .string)) (hs : ∀ s ∈ xs, s.size ≤ maxLen) (ht : t.size ≤ maxLen) :
    Calls Try.prog 49 #[.agg #[va], .string t] w fun e w' => e = .returned (.int .i64 (gK xs t.data.toList)) ∧ Below w.heap.size w w' := by
  obtain ⟨A, cp, rfl⟩ := ha.shape
  have s0 := Stands.start w 28 (.slice A xs.length cp)
  have HL := Lib.hid (l04Letter_any xs _ t _ (s0.row ha) ht)
  have c0 := s0.box
  have HS0 := Lib.hid s0
  have HA := Lib.hid ha
  clear s0 ha
  cases hi : imgB xs t.data.toList
  · have HF := Lib.hid (gK_no (gB_no2 hi))
    rw [letK_no hi] at HL
    clear hi
    go_enter Try.func49, Try.ntmps49
    go_wp2_with fail
    refine HL.out.mono ?_
    rintro e w1 ⟨rfl, hb1⟩
    have S1 := Lib.hid (HS0.out.on hb1); clear hb1
    go_wp2_with fail
    go_ret
    exact ⟨by rw [HF.out] <;> rfl, S1.out.below⟩
  obtain ⟨k0, hk0, rfl, hk4, hlk⟩ := img_letter hi
  have HI := Lib.hid hi; have HLK := Lib.hid hlk
  rw [hlk] at HL
  have HOK := Lib.hid (fun W (S : Stands w 28 (.slice A xs.length cp) W) => specSubstOk_any xs _ W (S.row HA.out) hs)
  clear hi hlk hs
  cases hx : substB xs
  · have HF := Lib.hid (gK_no (gB_no1 (l := (ltr k0).data.toList) hx))
    go_enter Try.func49, Try.ntmps49
    go_wp2_with fail
    refine HL.out.mono ?_
    rintro e w1 ⟨rfl, hb1⟩
    have S1 := Lib.hid (HS0.out.on hb1); clear hb1
    have c1 := S1.out.box
    clear c0
    go_wp2_with fail
    refine (HOK.out _ S1.out).mono ?_
    rw [hx]
    rintro e w2 ⟨rfl, hb2⟩
    have S2 := Lib.hid (S1.out.on hb2); clear hb2
    go_wp2_with fail
    go_ret
    exact ⟨by rw [HF.out] <;> rfl, S2.out.below⟩
  have HX := Lib.hid hx
  have HGB := Lib.hid (gB_ltr hx HI.out)
  clear hx
  cases hg : growC xs (lc k0)
  · have HF := Lib.hid (gK_no (HGB.out.trans hg))
    have HGC := Lib.hid hg; clear hg
    go_enter Try.func49, Try.ntmps49
    go_wp2_with fail
    refine HL.out.mono ?_
    rintro e w1 ⟨rfl, hb1⟩
    have S1 := Lib.hid (HS0.out.on hb1); clear hb1
    have c1 := S1.out.box
    clear c0
    go_wp2_with fail
    refine (HOK.out _ S1.out).mono ?_
    rw [HX.out]
    rintro e w2 ⟨rfl, hb2⟩
    have S2 := Lib.hid (S1.out.on hb2); clear hb2
    have c2 := S2.out.box
    clear c1
    go_wp2_with fail
    refine (l05Grows_any xs _ k0 _ (S2.out.row HA.out) HX.out hk0).mono ?_
    rw [HGC.out]
    rintro e w3 ⟨rfl, hb3⟩
    have S3 := Lib.hid (S2.out.on hb3); clear hb3
    go_wp2_with fail
    go_ret
    exact ⟨by rw [HF.out] <;> rfl, S3.out.below⟩
  · have HF := Lib.hid ((gK_yes (HGB.out.trans hg)).trans HLK.out)
    have HGC := Lib.hid hg; clear hg
    go_enter Try.func49, Try.ntmps49
    go_wp2_with fail
    refine HL.out.mono ?_
    rintro e w1 ⟨rfl, hb1⟩
    have S1 := Lib.hid (HS0.out.on hb1); clear hb1
    have c1 := S1.out.box
    clear c0
    go_wp2_with fail
    refine (HOK.out _ S1.out).mono ?_
    rw [HX.out]
    rintro e w2 ⟨rfl, hb2⟩
    have S2 := Lib.hid (S1.out.on hb2); clear hb2
    have c2 := S2.out.box
    clear c1
    go_wp2_with fail
    refine (l05Grows_any xs _ k0 _ (S2.out.row HA.out) HX.out hk0).mono ?_
    rw [HGC.out]
    rintro e w3 ⟨rfl, hb3⟩
    have S3 := Lib.hid (S2.out.on hb3); clear hb3
    go_wp2_with fail
    go_ret
    exact ⟨by rw [HF.out] <;> rfl, S3.out.below⟩
theorem letter_nat {c : UInt8} (h : letterB c = true) : (97 : Int) ≤ (c.toNat : Int) ∧ (c.toNat : Int) ≤ 100 := by
  simp only [letterB, Bool.and_eq_true, decide_eq_true_eq] at h; omega
theorem fixIt_at {xs : List ByteArray} {c : UInt8} (h : Grows xs c) (t : Nat) (L : List UInt8) (hL : L = fixIt xs c t) : ∃ hlt : t + 1 < L.length, fixIt xs c (t + 1) = L ++ (imgAt xs L[t + 1]).data.toList ∧ letterB L[t + 1] = true ∧ L[t + 1].toNat - 97 < xs.length ∧ (imgAt xs L[t + 1]).size ≤ 8 := by
  subst hL
  have hlt : t + 1 < (fixIt xs c t).length := by have := (fixIt_facts h t).2.2.1; omega
  exact ⟨hlt, fixIt_next h t hlt⟩
theorem own_stands {w wr W w1 : World} {T : TypeId} {va v : Value} {base : Nat} {e : TypeId} {l : List UInt8} (h : Stands w T va W) (ho : OwnT wr base e v l) (hb : w.heap.size + 1 ≤ base) (hg : W.grownBy w1 v.ownBlock) : Stands w T va w1 :=
  Below.grown h hg (Stands.size h) (fun g hg' => Nat.le_trans hb (ho.lt g hg').1)
set_option maxHeartbeats 2000000 in
theorem l05Start_any (xs : List ByteArray) (va : Value) (k n : Nat) (w : World) (ha : Row1 w w.heap.size va (xs.map .string)) (hg : Grows xs (lc k)) (hk : k < xs.length) (hn : n ≤ 10001) :
    Calls Try.prog 51 #[.agg #[va], .int .i64 k, .int .i64 n] w fun e w' => e = .returned (.string ⟨(fixR xs (lc k) n).toArray⟩) ∧ Below w.heap.size w w' := by
  have s0 := Stands.start w 28 va
  have h4 := (subst_parts hg.ok).2.1
  have hkn := lc_nat (j := k) (by omega)
  obtain ⟨b, o, cp, rfl, hb, hc, hcell⟩ := ha.openAt (by omega)
  have HC := Lib.hid hcell
  have c0 := s0.box
  have hi : imgAt xs (lc k) = xs[k] := by
    have := imgAt_get (xs := xs) (c := lc k) (by omega)
    rw [this]; congr 1; omega
  have hok := imgAt_ok hg.ok (c := lc k) (by omega)
  have g0 := (s0.below.cell (p := ⟨b, o + k, none⟩) hb).trans (hcell k hk)
  rw [← hi] at g0
  obtain ⟨t0, ht0⟩ : ∃ t0, t0 = imgAt xs (lc k) := ⟨_, rfl⟩
  rw [← ht0] at g0 hok
  have ho8 := hok.2.1
  obtain ⟨c, hcc⟩ : ∃ c, c = lc k := ⟨_, rfl⟩
  rw [← hcc] at hg ht0 ⊢
  have HG := Lib.hid hg
  have H0 := Lib.hid (show fixIt xs c 0 = t0.data.toList by rw [ht0]; rfl)
  have HS0 := Lib.hid s0
  obtain ⟨i0, hi2, hz0, hz1, hz2⟩ := info_parts info_byte
  have HI := Lib.hid hi2; have HZ0 := Lib.hid hz0; have HZ1 := Lib.hid hz1; have HZ2 := Lib.hid hz2
  clear hi2 hz0 hz1 hz2 hok hi hcc ht0 hkn hcell ha s0 hg
  have hcv := run_cv t0
  have HO0 := Lib.hid (OwnT.convNew (W := w.alloc (.cells #[.slice (some ⟨b, o, none⟩) xs.length cp] 28)) (t := t0) (H := w.heap.size + 1) (base := w.heap.size + 1) (by simp) (Nat.le_refl _) (by omega))
  go_enter Try.func51, Try.ntmps51
  go_wp2_with fail
  go_loopw [7, 8] (fun v i wr => ∃ (t g cc : Nat), i = .int .i64 ((t + 1 : Nat) : Int) ∧ v = .slice (some ⟨g, 0, none⟩) (fixIt xs c t).length cc ∧ OwnT wr (w.heap.size + 1) 5 (.slice (some ⟨g, 0, none⟩) (fixIt xs c t).length cc) (fixIt xs c t) ∧ (fixIt xs c t).length ≤ n + 8 ∧ t ≤ n ∧ Stands w 28 (.slice (some ⟨b, o, none⟩) xs.length cp) wr) (fun _ i _ => n + 2 - (intOf i).toNat)
  case atStart => exact ⟨0, _, _, rfl, by rw [H0.out, ← Lib.size_eq], by rw [H0.out, ← Lib.size_eq]; exact HO0.out, by rw [H0.out, ← Lib.size_eq]; omega, Nat.zero_le _, HS0.out.on (bthen (bnew _ _) (bdrew _))⟩
  case round =>
    clear hcv c0 g0
    obtain ⟨t, g, cc, rfl, rfl, ho, hlen, htn, hst⟩ := hrel
    have HST := Lib.hid hst; clear hst
    obtain ⟨L, hL⟩ : ∃ L, L = fixIt xs c t := ⟨_, rfl⟩
    obtain ⟨hlt0, q1, q2, q3, q4⟩ := fixIt_at HG.out t L hL
    rw [← hL] at ho hlen ⊢
    have HO := Lib.hid ho; clear ho
    have HL := Lib.hid hL; clear hL
    by_cases hlt : L.length < n
    · have g5 := HO.out.cellAt (t + 1) hlt0
      have c1 := HST.out.box
      obtain ⟨b1, b2⟩ := letter_nat q2
      have g1 := (HST.out.below.cell (p := ⟨b, o + (L[t + 1].toNat - 97), none⟩) hb).trans (HC.out _ q3)
      rw [← imgAt_get q3] at g1
      obtain ⟨x, hx⟩ : ∃ x, x = L[t + 1] := ⟨_, rfl⟩
      rw [← hx] at g5 b1 b2 g1 q1 q3 q4
      obtain ⟨m, hm⟩ : ∃ m : Nat, m = x.toNat - 97 := ⟨_, rfl⟩
      obtain ⟨t1, ht1⟩ : ∃ t1, t1 = imgAt xs x := ⟨_, rfl⟩
      have e1 : IntKind.u8.wrap ((x.toNat : Int) - 97) = (m : Int) := by rw [IntWalk.u8_in _ ⟨by omega, by omega⟩]; omega
      have hmx : (m : Int) < (xs.length : Int) := by omega
      have hli : ((t : Int) + 1) < (L.length : Int) := by omega
      have hli0 : (0 : Int) ≤ (t : Int) + 1 := by omega
      rw [← hm, ← ht1] at g1
      rw [← ht1] at q1 q4
      have HQ := Lib.hid q1
      clear hm ht1 hx q1 q2 q3
      have hcv := run_cv t1
      go_wp2_with fail
      go_region_law ((refine step_append_T _ rfl (.tmp 21) (.tmp 31) 62 rfl (w.heap.size + 1) 5 i0 Try.underlying62 HI.out HZ0.out HZ1.out HZ2.out _ L t1.data.toList (by simp [Act.eval]) (HO.out.on (bthen (bnew wr (cvObj wr.drew t1)) (bthen (bdrew _) (bdrew _)))) ⟨wr.heap.size, 0, none⟩ t1.size (cvCap wr.drew t1) (Lib.size_eq t1) (by simp [Act.eval]) (cv_cells (W := wr.drew) (heap_alloc_new wr (cvObj wr.drew t1))) (by rw [← Lib.size_eq]; omega) (by have := HST.out.size; simp; omega) ?_; intro v' w1 ho1 hg1; have F1 := Lib.hid (own_stands (((HST.out.alloc (cvObj wr.drew t1)).drew).drew) HO.out (Nat.le_refl _) hg1); obtain ⟨g1, c1, rfl, _⟩ := ho1.shape; have F2 := Lib.hid ho1; clear ho1 hg1))
      all_goals
        go_wp2
        go_roundw
        case rel => exact ⟨t + 1, g1, c1, by go_num, by rw [HQ.out, List.length_append, ← Lib.size_eq], by rw [HQ.out]; exact F2.out, by rw [HQ.out, List.length_append, ← Lib.size_eq]; omega, by omega, F1.out⟩
        case measure => simp [intOf]; omega
    · have hback := run_back_T HO.out n cc (by omega)
      obtain ⟨_, hcap, _⟩ := HO.out.cap
      have hncc : (n : Int) ≤ (cc : Int) := by omega
      have HT := Lib.hid (show L.take n = fixR xs c n by rw [HL.out]; exact fix_take HG.out (by rw [← HL.out]; omega))
      rw [HT.out] at hback
      go_wp2
      go_ret
      exact ⟨rfl, HST.out.below⟩
end Go.Proofs.Ytglleimmmfnhcaa
