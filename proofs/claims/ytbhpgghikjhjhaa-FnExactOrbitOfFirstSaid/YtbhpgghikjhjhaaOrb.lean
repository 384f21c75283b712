/- Walks: the first letters of the images, one after the other, until one comes again. -/
import Derived.Test.YtbhpgghikjhjhaaLetter
import Derived.Test.YtbhpgghikjhjhaaPow
import Derived.Test.YtbhpgghikjhjhaaHas0
namespace Go.Proofs.Ytbhpgghikjhjhaa
open Go.RowKit
set_option maxRecDepth 20000

def orbL (xs : List ByteArray) (k m : Nat) : List UInt8 := (List.range m).map fun i => lc (itN xs i k)
/-- the m-th letter has come before -/
def rep (xs : List ByteArray) (k m : Nat) : Bool := (orbL xs k m).contains (lc (itN xs m k))
def orbN (xs : List ByteArray) (k : Nat) : Nat := if rep xs k 1 = true then 1 else if rep xs k 2 = true then 2 else if rep xs k 3 = true then 3 else 4
/-- what OrbitOfFirst returns -/
def orbR (xs : List ByteArray) (l : List UInt8) : List UInt8 := if imgB xs l = true ∧ substB xs = true then orbL xs (letK xs l).toNat (orbN xs (letK xs l).toNat) else []
theorem orbL_len (xs : List ByteArray) (k m : Nat) : (orbL xs k m).length = m := by unfold orbL; simp
theorem orbL_next (xs : List ByteArray) (k m : Nat) : orbL xs k (m + 1) = orbL xs k m ++ [lc (itN xs m k)] := by
  unfold orbL; rw [List.range_succ, List.map_append]; rfl
theorem rep_zero (xs : List ByteArray) (k : Nat) : rep xs k 0 = false := rfl
theorem rep_of {xs : List ByteArray} {k i m : Nat} (hi : i < m) (h : itN xs i k = itN xs m k) : rep xs k m = true := by
  unfold rep orbL
  rw [List.contains_iff_mem, List.mem_map]
  exact ⟨i, List.mem_range.2 hi, by rw [h]⟩
theorem fin_rep : ∀ a b c d e : Fin 4, a = b ∨ a = c ∨ a = d ∨ a = e ∨ b = c ∨ b = d ∨ b = e ∨ c = d ∨ c = e ∨ d = e := by decide +kernel
theorem rep_ex {xs : List ByteArray} (hx : substB xs = true) {k : Nat} (hk : k < xs.length) : ∃ m, 1 ≤ m ∧ m ≤ 4 ∧ rep xs k m = true := by
  have h4 := (subst_parts hx).2.1
  have hlt : ∀ n, itN xs n k < 4 := fun n => by have := itN_lt hx hk n; omega
  rcases fin_rep ⟨itN xs 0 k, hlt 0⟩ ⟨itN xs 1 k, hlt 1⟩ ⟨itN xs 2 k, hlt 2⟩ ⟨itN xs 3 k, hlt 3⟩ ⟨itN xs 4 k, hlt 4⟩ with h | h | h | h | h | h | h | h | h | h
  · exact ⟨1, by omega, by omega, rep_of (i := 0) (by omega) (Fin.mk.inj_iff.1 h)⟩
  · exact ⟨2, by omega, by omega, rep_of (i := 0) (by omega) (Fin.mk.inj_iff.1 h)⟩
  · exact ⟨3, by omega, by omega, rep_of (i := 0) (by omega) (Fin.mk.inj_iff.1 h)⟩
  · exact ⟨4, by omega, by omega, rep_of (i := 0) (by omega) (Fin.mk.inj_iff.1 h)⟩
  · exact ⟨2, by omega, by omega, rep_of (i := 1) (by omega) (Fin.mk.inj_iff.1 h)⟩
  · exact ⟨3, by omega, by omega, rep_of (i := 1) (by omega) (Fin.mk.inj_iff.1 h)⟩
  · exact ⟨4, by omega, by omega, rep_of (i := 1) (by omega) (Fin.mk.inj_iff.1 h)⟩
  · exact ⟨3, by omega, by omega, rep_of (i := 2) (by omega) (Fin.mk.inj_iff.1 h)⟩
  · exact ⟨4, by omega, by omega, rep_of (i := 2) (by omega) (Fin.mk.inj_iff.1 h)⟩
  · exact ⟨4, by omega, by omega, rep_of (i := 3) (by omega) (Fin.mk.inj_iff.1 h)⟩
theorem rep_lt {xs : List ByteArray} (hx : substB xs = true) {k : Nat} (hk : k < xs.length) {n : Nat} (hno : ∀ m, m < n + 1 → rep xs k m = false) : n < 4 := by
  obtain ⟨m, _, h4, hc⟩ := rep_ex hx hk
  by_cases h : m < n + 1
  · rw [hno m h] at hc; cases hc
  · omega
theorem orbN_is {xs : List ByteArray} {k n : Nat} (h4 : n ≤ 4) (hc : rep xs k n = true) (hno : ∀ m, m < n → rep xs k m = false) : orbN xs k = n := by
  unfold orbN
  rcases (show n = 0 ∨ n = 1 ∨ n = 2 ∨ n = 3 ∨ n = 4 by omega) with rfl | rfl | rfl | rfl | rfl
  · rw [rep_zero] at hc; cases hc
  · rw [if_pos hc]
  · rw [hno 1 (by omega), hc]; rfl
  · rw [hno 1 (by omega), hno 2 (by omega), hc]; rfl
  · rw [hno 1 (by omega), hno 2 (by omega), hno 3 (by omega)]; rfl
theorem orbR_out {xs : List ByteArray} {l : List UInt8} (h : ¬ (imgB xs l = true ∧ substB xs = true)) : orbR xs l = [] := by unfold orbR; rw [if_neg h]
theorem orbR_in {xs : List ByteArray} {k n : Nat} (hx : substB xs = true) (hi : imgB xs (ltr k).data.toList = true) (hk : letK xs (ltr k).data.toList = k) (h4 : n ≤ 4) (hc : rep xs k n = true) (hno : ∀ m, m < n → rep xs k m = false) : orbR xs (ltr k).data.toList = orbL xs k n := by
  unfold orbR; rw [if_pos ⟨hi, hx⟩, hk, Int.toNat_natCast, orbN_is h4 hc hno]
theorem hasB_one (s : ByteArray) (c : UInt8) : hasB s ⟨#[c]⟩ = s.data.toList.contains c := by
  have hs : (⟨#[c]⟩ : ByteArray).size = 1 := rfl
  have key : ∀ i (h : i < s.size), standsAt s ⟨#[c]⟩ i = (s[i] == c) := by
    intro i h
    unfold standsAt
    rw [Lib.toList_data, Lib.toList_data, hs, ByteArray.data_extract, Array.toList_extract, List.extract_eq_take_drop, show i + 1 - i = 1 by omega, List.drop_eq_getElem_cons (by rw [← Lib.size_eq]; exact h)]
    show ([s.data.toList[i]] == [c]) = _
    rw [Bool.eq_iff_iff, beq_iff_eq, beq_iff_eq]
    exact ⟨fun e => (List.cons.inj e).1, fun e => by rw [← e]; rfl⟩
  rw [Bool.eq_iff_iff, List.contains_iff_mem]
  constructor
  · intro h
    obtain ⟨i, hi, hst⟩ := List.any_eq_true.1 h
    have hi2 : i < s.size := by have := List.mem_range.1 hi; rw [hs] at this; omega
    rw [key i hi2, beq_iff_eq] at hst
    rw [← hst]
    exact List.getElem_mem (l := s.data.toList) (by rw [← Lib.size_eq]; exact hi2)
  · intro h
    obtain ⟨i, hi, he⟩ := List.getElem_of_mem h
    rw [← Lib.size_eq] at hi
    refine has_yes (i := i) (by rw [hs]; omega) ?_
    rw [key i hi, beq_iff_eq]; exact he
set_option maxHeartbeats 2000000 in
theorem specOrbitOfFirst_any (xs : List ByteArray) (va : Value) (t : ByteArray) (w : World) (ha : Row1 w w.heap.size va (xs.map .string)) (hs : ∀ s ∈ xs, s.size ≤ maxLen) (ht : t.size ≤ maxLen) :
    Calls Try.prog 32 #[.agg #[va], .string t] w fun e w' => e = .returned (.string ⟨(orbR xs t.data.toList).toArray⟩) ∧ Below w.heap.size w w' := by
  obtain ⟨A, cp, rfl⟩ := ha.shape
  have s0 := Stands.start w 27 (.slice A xs.length cp)
  have HL := Lib.hid (l04Letter_any xs _ t _ (s0.row ha) ht)
  have c0 := s0.box
  have HS0 := Lib.hid s0
  have HA := Lib.hid ha
  clear s0 ha
  cases hi : imgB xs t.data.toList
  · have HF := Lib.hid (orbR_out (xs := xs) (l := t.data.toList) (by rw [hi]; simp))
    rw [letK_no hi] at HL
    clear hi
    go_enter Try.func32, Try.ntmps32
    go_wp2_with fail
    refine HL.out.mono ?_
    rintro e w1 ⟨rfl, hb1⟩
    have S1 := Lib.hid (HS0.out.on hb1); clear hb1
    go_wp2_with fail
    go_ret
    exact ⟨by rw [HF.out] <;> rfl, S1.out.below⟩
  obtain ⟨k0, hk0, rfl, hk4, hlk⟩ := img_letter hi
  have HI := Lib.hid hi; have HLK := Lib.hid hlk
  rw [hlk] at HL
  have HOK := Lib.hid (fun W (S : Stands w 27 (.slice A xs.length cp) W) => specSubstOk_any xs _ W (S.row HA.out) hs)
  clear hi hlk hs
  cases hx : substB xs
  · have HF := Lib.hid (orbR_out (xs := xs) (l := (ltr k0).data.toList) (by rw [hx]; simp))
    go_enter Try.func32, Try.ntmps32
    go_wp2_with fail
    refine HL.out.mono ?_
    rintro e w1 ⟨rfl, hb1⟩
    have S1 := Lib.hid (HS0.out.on hb1); clear hb1
    have c1 := S1.out.box
    clear c0
    go_wp2_with fail
    refine (HOK.out _ S1.out).mono ?_
    rw [hx]
    rintro e w2 ⟨rfl, hb2⟩
    have S2 := Lib.hid (S1.out.on hb2); clear hb2
    go_wp2_with fail
    go_ret
    exact ⟨by rw [HF.out] <;> rfl, S2.out.below⟩
  have h4 := (subst_parts hx).2.1
  have HX := Lib.hid hx
  obtain ⟨b, o, cp', hA, hbB, hc, hcell⟩ := HA.out.openAt (by have := (subst_parts hx).1; omega)
  cases hA
  clear hx
  go_enter Try.func32, Try.ntmps32
  go_wp2_with fail
  refine HL.out.mono ?_
  rintro e w1 ⟨rfl, hb1⟩
  have S1 := Lib.hid (HS0.out.on hb1); clear hb1
  have c1 := S1.out.box
  clear c0
  go_wp2_with fail
  refine (HOK.out _ S1.out).mono ?_
  rw [HX.out]
  rintro e w2 ⟨rfl, hb2⟩
  have S2 := Lib.hid (S1.out.on hb2); clear hb2
  have c2 := S2.out.box
  have HC := Lib.hid (fun (j : Nat) (hj : j < xs.length) => (S2.out.below.cell (p := ⟨b, o + j, none⟩) hbB).trans (hcell j hj))
  clear c1 hcell
  go_wp2_with fail
  go_loop [5, 6] (fun kv ov => ∃ (m : Nat) (out : ByteArray), m ≤ 4 ∧ kv = .int .i64 (itN xs m k0) ∧ ov = .string out ∧ out.data.toList = orbL xs k0 m ∧ ∀ j, j < m → rep xs k0 j = false) (fun _ ov => 5 - (match ov with | .string o => o.size | _ => 0))
  case atStart => exact ⟨0, ⟨#[]⟩, Nat.zero_le _, rfl, rfl, rfl, fun j h => by omega⟩
  case round =>
    obtain ⟨m, out, hm, rfl, rfl, ho, hno⟩ := hrel
    have hsz : out.size = m := by rw [Lib.size_eq, ho, orbL_len]
    have HO := Lib.hid ho; have HNO := Lib.hid hno; clear ho hno
    have hj := itN_lt HX.out hk0 m
    have HNX := Lib.hid (show itN xs (m + 1) k0 = nx xs (itN xs m k0) from rfl)
    have HRP := Lib.hid (show rep xs k0 m = hasB out (ltr (itN xs m k0)) by unfold ltr; rw [hasB_one, HO.out]; rfl)
    have HON := Lib.hid (orbL_next xs k0 m)
    obtain ⟨j, hjj⟩ : ∃ j, j = itN xs m k0 := ⟨_, rfl⟩
    rw [← hjj] at hj HNX HRP HON ⊢
    have HJ := Lib.hid hjj; clear hjj
    have e1 := abcd_at (k := j) (by omega)
    have es := ltr_size j
    have HH := Lib.hid (l02Has_any out (ltr j) w2 (by omega) (by omega))
    cases hr : rep xs k0 m
    · rw [hr] at HRP
      have HNO2 := Lib.hid (show ∀ i, i < m + 1 → rep xs k0 i = false by
        intro i h2
        rcases Nat.lt_succ_iff_lt_or_eq.1 h2 with h | rfl
        · exact HNO.out i h
        · exact hr)
      have hm4 := rep_lt HX.out hk0 HNO2.out
      obtain ⟨t, h0, ht2, hq1, h8, hb2, hb3, hq, hq5⟩ := nx_at HX.out hj
      have g1 := HC.out j hj
      rw [ht2] at g1
      have HQ := Lib.hid hq
      clear hr ht2 hq hq5 hq1
      go_wp2_with fail
      refine HH.out.mono ?_
      rw [← HRP.out]
      rintro e w3 ⟨rfl, rfl⟩
      go_wp2
      go_round
      case rel => exact ⟨m + 1, _, by omega, by rw [HNX.out]; congr 1; have := HQ.out; omega, rfl, by rw [data_append, HON.out, HO.out, ltr_data], HNO2.out⟩
      case measure => simp [ByteArray.size_append, es]; omega
    · rw [hr] at HRP
      have HF := Lib.hid (orbR_in HX.out HI.out HLK.out hm hr HNO.out)
      have HM := Lib.hid (mk_list out HO.out)
      clear hr
      go_wp2_with fail
      refine HH.out.mono ?_
      rw [← HRP.out]
      rintro e w3 ⟨rfl, rfl⟩
      go_wp2
      go_ret
      exact ⟨by rw [HF.out, ← HM.out] <;> rfl, S2.out.below⟩
end Go.Proofs.Ytbhpgghikjhjhaa
