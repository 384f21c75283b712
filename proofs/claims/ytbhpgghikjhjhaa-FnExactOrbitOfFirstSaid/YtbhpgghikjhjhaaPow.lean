/- Walks: the least power of a substitution that has a letter whose image begins with it. -/
import Derived.Test.YtbhpgghikjhjhaaGrow
namespace Go.Proofs.Ytbhpgghikjhjhaa
open Go.RowKit
set_option maxRecDepth 20000

/-- the index of the first letter of the image of letter k -/
def nx (xs : List ByteArray) (k : Nat) : Nat := ((imgAt xs (lc k)).data.toList.headD 0).toNat - 97
def itN (xs : List ByteArray) : Nat → Nat → Nat
  | 0, k => k
  | n + 1, k => nx xs (itN xs n k)
def cyc (xs : List ByteArray) (n : Nat) : Bool := (List.range xs.length).any fun j => itN xs n j == j
/-- what PowerNeeded returns -/
def powR (xs : List ByteArray) : Nat := if substB xs = true then (if cyc xs 1 = true then 1 else if cyc xs 2 = true then 2 else if cyc xs 3 = true then 3 else 4) else 0
theorem nx_facts {xs : List ByteArray} (hx : substB xs = true) {k : Nat} (hk : k < xs.length) :
    imgAt xs (lc k) = xs[k] ∧ ∃ h : 0 < xs[k].size, xs[k].size ≤ 8 ∧ (97 : Int) ≤ (xs[k][0].toNat : Int) ∧ (xs[k][0].toNat : Int) ≤ 100 ∧ xs[k][0].toNat = 97 + nx xs k ∧ nx xs k < xs.length ∧ xs[k][0] = lc (nx xs k) := by
  have h4 := (subst_parts hx).2.1
  have hn := lc_nat (j := k) (by omega)
  have hi : imgAt xs (lc k) = xs[k] := by
    have := imgAt_get (xs := xs) (c := lc k) (by omega)
    rw [this]; congr 1; omega
  have hok := imgAt_ok hx (c := lc k) (by omega)
  rw [hi] at hok
  obtain ⟨ho1, ho8, hw⟩ := hok
  obtain ⟨hb2, hb3⟩ := word_byte (word_letters (wordIn_parts hw).2) 0 (by omega)
  have h0 : 0 < xs[k].size := by omega
  have hnx : nx xs k = xs[k][0].toNat - 97 := by unfold nx; rw [hi, head_get h0]
  have hin := (wordIn_parts hw).1
  have hlt : (xs[k][0].toNat : Int) - 97 < xs.length := by
    have hm : xs[k][0] ∈ xs[k].data.toList := by
      rw [ByteArray.getElem_eq_getElem_data, ← Array.getElem_toList]; exact List.getElem_mem _
    have := List.all_eq_true.1 hin _ hm
    simpa using this
  refine ⟨hi, h0, by omega, hb2, hb3, by omega, by omega, ?_⟩
  apply UInt8.toNat_inj.1
  rw [lc_nat (by omega)]; omega
theorem nx_at {xs : List ByteArray} (hx : substB xs = true) {k : Nat} (hk : k < xs.length) :
    ∃ (t : ByteArray) (h : 0 < t.size), xs[k] = t ∧ imgAt xs (lc k) = t ∧ t.size ≤ 8 ∧ (97 : Int) ≤ (t[0].toNat : Int) ∧ (t[0].toNat : Int) ≤ 100 ∧ t[0].toNat = 97 + nx xs k ∧ t[0] = lc (nx xs k) := by
  obtain ⟨h1, h0, h8, h2, h3, h4, _, h5⟩ := nx_facts hx hk
  exact ⟨xs[k], h0, rfl, h1, h8, h2, h3, h4, h5⟩
theorem itN_lt {xs : List ByteArray} (hx : substB xs = true) {k : Nat} (hk : k < xs.length) : ∀ n, itN xs n k < xs.length
  | 0 => hk
  | n + 1 => by
    obtain ⟨_, _, _, _, _, _, h, _⟩ := nx_facts hx (itN_lt hx hk n)
    exact h
theorem fin_cyc : ∀ L : Fin 5, 0 < L.val → ∀ a b c d : Fin 4, (∀ j : Fin 4, j.val < L.val → (([a, b, c, d] : List (Fin 4)).getD j.val 0).val < L.val) →
    ∃ n : Fin 5, 1 ≤ n.val ∧ ∃ j : Fin 4, j.val < L.val ∧ (Nat.repeat (fun x => (([a, b, c, d] : List (Fin 4)).getD x 0).val) n.val j.val) = j.val := by decide +kernel
theorem itN_repeat {xs : List ByteArray} {g : Nat → Nat} (hx : substB xs = true) (hg : ∀ j, j < xs.length → g j = nx xs j) {k : Nat} (hk : k < xs.length) : ∀ n, Nat.repeat g n k = itN xs n k
  | 0 => rfl
  | n + 1 => by
    show g (Nat.repeat g n k) = nx xs (itN xs n k)
    rw [itN_repeat hx hg hk n]; exact hg _ (itN_lt hx hk n)
theorem cyc_ex {xs : List ByteArray} (hx : substB xs = true) : ∃ n, 1 ≤ n ∧ n ≤ 4 ∧ cyc xs n = true := by
  obtain ⟨h1, h4, _⟩ := subst_parts hx
  have hm : ∀ j : Nat, (if h : nx xs j < 4 then (⟨nx xs j, h⟩ : Fin 4) else 0).val = if nx xs j < 4 then nx xs j else 0 := by
    intro j; split <;> rfl
  have hlt : ∀ j, j < xs.length → nx xs j < xs.length := fun j hj => by obtain ⟨_, _, _, _, _, _, h, _⟩ := nx_facts hx hj; exact h
  let f : Nat → Fin 4 := fun j => if h : nx xs j < 4 then ⟨nx xs j, h⟩ else 0
  have hf : ∀ j, j < xs.length → (([f 0, f 1, f 2, f 3] : List (Fin 4)).getD j 0).val = nx xs j := by
    intro j hj
    have hj4 : nx xs j < 4 := by have := hlt j hj; omega
    have key : (f j).val = nx xs j := by show (if h : nx xs j < 4 then (⟨nx xs j, h⟩ : Fin 4) else 0).val = _; rw [hm, if_pos hj4]
    rcases (show j = 0 ∨ j = 1 ∨ j = 2 ∨ j = 3 by omega) with rfl | rfl | rfl | rfl <;> exact key
  obtain ⟨n, hn1, j, hj, he⟩ := fin_cyc ⟨xs.length, by omega⟩ h1 (f 0) (f 1) (f 2) (f 3) (fun j hj => by rw [hf j.val hj]; exact hlt _ hj)
  refine ⟨n.val, hn1, by omega, List.any_eq_true.2 ⟨j.val, List.mem_range.2 hj, ?_⟩⟩
  rw [itN_repeat hx hf hj] at he
  rw [he]; exact beq_self_eq_true _
theorem powR_out {xs : List ByteArray} (h : substB xs = false) : powR xs = 0 := by unfold powR; rw [h]; rfl
theorem powR_is {xs : List ByteArray} (hx : substB xs = true) {n : Nat} (h1 : 1 ≤ n) (h4 : n ≤ 4) (hc : cyc xs n = true) (hno : ∀ m, 1 ≤ m → m < n → cyc xs m = false) : powR xs = n := by
  unfold powR
  rw [if_pos hx]
  rcases (show n = 1 ∨ n = 2 ∨ n = 3 ∨ n = 4 by omega) with rfl | rfl | rfl | rfl
  · rw [if_pos hc]
  · rw [hno 1 (by omega) (by omega), hc]; rfl
  · rw [hno 1 (by omega) (by omega), hno 2 (by omega) (by omega), hc]; rfl
  · rw [hno 1 (by omega) (by omega), hno 2 (by omega) (by omega), hno 3 (by omega) (by omega)]; rfl
theorem cyc_lt {xs : List ByteArray} (hx : substB xs = true) {n : Nat} (hno : ∀ m, 1 ≤ m → m < n + 1 → cyc xs m = false) : n < 4 := by
  obtain ⟨m, h1, h4, hc⟩ := cyc_ex hx
  by_cases h : m < n + 1
  · rw [hno m h1 h] at hc; cases hc
  · omega
theorem cyc_yes {xs : List ByteArray} {n j : Nat} (hj : j < xs.length) (h : itN xs n j = j) : cyc xs n = true := List.any_eq_true.2 ⟨j, List.mem_range.2 hj, by rw [h]; exact beq_self_eq_true _⟩
theorem cyc_no {xs : List ByteArray} {n : Nat} (h : ∀ j, j < xs.length → itN xs n j ≠ j) : cyc xs n = false := by
  rw [← Bool.not_eq_true]; intro hc
  obtain ⟨j, hj, he⟩ := List.any_eq_true.1 hc
  exact h j (List.mem_range.1 hj) (by simpa using he)
set_option maxHeartbeats 2000000 in
theorem specPowerNeeded_any (xs : List ByteArray) (va : Value) (w : World) (ha : Row1 w w.heap.size va (xs.map .string)) (hs : ∀ s ∈ xs, s.size ≤ maxLen) :
    Calls Try.prog 24 #[.agg #[va]] w fun e w' => e = .returned (.int .i64 (powR xs)) ∧ Below w.heap.size w w' := by
  obtain ⟨A, cp, rfl⟩ := ha.shape
  have s0 := Stands.start w 27 (.slice A xs.length cp)
  have HOK := Lib.hid (specSubstOk_any xs _ _ (s0.row ha) hs)
  have c0 := s0.box
  have HS0 := Lib.hid s0
  have HA := Lib.hid ha
  clear s0 ha hs
  cases hx : substB xs
  · have HF := Lib.hid (powR_out hx)
    go_enter Try.func24, Try.ntmps24
    go_wp2_with fail
    refine HOK.out.mono ?_
    rw [hx]
    rintro e w1 ⟨rfl, hb1⟩
    have S1 := Lib.hid (HS0.out.on hb1); clear hb1
    go_wp2_with fail
    go_ret
    exact ⟨by rw [HF.out] <;> rfl, S1.out.below⟩
  have h4 := (subst_parts hx).2.1
  have HX := Lib.hid hx
  obtain ⟨b, o, cp', hA, hbB, hc, hcell⟩ := HA.out.openAt (by have := (subst_parts hx).1; omega)
  cases hA
  clear hx
  go_enter Try.func24, Try.ntmps24
  go_wp2_with fail
  refine HOK.out.mono ?_
  rw [HX.out]
  rintro e w1 ⟨rfl, hb1⟩
  have S1 := Lib.hid (HS0.out.on hb1); clear hb1
  have c1 := S1.out.box
  have HC := Lib.hid (fun (j : Nat) (hj : j < xs.length) => (S1.out.below.cell (p := ⟨b, o + j, none⟩) hbB).trans (hcell j hj))
  clear c0 hcell
  go_wp2_with fail
  go_loop [3] (fun n => ∃ N : Nat, 1 ≤ N ∧ N ≤ 4 ∧ n = .int .i64 N ∧ ∀ m, 1 ≤ m → m < N → cyc xs m = false) (fun n => 5 - (intOf n).toNat)
  case atStart => exact ⟨1, Nat.le_refl _, by omega, rfl, fun m h1 h2 => by omega⟩
  case round =>
    obtain ⟨N, hN1, hN4, rfl, hno⟩ := hrel
    have HNO := Lib.hid hno; clear hno
    go_wp2_with fail
    go_loop [15] (fun i => ∃ S : Nat, S ≤ xs.length ∧ i = .int .i64 S ∧ ∀ j, j < S → itN xs N j ≠ j) (fun i => xs.length - (intOf i).toNat)
    case atStart => exact ⟨0, Nat.zero_le _, rfl, fun j h => by omega⟩
    case round =>
      obtain ⟨S, hS, rfl, hnone⟩ := hrel
      have HNN := Lib.hid hnone; clear hnone
      by_cases hlt : S < xs.length
      · go_wp2_with fail
        go_loop [5, 6] (fun kv iv => ∃ I : Nat, I ≤ N ∧ iv = .int .i64 I ∧ kv = .int .i64 (itN xs I S)) (fun _ iv => N - (intOf iv).toNat)
        case atStart => exact ⟨0, Nat.zero_le _, rfl, rfl⟩
        case round =>
          obtain ⟨I, hI, rfl, rfl⟩ := hrel
          have hj := itN_lt HX.out hlt I
          have HNX := Lib.hid (show itN xs (I + 1) S = nx xs (itN xs I S) from rfl)
          obtain ⟨j, hjj⟩ : ∃ j, j = itN xs I S := ⟨_, rfl⟩
          rw [← hjj] at hj HNX ⊢
          by_cases hin : I < N
          · obtain ⟨t, h0, ht, _, h8, hb2, hb3, hq, hq5⟩ := nx_at HX.out hj
            have g1 := HC.out j hj
            rw [ht] at g1
            have HQ := Lib.hid hq
            clear hjj ht hq hq5
            go_wp2
            go_round
            case rel => exact ⟨I + 1, by omega, by go_num, by rw [HNX.out]; congr 1; have := HQ.out; omega⟩
            case measure => simp [intOf]; omega
          · obtain rfl : I = N := by omega
            by_cases he : j = S
            · have HR := Lib.hid (powR_is HX.out hN1 hN4 (cyc_yes hlt (hjj.symm.trans he)) HNO.out)
              have b1 : ((j : Int) == (S : Int)) = true := by rw [he]; exact beq_self_eq_true _
              clear hjj he
              go_wp2
              go_ret
              exact ⟨by rw [HR.out] <;> rfl, S1.out.below⟩
            · have HJ := Lib.hid (show itN xs I S ≠ S by rw [← hjj]; exact he)
              have b1 : ((j : Int) == (S : Int)) = false := by rw [beq_eq_false_iff_ne]; omega
              clear hjj he
              go_wp2
              go_round
              case rel => exact ⟨S + 1, by omega, by go_num, fun m hm => by
                rcases Nat.lt_succ_iff_lt_or_eq.1 hm with h | rfl
                · exact HNN.out m h
                · exact HJ.out⟩
              case measure => simp [intOf]; omega
      · have HNO2 := Lib.hid (show ∀ m, 1 ≤ m → m < N + 1 → cyc xs m = false by
          intro m h1 h2
          rcases Nat.lt_succ_iff_lt_or_eq.1 h2 with h | rfl
          · exact HNO.out m h1 h
          · exact cyc_no fun j hj => HNN.out j (by omega))
        have hN5 := cyc_lt HX.out HNO2.out
        obtain rfl : S = xs.length := by omega
        go_wp2
        go_round
        case rel => exact ⟨N + 1, by omega, by omega, by go_num, HNO2.out⟩
        case measure => simp [intOf]; omega
theorem abcd_ix {k : Nat} (h : k < 4) : (⟨#[97, 98, 99, 100]⟩ : ByteArray)[k]'h = lc k := by
  rcases (show k = 0 ∨ k = 1 ∨ k = 2 ∨ k = 3 by omega) with rfl | rfl | rfl | rfl <;> rfl
set_option maxHeartbeats 2000000 in
theorem implPowerNeeded_any (xs : List ByteArray) (va : Value) (w : World) (ha : Row1 w w.heap.size va (xs.map .string)) (hs : ∀ s ∈ xs, s.size ≤ maxLen) :
    Calls Try.prog 25 #[.agg #[va]] w fun e w' => e = .returned (.int .i64 (powR xs)) ∧ Below w.heap.size w w' := by
  obtain ⟨A, cp, rfl⟩ := ha.shape
  have s0 := Stands.start w 27 (.slice A xs.length cp)
  have HOK := Lib.hid (implSubstOk_any xs _ _ (s0.row ha) hs)
  have c0 := s0.box
  have HS0 := Lib.hid s0
  have HA := Lib.hid ha
  clear s0 ha hs
  cases hx : substB xs
  · have HF := Lib.hid (powR_out hx)
    go_enter Try.func25, Try.ntmps25
    go_wp2_with fail
    refine HOK.out.mono ?_
    rw [hx]
    rintro e w1 ⟨rfl, hb1⟩
    have S1 := Lib.hid (HS0.out.on hb1); clear hb1
    go_wp2_with fail
    go_ret
    exact ⟨by rw [HF.out] <;> rfl, S1.out.below⟩
  have h4 := (subst_parts hx).2.1
  have HX := Lib.hid hx
  clear hx
  go_enter Try.func25, Try.ntmps25
  go_wp2_with fail
  refine HOK.out.mono ?_
  rw [HX.out]
  rintro e w1 ⟨rfl, hb1⟩
  have S1 := Lib.hid (HS0.out.on hb1); clear hb1
  clear c0
  go_wp2_with fail
  go_loopw [3] (fun n wr => ∃ N : Nat, 1 ≤ N ∧ N ≤ 4 ∧ n = .int .i64 N ∧ (∀ m, 1 ≤ m → m < N → cyc xs m = false) ∧ Stands w 27 (.slice A xs.length cp) wr) (fun n _ => 5 - (intOf n).toNat)
  case atStart => exact ⟨1, Nat.le_refl _, by omega, rfl, fun m h1 h2 => by omega, S1.out⟩
  case round =>
    obtain ⟨N, hN1, hN4, rfl, hno, hst⟩ := hrel
    have HNO := Lib.hid hno; have HST := Lib.hid hst; clear hno hst S1
    have c2 := HST.out.box
    go_wp2_with fail
    clear c2
    go_loopw [14] (fun i wr => ∃ S : Nat, S ≤ xs.length ∧ i = .int .i64 S ∧ (∀ j, j < S → itN xs N j ≠ j) ∧ Stands w 27 (.slice A xs.length cp) wr) (fun i _ => xs.length - (intOf i).toNat)
    case atStart => exact ⟨0, Nat.zero_le _, rfl, (fun j h => by omega), HST.out⟩
    case round =>
      clear HST
      obtain ⟨S, hS, rfl, hnone, hst⟩ := hrel
      have HNN := Lib.hid hnone; have HST := Lib.hid hst; clear hnone hst
      by_cases hlt : S < xs.length
      · have hS4 : S < 4 := by omega
        have EA := Lib.hid (abcd_ix hS4)
        go_wp2_with fail
        go_loopw [5, 20] (fun kv iv wr => ∃ I : Nat, I ≤ N ∧ iv = .int .i64 I ∧ kv = .int .u8 (lc (itN xs I S)).toNat ∧ Stands w 27 (.slice A xs.length cp) wr) (fun _ iv _ => N - (intOf iv).toNat)
        case atStart => exact ⟨0, Nat.zero_le _, rfl, by rw [show lc (itN xs 0 S) = lc S from rfl, ← abcd_ix hS4], HST.out⟩
        case round =>
          clear HST
          obtain ⟨I, hI, rfl, rfl, hst⟩ := hrel
          have HST := Lib.hid hst; clear hst
          have hj := itN_lt HX.out hlt I
          have HNX := Lib.hid (show itN xs (I + 1) S = nx xs (itN xs I S) from rfl)
          obtain ⟨j, hjj⟩ : ∃ j, j = itN xs I S := ⟨_, rfl⟩
          rw [← hjj] at hj HNX ⊢
          have hn := lc_nat (j := j) (by omega)
          by_cases hin : I < N
          · obtain ⟨t, h0, hq1, hi, h8, hq2, hq3, hq4, hq⟩ := nx_at HX.out hj
            have HIM := Lib.hid (image_any xs _ (lc j) _ (HST.out.row HA.out) h4 (by omega) (by omega))
            rw [hi] at HIM
            have HQ := Lib.hid hq
            have c3 := HST.out.box
            clear hjj hq hi hn hq1 hq2 hq3 hq4
            go_wp2_with fail
            refine HIM.out.mono ?_
            rintro e w2 ⟨rfl, hb2⟩
            have S2 := Lib.hid (HST.out.on hb2); clear hb2
            go_wp2_with fail
            go_roundw
            case rel => exact ⟨I + 1, by omega, by go_num, by rw [HNX.out, ← HQ.out] <;> rfl, S2.out⟩
            case measure => simp [intOf]; omega
          · obtain rfl : I = N := by omega
            have hnS := lc_nat (j := S) hS4
            by_cases he : j = S
            · have HR := Lib.hid (powR_is HX.out hN1 hN4 (cyc_yes hlt (hjj.symm.trans he)) HNO.out)
              have b1 : (((lc j).toNat : Int) == ((⟨#[97, 98, 99, 100]⟩ : ByteArray)[S]'hS4).toNat) = true := by rw [EA.out, he]; exact beq_self_eq_true _
              clear hjj he hn hnS
              go_wp2
              go_ret
              exact ⟨by rw [HR.out] <;> rfl, HST.out.below⟩
            · have HJ := Lib.hid (show itN xs I S ≠ S by rw [← hjj]; exact he)
              have b1 : (((lc j).toNat : Int) == ((⟨#[97, 98, 99, 100]⟩ : ByteArray)[S]'hS4).toNat) = false := by rw [EA.out, beq_eq_false_iff_ne]; omega
              clear hjj he hn hnS
              go_wp2
              go_roundw
              case rel => exact ⟨S + 1, by omega, by go_num, (fun m hm => by
                rcases Nat.lt_succ_iff_lt_or_eq.1 hm with h | rfl
                · exact HNN.out m h
                · exact HJ.out), HST.out⟩
              case measure => simp [intOf]; omega
      · have HNO2 := Lib.hid (show ∀ m, 1 ≤ m → m < N + 1 → cyc xs m = false by
          intro m h1 h2
          rcases Nat.lt_succ_iff_lt_or_eq.1 h2 with h | rfl
          · exact HNO.out m h1 h
          · exact cyc_no fun j hj => HNN.out j (by omega))
        have hN5 := cyc_lt HX.out HNO2.out
        obtain rfl : S = xs.length := by omega
        go_wp2
        go_roundw
        case rel => exact ⟨N + 1, by omega, by omega, by go_num, HNO2.out, HST.out⟩
        case measure => simp [intOf]; omega
end Go.Proofs.Ytbhpgghikjhjhaa
