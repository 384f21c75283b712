/- Walks: images of one length; images none of which begins with another. -/
import Derived.Test.YtbhpgghikjhjhaaApply
import Derived.Test.YtbhpgghikjhjhaaPlain6
namespace Go.Proofs.Ytbhpgghikjhjhaa
open Go.RowKit

set_option maxHeartbeats 1000000 in
theorem implIsUniform_any (xs : List ByteArray) (va : Value) (w : World) (ha : Row1 w w.heap.size va (xs.map .string)) (hs : ∀ s ∈ xs, s.size ≤ maxLen) :
    Calls Try.prog 21 #[.agg #[va]] w fun e w' => e = .returned (.int .i64 (uniI xs)) ∧ Below w.heap.size w w' := by
  have s0 := Stands.start w 27 va
  have HS0 := Lib.hid s0; have HA := Lib.hid ha; clear s0 ha
  have HOK := Lib.hid (fun W hR => implSubstOk_any xs va W hR hs)
  clear hs
  have c0 := HS0.out.box
  cases hx : substB xs
  · have HF := Lib.hid (uni_bad hx)
    go_enter Try.func21, Try.ntmps21
    go_wp2_with fail
    refine (HOK.out _ (HS0.out.row HA.out)).mono ?_
    rw [hx]
    rintro e w1 ⟨rfl, hb1⟩
    have S1 := Lib.hid (HS0.out.on hb1); clear hb1
    go_wp2_with fail
    go_ret
    exact ⟨by rw [HF.out] <;> rfl, S1.out.below⟩
  · have hp := subst_parts hx
    have hp1 := hp.1
    have hp4 := hp.2.1
    obtain ⟨b, o, cp, rfl, hbB, hc, hcell⟩ := HA.out.openAt (by omega)
    have HC := Lib.hid hcell
    obtain ⟨f, hf⟩ : ∃ f, xs.headD ByteArray.empty = f := ⟨_, rfl⟩
    have HF := Lib.hid hf
    have HX := Lib.hid hx
    have hf0 : xs[0] = f := by rw [← hf, headD_get hp1]
    have HF0 := Lib.hid hf0
    have hf8 : f.size ≤ 8 := by rw [← hf0]; exact (hp.2.2 _ (List.getElem_mem _)).2.1
    have HP := Lib.hid hp.2.2
    clear hf hx hp hcell hf0
    go_enter Try.func21, Try.ntmps21
    go_wp2_with fail
    refine (HOK.out _ (HS0.out.row HA.out)).mono ?_
    rw [HX.out]
    rintro e w1 ⟨rfl, hb1⟩
    have S1 := Lib.hid (HS0.out.on hb1); clear hb1
    have c1 := S1.out.box
    have g0 := (S1.out.below.cell (p := ⟨b, o + 0, none⟩) hbB).trans (HC.out 0 hp1)
    rw [HF0.out, Nat.add_zero] at g0
    go_wp2_with fail
    go_loop [11] (fun i => ∃ k : Nat, k ≤ xs.length ∧ (∀ (j : Nat) (hj : j < xs.length), j < k → xs[j].size = f.size) ∧ i = .int .i64 k) (fun i => xs.length - (intOf i).toNat)
    case atStart => exact ⟨0, Nat.zero_le _, fun j _ h => absurd h (Nat.not_lt_zero _), rfl⟩
    case round =>
      obtain ⟨k, hk, hall, rfl⟩ := hrel
      have HALL := Lib.hid hall; clear hall
      by_cases hlt : k < xs.length
      · have g1 := (S1.out.below.cell (p := ⟨b, o + k, none⟩) hbB).trans (HC.out k hlt)
        have hk8 := (HP.out _ (List.getElem_mem hlt)).2.1
        by_cases hne : xs[k].size = f.size
        · have HNE := Lib.hid hne
          have q1 : xs[k].size ≤ f.size := by omega
          have q2 : f.size ≤ xs[k].size := by omega
          clear hne
          go_wp2
          go_round
          case rel =>
            refine ⟨k + 1, by omega, fun j hj hjk => ?_, by go_num⟩
            by_cases e : j = k
            · subst e; exact HNE.out
            · exact HALL.out j hj (by omega)
          case measure => simp [intOf]; omega
        · have HE := Lib.hid (uni_no HX.out HF.out k hlt hne)
          go_wp2
          go_ret
          exact ⟨by rw [HE.out] <;> rfl, S1.out.below⟩
      · have HE := Lib.hid (uni_yes HX.out HF.out (fun j hj => HALL.out j hj (by omega)))
        go_wp2
        go_ret
        exact ⟨by rw [HE.out] <;> rfl, S1.out.below⟩
set_option maxHeartbeats 1000000 in
theorem specIsUniform_any (xs : List ByteArray) (va : Value) (w : World) (ha : Row1 w w.heap.size va (xs.map .string)) (hs : ∀ s ∈ xs, s.size ≤ maxLen) :
    Calls Try.prog 20 #[.agg #[va]] w fun e w' => e = .returned (.int .i64 (uniI xs)) ∧ Below w.heap.size w w' := by
  have s0 := Stands.start w 27 va
  have HS0 := Lib.hid s0; have HA := Lib.hid ha; clear s0 ha
  have HOK := Lib.hid (fun W hR => specSubstOk_any xs va W hR hs)
  clear hs
  have c0 := HS0.out.box
  cases hx : substB xs
  · have HF := Lib.hid (uni_bad hx)
    go_enter Try.func20, Try.ntmps20
    go_wp2_with fail
    refine (HOK.out _ (HS0.out.row HA.out)).mono ?_
    rw [hx]
    rintro e w1 ⟨rfl, hb1⟩
    have S1 := Lib.hid (HS0.out.on hb1); clear hb1
    go_wp2_with fail
    go_ret
    exact ⟨by rw [HF.out] <;> rfl, S1.out.below⟩
  · have hp := subst_parts hx
    have hp1 := hp.1
    have hp4 := hp.2.1
    obtain ⟨b, o, cp, rfl, hbB, hc, hcell⟩ := HA.out.openAt (by omega)
    have HC := Lib.hid hcell
    obtain ⟨f, hf⟩ : ∃ f, xs.headD ByteArray.empty = f := ⟨_, rfl⟩
    have HF := Lib.hid hf
    have HX := Lib.hid hx
    have hf0 : xs[0] = f := by rw [← hf, headD_get hp1]
    have HF0 := Lib.hid hf0
    have hf8 : f.size ≤ 8 := by rw [← hf0]; exact (hp.2.2 _ (List.getElem_mem _)).2.1
    have HP := Lib.hid hp.2.2
    clear hf hx hp hcell hf0
    go_enter Try.func20, Try.ntmps20
    go_wp2_with fail
    refine (HOK.out _ (HS0.out.row HA.out)).mono ?_
    rw [HX.out]
    rintro e w1 ⟨rfl, hb1⟩
    have S1 := Lib.hid (HS0.out.on hb1); clear hb1
    have c1 := S1.out.box
    have g0 := (S1.out.below.cell (p := ⟨b, o + 0, none⟩) hbB).trans (HC.out 0 hp1)
    rw [HF0.out, Nat.add_zero] at g0
    go_wp2_with fail
    go_loop [11] (fun i => ∃ k : Nat, k ≤ xs.length ∧ (∀ (j : Nat) (hj : j < xs.length), j < k → xs[j].size = f.size) ∧ i = .int .i64 k) (fun i => xs.length - (intOf i).toNat)
    case atStart => exact ⟨0, Nat.zero_le _, fun j _ h => absurd h (Nat.not_lt_zero _), rfl⟩
    case round =>
      obtain ⟨k, hk, hall, rfl⟩ := hrel
      have HALL := Lib.hid hall; clear hall
      by_cases hlt : k < xs.length
      · have g1 := (S1.out.below.cell (p := ⟨b, o + k, none⟩) hbB).trans (HC.out k hlt)
        have hk8 := (HP.out _ (List.getElem_mem hlt)).2.1
        by_cases hne : xs[k].size = f.size
        · have HNE := Lib.hid hne
          have q1 : xs[k].size ≤ f.size := by omega
          have q2 : f.size ≤ xs[k].size := by omega
          clear hne
          go_wp2
          go_round
          case rel =>
            refine ⟨k + 1, by omega, fun j hj hjk => ?_, by go_num⟩
            by_cases e : j = k
            · subst e; exact HNE.out
            · exact HALL.out j hj (by omega)
          case measure => simp [intOf]; omega
        · have HE := Lib.hid (uni_no HX.out HF.out k hlt hne)
          go_wp2
          go_ret
          exact ⟨by rw [HE.out] <;> rfl, S1.out.below⟩
      · have HE := Lib.hid (uni_yes HX.out HF.out (fun j hj => HALL.out j hj (by omega)))
        go_wp2
        go_ret
        exact ⟨by rw [HE.out] <;> rfl, S1.out.below⟩
end Go.Proofs.Ytbhpgghikjhjhaa
