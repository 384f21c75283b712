/- Walks: the orbit of first letters, with an array of flags. -/
import Derived.Test.YtbhpgghikjhjhaaOrb
import Derived.Deep.WholeRow
namespace Go.Proofs.Ytbhpgghikjhjhaa
open Go.RowKit
set_option maxRecDepth 20000

/-- a block of 256 flags: those of the letters of S are set -/
def Flags (w : World) (g : Nat) (T : TypeId) (S : List UInt8) : Prop := ∃ cur : Array Value, w.heap[g]? = some (.cells cur T (0, 0)) ∧ ∀ c : UInt8, cur[c.toNat]? = some (.bool (S.contains c))
section
variable {w w' : World} {g B : Nat} {T : TypeId} {S : List UInt8}
theorem Flags.cell (h : Flags w g T S) (c : UInt8) : w.cell? ⟨g, c.toNat, none⟩ = some (.bool (S.contains c)) := by
  obtain ⟨cur, hg, hc⟩ := h
  rw [cell_of_row w g c.toNat cur T (0, 0) hg]; exact hc c
theorem Flags.frozen (h : Flags w g T S) (k : Nat) : w.frozen? ⟨g, k, none⟩ = false := by
  obtain ⟨cur, hg, hc⟩ := h
  simp [World.frozen?, hg]
theorem Flags.below (h : Flags w g T S) (hb : Below B w w') (hg : g < B) : Flags w' g T S := by
  obtain ⟨cur, hq, hc⟩ := h
  exact ⟨cur, (hb.block g hg).trans hq, hc⟩
theorem Flags.set (h : Flags w g T S) (c : UInt8) : Flags (w.setCell ⟨g, c.toNat, none⟩ (.bool true)) g T (S ++ [c]) := by
  obtain ⟨cur, hq, hc⟩ := h
  refine ⟨cur.setIfInBounds c.toNat (.bool true), by simp [World.setCell, Array.getElem?_modify, hq], fun d => ?_⟩
  have hcb : c.toNat < cur.size := by
    have := hc c
    by_cases hlt : c.toNat < cur.size
    · exact hlt
    · rw [Array.getElem?_eq_none (by omega)] at this; cases this
  by_cases hd : d = c
  · subst hd
    rw [Array.getElem?_setIfInBounds_self_of_lt hcb]
    simp
  · rw [Array.getElem?_setIfInBounds_ne (by intro e; exact hd (UInt8.toNat_inj.1 e.symm)), hc d]
    congr 2
    rw [Bool.eq_iff_iff, List.contains_iff_mem, List.contains_iff_mem, List.mem_append, List.mem_singleton]
    exact ⟨fun h => .inl h, fun h => h.resolve_right hd⟩
end
theorem Stands.set {w wc : World} {T : TypeId} {va : Value} (h : Stands w T va wc) {p : Addr} (hp : w.heap.size + 1 ≤ p.block) (u : Value) : Stands w T va (wc.setCell p u) := Below.setCell h hp u

set_option maxHeartbeats 2000000 in
theorem implOrbitOfFirst_any (xs : List ByteArray) (va : Value) (t : ByteArray) (w : World) (ha : Row1 w w.heap.size va (xs.map .string)) (hs : ∀ s ∈ xs, s.size ≤ maxLen) (ht : t.size ≤ maxLen) :
    Calls Try.prog 33 #[.agg #[va], .string t] w fun e w' => e = .returned (.string ⟨(orbR xs t.data.toList).toArray⟩) ∧ Below w.heap.size w w' := by
  obtain ⟨A, cp, rfl⟩ := ha.shape
  have s0 := Stands.start w 27 (.slice A xs.length cp)
  have HOK := Lib.hid (implSubstOk_any xs _ _ (s0.row ha) hs)
  have c0 := s0.box
  have HS0 := Lib.hid s0
  have HA := Lib.hid ha
  clear s0 ha
  cases hx : substB xs
  · have HF := Lib.hid (orbR_out (xs := xs) (l := t.data.toList) (by rw [hx]; simp))
    go_enter Try.func33, Try.ntmps33
    go_wp2_with fail
    refine HOK.out.mono ?_
    rw [hx]
    rintro e w1 ⟨rfl, hb1⟩
    have S1 := Lib.hid (HS0.out.on hb1); clear hb1
    go_wp2_with fail
    go_ret
    exact ⟨by rw [HF.out] <;> rfl, S1.out.below⟩
  have h4 := (subst_parts hx).2.1
  have HX := Lib.hid hx
  have HHI := Lib.hid (fun W (S : Stands w 27 (.slice A xs.length cp) W) => hasImage_any xs _ t W (S.row HA.out) ht)
  clear hx hs
  cases hi : imgB xs t.data.toList
  · have HF := Lib.hid (orbR_out (xs := xs) (l := t.data.toList) (by rw [hi]; simp))
    go_enter Try.func33, Try.ntmps33
    go_wp2_with fail
    refine HOK.out.mono ?_
    rw [HX.out]
    rintro e w1 ⟨rfl, hb1⟩
    have S1 := Lib.hid (HS0.out.on hb1); clear hb1
    have c1 := S1.out.box
    clear c0
    go_wp2_with fail
    refine (HHI.out _ S1.out).mono ?_
    rw [hi]
    rintro e w2 ⟨rfl, hb2⟩
    have S2 := Lib.hid (S1.out.on hb2); clear hb2
    go_wp2_with fail
    go_ret
    exact ⟨by rw [HF.out] <;> rfl, S2.out.below⟩
  obtain ⟨k0, hk0, rfl, hk4, hlk⟩ := img_letter hi
  have HI := Lib.hid hi; have HLK := Lib.hid hlk
  clear hlk
  have es0 := ltr_size k0
  have el0 : (ltr k0)[0] = lc k0 := rfl
  have hz : ∀ W : World, (storeCells ⟨W.heap.size, 0, none⟩ Try.zeroCells51.toList).run Try.prog (W.alloc (.cells Try.zeroCells51 51)) = .ok () (W.alloc (.cells Try.zeroCells51 51)) :=
    fun W => run_storeCells_new W 51 _ _ (by kernel_rfl) rfl (by kernel_rfl)
  have HZF := Lib.hid (show ∀ W : World, Flags (W.alloc (.cells Try.zeroCells51 51)) W.heap.size 51 [] from fun W => ⟨_, heap_alloc_new W _, fun c => by
    have e : Try.zeroCells51 = Array.replicate 256 (.bool false) := by kernel_rfl
    rw [e, Array.getElem?_replicate, if_pos (by have := c.toNat_lt; omega)]; rfl⟩)
  have hcv : ∀ j, j < 4 → ∀ W : World, (convert 21 9 (.int .i32 (lc j).toNat)).run Try.prog W = .ok (.string (ltr j)) W := by
    intro j hj
    rcases (show j = 0 ∨ j = 1 ∨ j = 2 ∨ j = 3 by omega) with rfl | rfl | rfl | rfl <;> (intro W; kernel_rfl)
  have HCV := Lib.hid hcv; clear hcv
  go_enter Try.func33, Try.ntmps33
  go_wp2_with fail
  refine HOK.out.mono ?_
  rw [HX.out]
  rintro e w1 ⟨rfl, hb1⟩
  have S1 := Lib.hid (HS0.out.on hb1); clear hb1
  have c1 := S1.out.box
  clear c0
  go_wp2_with fail
  refine (HHI.out _ S1.out).mono ?_
  rw [hi]
  rintro e w2 ⟨rfl, hb2⟩
  have S2 := Lib.hid (S1.out.on hb2); clear hb2 hi
  have c2 := S2.out.box
  have hz2 := hz w2
  clear c1
  go_wp2_with fail
  clear hz hz2 c2
  obtain ⟨g, hg⟩ : ∃ g, g = w2.heap.size := ⟨_, rfl⟩
  have F0 := Lib.hid (HZF.out w2)
  have S3 := Lib.hid (S2.out.alloc (.cells Try.zeroCells51 51))
  have hgw : w.heap.size + 1 ≤ g := by have := S2.out.size; omega
  have hg3 : g < (w2.alloc (.cells Try.zeroCells51 51)).heap.size := by simp; omega
  rw [← hg] at F0 ⊢
  go_loopw [5, 7] (fun ov nv wr => ∃ (m : Nat) (out : ByteArray), m ≤ 4 ∧ nv = .int .u8 (lc (itN xs m k0)).toNat ∧ ov = .string out ∧ out.data.toList = orbL xs k0 m ∧ (∀ j, j < m → rep xs k0 j = false) ∧ Stands w 27 (.slice A xs.length cp) wr ∧ Flags wr g 51 (orbL xs k0 m) ∧ g < wr.heap.size) (fun ov _ _ => 5 - (match ov with | .string o => o.size | _ => 0))
  case atStart => exact ⟨0, ⟨#[]⟩, Nat.zero_le _, rfl, rfl, rfl, (fun j h => by omega), S3.out, F0.out, hg3⟩
  case round =>
    clear S3 F0 hg3 hg
    obtain ⟨m, out, hm, rfl, rfl, ho, hno, hst, hfl, hgl⟩ := hrel
    have hsz : out.size = m := by rw [Lib.size_eq, ho, orbL_len]
    have HO := Lib.hid ho; have HNO := Lib.hid hno; have HST := Lib.hid hst; have HFL := Lib.hid hfl; clear ho hno hst hfl
    have hj := itN_lt HX.out hk0 m
    have HNX := Lib.hid (show itN xs (m + 1) k0 = nx xs (itN xs m k0) from rfl)
    have hc := HFL.out.cell (lc (itN xs m k0))
    have hrp : (orbL xs k0 m).contains (lc (itN xs m k0)) = rep xs k0 m := rfl
    have HON := Lib.hid (orbL_next xs k0 m)
    obtain ⟨j, hjj⟩ : ∃ j, j = itN xs m k0 := ⟨_, rfl⟩
    rw [← hjj] at hj HNX hrp HON hc ⊢
    rw [hrp] at hc
    have HRP := Lib.hid hrp
    clear hjj hrp
    have hfz := HFL.out.frozen (lc j).toNat
    have hb256 : (lc j).toNat < 256 := (lc j).toNat_lt
    have hb127 : (lc j).toNat < 128 := by rw [lc_nat (by omega)]; omega
    have hcv := HCV.out j (by omega)
    cases hr : rep xs k0 m
    · rw [hr] at hc
      have HNO2 := Lib.hid (show ∀ i, i < m + 1 → rep xs k0 i = false by
        intro i h2
        rcases Nat.lt_succ_iff_lt_or_eq.1 h2 with h | rfl
        · exact HNO.out i h
        · exact hr)
      have hm4 := rep_lt HX.out hk0 HNO2.out
      obtain ⟨t, h0, hq0, hq1, h8, hq2, hq3, hq4, hq5⟩ := nx_at HX.out hj
      have S4 := Lib.hid (HST.out.set (p := ⟨g, (lc j).toNat, none⟩) hgw (.bool true))
      have F4 := Lib.hid (HFL.out.set (lc j))
      have es := ltr_size j
      have c3 := S4.out.box
      have HIM := Lib.hid (image_any xs _ (lc j) _ (S4.out.row HA.out) h4 (by rw [lc_nat (by omega)]; omega) (by rw [lc_nat (by omega)]; omega))
      rw [hq1] at HIM
      have HQ := Lib.hid hq5
      clear hr hq0 hq1 hq2 hq3 hq4 hq5
      go_wp2_with fail
      refine HIM.out.mono ?_
      rintro e w3 ⟨rfl, hb3⟩
      have S5 := Lib.hid (S4.out.on hb3)
      have F5 := Lib.hid (F4.out.below hb3 (by simpa using hgl))
      have hgl5 : g < w3.heap.size := by have := hb3.size; simp at this; omega
      clear hb3
      go_wp2_with fail
      go_roundw
      case rel => exact ⟨m + 1, _, by omega, by rw [HNX.out, ← HQ.out] <;> rfl, rfl, by rw [data_append, HON.out, HO.out, ltr_data], HNO2.out, S5.out, by rw [HON.out]; exact F5.out, hgl5⟩
      case measure => simp [ByteArray.size_append, es]; omega
    · rw [hr] at hc
      have HF := Lib.hid (orbR_in HX.out HI.out HLK.out hm hr HNO.out)
      have HM := Lib.hid (mk_list out HO.out)
      clear hr
      go_wp2
      go_ret
      exact ⟨by rw [HF.out, ← HM.out] <;> rfl, HST.out.below⟩
end Go.Proofs.Ytbhpgghikjhjhaa
