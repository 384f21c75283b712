/- Walks: the reference's numeral of an integer: the decimal digits, with a sign where the integer is negative. Conditions: none beyond the hypotheses of each lemma. -/
import Derived.Test.YtciiokegifgbdaaDoorProg
import Derived.Test.YtciiokegifgbdaaDoorPlain1
import Derived.Test.YtciiokegifgbdaaDoorNumP
import Derived.Test.YtciiokegifgbdaaDoorSl
import Derived.Lib.Hide
import Derived.Laws.IdiomStrings
import Derived.Deep.RegionWith
namespace Go.Proofs.YtciiokegifgbdaaDoor
open Go.RowKit
set_option maxRecDepth 20000

theorem bth {w w' w1 : World} (h : Below w.heap.size w w') (k : Below w'.heap.size w' w1) : Below w.heap.size w w1 := h.trans (k.mono h.size)
theorem run_back_dg (wr : World) (d : UInt8) : (convert 27 9 (.slice (some ⟨wr.heap.size, 0, none⟩) 1 1)).run Tryd.prog (wr.alloc (.cells #[.int .u8 d.toNat] 5)) = .ok (.string ⟨#[d]⟩) (wr.alloc (.cells #[.int .u8 d.toNat] 5)) := by
  refine run_convert_bytes_back (P := Tryd.prog) _ 27 9 5 ⟨wr.heap.size, 0, none⟩ 1 [d] Tryd.underlying27 Tryd.underlying5 Tryd.underlying9 fun j hj => ?_
  obtain rfl : j = 0 := by simpa using hj
  exact cell_one_new _ _ _ 0 _ rfl

theorem run_back_at (wr : World) (g : Nat) (d : UInt8) (h : wr.cell? ⟨g, 0, none⟩ = some (.int .u8 d.toNat)) : (convert 27 9 (.slice (some ⟨g, 0, none⟩) 1 1)).run Tryd.prog wr = .ok (.string ⟨#[d]⟩) wr := by
  refine run_convert_bytes_back (P := Tryd.prog) wr 27 9 5 ⟨g, 0, none⟩ 1 [d] Tryd.underlying27 Tryd.underlying5 Tryd.underlying9 fun j hj => ?_
  obtain rfl : j = 0 := by simpa using hj
  exact h
theorem cell_dg (w : World) (d : UInt8) : (w.alloc (.cells #[.int .u8 d.toNat] 5)).cell? ⟨w.heap.size, 0, none⟩ = some (.int .u8 d.toNat) := cell_one_new _ _ _ 0 _ rfl

theorem cell_dg2 (w : World) (d : UInt8) : (w.alloc (.cells #[.int .u8 d.toNat] 5)).drew.cell? ⟨w.heap.size, 0, none⟩ = some (.int .u8 d.toNat) := cell_dg w d

set_option maxHeartbeats 1000000 in
theorem fmtPos_any (u : Nat) (w : World) (hu : u ≤ 9223372036854775807) :
    Calls Tryd.prog 8 #[.int .i64 u] w fun e w' => e = .returned (.string ⟨(Lib.decDigits u).toArray⟩) ∧ Below w.heap.size w w' := by
  have hlow : ¬ ((u : Int) < 0) := by omega
  go_enter Tryd.func8, Tryd.ntmps8
  go_wp2_with fail
  go_loopw [0, 3] (fun q v wr => ∃ (k : Nat) (out : ByteArray), k ≤ u ∧ q = .int .i64 k ∧ v = .string out ∧ Lib.decDigits u = Lib.decDigits k ++ out.data.toList ∧ Below w.heap.size w wr) (fun q _ _ => (intOf q).toNat)
  case atStart => exact ⟨u, ⟨#[]⟩, Nat.le_refl _, rfl, rfl, by simp, Below.refl _ _⟩
  case round =>
    obtain ⟨k, out, hk, rfl, rfl, hm, hbel⟩ := hrel
    have hos : out.size ≤ 20 := by
      have h1 := congrArg List.length hm
      have h2 := Lib.nDigits_le20 u (by omega)
      rw [← Lib.decDigits_length, h1, List.length_append, ← Lib.size_eq] at h2
      omega
    have HM := Lib.hid hm; have HB := Lib.hid hbel; clear hm hbel
    by_cases h9 : 9 < k
    · obtain ⟨d, hd⟩ : ∃ d : UInt8, d = UInt8.ofNat (48 + k % 10) := ⟨_, rfl⟩
      have hdn : d.toNat = 48 + k % 10 := by rw [hd]; exact digit_val (Nat.mod_lt _ (by decide))
      have e1 : (48 + (k : Int) % 10) = (d.toNat : Int) := by omega
      have w1 : wrap64 (d.toNat : Int) = (d.toNat : Int) := by unfold wrap64; omega
      have w2 : (d.toNat : Int) % 256 = (d.toNat : Int) := by omega
      have hb := run_back_dg wr d
      have HD := Lib.hid hd
      clear hd hdn
      go_wp2
      go_roundw
      case rel =>
        refine ⟨k / 10, _, by omega, by go_num, rfl, ?_, HB.out.alloc HB.out.size _⟩
        rw [HM.out, dec_step (show ¬ k < 10 by omega), ByteArray.data_append, Array.toList_append, ← HD.out, List.append_assoc]
      case measure => simp [intOf]; omega
    · obtain ⟨d, hd⟩ : ∃ d : UInt8, d = UInt8.ofNat (48 + k) := ⟨_, rfl⟩
      have hdn : d.toNat = 48 + k := by rw [hd]; exact digit_val (by omega)
      have e1 : (48 + (k : Int)) = (d.toNat : Int) := by omega
      have w1 : wrap64 (d.toNat : Int) = (d.toNat : Int) := by unfold wrap64; omega
      have w2 : (d.toNat : Int) % 256 = (d.toNat : Int) := by omega
      have hb := run_back_dg wr d
      have HD := Lib.hid hd
      clear hd hdn
      go_wp2
      go_ret
      refine ⟨?_, HB.out.alloc HB.out.size _⟩
      have : (⟨#[d]⟩ : ByteArray) ++ out = ⟨(Lib.decDigits u).toArray⟩ := by
        apply ByteArray.ext; apply Array.ext'
        rw [ByteArray.data_append, Array.toList_append]
        show [d] ++ out.data.toList = Lib.decDigits u
        rw [HM.out, dec_small (show k < 10 by omega), HD.out]
      rw [← this] <;> rfl

set_option maxHeartbeats 1000000 in
theorem fmtNeg_any : ∀ (b u : Nat) (w : World), u ≤ b → 1 ≤ u → u ≤ 9223372036854775808 →
    Calls Tryd.prog 8 #[.int .i64 (-(u : Int))] w fun e w' => e = .returned (.string ⟨(45 :: Lib.decDigits u).toArray⟩) ∧ Below w.heap.size w w' := by
  intro b
  induction b with
  | zero => intro u w h1 h2 _; omega
  | succ b ih =>
    intro u w hub h1 hu
    obtain ⟨n, hn⟩ : ∃ n : Int, n = -(u : Int) := ⟨_, rfl⟩
    have hq : n.tdiv 10 = -((u / 10 : Nat) : Int) := by rw [hn, Int.neg_tdiv, Int.tdiv_eq_ediv_of_nonneg (by omega)]; omega
    have hr : n.tmod 10 = -((u % 10 : Nat) : Int) := by rw [hn, Int.neg_tmod, Int.tmod_eq_emod_of_nonneg (by omega)]; omega
    rw [← hn]
    by_cases h10 : u < 10
    · obtain ⟨d, hd⟩ : ∃ d : UInt8, d = UInt8.ofNat (48 + u) := ⟨_, rfl⟩
      have hdn : d.toNat = 48 + u := by rw [hd]; exact digit_val h10
      have e1 : (48 - n) = (d.toNat : Int) := by omega
      have w1 : wrap64 (d.toNat : Int) = (d.toNat : Int) := by unfold wrap64; omega
      have w2 : (d.toNat : Int) % 256 = (d.toNat : Int) := by omega
      have e2 : n < 0 := by omega
      have e3 : n.tdiv 10 = 0 := by rw [hq]; omega
      have HD := Lib.hid hd
      have hbk := run_back_dg w d
      clear hd hdn hq hr hn ih
      go_enter Tryd.func8, Tryd.ntmps8
      go_wp2_with fail
      go_ret
      refine ⟨?_, (Below.refl _ _).alloc (Nat.le_refl _) _⟩
      have : (⟨#[45]⟩ : ByteArray) ++ ⟨#[d]⟩ = ⟨(45 :: Lib.decDigits u).toArray⟩ := by
        rw [dec_small h10, HD.out]; rfl
      rw [← this] <;> rfl
    · obtain ⟨d, hd⟩ : ∃ d : UInt8, d = UInt8.ofNat (48 + u % 10) := ⟨_, rfl⟩
      have hdn : d.toNat = 48 + u % 10 := by rw [hd]; exact digit_val (Nat.mod_lt _ (by decide))
      obtain ⟨q, hq2⟩ : ∃ q : Int, q = -((u / 10 : Nat) : Int) := ⟨_, rfl⟩
      obtain ⟨r, hr2⟩ : ∃ r : Int, r = -((u % 10 : Nat) : Int) := ⟨_, rfl⟩
      have e1 : (48 - r) = (d.toNat : Int) := by omega
      have w1 : wrap64 (d.toNat : Int) = (d.toNat : Int) := by unfold wrap64; omega
      have w2 : (d.toNat : Int) % 256 = (d.toNat : Int) := by omega
      have w3 : wrap64 q = q := by unfold wrap64; omega
      have w4 : wrap64 r = r := by unfold wrap64; omega
      have w5 : IntKind.i64.wrap q = q := IntWalk.i64_in _ (by omega)
      have w6 : IntKind.i64.wrap r = r := IntWalk.i64_in _ (by omega)
      have w7 : IntKind.i64.wrap (d.toNat : Int) = (d.toNat : Int) := IntWalk.i64_in _ (by omega)
      have w8 : IntKind.u8.wrap (d.toNat : Int) = (d.toNat : Int) := IntWalk.u8_in _ (by omega)
      have e2 : n < 0 := by omega
      have e3 : n.tdiv 10 = q := by rw [hq]; omega
      have e4 : n.tmod 10 = r := by rw [hr]; omega
      have e5 : (q == 0) = false := by rw [beq_eq_false_iff_ne]; omega
      have hlen : (Lib.decDigits (u / 10)).length ≤ 20 := by rw [Lib.decDigits_length]; exact Lib.nDigits_le20 _ (by omega)
      have HI := Lib.hid (fun W => (show Calls Tryd.prog 8 #[.int .i64 q] W fun e w' => e = .returned (.string ⟨(45 :: Lib.decDigits (u / 10)).toArray⟩) ∧ Below W.heap.size W w' by rw [hq2]; exact ih (u / 10) W (by omega) (by omega) (by omega)))
      have HD := Lib.hid hd
      have hconv := fun (W : World) (g : Nat) (h : W.cell? ⟨g, 0, none⟩ = some (.int .u8 d.toNat)) => run_back_at W g d h
      have hnew := fun W => cell_dg W d
      obtain ⟨s, hs⟩ : ∃ s : ByteArray, s = ⟨(45 :: Lib.decDigits (u / 10)).toArray⟩ := ⟨_, rfl⟩
      have hsz : s.size ≤ 21 := by rw [Lib.size_eq, hs]; simp; omega
      rw [← hs] at HI
      have HS := Lib.hid hs
      clear hd hdn hq hr hq2 hr2 hn hs ih hlen
      go_enter Tryd.func8, Tryd.ntmps8
      go_wp2_with fail
      go_region_with (go_at_call 8; (with_reducible refine (HI.out _).mono ?_); rintro e w1 ⟨rfl, hb1⟩; (first | (have hc : w1.cell? ⟨w.heap.size, 0, none⟩ = some (.int .u8 d.toNat) := by with_reducible exact (hb1.cell (p := ⟨w.heap.size, 0, none⟩) (by simp)).trans (cell_dg2 w d)) | skip); have HB1 := Lib.hid hb1; clear hb1)
      all_goals
        go_wp2_with fail
        go_ret
        refine ⟨?_, ?_⟩
        · have : s ++ (⟨#[d]⟩ : ByteArray) = ⟨(45 :: Lib.decDigits u).toArray⟩ := by
            apply ByteArray.ext; apply Array.ext'
            rw [ByteArray.data_append, Array.toList_append, HS.out, dec_step h10, HD.out]; rfl
          rw [← this] <;> rfl
        · have h := HB1.out
          first | exact bth ((Below.refl w.heap.size w).alloc (Nat.le_refl _) (.cells #[.int .u8 d.toNat] 5)).drew h | (have h2 := bth (Below.refl w.heap.size w).drew h; exact h2.alloc h2.size _)

/-- the reference's numeral is strconv's -/
theorem specFormatInt_any (n : Int) (w : World) (h0 : -9223372036854775808 ≤ n) (h1 : n ≤ 9223372036854775807) :
    Calls Tryd.prog 8 #[.int .i64 n] w fun e w' => e = .returned (.string ⟨(Lib.itoa n).toArray⟩) ∧ Below w.heap.size w w' := by
  by_cases hn : n < 0
  · obtain ⟨u, rfl⟩ : ∃ u : Nat, n = -(u : Int) := ⟨n.natAbs, by omega⟩
    rw [Lib.itoa_neg u (by omega)]
    exact fmtNeg_any u u w (Nat.le_refl _) (by omega) (by omega)
  · obtain ⟨u, rfl⟩ : ∃ u : Nat, n = (u : Int) := ⟨n.toNat, by omega⟩
    rw [Lib.itoa_nonneg]
    exact fmtPos_any u w (by omega)
end Go.Proofs.YtciiokegifgbdaaDoor
