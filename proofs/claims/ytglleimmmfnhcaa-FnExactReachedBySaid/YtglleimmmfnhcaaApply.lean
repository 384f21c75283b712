/- Walks: images of letters and of words. -/
import Derived.Test.YtglleimmmfnhcaaState
import Derived.Test.YtglleimmmfnhcaaOk
import Derived.Test.YtglleimmmfnhcaaPlain5
import Derived.Deep.RegionWith
namespace Go.Proofs.Ytglleimmmfnhcaa
open Go.RowKit
set_option maxRecDepth 20000

set_option maxHeartbeats 400000 in
theorem image_any (xs : List ByteArray) (va : Value) (c : UInt8) (w : World) (ha : Row1 w w.heap.size va (xs.map .string)) (hl : xs.length ≤ 4) (h1 : (97 : Int) ≤ (c.toNat : Int)) (h3 : (c.toNat : Int) - 97 < xs.length) :
    Calls Try.prog 60 #[.agg #[va], .int .u8 c.toNat] w fun e w' => e = .returned (.string (imgAt xs c)) ∧ Below w.heap.size w w' := by
  have s0 := Stands.start w 28 va
  have HS0 := Lib.hid s0; clear s0
  obtain ⟨b, o, cp, rfl, hb, hc, hcell⟩ := ha.openAt (by omega)
  have hk : c.toNat - 97 < xs.length := by omega
  have HI := Lib.hid (imgAt_get hk)
  have g1 := (HS0.out.below.cell (p := ⟨b, o + (c.toNat - 97), none⟩) hb).trans (hcell _ hk)
  rw [← HI.out] at g1
  clear hcell ha HI
  go_enter Try.func60, Try.ntmps60
  go_wp2
  go_ret
  exact ⟨rfl, HS0.out.below⟩
set_option maxHeartbeats 1000000 in
theorem apply_any (xs : List ByteArray) (va : Value) (s : ByteArray) (w : World) (ha : Row1 w w.heap.size va (xs.map .string)) (hx : substB xs = true) (hw : wordIn xs s.data.toList = true) :
    Calls Try.prog 62 #[.agg #[va], .string s] w fun e w' => e = .returned (.string ⟨(applyL xs s.data.toList).toArray⟩) ∧ Below w.heap.size w w' := by
  have s0 := Stands.start w 28 va
  have hs : s.size ≤ 400 := by have := hw; simp only [wordIn, Bool.and_eq_true] at this; exact word_len this.2
  have hlen := applyL_len hx (letters_of_word hw)
  rw [← Lib.size_eq] at hlen
  have HS0 := Lib.hid s0; have HA := Lib.hid ha; have HX := Lib.hid hx; have HW := Lib.hid hw; clear s0 ha hx hw
  have h4 := (subst_parts HX.out).2.1
  go_enter Try.func62, Try.ntmps62
  go_wp2_with fail
  go_loopw [5, 9] (fun v i wr => ∃ (k : Nat) (out : ByteArray), k ≤ s.size ∧ out.data.toList = applyL xs (s.data.toList.take k) ∧ v = .string out ∧ i = .int .i64 k ∧ Stands w 28 va wr) (fun _ i _ => s.size - (intOf i).toNat)
  case atStart => exact ⟨0, ⟨#[]⟩, Nat.zero_le _, by simp [applyL], rfl, rfl, HS0.out⟩
  case round =>
    obtain ⟨k, out, hk, ho, rfl, rfl, hst⟩ := hrel
    have HO := Lib.hid ho; have HST := Lib.hid hst; clear ho hst
    have hsz : out.size ≤ 3200 := by
      have := applyL_take_le xs s.data.toList k
      rw [Lib.size_eq, HO.out]; omega
    by_cases hlt : k < s.size
    · obtain ⟨b1, b2, b3⟩ := wordIn_byte HW.out k hlt
      have hi : (imgAt xs s[k]).size ≤ 8 := (imgAt_ok HX.out (c := s[k]) (by omega)).2.1
      have HC := Lib.hid (fun W hR => image_any xs va s[k] W hR h4 b1 b3)
      have c0 := HST.out.box
      clear b1 b2 b3 h4 hlen
      go_wp2_with fail
      go_region_with (go_at_call 60; refine (HC.out _ (HST.out.drew.row HA.out)).mono ?_; rintro e w1 ⟨rfl, hb1⟩; have S1 := Lib.hid (HST.out.drew.on hb1); clear hb1)
      all_goals
        go_wp2
        go_roundw
        case rel => exact ⟨k + 1, _, by omega, by rw [data_append, HO.out, applyL_snoc xs s k hlt], rfl, by go_num, Hid.out (by assumption)⟩
        case measure => simp [intOf]; omega
    · have e := take_all s k (by omega)
      go_wp2
      go_ret
      exact ⟨by rw [mk_list out HO.out, e] <;> rfl, HST.out.below⟩
end Go.Proofs.Ytglleimmmfnhcaa
