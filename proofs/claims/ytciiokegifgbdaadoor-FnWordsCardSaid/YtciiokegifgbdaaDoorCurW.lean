/- Walks: a number and a text that the reference draws. Conditions: none beyond the hypotheses of each lemma. -/
import Derived.Test.YtciiokegifgbdaaDoorCur
namespace Go.Proofs.YtciiokegifgbdaaDoor
open Go.RowKit
set_option maxRecDepth 20000

set_option maxHeartbeats 1000000 in
theorem makeNum_any (va : Value) (ns : List Int) (m : Nat) (w : World) (hns : ∀ n ∈ ns, 0 ≤ n ∧ n ≤ 255) (hl : ns.length ≤ 1048576) (hm : m ≤ 100) (ha : Row1 w w.heap.size va (u8s ns)) :
    Calls Tryd.prog 12 #[va, .int .i64 m] w fun e w' => ∃ x : Int, 0 ≤ x ∧ x ≤ 65535 ∧ e = .returned (.int .i64 x) ∧ Below w.heap.size w w' := by
  have HC := Lib.hid (l31New_any va ns m w hns hl hm ha)
  have HB := Lib.hid (fun B p W hcu => l01Byte_any B p va ns W hns hl hcu)
  clear ha hns
  go_enter Tryd.func12, Tryd.ntmps12
  go_wp2_with fail
  refine HC.out.mono ?_
  rintro e w1 ⟨p, rfl, hcu, hb⟩
  have C1 := Lib.hid hcu; have B1 := Lib.hid hb
  clear hcu hb
  go_wp2_with fail
  refine (HB.out _ _ _ C1.out).mono ?_
  rintro e w2 ⟨x, hx0, hx1, rfl, hcu, hw⟩
  have C2 := Lib.hid hcu
  have B2 := Lib.hid (since_in B1.out hw C1.out.le)
  clear hcu hw
  go_wp2_with fail
  refine (HB.out _ _ _ C2.out).mono ?_
  rintro e w3 ⟨y, hy0, hy1, rfl, hcu, hw⟩
  have B3 := Lib.hid (since_in B2.out hw C2.out.le)
  clear hcu hw
  go_wp2_with fail
  go_ret
  exact ⟨x * 256 + y, by omega, by omega, rfl, B3.out⟩
/-- the parts of the drawn text -/
def txs : List ByteArray := [⟨#[97]⟩, ⟨#[98, 99]⟩, ⟨#[32]⟩, ⟨#[44]⟩, ⟨#[120, 49]⟩]
theorem txs_size : ∀ s ∈ txs, s.size ≤ 2 := by decide
set_option maxHeartbeats 1000000 in
theorem makeText_any (va : Value) (ns : List Int) (w : World) (hns : ∀ n ∈ ns, 0 ≤ n ∧ n ≤ 255) (hl : ns.length ≤ 1048576) (ha : Row1 w w.heap.size va (u8s ns)) :
    Calls Tryd.prog 13 #[va] w fun e w' => ∃ s : ByteArray, s.size ≤ 1000 ∧ e = .returned (.string s) ∧ Below w.heap.size w w' := by
  have HC := Lib.hid (l01New_any va ns w hns hl ha)
  have HB := Lib.hid (fun B p n W h1 h2 hcu => l01Below_any B p va ns n W hns hl h1 h2 hcu)
  have HS := Lib.hid (fun B p g W hcu hb hg => l01Str_any B p g va ns txs W hns hl (by decide) (by decide) hcu hb hg)
  clear ha hns
  go_enter Tryd.func13, Tryd.ntmps13
  go_wp2_with fail
  refine HC.out.mono ?_
  rintro e w1 ⟨p, rfl, hcu, hb⟩
  have C1 := Lib.hid hcu; have B1 := Lib.hid hb
  clear hcu hb
  go_wp2_with fail
  refine (HB.out _ _ 8 _ (by decide) (by decide) C1.out).mono ?_
  rintro e w2 ⟨n, hn, rfl, hcu, hw⟩
  have C2 := Lib.hid hcu
  have B2 := Lib.hid (since_in B1.out hw C1.out.le)
  clear hcu hw
  go_wp2_with fail
  go_loopw [4, 5] (fun q i wr => ∃ (k : Nat) (s : ByteArray), k ≤ n ∧ q = .string s ∧ i = .int .i64 k ∧ s.size ≤ 2 * (n - k) ∧ Cu w.heap.size p va ns wr ∧ Below w.heap.size w wr) (fun _ i _ => (intOf i).toNat)
  case atStart => exact ⟨n, ⟨#[]⟩, Nat.le_refl _, rfl, rfl, Nat.zero_le _, C2.out, B2.out⟩
  case round =>
    obtain ⟨k, s, hk, rfl, rfl, hs, hcu, hb⟩ := hrel
    have C3 := Lib.hid hcu; have B3 := Lib.hid hb
    clear hcu hb
    by_cases hk0 : 0 < k
    · have C4 := Lib.hid (C3.out.on (bnew wr (.cells (txs.map Value.string).toArray 9)))
      have B4 := Lib.hid (bthen B3.out (bnew wr (.cells (txs.map Value.string).toArray 9)))
      have SB := Lib.hid (show StrB (wr.alloc (.cells (txs.map Value.string).toArray 9)) wr.heap.size txs from heap_alloc_new wr _)
      have HP := C3.out.lt
      go_wp2_with fail
      refine (HS.out _ p wr.heap.size _ C4.out SB.out (by omega)).mono ?_
      rintro e w5 ⟨x, hx, rfl, hcu, hw⟩
      have hxs := txs_size x hx
      have C5 := Lib.hid hcu
      have B5 := Lib.hid (since_in B4.out hw C4.out.le)
      clear hcu hw hx
      go_wp2_with fail
      go_roundw
      case rel => exact ⟨k - 1, s ++ x, by omega, rfl, by go_num, by rw [ByteArray.size_append]; omega, C5.out, B5.out⟩
      case measure => simp [intOf]; omega
    · obtain rfl : k = 0 := by omega
      go_wp2_with fail
      go_ret
      exact ⟨s, by omega, rfl, B3.out⟩
end Go.Proofs.YtciiokegifgbdaaDoor
