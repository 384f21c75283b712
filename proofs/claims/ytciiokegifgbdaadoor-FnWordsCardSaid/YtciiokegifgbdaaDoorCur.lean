/- Walks: the reference's cursor over bytes, out of which it draws numbers. Conditions: none beyond the hypotheses of each lemma. -/
import Derived.Test.YtciiokegifgbdaaDoorWord
import Derived.Test.YtciiokegifgbdaaDoorOn
import Derived.Test.YtciiokegifgbdaaDoorCarry
import Derived.Deep.QuietTactic
import Derived.BigQuiet
namespace Go.Proofs.YtciiokegifgbdaaDoor
open Go.RowKit
set_option maxRecDepth 20000

theorem and_low (a : Int) (m : Nat) (hm : m < 9223372036854775808) : 0 ≤ bits .and .i64 a m ∧ bits .and .i64 a m ≤ m := by
  have h2 : (BitVec.ofInt 64 a &&& BitVec.ofInt 64 (m : Int)).toNat ≤ m := by
    rw [BitVec.toNat_and]
    refine Nat.le_trans Nat.and_le_right ?_
    rw [BitVec.toNat_ofInt]
    omega
  have e : bits .and .i64 a m = IntKind.i64.wrap (((BitVec.ofInt 64 a &&& BitVec.ofInt 64 (m : Int)).toNat : Nat) : Int) := rfl
  rw [e, IntWalk.i64_in _ (by omega)]
  omega
def u8s (ns : List Int) : List Value := ns.map (.int .u8)
/-- the cursor's cells -/
def Cur3 (w : World) (p : Nat) (va : Value) (i : Nat) (h : Int) : Prop := w.heap[p]? = some (.cells #[va, .int .i64 i, .int .i64 h] 60 (0, 0))
section
variable {w w' : World} {p i B : Nat} {h : Int} {va : Value}
theorem Cur3.lt (hc : Cur3 w p va i h) : p < w.heap.size := by
  rcases Nat.lt_or_ge p w.heap.size with hlt | hge
  · exact hlt
  · unfold Cur3 at hc; rw [Array.getElem?_eq_none hge] at hc; cases hc
theorem Cur3.c0 (hc : Cur3 w p va i h) : w.cell? ⟨p, 0, none⟩ = some va := by rw [cell_of_row w p 0 _ _ (0, 0) hc]; rfl
theorem Cur3.c1 (hc : Cur3 w p va i h) : w.cell? ⟨p, 1, none⟩ = some (.int .i64 i) := by rw [cell_of_row w p 1 _ _ (0, 0) hc]; rfl
theorem Cur3.c2 (hc : Cur3 w p va i h) : w.cell? ⟨p, 2, none⟩ = some (.int .i64 h) := by rw [cell_of_row w p 2 _ _ (0, 0) hc]; rfl
theorem Cur3.frozen (hc : Cur3 w p va i h) (j : Nat) : w.frozen? ⟨p, j, none⟩ = false := by unfold Cur3 at hc; simp [World.frozen?, hc]
theorem Cur3.set1 (hc : Cur3 w p va i h) (j : Nat) : Cur3 (w.setCell ⟨p, 1, none⟩ (.int .i64 j)) p va j h := by
  unfold Cur3 at hc ⊢; simp [World.setCell, Array.getElem?_modify, hc]
theorem Cur3.set2 (hc : Cur3 w p va i h) (k : Int) : Cur3 (w.setCell ⟨p, 2, none⟩ (.int .i64 k)) p va i k := by
  unfold Cur3 at hc ⊢; simp [World.setCell, Array.getElem?_modify, hc]
theorem Cur3.drew (hc : Cur3 w p va i h) : Cur3 w.drew p va i h := hc
theorem within_set (w : World) (p j : Nat) (v : Value) : Within p (p + 1) w (w.setCell ⟨p, j, none⟩ v) :=
  ⟨rfl, rfl, rfl, by simp [World.setCell], fun k _ hn => Below.heap_setCell w _ v k (by show k ≠ p; omega)⟩
theorem within_drew (w : World) (lo hi : Nat) : Within lo hi w w.drew := ⟨rfl, rfl, rfl, Nat.le_refl _, fun _ _ _ => rfl⟩
end
/-- a cursor in block p over the bytes ns, which lie below block B -/
structure Cu (B p : Nat) (va : Value) (ns : List Int) (w : World) : Prop where
  rd : Rd B va (u8s ns) w
  le : B ≤ p
  cur : ∃ (i : Nat) (h : Int), i ≤ ns.length ∧ Cur3 w p va i h
theorem Cu.on {B p : Nat} {va : Value} {ns : List Int} {w w' : World} (h : Cu B p va ns w) (hb : Below w.heap.size w w') : Cu B p va ns w' := by
  obtain ⟨i, k, hi, hc⟩ := h.cur
  exact ⟨h.rd.on hb, h.le, i, k, hi, (hb.block p hc.lt).trans hc⟩
theorem Cu.lt {B p : Nat} {va : Value} {ns : List Int} {w : World} (h : Cu B p va ns w) : p < w.heap.size := by
  obtain ⟨i, k, hi, hc⟩ := h.cur
  exact hc.lt
set_option maxHeartbeats 1000000 in
theorem l01Byte_any (B p : Nat) (va : Value) (ns : List Int) (w : World) (hns : ∀ n ∈ ns, 0 ≤ n ∧ n ≤ 255) (hl : ns.length ≤ 1048576) (hc : Cu B p va ns w) :
    Calls Tryd.prog 29 #[.pointer (some ⟨p, 0, none⟩)] w fun e w' => ∃ x : Int, 0 ≤ x ∧ x ≤ 255 ∧ e = .returned (.int .i64 x) ∧ Cu B p va ns w' ∧ Within p (p + 1) w w' := by
  obtain ⟨i, h, hi, hcur⟩ := hc.cur
  have c0 := hcur.c0; have c1 := hcur.c1; have c2 := hcur.c2; have f2 := hcur.frozen 2; have f1 := hcur.frozen 1
  obtain ⟨H, hH⟩ : ∃ H : Int, wrap64 (wrap64 (h * 6364136223846793005) + 1442695040888963407) = H := ⟨_, rfl⟩
  obtain ⟨X, hX⟩ : ∃ X : Int, bits .and .i64 (bits .xor .i64 (H / 8589934592) (H / 35184372088832)) 255 = X := ⟨_, rfl⟩
  have hX2 : 0 ≤ X ∧ X ≤ 255 := by rw [← hX]; exact and_low _ 255 (by decide)
  have HC2 := Lib.hid (hcur.set2 H)
  have HW2 := Lib.hid (within_set w p 2 (.int .i64 H))
  have HRD := Lib.hid hc.rd
  have HLE := hc.le
  clear hc
  go_enter Tryd.func29, Tryd.ntmps29
  go_wp2_with fail
  have d2 := HC2.out.c2
  go_quiet (fail)
  obtain ⟨wa, hwa⟩ : ∃ wa, wa = (w.setCell ⟨p, 2, none⟩ (.int .i64 H)).drewN nq := ⟨_, rfl⟩
  rw [← hwa]
  have HC3 := Lib.hid (show Cur3 wa p va i H by rw [hwa]; exact HC2.out)
  have HW3 := Lib.hid (show Within p (p + 1) w wa by rw [hwa]; exact HW2.out.trans (Within.of_below (bdrewN _ _)))
  have HN := Lib.hid hns
  clear hwa HC2 HW2 c0 c1 c2 f1 f2 d2 hcur hH hX hns
  have HR3 := Lib.hid (HRD.out.within HW3.out HLE)
  clear HRD
  obtain ⟨A, cap, rfl, hcap, hmx, hcell⟩ := HR3.out.row
  have hlen : (u8s ns).length = ns.length := List.length_map _
  rw [hlen] at hcap
  have c0 := HC3.out.c0; rw [hlen] at c0; have c1 := HC3.out.c1; have f1 := HC3.out.frozen 1
  have HCELL := Lib.hid hcell
  clear hcell hmx
  unfold maxLen at *
  by_cases hlt : i < ns.length
  · obtain ⟨b, o, rfl, hbB, hget⟩ := HCELL.out (by intro e; rw [e] at hlen; simp only [List.length_nil] at hlen; omega)
    have hg1 := hget i (.int .u8 ns[i]) (by unfold u8s; simp [hlt])
    have hn := HN.out ns[i] (List.getElem_mem hlt)
    obtain ⟨z, hz⟩ : ∃ z, z = ns[i] := ⟨_, rfl⟩
    rw [← hz] at hg1 hn
    clear hget hz
    obtain ⟨Y, hY⟩ : ∃ Y : Int, bits .and .i64 (X + z) 255 = Y := ⟨_, rfl⟩
    have hY2 : 0 ≤ Y ∧ Y ≤ 255 := by rw [← hY]; exact and_low _ 255 (by decide)
    have hgt : (i : Int) < (ns.length : Int) := by omega
    go_wp2_with fail
    go_quiet (fail)
    go_wp2_with fail
    go_quiet (fail)
    go_wp2_with fail
    go_ret
    exact ⟨Y, hY2.1, hY2.2, rfl, ⟨(HR3.out.on (bdrewN _ _)).within (within_set _ p 1 _) HLE, HLE, i + 1, H, hlt, Cur3.set1 (w := wa.drewN _) HC3.out (i + 1)⟩, (HW3.out.trans (Within.of_below (bdrewN _ _))).trans (within_set _ p 1 _)⟩
  · have hgt : ¬ (i : Int) < (ns.length : Int) := by omega
    have hgf : decide ((i : Int) < (ns.length : Int)) = false := decide_eq_false hgt
    go_wp2_with fail
    go_quiet (fail)
    go_wp2_with fail
    go_ret
    exact ⟨X, hX2.1, hX2.2, rfl, ⟨HR3.out.on (bdrewN _ _), HLE, i, H, hi, HC3.out⟩, HW3.out.trans (Within.of_below (bdrewN _ _))⟩
/-- the byte cells of a slice -/
theorem u8_at {w : World} {B : Nat} {va : Value} {ns : List Int} (h : Row1 w B va (u8s ns)) : ∃ A c, va = .slice A ns.length c ∧ ns.length ≤ c ∧ ∀ (k : Nat) (hk : k < ns.length), ∃ b o, A = some ⟨b, o, none⟩ ∧ w.cell? ⟨b, o + k, none⟩ = some (.int .u8 ns[k]) := by
  obtain ⟨A, c, rfl, hc, _, hA⟩ := h
  have hlen : (u8s ns).length = ns.length := List.length_map _
  rw [hlen] at hc
  refine ⟨A, c, by rw [hlen], hc, fun k hk => ?_⟩
  obtain ⟨b, o, rfl, _, hget⟩ := hA (by intro e; rw [e] at hlen; simp only [List.length_nil] at hlen; omega)
  exact ⟨b, o, rfl, hget k _ (by unfold u8s; simp [hk])⟩
set_option maxHeartbeats 1000000 in
theorem l01New_any (va : Value) (ns : List Int) (w : World) (hns : ∀ n ∈ ns, 0 ≤ n ∧ n ≤ 255) (hl : ns.length ≤ 1048576) (ha : Row1 w w.heap.size va (u8s ns)) :
    Calls Tryd.prog 30 #[va] w fun e w' => ∃ p, e = .returned (.pointer (some ⟨p, 0, none⟩)) ∧ Cu w.heap.size p va ns w' ∧ Below w.heap.size w w' := by
  have HR := Lib.hid (Rd.new ha)
  obtain ⟨A, cap, rfl, hcap, hat⟩ := u8_at ha
  have HAT := Lib.hid hat; have HN := Lib.hid hns
  clear ha hat hns
  go_enter Tryd.func30, Tryd.ntmps30
  go_wp2_with fail
  go_loop [3, 4] (fun q i => ∃ (k : Nat) (h : Int), k ≤ ns.length ∧ q = .int .i64 h ∧ i = .int .i64 k ∧ 0 ≤ h ∧ h ≤ 1073741823) (fun _ i => ns.length - (intOf i).toNat)
  case atStart => exact ⟨0, 2174 + ns.length, Nat.zero_le _, by first | rfl | go_num, rfl, by omega, by omega⟩
  case round =>
    obtain ⟨k, h, hk, rfl, rfl, h0, h1⟩ := hrel
    by_cases hlt : k < ns.length
    · by_cases h4 : k < 4000
      · obtain ⟨b, o, rfl, g1⟩ := HAT.out k hlt
        have hn := HN.out ns[k] (List.getElem_mem hlt)
        obtain ⟨z, hz⟩ : ∃ z, z = ns[k] := ⟨_, rfl⟩
        rw [← hz] at g1 hn
        obtain ⟨Y, hY⟩ : ∃ Y : Int, bits .and .i64 (h * 181 + z + 7) 1073741823 = Y := ⟨_, rfl⟩
        have hY2 : 0 ≤ Y ∧ Y ≤ 1073741823 := by rw [← hY]; exact and_low _ 1073741823 (by decide)
        clear hz
        go_wp2_with fail
        go_round
        case rel => exact ⟨k + 1, Y, by omega, rfl, by go_num, hY2.1, hY2.2⟩
        case measure => simp [intOf]; omega
      · go_wp2_with fail
        go_ret
        exact ⟨w.heap.size, rfl, ⟨HR.out.on (bnew _ _), Nat.le_refl _, 0, h, Nat.zero_le _, by unfold Cur3; rw [heap_alloc_new]; simp⟩, bnew _ _⟩
    · obtain rfl : k = ns.length := by omega
      go_wp2_with fail
      go_ret
      exact ⟨w.heap.size, rfl, ⟨HR.out.on (bnew _ _), Nat.le_refl _, 0, h, Nat.zero_le _, by unfold Cur3; rw [heap_alloc_new]; simp⟩, bnew _ _⟩
set_option maxHeartbeats 1000000 in
theorem l31New_any (va : Value) (ns : List Int) (m : Nat) (w : World) (hns : ∀ n ∈ ns, 0 ≤ n ∧ n ≤ 255) (hl : ns.length ≤ 1048576) (hm : m ≤ 100) (ha : Row1 w w.heap.size va (u8s ns)) :
    Calls Tryd.prog 28 #[va, .int .i64 m] w fun e w' => ∃ p, e = .returned (.pointer (some ⟨p, 0, none⟩)) ∧ Cu w.heap.size p va ns w' ∧ Below w.heap.size w w' := by
  have HC := Lib.hid (l01New_any va ns w hns hl ha)
  have HB := Lib.hid (fun B p W hcu => l01Byte_any B p va ns W hns hl hcu)
  clear ha hns
  go_enter Tryd.func28, Tryd.ntmps28
  go_wp2_with fail
  refine HC.out.mono ?_
  rintro e w1 ⟨p, rfl, hcu, hb⟩
  have C1 := Lib.hid hcu; have B1 := Lib.hid hb
  clear hcu hb
  go_wp2_with fail
  go_loopw [6] (fun i wr => ∃ k : Nat, k ≤ m ∧ i = .int .i64 k ∧ Cu w.heap.size p va ns wr ∧ Below w.heap.size w wr) (fun i _ => m - (intOf i).toNat)
  case atStart => exact ⟨0, Nat.zero_le _, rfl, C1.out, B1.out⟩
  case round =>
    obtain ⟨k, hk, rfl, hcu, hb⟩ := hrel
    have C2 := Lib.hid hcu; have B2 := Lib.hid hb
    clear hcu hb
    by_cases hlt : k < m
    · go_wp2_with fail
      refine (HB.out _ _ _ C2.out).mono ?_
      rintro e w2 ⟨x, hx0, hx1, rfl, hcu, hw⟩
      have C3 := Lib.hid hcu
      have B3 := Lib.hid (since_in B2.out hw C2.out.le)
      clear hcu hw
      go_wp2_with fail
      go_roundw
      case rel => exact ⟨k + 1, by omega, by go_num, C3.out, B3.out⟩
      case measure => simp [intOf]; omega
    · obtain rfl : k = m := by omega
      go_wp2_with fail
      go_ret
      exact ⟨p, rfl, C2.out, B2.out⟩
set_option maxHeartbeats 1000000 in
theorem l01Below_any (B p : Nat) (va : Value) (ns : List Int) (n : Nat) (w : World) (hns : ∀ n ∈ ns, 0 ≤ n ∧ n ≤ 255) (hl : ns.length ≤ 1048576) (h1 : 1 ≤ n) (h2 : n ≤ 256) (hc : Cu B p va ns w) :
    Calls Tryd.prog 31 #[.pointer (some ⟨p, 0, none⟩), .int .i64 n] w fun e w' => ∃ x : Nat, x < n ∧ e = .returned (.int .i64 x) ∧ Cu B p va ns w' ∧ Within p (p + 1) w w' := by
  have HB := Lib.hid (fun W hcu => l01Byte_any B p va ns W hns hl hcu)
  have HC := Lib.hid hc
  clear hc hns
  go_enter Tryd.func31, Tryd.ntmps31
  go_wp2_with fail
  refine (HB.out _ HC.out).mono ?_
  rintro e w1 ⟨x, hx0, hx1, rfl, hcu, hw⟩
  have C1 := Lib.hid hcu; have W1 := Lib.hid hw
  clear hcu hw
  go_wp2_with fail
  go_ret
  obtain ⟨y, hy⟩ : ∃ y : Nat, x % (n : Int) = (y : Int) := ⟨(x % (n : Int)).toNat, by have := Int.emod_nonneg x (show (n : Int) ≠ 0 by omega); omega⟩
  have hlt : x % (n : Int) < (n : Int) := Int.emod_lt_of_pos x (by omega)
  exact ⟨y, by omega, by simp only [hy]; rfl, C1.out, W1.out⟩
/-- a block that holds these strings -/
def StrB (w : World) (g : Nat) (l : List ByteArray) : Prop := w.heap[g]? = some (.cells (l.map Value.string).toArray 9 (0, 0))
theorem StrB.cell {w : World} {g : Nat} {l : List ByteArray} (h : StrB w g l) (k : Nat) (hk : k < l.length) : w.cell? ⟨g, k, none⟩ = some (.string l[k]) := by
  rw [cell_of_row w g k _ _ (0, 0) h]; simp [hk]
set_option maxHeartbeats 1000000 in
theorem l01Str_any (B p g : Nat) (va : Value) (ns : List Int) (l : List ByteArray) (w : World) (hns : ∀ n ∈ ns, 0 ≤ n ∧ n ≤ 255) (hl : ns.length ≤ 1048576) (h1 : 1 ≤ l.length) (h2 : l.length ≤ 256) (hc : Cu B p va ns w) (hb : StrB w g l) (hg : g ≠ p) :
    Calls Tryd.prog 32 #[.pointer (some ⟨p, 0, none⟩), .slice (some ⟨g, 0, none⟩) l.length l.length] w fun e w' => ∃ s ∈ l, e = .returned (.string s) ∧ Cu B p va ns w' ∧ Within p (p + 1) w w' := by
  have hglt : g < w.heap.size := by
    rcases Nat.lt_or_ge g w.heap.size with hlt | hge
    · exact hlt
    · unfold StrB at hb; rw [Array.getElem?_eq_none hge] at hb; cases hb
  have HC := Lib.hid hc
  have HB := Lib.hid hb
  have HBL := Lib.hid (fun W hcu => l01Below_any B p va ns l.length W hns hl h1 h2 hcu)
  clear hc hb hns
  go_enter Tryd.func32, Tryd.ntmps32
  go_wp2_with fail
  refine (HBL.out _ HC.out).mono ?_
  rintro e w1 ⟨x, hx, rfl, hcu, hw⟩
  have C1 := Lib.hid hcu; have W1 := Lib.hid hw
  have g1 := StrB.cell (show StrB w1 g l from (hw.block g hglt (by omega)).trans HB.out) x hx
  clear hcu hw
  go_wp2_with fail
  go_ret
  exact ⟨l[x], List.getElem_mem hx, rfl, C1.out, W1.out⟩
end Go.Proofs.YtciiokegifgbdaaDoor
