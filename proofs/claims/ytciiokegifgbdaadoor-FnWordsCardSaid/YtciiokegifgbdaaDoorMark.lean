/- Walks: the laws' own helpers on slices: compared, marked, held. -/
import Derived.Test.YtciiokegifgbdaaDoorEq
import Derived.Test.YtciiokegifgbdaaDoorPlain1
import Derived.Deep.RegionWith
import Derived.Laws.IdiomStrings
namespace Go.Proofs.YtciiokegifgbdaaDoor
open Go.RowKit

/-- the marks from k on: n of them -/
def marksI (k : Int) (n : Nat) : List Value := (List.range n).map fun (i : Nat) => .int .i64 (k + (i : Int))
theorem marksI_len (k : Int) (n : Nat) : (marksI k n).length = n := by simp [marksI]
theorem marksI_get (k : Int) (n i : Nat) (h : i < n) : (marksI k n)[i]? = some (.int .i64 (k + i)) := by simp [marksI, h]
theorem marksI_succ (k : Int) (n : Nat) : marksI k (n + 1) = marksI k n ++ [.int .i64 (k + n)] := by simp [marksI, List.range_succ]
theorem marked_get {xs : List Value} {ms : List Value} {k : Nat} (hm : ms.length = k) : (ms ++ xs.drop k)[k]? = xs[k]? := by
  rw [List.getElem?_append_right (by omega), hm, Nat.sub_self, List.getElem?_drop, Nat.add_zero]
theorem marked_set {xs : List Value} {ms : List Value} {k : Nat} (hm : ms.length = k) (h : k < xs.length) (u : Value) : (ms ++ xs.drop k).set k u = (ms ++ [u]) ++ xs.drop (k + 1) := by
  rw [List.set_append_right _ _ (by omega), hm, Nat.sub_self, List.drop_eq_getElem_cons h, List.set_cons_zero, List.append_assoc]
  rfl

theorem grown_below {w a b : World} {row : Option Nat} (h : w.grownBy a row) (hb : Below a.heap.size a b) : w.grownBy b row :=
  ⟨hb.os.trans h.os, hb.tape.trans h.tape, hb.output.trans h.output, Nat.le_trans h.size hb.size, fun j hj hne => (hb.block j (Nat.lt_of_lt_of_le hj h.size)).trans (h.block j hj hne)⟩
theorem grown_trans {w a b : World} {row : Option Nat} (h : w.grownBy a row) (k : a.grownBy b row) : w.grownBy b row :=
  ⟨k.os.trans h.os, k.tape.trans h.tape, k.output.trans h.output, Nat.le_trans h.size k.size, fun j hj hne => (k.block j (Nat.lt_of_lt_of_le hj h.size) hne).trans (h.block j hj hne)⟩

theorem run_back_one (wr : World) (d : UInt8) : (convert 27 9 (.slice (some ⟨wr.heap.size, 0, none⟩) 1 1)).run Tryd.prog (wr.alloc (.cells #[.int .u8 d.toNat] 5)) = .ok (.string ⟨#[d]⟩) (wr.alloc (.cells #[.int .u8 d.toNat] 5)) := by
  refine run_convert_bytes_back (P := Tryd.prog) _ 27 9 5 ⟨wr.heap.size, 0, none⟩ 1 [d] Tryd.underlying27 Tryd.underlying5 Tryd.underlying9 fun j hj => ?_
  obtain rfl : j = 0 := by simpa using hj
  exact cell_one_new _ _ _ 0 _ rfl
/-- the digits of k ahead of out -/
def mtGo : Nat → Nat → List UInt8 → List UInt8
  | 0, _, out => out
  | f + 1, k, out => if k = 0 then out else mtGo f (k / 10) (UInt8.ofNat (48 + k % 10) :: out)
def markT (k : Nat) : ByteArray := ⟨(109 :: mtGo k k []).toArray⟩
set_option maxHeartbeats 1000000 in
theorem markText_any (K : Nat) (w : World) (h1 : 1 ≤ K) (h2 : K ≤ 1099511627776) :
    Calls Tryd.prog 58 #[.int .i64 K] w fun e w' => e = .returned (.string (markT K)) ∧ Below w.heap.size w w' := by
  go_enter Tryd.func58, Tryd.ntmps58
  go_wp2_with fail
  go_loopw [0, 3] (fun q v wr => ∃ (f k : Nat) (out : ByteArray), k ≤ f ∧ mtGo f k out.data.toList = mtGo K K [] ∧ q = .int .i64 k ∧ v = .string out ∧ out.size + k ≤ K ∧ Below w.heap.size w wr) (fun q _ _ => (intOf q).toNat)
  case atStart => exact ⟨K, K, ⟨#[]⟩, Nat.le_refl _, rfl, rfl, rfl, by show 0 + K ≤ K; omega, Below.refl _ _⟩
  case round =>
    obtain ⟨f, k, out, hf, hm, rfl, rfl, hsz, hbel⟩ := hrel
    have HM := Lib.hid hm; have HB := Lib.hid hbel; clear hm hbel
    by_cases hk : 0 < k
    · obtain ⟨d, hd⟩ : ∃ d : UInt8, d = UInt8.ofNat (48 + k % 10) := ⟨_, rfl⟩
      have hdn : d.toNat = 48 + k % 10 := by rw [hd, UInt8.toNat_ofNat']; omega
      have e1 : (48 + (k : Int) % 10) = (d.toNat : Int) := by omega
      have hb := run_back_one wr d
      have HD := Lib.hid hd
      obtain ⟨f', rfl⟩ : ∃ f', f = f' + 1 := ⟨f - 1, by omega⟩
      have HQ := Lib.hid (show mtGo (f' + 1) k out.data.toList = mtGo f' (k / 10) (UInt8.ofNat (48 + k % 10) :: out.data.toList) by rw [mtGo, if_neg (by omega)])
      clear hd hdn
      go_wp2
      go_roundw
      case rel =>
        refine ⟨f', k / 10, _, by omega, ?_, by go_num, rfl, ?_, HB.out.alloc HB.out.size _⟩
        · rw [← HM.out, HQ.out, ← HD.out]; rw [ByteArray.data_append, Array.toList_append]; rfl
        · rw [ByteArray.size_append]; show 1 + out.size + k / 10 ≤ K; omega
      case measure => simp [intOf]; omega
    · obtain rfl : k = 0 := by omega
      have HQ := Lib.hid (show mtGo f 0 out.data.toList = out.data.toList by cases f <;> rfl)
      go_wp2
      go_ret
      refine ⟨?_, HB.out⟩
      have : (⟨#[109]⟩ : ByteArray) ++ out = markT K := by
        apply ByteArray.ext; apply Array.ext'
        rw [ByteArray.data_append, Array.toList_append]
        show [109] ++ out.data.toList = 109 :: mtGo K K []
        rw [← HM.out, HQ.out]; rfl
      rw [← this]
      rfl
def marksS (k : Nat) (n : Nat) : List Value := (List.range n).map fun i => .string (markT (k + i))
theorem marksS_len (k n : Nat) : (marksS k n).length = n := by simp [marksS]
theorem marksS_get (k n i : Nat) (h : i < n) : (marksS k n)[i]? = some (.string (markT (k + i))) := by simp [marksS, h]
theorem marksS_succ (k n : Nat) : marksS k (n + 1) = marksS k n ++ [.string (markT (k + n))] := by simp [marksS, List.range_succ]
set_option maxHeartbeats 1000000 in
theorem markStringS_any (base : Nat) (v : Value) (xs : List Value) (k : Nat) (w : World) (hown : w.ownsRow base 9 1 v xs.length xs) (hx : ∀ u ∈ xs, ∃ z, u = .string z) (h0 : 1 ≤ k) (h1 : k + xs.length ≤ 1099511627776) :
    Calls Tryd.prog 43 #[v, .int .i64 k] w fun e w' => e = .returned (.int .i64 (k + xs.length : Nat)) ∧ w'.ownsRow base 9 1 v xs.length (marksS k xs.length) ∧ w.grownBy w' v.ownBlock := by
  have hown0 := hown
  rcases hown.2 with ⟨rfl, hn⟩ | ⟨g, cap, cur, rfl, hb, hg, hnc, hcm, hcs, htake⟩
  · obtain rfl : xs = [] := List.eq_nil_of_length_eq_zero hn
    clear hown
    go_enter Tryd.func43, Tryd.ntmps43
    go_wp2_with fail
    refine wp_loop_rounds 1 ?_
    rw [rounds_succ]
    go_wp2
    go_ret
    exact ⟨by simp, hown0, World.grownBy.refl _ _⟩
  · clear hown hg htake hcs
    have HX := Lib.hid hx; clear hx
    go_enter Tryd.func43, Tryd.ntmps43
    go_wp2_with fail
    go_loopw [1, 5] (fun q i wr => ∃ n : Nat, n ≤ xs.length ∧ i = .int .i64 n ∧ q = .int .i64 (k + n : Nat) ∧ wr.ownsRow base 9 1 (.slice (some ⟨g, 0, none⟩) xs.length cap) xs.length (marksS k n ++ xs.drop n) ∧ w.grownBy wr (some g)) (fun _ i _ => xs.length - (intOf i).toNat)
    case atStart => exact ⟨0, Nat.zero_le _, rfl, by simp, hown0, World.grownBy.refl _ _⟩
    case round =>
      clear hown0
      obtain ⟨n, hn, rfl, rfl, ho, hgr⟩ := hrel
      by_cases hlt : n < xs.length
      · obtain ⟨z, hz⟩ := HX.out _ (List.getElem_mem hlt)
        have HO := Lib.hid ho; have HG := Lib.hid hgr; have HZ := Lib.hid hz; clear ho hgr hz
        go_wp2_with fail
        refine (markText_any (k + n) _ (by omega) (by omega)).mono ?_
        rintro e w1 ⟨rfl, hb1⟩
        have H := Lib.hid (own_below HO.out hb1)
        have G1 := Lib.hid (grown_below HG.out hb1)
        have g2 := H.out.cellAt n (by omega)
        rw [marked_get (marksS_len _ _), List.getElem?_eq_getElem hlt, HZ.out] at g2
        have g3 := H.out.frozenAt n
        clear hb1
        go_wp2
        go_roundw
        case rel =>
          have h2 := H.out.stored n (.string (markT (k + n)))
          rw [marked_set (marksS_len _ _) hlt, ← marksS_succ] at h2
          exact ⟨n + 1, by omega, by go_num, by go_num, h2.1, grown_trans G1.out h2.2⟩
        case measure => simp [intOf]; omega
      · obtain rfl : n = xs.length := by omega
        rw [List.drop_length, List.append_nil] at ho
        go_wp2
        go_ret
        exact ⟨rfl, ho, hgr⟩
set_option maxHeartbeats 1000000 in
theorem heldStringS_any (n : Nat) (v : Value) (k : Nat) (w : World) (ha : Row1 w w.heap.size v (marksS k n)) (h0 : 1 ≤ k) (h1 : k + n ≤ 1099511627776) :
    Calls Tryd.prog 44 #[v, .int .i64 k] w fun e w' => e = .returned (.int .i64 (k + n : Nat)) ∧ Below w.heap.size w w' := by
  obtain ⟨A, c, rfl, hc, hm, hA⟩ := ha
  simp only [marksS_len] at hc ⊢
  rcases Nat.eq_zero_or_pos n with rfl | hp
  · clear hA
    go_enter Tryd.func44, Tryd.ntmps44
    go_wp2_with fail
    refine wp_loop_rounds 1 ?_
    rw [rounds_succ]
    go_wp2
    go_ret
    exact ⟨by simp, Below.refl _ _⟩
  · obtain ⟨b, o, rfl, hbB, hcell⟩ := hA (by intro h; have := congrArg List.length h; rw [marksS_len] at this; simp at this; omega)
    have HC := Lib.hid hcell; clear hcell hA
    go_enter Tryd.func44, Tryd.ntmps44
    go_wp2_with fail
    go_loopw [1, 5] (fun q i wr => ∃ j : Nat, j ≤ n ∧ i = .int .i64 j ∧ q = .int .i64 (k + j : Nat) ∧ Below w.heap.size w wr) (fun _ i _ => n - (intOf i).toNat)
    case atStart => exact ⟨0, Nat.zero_le _, rfl, by simp, Below.refl _ _⟩
    case round =>
      obtain ⟨j, hj, rfl, rfl, hbel⟩ := hrel
      by_cases hlt : j < n
      · have g1 := (hbel.cell (p := ⟨b, o + j, none⟩) hbB).trans (HC.out j _ (marksS_get k n j hlt))
        have HB := Lib.hid hbel; clear hbel
        go_wp2_with fail
        go_region_with (go_at_call 58; refine (markText_any (k + j) _ (by omega) (by omega)).mono ?_; rintro e w1 ⟨rfl, hb1⟩; have B1 := Lib.hid (HB.out.drew.trans (hb1.mono HB.out.drew.size)); have g2 := (B1.out.cell (p := ⟨b, o + j, none⟩) hbB).trans (HC.out j _ (marksS_get k n j hlt)); clear hb1)
        all_goals
          go_wp2
          go_roundw
          case rel => exact ⟨j + 1, by omega, by go_num, by go_num, Hid.out (by assumption)⟩
          case measure => simp [intOf]; omega
      · obtain rfl : j = n := by omega
        go_wp2
        go_ret
        exact ⟨rfl, hbel⟩
end Go.Proofs.YtciiokegifgbdaaDoor
