/- Walk: the reference's application of a substitution, cut behind 400 letters. -/
import Derived.Test.YtglleimmmfnhcaaApply
import Derived.Test.YtglleimmmfnhcaaBytes
import Derived.Deep.AppendLies
import Derived.Deep.RegionLaw
namespace Go.Proofs.Ytglleimmmfnhcaa
open Go.RowKit
set_option maxRecDepth 20000

theorem cut_stands {w wr w1 : World} {T : TypeId} {va v : Value} {o : Obj} {base n : Nat} {E : TypeId} {xs : List Value} (h : Stands w T va wr) (ho : wr.ownsRow base E 1 v n xs) (hg : (wr.alloc o).drew.drew.grownBy w1 v.ownBlock) (hb : w.heap.size + 1 ≤ base := by exact Nat.le_refl _) : Stands w T va w1 :=
  Below.grown (h.alloc o).drew.drew hg (h.alloc o).drew.drew.size (fun g hg' => Nat.le_trans hb (ho.lt g hg').1)
set_option maxHeartbeats 1000000 in
theorem l03Apply_any (xs : List ByteArray) (va : Value) (s : ByteArray) (w : World) (ha : Row1 w w.heap.size va (xs.map .string)) (hx : substB xs = true) (hw : wordIn xs s.data.toList = true) :
    Calls Try.prog 61 #[.agg #[va], .string s] w fun e w' => ∃ out, e = .returned (.string out) ∧ CutOf xs s.data.toList out ∧ Below w.heap.size w w' := by
  have s0 := Stands.start w 28 va
  have hs : s.size ≤ 400 := word_len (wordIn_parts hw).2
  have hlen := applyL_len hx (letters_of_word hw)
  rw [← Lib.size_eq] at hlen
  have h4 := (subst_parts hx).2.1
  have h1 := (subst_parts hx).1
  obtain ⟨b, o, cp, rfl, hb, hc, hcell⟩ := ha.openAt (by omega)
  have HC := Lib.hid hcell
  have HS0 := Lib.hid s0; have HX := Lib.hid hx; have HW := Lib.hid hw; clear s0 ha hx hw hcell
  obtain ⟨i0, hi, hz0, hz1, hz2⟩ := info_parts info_byte
  have HO0 := Lib.hid (World.ownsRow_made (base := w.heap.size + 1) (e := 5) (size := 1) (w.alloc (.cells #[.slice (some ⟨b, o, none⟩) xs.length cp] 28)) #[] 0 (by simp) (Nat.zero_le _) rfl)
  go_enter Try.func61, Try.ntmps61
  go_wp2_with fail
  go_loopw [5, 6] (fun v i wr => ∃ (k g c : Nat), k ≤ s.size ∧ i = .int .i64 k ∧ v = .slice (some ⟨g, 0, none⟩) (applyL xs (s.data.toList.take k)).length c ∧ wr.ownsRow (w.heap.size + 1) 5 1 (.slice (some ⟨g, 0, none⟩) (applyL xs (s.data.toList.take k)).length c) (applyL xs (s.data.toList.take k)).length ((applyL xs (s.data.toList.take k)).map byteV) ∧ Stands w 28 (.slice (some ⟨b, o, none⟩) xs.length cp) wr) (fun _ i _ => s.size - (intOf i).toNat)
  case atStart => exact ⟨0, w.heap.size + 1, 0, Nat.zero_le _, rfl, rfl, by simpa [applyL] using HO0.out, HS0.out.alloc _⟩
  case round =>
    obtain ⟨k, g, c, hk, rfl, rfl, ho, hst⟩ := hrel
    have HO := Lib.hid ho; have HST := Lib.hid hst; clear ho hst
    obtain ⟨L, hL⟩ : ∃ L, L = applyL xs (s.data.toList.take k) := ⟨_, rfl⟩
    have hl2 : L.length ≤ 3200 := by have := applyL_take_le xs s.data.toList k; rw [hL]; omega
    rw [← hL] at HO ⊢
    have HLL := Lib.hid hL; clear hL
    by_cases hlt : k < s.size
    · by_cases h400 : L.length ≤ 400
      · obtain ⟨b1, b2, b3⟩ := wordIn_byte HW.out k hlt
        have c0 := HST.out.box
        have hkk : s[k].toNat - 97 < xs.length := by omega
        have g1 := (HST.out.below.cell (p := ⟨b, o + (s[k].toNat - 97), none⟩) hb).trans (HC.out _ hkk)
        rw [← imgAt_get hkk] at g1
        obtain ⟨m, hm⟩ : ∃ m : Nat, m = s[k].toNat - 97 := ⟨_, rfl⟩
        obtain ⟨t, ht⟩ : ∃ t, t = imgAt xs s[k] := ⟨_, rfl⟩
        have e1 : IntKind.u8.wrap ((s[k].toNat : Int) - 97) = (m : Int) := by rw [IntWalk.u8_in _ ⟨by omega, by omega⟩]; omega
        have hmx : (m : Int) < (xs.length : Int) := by omega
        have ht8 : t.size ≤ 8 := by rw [ht]; exact (imgAt_ok HX.out hkk).2.1
        have ht1 : 1 ≤ t.size := by rw [ht]; exact (imgAt_ok HX.out hkk).1
        rw [← hm, ← ht] at g1
        have HT := Lib.hid ht
        clear hm ht b1 b2 b3 hkk
        have hcv := run_cv t
        go_wp2_with fail
        go_region_law ((refine step_append_lies _ rfl (.tmp 19) (.tmp 28) 62 rfl (w.heap.size + 1) 5 i0 (.int .u8 0) 1 1 Try.underlying62 hi hz0 hz1 hz2 rfl (by decide) _ L.length (L.map byteV) (by simp [Act.eval]) (HO.out.alloc (cvObj wr.drew t)).drew.drew ⟨wr.heap.size, 0, none⟩ t.size (cvCap wr.drew t) (t.data.toList.map byteV) (by simp [Act.eval]) (by rw [List.length_map, ← Lib.size_eq, Nat.mul_one]) (cv_cells (W := wr.drew) (heap_alloc_new wr (cvObj wr.drew t))) (byte_one _) (by omega) (by unfold maxLen; omega) (by omega) (by have := HST.out.size; simp; omega) (wr.heap.size + 1) (by simp) ?_; intro g1 c1 w1 ho1 hg1 _ _; have F1 := Lib.hid (And.intro ho1 (cut_stands HST.out HO.out hg1)); clear ho1 hg1))
        all_goals
          go_wp2
          go_roundw
          case rel =>
            obtain ⟨f1, f2⟩ := Hid.out (by assumption : Hid (World.ownsRow _ _ _ _ _ _ _ ∧ Stands _ _ _ _))
            have e : applyL xs (s.data.toList.take (k + 1)) = L ++ t.data.toList := by rw [applyL_snoc xs s k hlt, ← HLL.out, HT.out]
            refine ⟨k + 1, g1, c1, by omega, by go_num, ?_, ?_, f2⟩
            · rw [e, List.length_append, ← Lib.size_eq]
            · rw [e, List.length_append, List.map_append, ← Lib.size_eq]; exact f1
          case measure => simp [intOf]; omega
      · have hback := run_back_bytes HO.out
        go_wp2
        go_ret
        exact ⟨_, rfl, ⟨.inr (by rw [size_mk]; omega), k, by rw [data_mk]; exact HLL.out⟩, HST.out.below⟩
    · have hback := run_back_bytes HO.out
      have e := take_all s k (by omega)
      go_wp2
      go_ret
      exact ⟨_, rfl, ⟨.inl (by rw [data_mk, HLL.out, e]), k, by rw [data_mk]; exact HLL.out⟩, HST.out.below⟩
end Go.Proofs.Ytglleimmmfnhcaa
