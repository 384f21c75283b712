/- Walks: words in reverse order. -/
import Derived.Test.YtnnkhjjecmldfaaWord
import Derived.Test.YtnnkhjjecmldfaaPlain4
import Derived.Test.YtnnkhjjecmldfaaBytes
import Derived.Laws.MakeOwn
import Derived.Deep.AppendLies
namespace Go.Proofs.Ytnnkhjjecmldfaa
open Go.RowKit

theorem turn_get (l : List UInt8) (k : Nat) (h : k < l.length) : (List.replicate (l.length - k) (Value.int .u8 0) ++ (l.take k).reverse.map byteV)[l.length - 1 - k]? = some (.int .u8 0) := by
  rw [List.getElem?_append_left (by simp; omega), List.getElem?_replicate, if_pos (by omega)]
theorem turn_set (l : List UInt8) (k : Nat) (h : k < l.length) : (List.replicate (l.length - k) (Value.int .u8 0) ++ (l.take k).reverse.map byteV).set (l.length - 1 - k) (byteV l[k]) =
    List.replicate (l.length - (k + 1)) (Value.int .u8 0) ++ (l.take (k + 1)).reverse.map byteV := by
  rw [List.set_append_left _ _ (by simp; omega), show l.length - k = (l.length - (k + 1)) + 1 by omega, List.replicate_succ']
  rw [List.set_append_right _ _ (by simp; omega), List.length_replicate, show l.length - 1 - k - (l.length - (k + 1)) = 0 by omega, List.set_cons_zero, List.take_succ_eq_append_getElem h, List.reverse_append, List.append_assoc]
  rfl
set_option maxHeartbeats 1000000 in
theorem turned_any (s : ByteArray) (w : World) (hs : s.size ≤ 1048576) :
    Calls Try.prog 51 #[.string s] w fun e w' => e = .returned (.string ⟨s.data.toList.reverse.toArray⟩) ∧ Below w.heap.size w w' := by
  obtain ⟨i0, hi, hz0, hz1, hz2⟩ := info_parts info_byte
  go_enter Try.func51, Try.ntmps51
  go_wp2_with (at_make; refine wpList_make_full _ rfl _ _ 68 rfl w.heap.size 5 i0 _ 1 Try.underlying68 hi hz0 hz1 _ _ _ _ s.size rfl rfl rfl rfl (by rw [hz2]; omega) (by unfold maxLen; omega) (Nat.le_refl _) ?_)
  intro w1 hown hgrow
  have hbel := (Below.refl w.heap.size w).grown hgrow (Nat.le_refl _) (fun k hk => by cases hk)
  rw [toList_madeCells_one] at hown
  clear hgrow hz0 hz1 hz2 hi
  go_wp2_with fail
  go_loopw [10] (fun i wr => ∃ k : Nat, k ≤ s.size ∧ i = .int .i64 k ∧ wr.ownsRow w.heap.size 5 1 (.slice (some ⟨w.heap.size, 0, none⟩) s.size s.size) s.size (List.replicate (s.data.toList.length - k) (Value.int .u8 0) ++ (s.data.toList.take k).reverse.map byteV) ∧ Below w.heap.size w wr) (fun i _ => s.size - (intOf i).toNat)
  case atStart => exact ⟨0, Nat.zero_le _, rfl, by simpa [← Lib.size_eq] using hown, hbel⟩
  case round =>
    clear hown hbel
    obtain ⟨k, hk, rfl, hown, hbel⟩ := hrel
    by_cases hlt : k < s.size
    · have hl : k < s.data.toList.length := by rw [← Lib.size_eq]; exact hlt
      have g2 := hown.cellAt (s.size - 1 - k) (by omega)
      rw [Lib.size_eq, turn_get _ k hl, ← Lib.size_eq] at g2
      have g3 := hown.frozenAt (s.size - 1 - k)
      have H := Lib.hid hown; have HB := Lib.hid hbel; clear hown hbel
      go_wp2
      go_roundw
      case rel =>
        refine ⟨k + 1, by omega, by go_num, ?_, HB.out.setCell (Nat.le_refl _) _⟩
        have h2 := (H.out.stored (s.size - 1 - k) (byteV s[k])).1
        have h3 : ∀ m, m = s.data.toList.length - 1 - k → (List.replicate (s.data.toList.length - k) (Value.int .u8 0) ++ (s.data.toList.take k).reverse.map byteV).set m (byteV s[k]) =
            List.replicate (s.data.toList.length - (k + 1)) (Value.int .u8 0) ++ (s.data.toList.take (k + 1)).reverse.map byteV := by
          rintro m rfl; exact turn_set _ k hl
        rw [h3 _ (by rw [← Lib.size_eq])] at h2
        exact h2
      case measure => simp [intOf]; omega
    · obtain rfl : k = s.size := by omega
      rw [Lib.size_eq, Nat.sub_self, List.replicate_zero, List.nil_append, List.take_length, ← Lib.size_eq] at hown
      have hback := run_back_bytes hown
      go_wp2
      go_ret
      exact ⟨rfl, hbel⟩
set_option maxHeartbeats 1000000 in
theorem l02Turn_any (s : ByteArray) (w : World) (hs : s.size ≤ 1048576) :
    Calls Try.prog 49 #[.string s] w fun e w' => e = .returned (.string ⟨s.data.toList.reverse.toArray⟩) ∧ Below w.heap.size w w' := by
  obtain ⟨i0, hi, hz0, hz1, hz2⟩ := info_parts info_byte
  have HO0 := Lib.hid (World.ownsRow_made (base := w.heap.size) (e := 5) (size := 1) w #[] 0 (Nat.le_refl _) (Nat.zero_le _) rfl)
  have HB0 := Lib.hid ((Below.refl w.heap.size w).alloc (Nat.le_refl _) (.cells #[] 5))
  have HI := Lib.hid hi; have HZ0 := Lib.hid hz0; have HZ1 := Lib.hid hz1; have HZ2 := Lib.hid hz2
  clear hi hz0 hz1 hz2
  go_enter Try.func49, Try.ntmps49
  go_wp2_with fail
  go_loopw [3, 4] (fun v i wr => ∃ (k g c : Nat), k ≤ s.size ∧ i = .int .i64 ((s.size : Int) - 1 - k) ∧ v = .slice (some ⟨g, 0, none⟩) k c ∧ wr.ownsRow w.heap.size 5 1 (.slice (some ⟨g, 0, none⟩) k c) k ((s.data.toList.reverse.take k).map byteV) ∧ Below w.heap.size w wr) (fun _ i _ => (intOf i + 1).toNat)
  case atStart => exact ⟨0, w.heap.size, 0, Nat.zero_le _, by simp, rfl, by simpa using HO0.out, HB0.out⟩
  case round =>
    obtain ⟨k, g, c, hk, rfl, rfl, ho, hbel⟩ := hrel
    have HO := Lib.hid ho; have HB := Lib.hid hbel; clear ho hbel
    by_cases hlt : k < s.size
    · obtain ⟨j, hj⟩ : ∃ j : Nat, j = s.size - 1 - k := ⟨_, rfl⟩
      have hjs : j < s.size := by omega
      have e1 : ((s.size : Int) - 1 - k) = (j : Int) := by omega
      have HR := Lib.hid (show s.data.toList.reverse.take (k + 1) = s.data.toList.reverse.take k ++ [s[j]] by
        rw [List.take_succ_eq_append_getElem (by rw [List.length_reverse, ← Lib.size_eq]; exact hlt), List.getElem_reverse]
        congr 2
        rw [ByteArray.getElem_eq_getElem_data, ← Array.getElem_toList]
        congr 1
        rw [← Lib.size_eq]; exact hj.symm)
      have HJ := Lib.hid hj; clear hj
      rw [e1]
      have HE := Lib.hid e1; clear e1
      go_wp2_with (at_builtin; refine wpList_append_lies _ rfl _ _ 68 rfl w.heap.size 5 i0 (.int .u8 0) 1 1 Try.underlying68 HI.out HZ0.out HZ1.out HZ2.out rfl (by decide) _ _ _ rfl (HO.out.alloc _) ⟨_, 0, none⟩ 1 1 [.int .u8 s[j].toNat] rfl rfl ?c1 ?c2 ?c3 ?c4 ?c5 ?c6 _ rfl ?_)
      case c1 => exact cell_one_new _ _ _
      case c2 => intro u hu; simp at hu; subst hu; rfl
      case c3 => omega
      case c4 => unfold maxLen; omega
      case c5 => omega
      case c6 => have := HB.out.size; simp; omega
      intro g1 c1 w1 ho1 hg1 _ _
      have HB1 := Lib.hid ((HB.out.alloc HB.out.size _).grown hg1 (by have := HB.out.size; simp; omega) (fun g hg => (HO.out.lt g hg).1))
      have HO1 := Lib.hid ho1
      clear ho1 hg1
      go_wp2
      go_roundw
      case rel => exact ⟨k + 1, g1, c1, by omega, by congr 1; have := HE.out; omega, rfl, by rw [HR.out, List.map_append]; simpa [byteV] using HO1.out, HB1.out⟩
      case measure => simp [intOf]; try omega
    · obtain rfl : k = s.size := by omega
      rw [Lib.size_eq, ← List.length_reverse, List.take_length, List.length_reverse, ← Lib.size_eq] at HO
      have hback := run_back_bytes HO.out
      have e1 : ((s.size : Int) - 1 - s.size) = -1 := by omega
      rw [e1]
      clear e1
      go_wp2
      go_ret
      exact ⟨rfl, HB.out⟩
end Go.Proofs.Ytnnkhjjecmldfaa
