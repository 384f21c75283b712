/- Walks: the indices at which a word begins in another one; the numbers of the letters. -/
import Derived.Test.YtflpnbbdfjcggaaWord
import Derived.Test.YtflpnbbdfjcggaaPlain4
import Derived.Test.YtflpnbbdfjcggaaSl
import Derived.Test.YtflpnbbdfjcggaaMark
import Derived.Laws.MakeOwn
namespace Go.Proofs.Ytflpnbbdfjcggaa
open Go.RowKit
set_option maxRecDepth 20000

/-- f stands in s at the index i -/
def standsAt (s f : ByteArray) (i : Nat) : Bool := (s.extract i (i + f.size)).toList == f.toList
/-- the indices below k at which f stands -/
def placesL (s f : ByteArray) (k : Nat) : List Int := ((List.range k).filter fun i => standsAt s f i).map fun (i : Nat) => (i : Int)
theorem places_yes {s f : ByteArray} {k : Nat} (h : standsAt s f k = true) : placesL s f (k + 1) = placesL s f k ++ [(k : Int)] := by
  unfold placesL; rw [List.range_succ, List.filter_append]; simp [h]
theorem places_no {s f : ByteArray} {k : Nat} (h : standsAt s f k = false) : placesL s f (k + 1) = placesL s f k := by
  unfold placesL; rw [List.range_succ, List.filter_append]; simp [h]
theorem places_len (s f : ByteArray) (k : Nat) : (placesL s f k).length ≤ k := by
  unfold placesL; rw [List.length_map]; have := List.length_filter_le (fun i => standsAt s f i) (List.range k); simpa using this
/-- what PlacesIn returns -/
def placesR (s f : ByteArray) : List Int := if wordB s.data.toList = true ∧ wordB f.data.toList = true ∧ 0 < f.size then placesL s f (s.size + 1 - f.size) else []
theorem info_int : (Try.prog.info? 3).map (fun i => (i.zero, i.size, i.bytes)) = some (some (.int .i64 0), 1, 8) := by kernel_rfl

set_option maxHeartbeats 1000000 in
theorem placesIn_any (s f : ByteArray) (w : World) (hs : s.size ≤ 400) (hf : f.size ≤ 400) (h0 : 0 < f.size) :
    Calls Try.prog 58 #[.string s, .string f] w fun e w' => ∃ v, e = .returned v ∧ w'.ownsRow w.heap.size 3 1 v (placesL s f (s.size + 1 - f.size)).length ((placesL s f (s.size + 1 - f.size)).map (.int .i64)) ∧ Below w.heap.size w w' := by
  obtain ⟨i0, hi, hz0, hz1, hz2⟩ := info_parts info_int
  have HI := Lib.hid hi; have HZ0 := Lib.hid hz0; have HZ1 := Lib.hid hz1; have HZ2 := Lib.hid hz2
  clear hi hz0 hz1 hz2
  have hb0 : Below w.heap.size w (w.alloc (.cells #[] 3)) := (Below.refl _ _).alloc (Nat.le_refl _) _
  have hown0 := World.ownsRow_made (base := w.heap.size) (e := 3) (size := 1) w #[] 0 (Nat.le_refl _) (Nat.zero_le _) rfl
  have HB0 := Lib.hid hb0; have HO0 := Lib.hid hown0; clear hb0 hown0
  go_enter Try.func58, Try.ntmps58
  go_wp2_with fail
  go_loopw [5, 6] (fun v i wr => ∃ k : Nat, k ≤ s.size + 1 - f.size ∧ i = .int .i64 k ∧ wr.ownsRow w.heap.size 3 1 v (placesL s f k).length ((placesL s f k).map (.int .i64)) ∧ Below w.heap.size w wr) (fun _ i _ => s.size + 1 - f.size - (intOf i).toNat)
  case atStart => exact ⟨0, Nat.zero_le _, rfl, by simpa [placesL] using HO0.out, HB0.out⟩
  case round =>
    rename_i v i
    obtain ⟨k, hk, rfl, ho, hbel⟩ := hrel
    have HO := Lib.hid ho; have HB := Lib.hid hbel; clear ho hbel
    have hpl := places_len s f k
    by_cases hlt : k + f.size ≤ s.size
    · cases hst : standsAt s f k
      · have hN := places_no hst
        have HN := Lib.hid hN; clear hN
        unfold standsAt at hst
        go_wp2
        go_roundw
        case rel => exact ⟨k + 1, by omega, by go_num, by rw [HN.out]; exact HO.out, HB.out⟩
        case measure => simp [intOf]; omega
      · have hN := places_yes hst
        have HN := Lib.hid hN; clear hN
        unfold standsAt at hst
        go_wp2_with (at_builtin; refine wpList_append_own _ rfl _ _ 48 rfl w.heap.size 3 i0 (.int .i64 0) 1 8 Try.underlying48 HI.out HZ0.out HZ1.out HZ2.out rfl (by decide) _ _ _ rfl (HO.out.alloc _) ⟨_, 0, none⟩ 1 1 [.int .i64 k] rfl rfl ?c1 ?c2 ?c3 ?c4 ?c5 ?_)
        case c1 => exact cell_one_new _ _ _
        case c2 => intro u hu; simp at hu; subst hu; rfl
        case c3 => unfold maxLen; omega
        case c4 => omega
        case c5 => have := HB.out.size; simp; omega
        intro v' w1 hown' hgrow _
        have HB1 := Lib.hid ((HB.out.alloc HB.out.size _).grown hgrow (by have := HB.out.size; simp; omega) (fun g hg => (HO.out.lt g hg).1))
        have HO1 := Lib.hid hown'
        clear hown' hgrow
        go_wp2
        go_roundw
        case rel => exact ⟨k + 1, by omega, by go_num, by rw [HN.out, List.length_append, List.map_append]; exact HO1.out, HB1.out⟩
        case measure => simp [intOf]; omega
    · obtain rfl : k = s.size + 1 - f.size := by omega
      go_wp2
      go_ret
      exact ⟨_, rfl, HO.out, HB.out⟩
theorem empty_of {f : ByteArray} (h : f.size = 0) : f = ⟨#[]⟩ := by
  obtain ⟨⟨l⟩⟩ := f
  match l, h with
  | [], _ => rfl
theorem toList_ne {f : ByteArray} (h : 0 < f.size) : f.toList.isEmpty = false := by
  rw [Lib.toList_data]
  rw [Lib.size_eq] at h
  cases hl : f.data.toList with
  | nil => rw [hl] at h; simp at h
  | cons a l => rfl
theorem places_out {s f : ByteArray} (h : ¬ (wordB s.data.toList = true ∧ wordB f.data.toList = true ∧ 0 < f.size)) : placesR s f = [] := by unfold placesR; rw [if_neg h]
theorem places_in {s f : ByteArray} (h : wordB s.data.toList = true ∧ wordB f.data.toList = true ∧ 0 < f.size) : placesR s f = placesL s f (s.size + 1 - f.size) := by unfold placesR; rw [if_pos h]
theorem placesR_len (s f : ByteArray) : (placesR s f).length ≤ s.size + 1 := by
  unfold placesR
  split
  · have := places_len s f (s.size + 1 - f.size); omega
  · simp
end Go.Proofs.Ytflpnbbdfjcggaa
