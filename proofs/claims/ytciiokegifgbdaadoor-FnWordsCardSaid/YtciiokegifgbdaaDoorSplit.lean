/- Walks: a string split at every byte that occurs in another one. -/
import Derived.Test.YtciiokegifgbdaaDoorWord
import Derived.Test.YtciiokegifgbdaaDoorSl
import Derived.Test.YtciiokegifgbdaaDoorMark
import Derived.Lib.Index
import Derived.Laws.MakeOwn
namespace Go.Proofs.YtciiokegifgbdaaDoor
open Go.RowKit
set_option maxRecDepth 20000

/-- the parts so far, and where the next one begins, after k bytes -/
def splitSt (s : ByteArray) (p : UInt8 → Bool) : Nat → List ByteArray × Nat
  | 0 => ([], 0)
  | k + 1 => if p (s.data.toList.getD k 0) = true then ((splitSt s p k).1 ++ [s.extract (splitSt s p k).2 k], k + 1) else splitSt s p k
/-- what SplitAny returns -/
def splitR (s : ByteArray) (p : UInt8 → Bool) : List ByteArray := (splitSt s p s.size).1 ++ [s.extract (splitSt s p s.size).2 s.size]
theorem getD_byte (s : ByteArray) (k : Nat) (h : k < s.size) : s.data.toList.getD k 0 = s[k] := by
  rw [List.getD_eq_getElem?_getD, List.getElem?_eq_getElem (by rw [← Lib.size_eq]; exact h)]; rfl
theorem split_yes {s : ByteArray} {p : UInt8 → Bool} {k : Nat} (hk : k < s.size) (h : p s[k] = true) : splitSt s p (k + 1) = ((splitSt s p k).1 ++ [s.extract (splitSt s p k).2 k], k + 1) := by
  rw [splitSt, getD_byte s k hk, if_pos h]
theorem split_no {s : ByteArray} {p : UInt8 → Bool} {k : Nat} (hk : k < s.size) (h : p s[k] = false) : splitSt s p (k + 1) = splitSt s p k := by
  rw [splitSt, getD_byte s k hk, if_neg (by simp [h])]
theorem split_le (s : ByteArray) (p : UInt8 → Bool) : ∀ k, (splitSt s p k).1.length ≤ k ∧ (splitSt s p k).2 ≤ k
  | 0 => ⟨Nat.le_refl _, Nat.le_refl _⟩
  | k + 1 => by
    have := split_le s p k
    rw [splitSt]
    split
    · simp; omega
    · omega
theorem info_str : (Tryd.prog.info? 9).map (fun i => (i.zero, i.size, i.bytes)) = some (some (.string ByteArray.empty), 1, 16) := by kernel_rfl

theorem indexByte_has (l : List UInt8) (c : UInt8) : (l.contains c = true → 0 ≤ Lib.indexByte l c) ∧ (l.contains c = false → Lib.indexByte l c = -1) := by
  induction l with
  | nil => exact ⟨(fun h => by cases h), fun _ => rfl⟩
  | cons a l ih =>
    unfold Lib.indexByte
    by_cases h : a = c
    · subst h; simp
    · have h1 : (a == c) = false := beq_eq_false_iff_ne.2 h
      have h2 : (c == a) = false := beq_eq_false_iff_ne.2 (fun e => h e.symm)
      rw [List.contains_cons, h1, h2, Bool.false_or]
      refine ⟨fun hh => ?_, fun hh => ?_⟩
      · have := ih.1 hh
        have hn : (Lib.indexByte l c == -1) = false := by rw [beq_eq_false_iff_ne]; omega
        simp [hn]; omega
      · have := ih.2 hh
        simp [this]
set_option maxHeartbeats 1000000 in
theorem slIndexByte_any (s : ByteArray) (c : UInt8) (w : World) :
    Calls Tryd.prog 51 #[.string s, .int .u8 c.toNat] w fun e w' => e = .returned (.int .i64 (Lib.indexByte s.data.toList c)) ∧ w' = w := by
  have hc : ((c.toNat : Int).toNat.toUInt8) = c := by
    rw [Int.toNat_natCast]; exact UInt8.ofNat_toNat
  go_enter Tryd.func51, Tryd.ntmps51
  go_wp2
  rw [run_callFunc_extern Tryd.func67 (by kernel_rfl) (by kernel_rfl) (by kernel_rfl) (e := Extern.BytealgIndexByte.indexByte) (by kernel_rfl), Lib.run_indexByteString, hc]
  simp only [Result.andThen]
  rw [Oper.upon_value]
  go_wp2
  go_ret
  exact ⟨rfl, rfl⟩
set_option maxHeartbeats 1000000 in
theorem indexByte_any (s : ByteArray) (c : UInt8) (w : World) :
    Calls Tryd.prog 34 #[.string s, .int .u8 c.toNat] w fun e w' => e = .returned (.int .i64 (Lib.indexByte s.data.toList c)) ∧ w' = w := by
  have H := Lib.hid (slIndexByte_any s c w)
  go_enter Tryd.func34, Tryd.ntmps34
  go_wp2_with fail
  refine H.out.mono ?_
  rintro e w' ⟨rfl, rfl⟩
  go_wp2_with fail
  go_ret
  exact ⟨rfl, rfl⟩
set_option maxHeartbeats 1000000 in
theorem implSplitAny_any (s f : ByteArray) (w : World) (hs : s.size ≤ 1048576) (_ : f.size ≤ 1048576) :
    Calls Tryd.prog 15 #[.string s, .string f] w fun e w' => ∃ v, e = .returned v ∧ w'.ownsRow w.heap.size 9 1 v (splitR s f.data.toList.contains).length ((splitR s f.data.toList.contains).map .string) ∧ Below w.heap.size w w' := by
  obtain ⟨i0, hi, hz0, hz1, hz2⟩ := info_parts info_str
  have HI := Lib.hid hi; have HZ0 := Lib.hid hz0; have HZ1 := Lib.hid hz1; have HZ2 := Lib.hid hz2
  clear hi hz0 hz1 hz2
  have hb0 : Below w.heap.size w (w.alloc (.cells #[] 9)) := (Below.refl _ _).alloc (Nat.le_refl _) _
  have hown0 := World.ownsRow_made (base := w.heap.size) (e := 9) (size := 1) w #[] 0 (Nat.le_refl _) (Nat.zero_le _) rfl
  have HB0 := Lib.hid hb0; have HO0 := Lib.hid hown0; clear hb0 hown0
  have HR := Lib.hid (show splitR s f.data.toList.contains = (splitSt s f.data.toList.contains s.size).1 ++ [s.extract (splitSt s f.data.toList.contains s.size).2 s.size] from rfl)
  obtain ⟨p, hp⟩ : ∃ p, p = f.data.toList.contains := ⟨_, rfl⟩
  rw [← hp] at HR ⊢
  have HP := Lib.hid hp; clear hp
  go_enter Tryd.func15, Tryd.ntmps15
  go_wp2_with fail
  go_loopw [5, 6, 11] (fun v a i wr => ∃ k : Nat, k ≤ s.size ∧ i = .int .i64 k ∧ a = .int .i64 (splitSt s p k).2 ∧ wr.ownsRow w.heap.size 9 1 v (splitSt s p k).1.length ((splitSt s p k).1.map .string) ∧ Below w.heap.size w wr) (fun _ _ i _ => s.size - (intOf i).toNat)
  case atStart => exact ⟨0, Nat.zero_le _, rfl, rfl, by simpa [splitSt] using HO0.out, HB0.out⟩
  case round =>
    rename_i v _ i
    obtain ⟨k, hk, rfl, rfl, ho, hbel⟩ := hrel
    have HO := Lib.hid ho; have HB := Lib.hid hbel; clear ho hbel
    obtain ⟨hl1, hl2⟩ := split_le s p k
    by_cases hlt : k < s.size
    · cases hst : p s[k]
      · have HN := Lib.hid (split_no hlt hst)
        have hix : Lib.indexByte f.data.toList s[k] = -1 := (indexByte_has _ _).2 (by rw [← HP.out]; exact hst)
        clear hst
        go_wp2_with (go_at_call 34; refine (indexByte_any _ _ _).mono ?_; rintro e w' ⟨rfl, rfl⟩)
        go_roundw
        case rel => exact ⟨k + 1, by omega, by go_num, by rw [HN.out], by rw [HN.out]; exact HO.out, HB.out⟩
        case measure => simp [intOf]; omega
      · have HN := Lib.hid (split_yes hlt hst)
        have hix : 0 ≤ Lib.indexByte f.data.toList s[k] := (indexByte_has _ _).1 (by rw [← HP.out]; exact hst)
        clear hst
        go_wp2_with (first | (go_at_call 34; refine (indexByte_any _ _ _).mono ?_; rintro e w' ⟨rfl, rfl⟩) | (at_builtin; refine wpList_append_own _ rfl _ _ 31 rfl w.heap.size 9 i0 (.string ByteArray.empty) 1 16 Tryd.underlying31 HI.out HZ0.out HZ1.out HZ2.out rfl (by decide) _ _ _ rfl (HO.out.alloc _) ⟨_, 0, none⟩ 1 1 [.string (s.extract (splitSt s p k).2 k)] rfl rfl ?c1 ?c2 ?c3 ?c4 ?c5 ?_))
        case c1 => exact cell_one_new _ _ _
        case c2 => intro u hu; simp at hu; subst hu; rfl
        case c3 => unfold maxLen; omega
        case c4 => omega
        case c5 => have := HB.out.size; simp; omega
        intro v' w1 hown' hgrow _
        have HB1 := Lib.hid ((HB.out.alloc HB.out.size _).grown hgrow (by have := HB.out.size; simp; omega) (fun g hg => (HO.out.lt g hg).1))
        have HO1 := Lib.hid hown'
        clear hown' hgrow
        go_wp2
        go_roundw
        case rel => exact ⟨k + 1, by omega, by go_num, by rw [HN.out]; go_num, by rw [HN.out, List.length_append, List.map_append]; exact HO1.out, HB1.out⟩
        case measure => simp [intOf]; omega
    · obtain rfl : k = s.size := by omega
      go_wp2_with (at_builtin; refine wpList_append_own _ rfl _ _ 31 rfl w.heap.size 9 i0 (.string ByteArray.empty) 1 16 Tryd.underlying31 HI.out HZ0.out HZ1.out HZ2.out rfl (by decide) _ _ _ rfl (HO.out.alloc _) ⟨_, 0, none⟩ 1 1 [.string (s.extract (splitSt s p s.size).2 s.size)] rfl rfl ?c1 ?c2 ?c3 ?c4 ?c5 ?_)
      case c1 => exact cell_one_new _ _ _
      case c2 => intro u hu; simp at hu; subst hu; rfl
      case c3 => unfold maxLen; omega
      case c4 => omega
      case c5 => have := HB.out.size; simp; omega
      intro v' w1 hown' hgrow _
      have HB1 := Lib.hid ((HB.out.alloc HB.out.size _).grown hgrow (by have := HB.out.size; simp; omega) (fun g hg => (HO.out.lt g hg).1))
      have HO1 := Lib.hid hown'
      clear hown' hgrow
      go_wp2
      go_ret
      exact ⟨_, rfl, by rw [HR.out, List.length_append, List.map_append]; exact HO1.out, HB1.out⟩
theorem has_next {f : ByteArray} {j : Nat} {x : UInt8} (hj : j < f.size) (h : (f.data.toList.take j).contains x = false) : (f[j] = x → f.data.toList.contains x = true) ∧ (f[j] ≠ x → (f.data.toList.take (j + 1)).contains x = false) := by
  have hj' : j < f.data.toList.length := by rw [← Lib.size_eq]; exact hj
  have e : f.data.toList[j] = f[j] := rfl
  refine ⟨fun hx => ?_, fun hx => ?_⟩
  · rw [List.contains_iff_mem, ← hx, ← e]; exact List.getElem_mem _
  · rw [List.take_succ_eq_append_getElem hj', e]
    rw [← Bool.not_eq_true, List.contains_iff_mem] at h ⊢
    simp only [List.mem_append, List.mem_singleton]
    rintro (h1 | h1)
    · exact h h1
    · exact hx h1.symm
set_option maxHeartbeats 1000000 in
theorem specSplitAny_any (s f : ByteArray) (w : World) (hs : s.size ≤ 1048576) (hf : f.size ≤ 1048576) :
    Calls Tryd.prog 37 #[.string s, .string f] w fun e w' => ∃ v, e = .returned v ∧ w'.ownsRow w.heap.size 9 1 v (splitR s f.data.toList.contains).length ((splitR s f.data.toList.contains).map .string) ∧ Below w.heap.size w w' := by
  obtain ⟨i0, hi, hz0, hz1, hz2⟩ := info_parts info_str
  have HI := Lib.hid hi; have HZ0 := Lib.hid hz0; have HZ1 := Lib.hid hz1; have HZ2 := Lib.hid hz2
  clear hi hz0 hz1 hz2
  have hb0 : Below w.heap.size w (w.alloc (.cells #[] 9)) := (Below.refl _ _).alloc (Nat.le_refl _) _
  have hown0 := World.ownsRow_made (base := w.heap.size) (e := 9) (size := 1) w #[] 0 (Nat.le_refl _) (Nat.zero_le _) rfl
  have HB0 := Lib.hid hb0; have HO0 := Lib.hid hown0; clear hb0 hown0
  have HR := Lib.hid (show splitR s f.data.toList.contains = (splitSt s f.data.toList.contains s.size).1 ++ [s.extract (splitSt s f.data.toList.contains s.size).2 s.size] from rfl)
  obtain ⟨p, hp⟩ : ∃ p, p = f.data.toList.contains := ⟨_, rfl⟩
  rw [← hp] at HR ⊢
  have HP := Lib.hid hp; clear hp
  go_enter Tryd.func37, Tryd.ntmps37
  go_wp2_with fail
  go_loopw [5, 6, 7] (fun v a i wr => ∃ k : Nat, k ≤ s.size ∧ i = .int .i64 k ∧ a = .int .i64 (splitSt s p k).2 ∧ wr.ownsRow w.heap.size 9 1 v (splitSt s p k).1.length ((splitSt s p k).1.map .string) ∧ Below w.heap.size w wr) (fun _ _ i _ => s.size - (intOf i).toNat)
  case atStart => exact ⟨0, Nat.zero_le _, rfl, rfl, by simpa [splitSt] using HO0.out, HB0.out⟩
  case round =>
    obtain ⟨k, hk, rfl, rfl, ho, hbel⟩ := hrel
    have HO := Lib.hid ho; have HB := Lib.hid hbel; clear ho hbel
    obtain ⟨hl1, hl2⟩ := split_le s p k
    by_cases hlt : k < s.size
    · have hk0 : 0 < s.size := by omega
      go_wp2_with fail
      go_loopw [5, 6, 8] (fun v a b wr => ∃ j : Nat, j ≤ f.size ∧ b = .int .i64 j ∧ a = .int .i64 (splitSt s p k).2 ∧ (f.data.toList.take j).contains s[k] = false ∧ wr.ownsRow w.heap.size 9 1 v (splitSt s p k).1.length ((splitSt s p k).1.map .string) ∧ Below w.heap.size w wr) (fun _ _ b _ => f.size - (intOf b).toNat)
      case atStart => exact ⟨0, Nat.zero_le _, rfl, rfl, rfl, HO.out, HB.out⟩
      case round =>
        clear HO HB
        obtain ⟨j, hj, rfl, rfl, hnone, ho, hbel⟩ := hrel
        have HO := Lib.hid ho; have HB := Lib.hid hbel; clear ho hbel
        by_cases hjt : j < f.size
        · have hf0 : 0 < f.size := by omega
          obtain ⟨n1, n2⟩ := has_next hjt hnone
          by_cases hc : s[k] = f[j]
          · have hst : p s[k] = true := by rw [HP.out]; exact n1 hc.symm
            have HN := Lib.hid (split_yes hlt hst)
            have b1 : ((s[k].toNat : Int) == (f[j].toNat : Int)) = true := by rw [hc]; exact beq_iff_eq.2 rfl
            clear hc n1 n2 hst hnone
            go_wp2_with fail
            go_quiet (fail)
            go_wp2_with (at_builtin; refine wpList_append_own _ rfl _ _ 31 rfl w.heap.size 9 i0 (.string ByteArray.empty) 1 16 Tryd.underlying31 HI.out HZ0.out HZ1.out HZ2.out rfl (by decide) _ _ _ rfl (HO.out.alloc _) ⟨_, 0, none⟩ 1 1 [.string (s.extract (splitSt s p k).2 k)] rfl rfl ?c1 ?c2 ?c3 ?c4 ?c5 ?_)
            case c1 => exact cell_one_new _ _ _
            case c2 => intro u hu; simp at hu; subst hu; rfl
            case c3 => unfold maxLen; omega
            case c4 => omega
            case c5 => have := HB.out.size; simp; omega
            intro v' w1 hown' hgrow _
            have HB1 := Lib.hid (((below_drewN HB.out _).alloc (show w.heap.size ≤ _ from HB.out.size) _).grown hgrow (by have := HB.out.size; simp; omega) (fun g hg => (HO.out.lt g hg).1))
            have HO1 := Lib.hid hown'
            clear hown' hgrow
            go_wp2
            go_roundw
            case rel => exact ⟨k + 1, by omega, by go_num, by rw [HN.out]; go_num, by rw [HN.out, List.length_append, List.map_append]; exact HO1.out, HB1.out⟩
            case measure => simp [intOf]; omega
          · have HN := Lib.hid (n2 (fun h => hc h.symm))
            have b1 : ((s[k].toNat : Int) == (f[j].toNat : Int)) = false := by
              rw [beq_eq_false_iff_ne]; intro h; exact hc (UInt8.toNat_inj.1 (by omega))
            clear hc n1 n2 hnone
            go_wp2_with fail
            go_quiet (fail)
            go_wp2
            go_roundw
            case rel => exact ⟨j + 1, by omega, by go_num, rfl, HN.out, own_drewN HO.out _, below_drewN HB.out _⟩
            case measure => simp [intOf]; omega
        · have hst : p s[k] = false := by
            rw [HP.out]
            rw [List.take_of_length_le (by rw [← Lib.size_eq]; omega)] at hnone
            exact hnone
          have HN := Lib.hid (split_no hlt hst)
          clear hst hnone
          go_wp2
          go_roundw
          case rel => exact ⟨k + 1, by omega, by go_num, by rw [HN.out], by rw [HN.out]; exact HO.out, HB.out⟩
          case measure => simp [intOf]; omega
    · obtain rfl : k = s.size := by omega
      go_wp2_with (at_builtin; refine wpList_append_own _ rfl _ _ 31 rfl w.heap.size 9 i0 (.string ByteArray.empty) 1 16 Tryd.underlying31 HI.out HZ0.out HZ1.out HZ2.out rfl (by decide) _ _ _ rfl (HO.out.alloc _) ⟨_, 0, none⟩ 1 1 [.string (s.extract (splitSt s p s.size).2 s.size)] rfl rfl ?c1 ?c2 ?c3 ?c4 ?c5 ?_)
      case c1 => exact cell_one_new _ _ _
      case c2 => intro u hu; simp at hu; subst hu; rfl
      case c3 => unfold maxLen; omega
      case c4 => omega
      case c5 => have := HB.out.size; simp; omega
      intro v' w1 hown' hgrow _
      have HB1 := Lib.hid ((HB.out.alloc HB.out.size _).grown hgrow (by have := HB.out.size; simp; omega) (fun g hg => (HO.out.lt g hg).1))
      have HO1 := Lib.hid hown'
      clear hown' hgrow
      go_wp2
      go_ret
      exact ⟨_, rfl, by rw [HR.out, List.length_append, List.map_append]; exact HO1.out, HB1.out⟩
end Go.Proofs.YtciiokegifgbdaaDoor
