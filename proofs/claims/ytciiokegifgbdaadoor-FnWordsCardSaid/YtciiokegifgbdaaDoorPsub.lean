/- Walks: a substitution read from its text. Conditions: none beyond the hypotheses of each lemma. -/
import Derived.Test.YtciiokegifgbdaaDoorSplP
import Derived.Test.YtciiokegifgbdaaDoorFmt
import Derived.Test.YtciiokegifgbdaaDoorBox
import Derived.Test.YtciiokegifgbdaaDoorBytes
namespace Go.Proofs.YtciiokegifgbdaaDoor
open Go.RowKit
set_option maxRecDepth 20000

theorem types_ps : (36 : TypeId) ≠ 9 := by decide
/-- the substitution that a text names, if it names one -/
def psB (s : ByteArray) : Bool := substB (splB 44 s)
def psR (s : ByteArray) : List ByteArray := if psB s = true then splB 44 s else []
theorem ps_no {s : ByteArray} (h : psB s = false) : psR s = [] := by unfold psR; rw [h]; rfl
theorem ps_yes {s : ByteArray} (h : psB s = true) : psR s = splB 44 s := by unfold psR; rw [if_pos h]
theorem spl_len (c : UInt8) : ∀ l : List UInt8, ∀ x ∈ spl c l, x.length ≤ l.length
  | [], x, hx => by simp [spl] at hx; subst hx; exact Nat.le_refl _
  | a :: r, x, hx => by
    have ih := spl_len c r
    unfold spl at hx
    split at hx
    · rcases List.mem_cons.1 hx with rfl | hx
      · simp
      · have := ih x hx; simp; omega
    · cases h : spl c r with
      | nil => exact absurd h (spl_ne c r)
      | cons y t =>
        rw [h] at hx ih
        rcases List.mem_cons.1 hx with rfl | hx
        · have := ih y List.mem_cons_self; simp; omega
        · have := ih x (List.mem_cons_of_mem _ hx); simp; omega
theorem splB_size {c : UInt8} {s : ByteArray} : ∀ x ∈ splB c s, x.size ≤ s.size := by
  intro x hx
  obtain ⟨l, hl, rfl⟩ := List.mem_map.1 hx
  have := spl_len c _ l hl
  rw [Lib.size_eq s]
  exact this
theorem splB_join (s : ByteArray) : joinR (splB 44 s) comma = s := by
  have h : jl (splB 44 s) = spl 44 s.data.toList := splB_lists 44 s
  unfold joinR
  rw [h]
  show (⟨(Lib.join (spl 44 s.data.toList) [44]).toArray⟩ : ByteArray) = s
  rw [join_spl]
theorem ps_short {s : ByteArray} (h : psB s = true) : s.size ≤ 40 := by
  obtain ⟨h1, h4, hall⟩ := subst_parts h
  have h5 := bytesOf_each (n := 8) (fun x hx => (hall x hx).2.1)
  have h6 := join_len (splB 44 s) comma
  have h7 : (Lib.join (jl (splB 44 s)) comma.data.toList).length = s.size := by
    have e := congrArg (fun x : ByteArray => x.data.toList.length) (splB_join s)
    rw [Lib.size_eq]
    exact e
  rw [h7] at h6
  have e1 : comma.size = 1 := rfl
  rw [e1] at h6
  omega
theorem ps_long {s : ByteArray} (h : 40 < s.size) : psB s = false := by
  cases hb : psB s
  · rfl
  · have := ps_short hb; omega
theorem ps_fmt {s : ByteArray} (h : psB s = true) : fmtR (splB 44 s) = s := by rw [fmt_in h, splB_join]
/-- the variable that the library's search reads holds some number -/
def MaxL (w : World) : Prop := ∃ m, w.cell? ⟨2, 0, none⟩ = some (.int .i64 m) ∧ 2 < w.heap.size
theorem MaxL.on {w w' : World} (h : MaxL w) (hb : Below w.heap.size w w') : MaxL w' := by
  obtain ⟨m, h1, h2⟩ := h
  exact ⟨m, (hb.cell (p := ⟨2, 0, none⟩) h2).trans h1, Nat.lt_of_lt_of_le h2 hb.size⟩
theorem own_whole (w : World) (T : TypeId) (xs : List Value) (h : xs.length ≤ maxLen) : (w.alloc (.cells xs.toArray T)).ownsRow w.heap.size T 1 (.slice (some ⟨w.heap.size, 0, none⟩) xs.length xs.length) xs.length xs :=
  ⟨by simp, .inr ⟨w.heap.size, xs.length, xs.toArray, rfl, Nat.le_refl _, heap_alloc_new w _, Nat.le_refl _, h, by simp, by simp⟩⟩
theorem split_any (s : ByteArray) (w : World) (hs : s.size ≤ 1048576) (hm : MaxL w) :
    Calls Tryd.prog 40 #[.string s, .string comma] w fun e w' => ∃ v, e = .returned v ∧ w'.ownsRow w.heap.size 9 1 v (splB 44 s).length ((splB 44 s).map .string) ∧ Below w.heap.size w w' := by
  obtain ⟨m, hm1, _⟩ := hm
  refine (Tryd.strings_Split s comma m w (by omega) hm1 (by decide)).mono ?_
  rintro e w' ⟨rfl, rfl⟩
  have h1 : Lib.splitB comma 0 (Lib.countB s comma) s = splB 44 s := splitB_splB 44 s
  have h2 : Lib.countB s comma + 1 = (splB 44 s).length := by rw [← h1]; exact (Lib.splitB_all comma (by decide) 0 _ s rfl).symm
  have hl : (splB 44 s).length ≤ s.size + 1 := by rw [← h2]; have := Lib.countB_le comma (by decide) s.size s (Nat.le_refl _); omega
  refine ⟨_, rfl, ?_, bnew _ _⟩
  rw [h1, h2]
  have := own_whole w 9 ((splB 44 s).map .string) (by rw [List.length_map]; unfold maxLen; omega)
  rw [List.length_map] at this
  exact this
set_option maxHeartbeats 1000000 in
theorem implParseSubst_any (s : ByteArray) (w : World) (hs : s.size ≤ 1048576) (hm : MaxL w) :
    Calls Tryd.prog 19 #[.string s] w fun e w' => ∃ v, e = .returned (.tuple #[.agg #[v], .bool (psB s)]) ∧ w'.ownsRow w.heap.size 9 1 v (psR s).length ((psR s).map .string) ∧ Below w.heap.size w w' := by
  have B0 := Lib.hid (bnew w (.cells #[.slice none 0 0] 36))
  have O0 := Lib.hid (One.new w 36 (.slice none 0 0))
  have HC := Lib.hid (split_any s _ hs (hm.on B0.out))
  have HM := Lib.hid (show ((splB 44 s).map Value.string).length = (splB 44 s).length from List.length_map _)
  have HOK := Lib.hid (fun (v : Value) (W : World) (hR : Row1 W W.heap.size v ((splB 44 s).map .string)) => implSubstOk_any (splB 44 s) v W hR (fun x hx => by have := splB_size x hx; unfold maxLen; omega))
  clear hm
  go_enter Tryd.func19, Tryd.ntmps19
  go_wp2_with fail
  refine HC.out.mono ?_
  rintro e w1 ⟨v, rfl, ho, hb⟩
  obtain ⟨A, c, rfl⟩ := own_shape ho
  have OW := Lib.hid ho
  have B1 := Lib.hid (bthen B0.out hb)
  have O1 := Lib.hid (O0.out.on hb)
  clear ho hb
  have OW2 := Lib.hid (own_below OW.out (bnew w1 (.cells #[.slice A (splB 44 s).length c] 36)))
  have R2 := Lib.hid (Row1.own OW2.out HM.out.symm)
  have B2 := Lib.hid (bthen B1.out (bnew w1 (.cells #[.slice A (splB 44 s).length c] 36)))
  have O2 := Lib.hid (O1.out.alloc (.cells #[.slice A (splB 44 s).length c] 36))
  have P2 := Lib.hid (One.new w1 36 (.slice A (splB 44 s).length c))
  have Z1 := Lib.hid (show w.heap.size + 1 ≤ w1.heap.size from by have := OW.out; have h := B1.out.size; have := O1.out.lt; omega)
  go_wp2_with fail
  refine (HOK.out _ _ R2.out).mono ?_
  cases hp : psB s
  · have HP := Lib.hid hp
    rw [show substB (splB 44 s) = false from hp]
    clear hp
    rintro e w2 ⟨rfl, hb⟩
    have B3 := Lib.hid (bthen B2.out hb)
    have O3 := Lib.hid (O2.out.on hb)
    have c3 := O3.out.cell
    have f3 := O3.out.frozen
    clear hb
    go_wp2_with fail
    refine bodyPost_ret (v := .tuple #[.agg #[.slice none 0 0], .bool false]) (by simp [results, Tryd.results19, go_sem, c3]) rfl ?_
    exact ⟨_, by rw [HP.out], by rw [ps_no HP.out]; exact World.ownsRow_nil _ _ _ _, since_set B3.out (Nat.le_refl _) _⟩
  · have HP := Lib.hid hp
    rw [show substB (splB 44 s) = true from hp]
    clear hp
    rintro e w2 ⟨rfl, hb⟩
    have B3 := Lib.hid (bthen B2.out hb)
    have O3 := Lib.hid (O2.out.on hb)
    have P3 := Lib.hid (P2.out.on hb)
    have OW3 := Lib.hid (own_below OW2.out hb)
    have c3 := O3.out.cell
    have f3 := O3.out.frozen
    have d3 := P3.out.cell
    clear hb
    go_wp2_with fail
    refine bodyPost_ret (v := .tuple #[.agg #[.slice A (splB 44 s).length c], .bool true]) (by simp [results, Tryd.results19, go_sem, c3]) rfl ?_
    refine ⟨_, by rw [HP.out], ?_, since_set B3.out (Nat.le_refl _) _⟩
    rw [ps_yes HP.out]
    exact own_set (own_base OW3.out (by simp)) (one_ne O3.out OW3.out types_ps) _
set_option maxHeartbeats 1000000 in
theorem specParseSubst_any (s : ByteArray) (w : World) (hs : s.size ≤ 1048576) :
    Calls Tryd.prog 18 #[.string s] w fun e w' => ∃ v, e = .returned (.tuple #[.agg #[v], .bool (psB s)]) ∧ w'.ownsRow w.heap.size 9 1 v (psR s).length ((psR s).map .string) ∧ Below w.heap.size w w' := by
  have B0 := Lib.hid (bnew w (.cells #[.slice none 0 0] 36))
  have O0 := Lib.hid (One.new w 36 (.slice none 0 0))
  by_cases hlong : 40 < s.size
  · have HP := Lib.hid (ps_long hlong)
    have c0 := O0.out.cell
    have f0 := O0.out.frozen
    go_enter Tryd.func18, Tryd.ntmps18
    go_wp2_with fail
    refine bodyPost_ret (v := .tuple #[.agg #[.slice none 0 0], .bool false]) (by simp [results, Tryd.results18, go_sem, c0]) rfl ?_
    exact ⟨_, by rw [HP.out], by rw [ps_no HP.out]; exact World.ownsRow_nil _ _ _ _, B0.out⟩
  have HC := Lib.hid (specSplitAny_any s comma (w.alloc (.cells #[.slice none 0 0] 36)) hs (by decide))
  rw [show splitR s comma.data.toList.contains = splB 44 s from splitR_splB 44 s] at HC
  have HM := Lib.hid (show ((splB 44 s).map Value.string).length = (splB 44 s).length from List.length_map _)
  have HSZ := Lib.hid (show ∀ x ∈ splB 44 s, x.size ≤ maxLen from fun x hx => by have := splB_size x hx; unfold maxLen; omega)
  have HOK := Lib.hid (fun (v : Value) (W : World) (hR : Row1 W W.heap.size v ((splB 44 s).map .string)) => specSubstOk_any (splB 44 s) v W hR HSZ.out)
  have HFM := Lib.hid (fun (v : Value) (W : World) (hR : Row1 W W.heap.size v ((splB 44 s).map .string)) => specFormatSubst_any (splB 44 s) v W hR HSZ.out)
  go_enter Tryd.func18, Tryd.ntmps18
  go_wp2_with fail
  refine HC.out.mono ?_
  rintro e w1 ⟨v, rfl, ho, hb⟩
  obtain ⟨A, c, rfl⟩ := own_shape ho
  have OW := Lib.hid ho
  have B1 := Lib.hid (bthen B0.out hb)
  have O1 := Lib.hid (O0.out.on hb)
  clear ho hb
  have OW2 := Lib.hid (own_below OW.out (bnew w1 (.cells #[.slice A (splB 44 s).length c] 36)))
  have R2 := Lib.hid (Row1.own OW2.out HM.out.symm)
  have B2 := Lib.hid (bthen B1.out (bnew w1 (.cells #[.slice A (splB 44 s).length c] 36)))
  have O2 := Lib.hid (O1.out.alloc (.cells #[.slice A (splB 44 s).length c] 36))
  have P2 := Lib.hid (One.new w1 36 (.slice A (splB 44 s).length c))
  go_wp2_with fail
  refine (HOK.out _ _ R2.out).mono ?_
  cases hp : psB s
  · have HP := Lib.hid hp
    rw [show substB (splB 44 s) = false from hp]
    clear hp
    rintro e w2 ⟨rfl, hb⟩
    have B3 := Lib.hid (bthen B2.out hb)
    have O3 := Lib.hid (O2.out.on hb)
    have c3 := O3.out.cell
    have f3 := O3.out.frozen
    clear hb
    go_wp2_with fail
    refine bodyPost_ret (v := .tuple #[.agg #[.slice none 0 0], .bool false]) (by simp [results, Tryd.results18, go_sem, c3]) rfl ?_
    exact ⟨_, by rw [HP.out], by rw [ps_no HP.out]; exact World.ownsRow_nil _ _ _ _, since_set B3.out (Nat.le_refl _) _⟩
  · have HP := Lib.hid hp
    rw [show substB (splB 44 s) = true from hp]
    clear hp
    rintro e w2 ⟨rfl, hb⟩
    have B3 := Lib.hid (bthen B2.out hb)
    have O3 := Lib.hid (O2.out.on hb)
    have P3 := Lib.hid (P2.out.on hb)
    have OW3 := Lib.hid (own_below OW2.out hb)
    have R3 := Lib.hid (Row1.own OW3.out HM.out.symm)
    have d3 := P3.out.cell
    clear hb
    go_wp2_with fail
    refine (HFM.out _ _ R3.out).mono ?_
    rw [ps_fmt HP.out]
    rintro e w3 ⟨rfl, hb⟩
    have B4 := Lib.hid (bthen B3.out hb)
    have O4 := Lib.hid (O3.out.on hb)
    have P4 := Lib.hid (P3.out.on hb)
    have OW4 := Lib.hid (own_below OW3.out hb)
    have c4 := O4.out.cell
    have f4 := O4.out.frozen
    have d4 := P4.out.cell
    clear hb d3
    go_wp2_with fail
    refine bodyPost_ret (v := .tuple #[.agg #[.slice A (splB 44 s).length c], .bool true]) (by simp [results, Tryd.results18, go_sem, c4]) rfl ?_
    refine ⟨_, by rw [HP.out], ?_, since_set B4.out (Nat.le_refl _) _⟩
    rw [ps_yes HP.out]
    exact own_set (own_base OW4.out (by simp)) (one_ne O4.out OW4.out types_ps) _
end Go.Proofs.YtciiokegifgbdaaDoor
