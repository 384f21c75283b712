/- Walks and plain laws of the functions that a law reaches, several texts in one (part 3). Conditions: none beyond the hypotheses of each lemma. -/
import Derived.SliceStrings
import Derived.ChangeSame
import Derived.ProofKit
import Derived.Deep.Matrix
import Derived.Laws.MakeOwn
import Derived.Test.YtciiokegifgbdaaG1
import Derived.Test.YtciiokegifgbdaaG2
/- Walks: the matrix of a substitution. -/
namespace Go.Proofs.Ytciiokegifgbdaa
open Go.RowKit
set_option maxRecDepth 20000

theorem info_row : (Try.prog.info? 37).map (fun i => (i.zero, i.size, i.bytes)) = some (some (.slice none 0 0), 1, 24) := by kernel_rfl
/-- the numbers of the letter with the index i in the images -/
def rowR (xs : List ByteArray) (i : Nat) : List Int := xs.map fun s => (countC s.data.toList (lc i) : Int)
def matR (xs : List ByteArray) : List (List Int) := (List.range xs.length).map (rowR xs)
theorem rowR_len (xs : List ByteArray) (i : Nat) : (rowR xs i).length = xs.length := List.length_map _
theorem matR_len (xs : List ByteArray) : (matR xs).length = xs.length := by simp [matR]
theorem matR_get (xs : List ByteArray) (i : Nat) (h : i < xs.length) : (matR xs)[i]'(by rw [matR_len]; exact h) = rowR xs i := by simp [matR]
theorem matR_take (xs : List ByteArray) (i : Nat) (h : i < xs.length) : (matR xs).take (i + 1) = (matR xs).take i ++ [rowR xs i] := by
  rw [List.take_succ_eq_append_getElem (by rw [matR_len]; exact h), matR_get xs i h]
theorem rowR_take (xs : List ByteArray) (i j : Nat) (h : j < xs.length) : ints ((rowR xs i).take (j + 1)) = ints ((rowR xs i).take j) ++ [.int .i64 (countC xs[j].data.toList (lc i))] := by
  rw [List.take_succ_eq_append_getElem (by rw [rowR_len]; exact h)]
  simp [ints, rowR]
theorem totL_take_le (xs : List ByteArray) : ∀ l : List (List Int), (∀ r ∈ l, r.length = xs.length) → totL l = l.length * xs.length
  | [], _ => by simp [totL]
  | r :: l, h => by
    rw [totL, totL_take_le xs l fun r hr => h r (List.mem_cons_of_mem _ hr), h r List.mem_cons_self, List.length_cons, Nat.succ_mul]; omega
theorem matR_tot (xs : List ByteArray) : totL (matR xs) = xs.length * xs.length := by
  rw [totL_take_le xs (matR xs) (by intro r hr; simp only [matR, List.mem_map] at hr; obtain ⟨i, _, rfl⟩ := hr; exact rowR_len xs i), matR_len]
theorem stands_grown {w wc w' : World} {T : TypeId} {va : Value} {row : Option Nat} (h : Stands w T va wc) (hg : wc.grownBy w' row) (hr : ∀ g, row = some g → w.heap.size + 1 ≤ g) : Stands w T va w' := Below.grown h hg h.size hr
set_option maxHeartbeats 2000000 in
theorem implMatrix_any (xs : List ByteArray) (va : Value) (w : World) (ha : Row1 w w.heap.size va (xs.map .string)) (hx : substB xs = true) :
    Calls Try.prog 39 #[.agg #[va]] w fun e w' => ∃ v, e = .returned v ∧ OwnG w' w.heap.size w'.heap.size v (matR xs) ∧ Below w.heap.size w w' := by
  obtain ⟨i0, hi, hz0, hz1, hz2⟩ := info_parts info_int
  have HI := Lib.hid hi; have HZ0 := Lib.hid hz0; have HZ1 := Lib.hid hz1; have HZ2 := Lib.hid hz2
  clear hi hz0 hz1 hz2
  obtain ⟨i1, hi, hz0, hz1, hz2⟩ := info_parts info_row
  have HJ := Lib.hid hi; have HY0 := Lib.hid hz0; have HY1 := Lib.hid hz1; have HY2 := Lib.hid hz2
  clear hi hz0 hz1 hz2
  obtain ⟨h1x, h4x, hall⟩ := subst_parts hx
  have HALL := Lib.hid hall; clear hall hx
  obtain ⟨b, o, cp, rfl, hbB, hcp, hcell⟩ := ha.openAt (by omega)
  have HC := Lib.hid hcell; clear hcell ha
  have s0 := Stands.start w 33 (.slice (some ⟨b, o, none⟩) xs.length cp)
  have HS0 := Lib.hid (s0.alloc (.cells #[] 37))
  have c00 := (s0.alloc (.cells #[] 37)).box
  have HO0 := Lib.hid (World.ownsRow_made (base := w.heap.size + 1) (e := 37) (size := 1) (w.alloc (.cells #[.slice (some ⟨b, o, none⟩) xs.length cp] 33)) #[] 0 (by simp) (Nat.zero_le _) rfl)
  clear s0
  go_enter Try.func39, Try.ntmps39
  go_wp2_with fail
  go_loopw [3, 12] (fun v i wr => ∃ (k : Nat) (u : Value) (vs : List Value), v = u ∧ k ≤ xs.length ∧ i = .int .i64 k ∧ OwnV 37 3 wr (w.heap.size + 1) u vs ((matR xs).take k) ∧ Stands w 33 (.slice (some ⟨b, o, none⟩) xs.length cp) wr) (fun _ i _ => xs.length - (intOf i).toNat)
  case atStart => exact ⟨0, _, [], rfl, Nat.zero_le _, rfl, OwnV.empty (by simpa using HO0.out), HS0.out⟩
  case round =>
    clear c00
    obtain ⟨wo, rfl⟩ : ∃ wo, wo = wr := ⟨_, rfl⟩
    obtain ⟨k, u, vs, rfl, hk, rfl, hov, hst⟩ := hrel
    have HV := Lib.hid hov; have HS := Lib.hid hst
    have HLEN := Lib.hid (show ((matR xs).take k).length = k by rw [List.length_take, matR_len]; omega)
    clear hov hst
    by_cases hlt : k < xs.length
    · have hk4 : k < 4 := by omega
      have e1 := abcd_at hk4
      have HMT := Lib.hid (matR_take xs k hlt)
      have HE := Lib.hid (show (97 : Int) + (k : Int) = ((lc k).toNat : Int) by rw [lc_nat hk4]; omega)
      have c1 := (HS.out.alloc (.cells #[] 3)).box
      have HR0 := Lib.hid (World.ownsRow_made (base := wo.heap.size) (e := 3) (size := 1) wo #[] 0 (Nat.le_refl _) (Nat.zero_le _) rfl)
      go_wp2_with fail
      go_loopw [5, 19] (fun rv j wr => ∃ (m : Nat) (ru : Value), rv = ru ∧ m ≤ xs.length ∧ j = .int .i64 m ∧ wr.ownsRow wo.heap.size 3 1 ru m (ints ((rowR xs k).take m)) ∧ Below wo.heap.size wo wr) (fun _ j _ => xs.length - (intOf j).toNat)
      case atStart => exact ⟨0, _, rfl, Nat.zero_le _, rfl, by simpa [ints] using HR0.out, bnew _ _⟩
      case round =>
        clear HR0 c1
        obtain ⟨m, ru, rfl, hm, rfl, ho, hb⟩ := hrel
        have HO := Lib.hid ho; have HB2 := Lib.hid hb; clear ho hb
        by_cases hml : m < xs.length
        · have g1 := ((bthen HS.out.below HB2.out).cell (p := ⟨b, o + m, none⟩) hbB).trans (HC.out m hml)
          have HRT := Lib.hid (rowR_take xs k m hml)
          have hct : ∀ W, Calls Try.prog 56 #[.string xs[m], .string (ltr k)] W fun e w' => e = .returned (.int .i64 (countC xs[m].data.toList (lc k))) ∧ w' = W := by
            intro W; have h := Try.strings_Count_one xs[m] (lc k) W; rw [count_same] at h; exact h
          have HCT := Lib.hid hct; clear hct
          obtain ⟨q, hq⟩ : ∃ q, q = countC xs[m].data.toList (lc k) := ⟨_, rfl⟩
          rw [← hq] at HCT HRT
          have hq4 : q ≤ 8 := by have h1 := countC_le xs[m].data.toList (lc k); have h2 := (HALL.out _ (List.getElem_mem hml)).2.1; rw [Lib.size_eq] at h2; omega
          clear hq
          go_wp2_with (first
            | (go_at_call 56; refine (HCT.out _).mono ?_; rintro e w' ⟨rfl, rfl⟩)
            | (at_builtin; refine wpList_append_own _ rfl _ _ 37 rfl wo.heap.size 3 i0 (.int .i64 0) 1 8 Try.underlying37 HI.out HZ0.out HZ1.out HZ2.out rfl (by decide) _ _ _ rfl (HO.out.alloc _) ⟨_, 0, none⟩ 1 1 [.int .i64 q] rfl rfl ?c1 ?c2 ?c3 ?c4 ?c5 ?_))
          case c1 => exact cell_one_new _ _ _
          case c2 => intro u hu; simp at hu; subst hu; rfl
          case c3 => unfold maxLen; omega
          case c4 => omega
          case c5 => have := HB2.out.size; simp; omega
          intro v' w3 hown' hgrow _
          have HB3 := Lib.hid (since_grown (bthen HB2.out (bnew _ _)) hgrow (fun g hg => (own_lt HO.out hg).1))
          have HO3 := Lib.hid hown'
          clear hown' hgrow
          go_wp2
          go_roundw
          case rel => exact ⟨m + 1, v', rfl, by omega, by go_num, by rw [HRT.out]; simpa [ints] using HO3.out, HB3.out⟩
          case measure => simp [intOf]; omega
        · obtain rfl : m = xs.length := by omega
          obtain ⟨A, cr, rfl⟩ := own_shape HO.out
          have hrow : wr.ownsRow wo.heap.size 3 1 (.slice A xs.length cr) (rowR xs k).length (ints (rowR xs k)) := by
            have h := HO.out
            rw [List.take_of_length_le (by rw [rowR_len]; exact Nat.le_refl _)] at h
            rw [rowR_len]; exact h
          have HROW := Lib.hid hrow; clear hrow
          have HVB := Lib.hid (HV.out.below HB2.out)
          go_wp2_with (at_builtin; refine wpList_append_own _ rfl _ _ 22 rfl (w.heap.size + 1) 37 i1 (.slice none 0 0) 1 24 Try.underlying22 HJ.out HY0.out HY1.out HY2.out rfl (by decide) _ _ _ rfl (HVB.out.own.alloc _) ⟨_, 0, none⟩ 1 1 [.slice A xs.length cr] rfl rfl ?c1 ?c2 ?c3 ?c4 ?c5 ?_)
          case c1 => exact cell_one_new _ _ _
          case c2 => intro u hu; simp at hu; subst hu; rfl
          case c3 => rw [HLEN.out]; unfold maxLen; omega
          case c4 => rw [HLEN.out]; omega
          case c5 => have := HB2.out.size; have := HS.out.size; simp; omega
          intro v' w3 hown' hgrow _
          have HV3 := Lib.hid (HV.out.push types_apart (Nat.le_trans (by omega) HS.out.size) (bthen HB2.out (bnew _ _)) (HROW.out.alloc _) (by simpa using hown') hgrow)
          have HS3 := Lib.hid (stands_grown (HS.out.on (bthen HB2.out (bnew _ _))) hgrow (fun g hg => (own_lt HV.out.own hg).1))
          clear hown' hgrow
          go_wp2
          go_roundw
          case rel => exact ⟨k + 1, v', _, rfl, by omega, by go_num, by rw [HMT.out]; exact HV3.out, HS3.out⟩
          case measure => simp [intOf]; omega
    · obtain rfl : k = xs.length := by omega
      have HE := Lib.hid (show (matR xs).take xs.length = matR xs from List.take_of_length_le (by rw [matR_len]; exact Nat.le_refl _))
      rw [HE.out] at HV
      go_wp2
      go_ret
      exact ⟨_, rfl, (HV.out.mono (Nat.le_succ _)).own2, HS.out.below⟩
/-- what MatrixOf returns -/
def moR (xs : List ByteArray) : List (List Int) := if substB xs = true then matR xs else []
theorem mo_no {xs : List ByteArray} (h : substB xs = false) : moR xs = [] := by unfold moR; rw [h]; rfl
theorem mo_yes {xs : List ByteArray} (h : substB xs = true) : moR xs = matR xs := by unfold moR; rw [if_pos h]
set_option maxHeartbeats 1000000 in
theorem implMatrixOf_any (xs : List ByteArray) (va : Value) (w : World) (ha : Row1 w w.heap.size va (xs.map .string)) (hs : ∀ s ∈ xs, s.size ≤ maxLen) :
    Calls Try.prog 19 #[.agg #[va]] w fun e w' => ∃ v, e = .returned v ∧ OwnG w' w.heap.size w'.heap.size v (moR xs) ∧ Below w.heap.size w w' := by
  have s0 := Stands.start w 33 va
  have HOK := Lib.hid (implSubstOk_any xs _ _ (s0.row ha) hs)
  have HS0 := Lib.hid s0
  have HA := Lib.hid ha
  have c0 := s0.box
  clear s0 ha hs
  cases hx : substB xs
  · have HF := Lib.hid (mo_no hx)
    go_enter Try.func19, Try.ntmps19
    go_wp2_with fail
    refine HOK.out.mono ?_
    rw [hx]
    rintro e w1 ⟨rfl, hb1⟩
    have S1 := Lib.hid (HS0.out.on hb1); clear hb1
    go_wp2_with fail
    go_ret
    exact ⟨_, rfl, by rw [HF.out]; exact Own2.zero _ _ _, S1.out.below⟩
  have HF := Lib.hid (mo_yes hx)
  have HX := Lib.hid hx; clear hx
  go_enter Try.func19, Try.ntmps19
  go_wp2_with fail
  refine HOK.out.mono ?_
  rw [HX.out]
  rintro e w1 ⟨rfl, hb1⟩
  have S1 := Lib.hid (HS0.out.on hb1); clear hb1
  have c1 := S1.out.box
  clear c0
  go_wp2_with fail
  refine (implMatrix_any xs va _ (S1.out.row HA.out) HX.out).mono ?_
  rintro e w2 ⟨v, rfl, ho, hb2⟩
  have HO := Lib.hid (ho.mono (Nat.le_trans (Nat.le_succ _) S1.out.size))
  have S2 := Lib.hid (S1.out.on hb2); clear ho hb2
  go_wp2_with fail
  go_ret
  exact ⟨_, rfl, by rw [HF.out]; exact HO.out, S2.out.below⟩
end Go.Proofs.Ytciiokegifgbdaa
/- Over any program: an argument that is a slice of strings, of integers, or a struct of one slice of strings, opened as a list. Conditions: none beyond the hypotheses of each lemma. -/
namespace Go.Proofs.Ytciiokegifgbdaa
open Go.ChangeShapes Go.WideShapes Go.ChangeAt Go.RowKit

section
variable {H : Type} {enc : TypeId × Value → H} {P : Program} {w : World} {r : Reach} {b0 : Nat}

theorem row_of_cells {α : Type} (f : α → Value) (dflt : α) (a : Addr) (len cap : Nat) (ss : List α) (hl : len ≤ cap) (hm : cap ≤ maxLen) (hz : ss.length = cap)
    (hcell : ∀ i, i < ss.length → w.cell? (a.add i) = some (f (ss.getD i dflt))) : Row1 w w.heap.size (.slice (some a) len cap) ((ss.take len).map f) := by
  have hlen : ((ss.take len).map f).length = len := by simp; omega
  refine ⟨some a, cap, by rw [hlen], by rw [hlen]; exact hl, hm, fun hne => ?_⟩
  have hp : 0 < len := by
    rcases Nat.eq_zero_or_pos len with h | h
    · subst h; simp at hne
    · exact h
  obtain ⟨b, off, spot⟩ := a
  have hspot : spot = none := by simpa [Addr.add] using World.cell?_spot (hcell 0 (by omega))
  subst hspot
  refine ⟨b, off, rfl, ?_, fun k u hu => ?_⟩
  · have := World.block_lt_of_cell? w _ (hcell 0 (by omega))
    simpa [Addr.add] using this
  · have hk : k < len := by have := (List.getElem?_eq_some_iff.1 hu).1; omega
    rw [← Go.WideShapes.add_plain, hcell k (by omega)]
    have e : ((ss.take len).map f)[k]? = some (f (ss.getD k dflt)) := by
      simp [List.getD, hk, show k < ss.length by omega]
    rw [e] at hu
    exact hu

theorem open_strs_cells {t e : TypeId} {fuel : Nat} {v : Value} {x : DataW H × List MemPlace} (ht : P.underlying t = some (.slice e)) (he : P.underlying e = some .string) (hc : P.cellsOf e = 1)
    (h : DataW.trod enc P w 0 (fun _ => true) true fuel t [v] = some x) : ∃ xs : List ByteArray, Row1 w w.heap.size v (xs.map .string) ∧ ∀ s ∈ xs, s.size ≤ maxLen := by
  rcases open_strings ht he hc h with ⟨hcs, _⟩ | ⟨a, len, cap, ss, hcs, _, hl, hm, hz, _, hcell, hws⟩
  · simp only [List.cons.injEq, and_true] at hcs
    subst hcs
    exact ⟨[], Row1.nil _ _, fun s hs => by cases hs⟩
  · simp only [List.cons.injEq, and_true] at hcs
    subst hcs
    exact ⟨ss.take len, row_of_cells Value.string ByteArray.empty a len cap ss hl hm (by simpa using hz) hcell, fun s hs => hws s (List.mem_of_mem_take hs)⟩

theorem open_strs {t e : TypeId} {v : Value} {d : DataW H} {p : List MemPlace} (ht : P.underlying t = some (.slice e)) (he : P.underlying e = some .string) (hc : P.cellsOf e = 1)
    (hv : Value.okWide P w r b0 t v) (h : DataW.Trod enc P w 0 (fun _ => true) true t v d p) : ∃ xs : List ByteArray, Row1 w w.heap.size v (xs.map .string) ∧ ∀ s ∈ xs, s.size ≤ maxLen := by
  obtain ⟨a, n, c, rfl⟩ := okWide_slice ht hv
  obtain ⟨fuel, hf⟩ := h
  exact open_strs_cells ht he hc (by simpa [Value.cells] using hf)

theorem open_intsl {t e : TypeId} {k : IntKind} {v : Value} {d : DataW H} {p : List MemPlace} (ht : P.underlying t = some (.slice e)) (he : P.underlying e = some (.int k)) (hc : P.cellsOf e = 1)
    (hv : Value.okWide P w r b0 t v) (h : DataW.Trod enc P w 0 (fun _ => true) true t v d p) : ∃ xs : List Int, Row1 w w.heap.size v (xs.map (.int k)) ∧ ∀ n ∈ xs, (Lit.int k n).wf = true := by
  obtain ⟨a, n, c, rfl⟩ := okWide_slice ht hv
  obtain ⟨fuel, hf⟩ := h
  rcases open_ints ht he hc (by simpa [Value.cells] using hf) with ⟨hcs, _⟩ | ⟨a, len, cap, ss, hcs, _, hl, hm, hz, _, hcell, hws⟩
  · simp only [List.cons.injEq, and_true] at hcs
    rw [hcs]
    exact ⟨[], Row1.nil _ _, fun s hs => by cases hs⟩
  · simp only [List.cons.injEq, and_true] at hcs
    rw [hcs]
    exact ⟨ss.take len, row_of_cells (Value.int k) 0 a len cap ss hl hm (by simpa using hz) hcell, fun s hs => hws s (List.mem_of_mem_take hs)⟩

theorem open_subst {t e : TypeId} {f0 : Field} {v : Value} {d : DataW H} {p : List MemPlace} (hs : P.underlying t = some (.struct #[f0])) (h0 : f0.offset = 0) (hf : P.underlying f0.type = some (.slice e)) (he : P.underlying e = some .string) (hc : P.cellsOf e = 1)
    (hcf : P.cellsOf f0.type = 1) (hct : P.cellsOf t = 1) (hv : Value.okWide P w r b0 t v) (h : DataW.Trod enc P w 0 (fun _ => true) true t v d p) :
    ∃ (va : Value) (xs : List ByteArray), v = .agg #[va] ∧ Row1 w w.heap.size va (xs.map .string) ∧ ∀ s ∈ xs, s.size ≤ maxLen := by
  obtain ⟨cs, rfl, hsz⟩ := okWide_struct hs hv
  rw [hct] at hsz
  obtain ⟨va, rfl⟩ : ∃ va, cs = #[va] := Array.size_eq_one_iff.1 hsz
  obtain ⟨fuel, hf'⟩ := h
  obtain ⟨y0, n, _, _, hy⟩ := trod_struct1 hs hf'
  rw [h0, hcf] at hy
  obtain ⟨xs, h1, h2⟩ := open_strs_cells hf he hc (v := va) (by simpa [Value.cells] using hy)
  exact ⟨va, xs, rfl, h1, h2⟩
end
end Go.Proofs.Ytciiokegifgbdaa
/- Over any program: an argument that is a slice of slices of integers, opened as rows; a store of a row into rows that the call has made. Conditions: none beyond the hypotheses of each lemma. -/
namespace Go.Proofs.Ytciiokegifgbdaa
open Go.ChangeShapes Go.WideShapes Go.ChangeAt Go.RowKit

section
variable {H : Type} {enc : TypeId × Value → H} {P : Program} {w : World} {r : Reach} {b0 : Nat}
theorem open_rows {t e q : TypeId} {v : Value} {d : DataW H} {p : List MemPlace} (ht : P.underlying t = some (.slice e)) (he : P.underlying e = some (.slice q)) (hq : P.underlying q = some (.int .i64)) (ce : P.cellsOf e = 1) (cq : P.cellsOf q = 1)
    (hv : Value.okWide P w r b0 t v) (h : DataW.Trod enc P w 0 (fun _ => true) true t v d p) : ∃ xss : List (List Int), Row2 w w.heap.size v xss ∧ ∀ x ∈ xss, ∀ n ∈ x, (Lit.int .i64 n).wf = true := by
  obtain ⟨a, n, c, rfl⟩ := okWide_slice ht hv
  obtain ⟨fuel, hf⟩ := h
  rcases Go.Deep.open_int_rows ht he hq ce cq (by simpa [Value.cells] using hf) with ⟨hcs, _⟩ | ⟨a, len, cap, A, L, C, Z, hcs, _, hl, hm, _, hr⟩
  · simp only [List.cons.injEq, and_true] at hcs
    rw [hcs]
    exact ⟨[], Row2.nil _ _, fun x hx => by cases hx⟩
  · simp only [List.cons.injEq, and_true] at hcs
    rw [hcs]
    have h1 := row_of_cells (w := w) id undef a len cap ((List.range cap).map fun j => Value.slice (A j) (L j) (C j)) hl hm (by simp) (by
      intro i hi
      have hic : i < cap := by simpa using hi
      rw [(hr i hic).1]
      simp [List.getD, hic])
    rw [List.map_id] at h1
    have hlen : (((List.range cap).map fun j => Value.slice (A j) (L j) (C j)).take len).length = len := by simp; omega
    refine ⟨(List.range len).map fun j => (Z j).take (L j), ⟨_, by rw [hlen]; simp, h1, fun k hk hx => ?_⟩, ?_⟩
    · rw [hlen] at hk
      obtain ⟨_, h2, h3, h4, h5, h6, h7⟩ := hr k (by omega)
      have e1 : (((List.range cap).map fun j => Value.slice (A j) (L j) (C j)).take len)[k]'(by rw [hlen]; exact hk) = .slice (A k) (L k) (C k) := by simp
      have e2 : ((List.range len).map fun j => (Z j).take (L j))[k]'hx = (Z k).take (L k) := by simp
      rw [e1, e2]
      cases hA : A k with
      | none =>
        have hc0 := h6 hA
        have hl0 : L k = 0 := by omega
        rw [hl0, hc0]
        exact Row1.nil _ _
      | some a' => exact row_of_cells (Value.int .i64) 0 a' (L k) (C k) (Z k) h2 h3 h4 (fun i hi => (h7 a' hA).2 i (by omega))
    · intro x hx n hn
      obtain ⟨j, hj, rfl⟩ := List.mem_map.1 hx
      exact (hr j (by have := List.mem_range.1 hj; omega)).2.2.2.2.1 n (List.mem_of_mem_take hn)
end

section
variable {E2 E1 : TypeId} {w0 w1 w' : World} {base : Nat} {v : Value} {vs : List Value} {xss : List (List Int)}
/-- rows of nil -/
theorem OwnV.nils {n : Nat} (h : w0.ownsRow base E2 1 v n (List.replicate n (.slice none 0 0))) : OwnV E2 E1 w0 base v (List.replicate n (.slice none 0 0)) (List.replicate n []) := by
  refine ⟨by simp, by simpa using h, fun k hk hx => ?_, fun i j hi hj _ g hg => ?_⟩
  · simp only [List.getElem_replicate]
    exact ⟨rfl, .inl ⟨rfl, rfl⟩⟩
  · simp only [List.getElem_replicate, Value.ownBlock] at hg; cases hg
/-- behind a store of a row that is younger than all the others -/
theorem OwnV.store {k : Nat} {u : Value} {ys : List Int} (hE : E1 ≠ E2) (h : OwnV E2 E1 w0 base v vs xss) (hB : base ≤ w0.heap.size) (h01 : Below w0.heap.size w0 w1) (hu : w1.ownsRow w0.heap.size E1 1 u ys.length (ints ys))
    (_ : k < vs.length) (hown : w'.ownsRow base E2 1 v xss.length (vs.set k u)) (hg : w1.grownBy w' v.ownBlock) : OwnV E2 E1 w' base v (vs.set k u) (xss.set k ys) := by
  have h1 := h.below h01
  have hlen := h.len
  have hu' : w'.ownsRow base E1 1 u ys.length (ints ys) := (own_base hu hB).kept hg (own_types hE hu h1.own)
  have hold : ∀ (j : Nat) (hj : j < vs.length) (g : Nat), vs[j].ownBlock = some g → g < w0.heap.size := fun j hj g hgj => (own_lt (h.row j hj (by omega)) hgj).2
  refine ⟨by simp [hlen], by rw [List.length_set]; exact hown, fun j hj hx => ?_, fun i j hi hj hij g hgi hgj => ?_⟩
  · rw [List.length_set] at hj hx
    by_cases e : k = j
    · subst e
      rw [List.getElem_set_self, List.getElem_set_self]
      exact hu'
    · rw [List.getElem_set_ne e, List.getElem_set_ne e]
      exact (h1.row j hj hx).kept hg (own_types hE (h1.row j hj hx) h1.own)
  · rw [List.length_set] at hi hj
    by_cases e1 : k = i
    · subst e1
      rw [List.getElem_set_self] at hgi
      rw [List.getElem_set_ne hij] at hgj
      have := (own_lt hu hgi).1
      have := hold j hj g hgj
      omega
    · rw [List.getElem_set_ne e1] at hgi
      by_cases e2 : k = j
      · subst e2
        rw [List.getElem_set_self] at hgj
        have := (own_lt hu hgj).1
        have := hold i hi g hgi
        omega
      · rw [List.getElem_set_ne e2] at hgj
        exact h.apart i j hi hj hij g hgi hgj
end
/-- a row, out of rows -/
theorem Row2.atRow {w : World} {B : Nat} {v : Value} {xss : List (List Int)} (h : Row2 w B v xss) (k : Nat) (hk : k < xss.length) : ∃ b o c u, v = .slice (some ⟨b, o, none⟩) xss.length c ∧ w.cell? ⟨b, o + k, none⟩ = some u ∧ Row1 w B u (ints xss[k]) := by
  obtain ⟨b, o, c, e, _, hu⟩ := h.openAt (by omega)
  obtain ⟨u, hu⟩ := hu k hk
  exact ⟨b, o, c, u, e, hu w (fun _ _ => rfl)⟩
theorem Row1.intAt {w : World} {B : Nat} {u : Value} {xs : List Int} (h : Row1 w B u (ints xs)) : ∃ A c, u = .slice A xs.length c ∧ ∀ (k : Nat) (hk : k < xs.length), ∃ b o, A = some ⟨b, o, none⟩ ∧ w.cell? ⟨b, o + k, none⟩ = some (.int .i64 xs[k]) := by
  obtain ⟨A, c, e, _, _, hA⟩ := h
  rw [ints_len] at e
  refine ⟨A, c, e, fun k hk => ?_⟩
  obtain ⟨b, o, rfl, _, hcell⟩ := hA (by intro h0; have := congrArg List.length h0; rw [ints_len] at this; simp at this; subst this; simp at hk)
  exact ⟨b, o, rfl, hcell k _ (map_get (Value.int .i64) xs k hk)⟩
end Go.Proofs.Ytciiokegifgbdaa
/- Walks: the laws' own helpers that measure and copy slices of slices of integers. -/
namespace Go.Proofs.Ytciiokegifgbdaa
open Go.RowKit
set_option maxRecDepth 20000

theorem info_intM : (Try.prog.info? 3).map (fun i => (i.zero, i.size, i.bytes)) = some (some (.int .i64 0), 1, 8) := by kernel_rfl
theorem info_rowM : (Try.prog.info? 37).map (fun i => (i.zero, i.size, i.bytes)) = some (some (.slice none 0 0), 1, 24) := by kernel_rfl
/-- what szIntSS returns -/
def szM (xss : List (List Int)) (L : Int) : Int := if (xss.length + totL xss : Int) ≤ L then L - (xss.length + totL xss) else -1
theorem szM_nonneg {xss : List (List Int)} {L : Int} (h : 0 ≤ szM xss L) : (xss.length + totL xss : Int) ≤ L := by
  unfold szM at h; split at h <;> omega
theorem szM_le (xss : List (List Int)) (L : Int) : szM xss L ≤ L ∨ szM xss L = -1 := by unfold szM; split <;> omega
set_option maxHeartbeats 400000 in
theorem szIntS_any (n : Nat) (A : Option Addr) (c : Nat) (L : Int) (w : World) (hn : n ≤ 9223372036854775807) (L0 : 0 ≤ L) (L1 : L ≤ 1048576) :
    Calls Try.prog 28 #[.slice A n c, .int .i64 L] w fun e w' => e = .returned (.int .i64 (if (n : Int) ≤ L then L - n else -1)) ∧ w' = w := by
  by_cases h : (n : Int) ≤ L
  · rw [if_pos h]
    have h2 : 0 ≤ L - (n : Int) := by omega
    go_enter Try.func28, Try.ntmps28
    go_wp2_with fail
    go_ret
    exact ⟨rfl, rfl⟩
  · rw [if_neg h]
    go_enter Try.func28, Try.ntmps28
    go_wp2_with fail
    go_ret
    exact ⟨rfl, rfl⟩
set_option maxHeartbeats 1000000 in
theorem szIntSS_any (xss : List (List Int)) (va : Value) (L : Int) (w : World) (B : Nat) (ha : Row2 w B va xss) (L0 : 0 ≤ L) (L1 : L ≤ 1048576) :
    Calls Try.prog 7 #[va, .int .i64 L] w fun e w' => e = .returned (.int .i64 (szM xss L)) ∧ w' = w := by
  have hl := ha.len
  obtain ⟨A, c, rfl, hc⟩ := ha.shape
  have HA := Lib.hid ha; clear ha
  by_cases hbig : L < xss.length
  · have HR := Lib.hid (show szM xss L = -1 by unfold szM; rw [if_neg (by omega)])
    go_enter Try.func7, Try.ntmps7
    go_wp2_with fail
    go_ret
    exact ⟨ret_int HR.out.symm, rfl⟩
  · go_enter Try.func7, Try.ntmps7
    go_wp2_with fail
    go_loop [1, 5] (fun l i => ∃ k : Nat, k ≤ xss.length ∧ i = .int .i64 k ∧ (totL (xss.take k) : Int) ≤ L - xss.length ∧ l = .int .i64 (L - xss.length - totL (xss.take k))) (fun _ i => xss.length - (intOf i).toNat)
    case atStart => exact ⟨0, Nat.zero_le _, rfl, by simp [totL]; omega, by simp [totL]⟩
    case round =>
      obtain ⟨k, hk, rfl, hle, rfl⟩ := hrel
      by_cases hlt : k < xss.length
      · obtain ⟨b, o, c', u, he, hu, hrow⟩ := HA.out.atRow k hlt
        cases he
        obtain ⟨A', c2, rfl, _⟩ := hrow.intAt
        have hrl := hrow.len
        rw [ints_len] at hrl
        have HT := Lib.hid (totL_take xss k hlt)
        have htl := totL_le xss (k + 1)
        rw [HT.out] at htl
        obtain ⟨n, hn⟩ : ∃ n, n = xss[k].length := ⟨_, rfl⟩
        rw [← hn] at hu hrl HT htl
        obtain ⟨d, hd⟩ : ∃ d, d = totL (xss.take k) := ⟨_, rfl⟩
        rw [← hd] at HT htl hle ⊢
        have HC := Lib.hid (szIntS_any n A' c2 (L - xss.length - d) w hrl (by omega) (by omega))
        clear hrow hn hd
        by_cases hx : (n : Int) ≤ L - xss.length - d
        · rw [if_pos hx] at HC
          have h2 : 0 ≤ L - (xss.length : Int) - (d : Int) - (n : Int) := by omega
          go_wp2_with (go_at_call 28; refine HC.out.mono ?_; rintro e w' ⟨rfl, rfl⟩)
          go_round
          case rel => exact ⟨k + 1, by omega, by go_num, by rw [HT.out]; omega, by rw [HT.out]; congr 1; omega⟩
          case measure => simp [intOf]; omega
        · rw [if_neg hx] at HC
          have HR := Lib.hid (show szM xss L = -1 by unfold szM; rw [if_neg (by omega)])
          go_wp2_with (go_at_call 28; refine HC.out.mono ?_; rintro e w' ⟨rfl, rfl⟩)
          go_ret
          exact ⟨ret_int HR.out.symm, rfl⟩
      · have e : xss.take k = xss := List.take_of_length_le (by omega)
        rw [e] at hle ⊢
        have HR := Lib.hid (show szM xss L = L - (xss.length + totL xss) by unfold szM; rw [if_pos (by omega)])
        go_wp2
        go_ret
        exact ⟨ret_int (by rw [HR.out]; omega), rfl⟩
theorem zfM_get (xs : List Int) (k : Nat) (h : k < xs.length) : (ints (xs.take k ++ List.replicate (xs.length - k) 0))[k]? = some (.int .i64 0) := by
  have hl : (xs.take k).length = k := by simp; omega
  rw [List.getElem?_map, List.getElem?_append_right (by omega), hl, Nat.sub_self, List.getElem?_replicate, if_pos (by omega)]; rfl
theorem zfM_set (xs : List Int) (k : Nat) (h : k < xs.length) : (ints (xs.take k ++ List.replicate (xs.length - k) 0)).set k (.int .i64 xs[k]) = ints (xs.take (k + 1) ++ List.replicate (xs.length - (k + 1)) 0) := by
  have hl : (xs.take k).length = k := by simp; omega
  unfold ints
  rw [← List.map_set, List.set_append_right _ _ (by omega), hl, Nat.sub_self, List.take_succ_eq_append_getElem h, show xs.length - k = (xs.length - (k + 1)) + 1 by omega, List.replicate_succ, List.set_cons_zero, List.append_assoc]
  rfl
set_option maxHeartbeats 400000 in
theorem toIntSM_any (xs : List Int) (va : Value) (w : World) (ha : Row1 w w.heap.size va (ints xs)) (hx : xs.length ≤ 1048576) :
    Calls Try.prog 30 #[va] w fun e w' => ∃ g, e = .returned (.slice (some ⟨g, 0, none⟩) xs.length xs.length) ∧ w'.ownsRow w.heap.size 3 1 (.slice (some ⟨g, 0, none⟩) xs.length xs.length) xs.length (ints xs) ∧ Below w.heap.size w w' := by
  obtain ⟨A, c, rfl, hc, hm, hA⟩ := ha
  rw [ints_len] at hc ⊢
  obtain ⟨i0, hi, hz0, hz1, hz2⟩ := info_parts info_intM
  rcases Nat.eq_zero_or_pos xs.length with h0 | h0
  · have hx0 : xs = [] := List.eq_nil_of_length_eq_zero h0
    subst hx0
    clear hA
    go_enter Try.func30, Try.ntmps30
    go_wp2_with (at_make; refine wpList_make_full _ rfl _ _ 37 rfl w.heap.size 3 i0 _ 1 Try.underlying37 hi hz0 hz1 _ _ _ _ 0 rfl rfl rfl rfl (by omega) (by unfold maxLen; omega) (Nat.le_refl _) ?_)
    intro w1 hown hgrow
    have hbel := (Below.refl w.heap.size w).grown hgrow (Nat.le_refl _) (fun k hk => by cases hk)
    go_wp2_with fail
    refine wp_loop_rounds 1 ?_
    rw [rounds_succ]
    go_wp2
    go_ret
    exact ⟨_, rfl, by simpa [toList_madeCells_one, ints] using hown, hbel⟩
  · have hne : ints xs ≠ [] := by
      intro h
      have h2 : xs.length = 0 := by have := congrArg List.length h; rw [ints_len] at this; exact this
      omega
    obtain ⟨b, o, rfl, hbB, hcell⟩ := hA hne
    have HC := Lib.hid hcell; clear hcell hA hne
    go_enter Try.func30, Try.ntmps30
    go_wp2_with (at_make; refine wpList_make_full _ rfl _ _ 37 rfl w.heap.size 3 i0 _ 1 Try.underlying37 hi hz0 hz1 _ _ _ _ xs.length rfl rfl rfl rfl (by rw [hz2]; omega) (by unfold maxLen; omega) (Nat.le_refl _) ?_)
    intro w1 hown hgrow
    have hbel := (Below.refl w.heap.size w).grown hgrow (Nat.le_refl _) (fun k hk => by cases hk)
    rw [toList_madeCells_one] at hown
    clear hgrow hz0 hz1 hz2 hi
    go_wp2_with fail
    go_loopw [4] (fun i wr => ∃ k : Nat, k ≤ xs.length ∧ i = .int .i64 k ∧ wr.ownsRow w.heap.size 3 1 (.slice (some ⟨w.heap.size, 0, none⟩) xs.length xs.length) xs.length (ints (xs.take k ++ List.replicate (xs.length - k) 0)) ∧ Below w.heap.size w wr) (fun i _ => xs.length - (intOf i).toNat)
    case atStart => exact ⟨0, Nat.zero_le _, rfl, by simpa [ints] using hown, hbel⟩
    case round =>
      clear hown hbel
      obtain ⟨k, hk, rfl, hown, hbel⟩ := hrel
      by_cases hlt : k < xs.length
      · have g1 := (hbel.cell (p := ⟨b, o + k, none⟩) hbB).trans (HC.out k _ (map_get (Value.int .i64) xs k hlt))
        have g2 := hown.cellAt k (by omega)
        rw [zfM_get xs k hlt] at g2
        have g3 := hown.frozenAt k
        have H := Lib.hid hown; have HB := Lib.hid hbel; clear hown hbel
        go_wp2
        go_roundw
        case rel =>
          refine ⟨k + 1, by omega, by go_num, ?_, HB.out.setCell (Nat.le_refl _) _⟩
          have h2 := (H.out.stored k (.int .i64 xs[k])).1
          rw [zfM_set xs k hlt] at h2
          exact h2
        case measure => simp [intOf]; omega
      · have e : xs.take k = xs := List.take_of_length_le (by omega)
        rw [e, show xs.length - k = 0 by omega] at hown
        go_wp2
        go_ret
        exact ⟨_, rfl, by simpa using hown, hbel⟩
theorem rf_len (xss : List (List Int)) (k : Nat) (h : k ≤ xss.length) : (xss.take k ++ List.replicate (xss.length - k) ([] : List Int)).length = xss.length := by simp; omega
theorem rf_set (xss : List (List Int)) (k : Nat) (h : k < xss.length) : (xss.take k ++ List.replicate (xss.length - k) ([] : List Int)).set k xss[k] = xss.take (k + 1) ++ List.replicate (xss.length - (k + 1)) [] := by
  have hl : (xss.take k).length = k := by simp; omega
  rw [List.set_append_right _ _ (by omega), hl, Nat.sub_self, List.take_succ_eq_append_getElem h, show xss.length - k = (xss.length - (k + 1)) + 1 by omega, List.replicate_succ, List.set_cons_zero, List.append_assoc]
  rfl
set_option maxHeartbeats 1000000 in
theorem toIntSS_any (xss : List (List Int)) (va : Value) (w : World) (ha : Row2 w w.heap.size va xss) (hx : xss.length ≤ 1048576) (ht : totL xss ≤ 1048576) :
    Calls Try.prog 9 #[va] w fun e w' => ∃ g, e = .returned (.slice (some ⟨g, 0, none⟩) xss.length xss.length) ∧ OwnG w' w.heap.size w'.heap.size (.slice (some ⟨g, 0, none⟩) xss.length xss.length) xss ∧ Below w.heap.size w w' := by
  obtain ⟨i1, hi, hz0, hz1, hz2⟩ := info_parts info_rowM
  have HI := Lib.hid hi; have HZ0 := Lib.hid hz0; have HZ1 := Lib.hid hz1; have HZ2 := Lib.hid hz2
  clear hi hz0 hz1 hz2
  obtain ⟨A, c, rfl, hc⟩ := ha.shape
  have HA := Lib.hid ha; clear ha
  go_enter Try.func9, Try.ntmps9
  go_wp2_with (at_make; refine wpList_make_full _ rfl _ _ 22 rfl w.heap.size 37 i1 _ 1 Try.underlying22 HI.out HZ0.out HZ1.out _ _ _ _ xss.length rfl rfl rfl rfl (by rw [HZ2.out]; omega) (by unfold maxLen; omega) (Nat.le_refl _) ?_)
  intro w1 hown hgrow
  have hbel := (Below.refl w.heap.size w).grown hgrow (Nat.le_refl _) (fun k hk => by cases hk)
  rw [toList_madeCells_one] at hown
  have HV1 := Lib.hid (OwnV.nils (E1 := 3) hown)
  have HB1 := Lib.hid hbel
  clear hgrow hbel hown
  go_wp2_with fail
  go_loopw [4] (fun i wr => ∃ (k : Nat) (vs : List Value), k ≤ xss.length ∧ i = .int .i64 k ∧ OwnV 37 3 wr w.heap.size (.slice (some ⟨w.heap.size, 0, none⟩) xss.length xss.length) vs (xss.take k ++ List.replicate (xss.length - k) []) ∧ Below w.heap.size w wr) (fun i _ => xss.length - (intOf i).toNat)
  case atStart => exact ⟨0, _, Nat.zero_le _, rfl, by simpa using HV1.out, HB1.out⟩
  case round =>
    clear HV1 HB1
    obtain ⟨wo, rfl⟩ : ∃ wo, wo = wr := ⟨_, rfl⟩
    obtain ⟨k, vs, hk, rfl, hov, hb⟩ := hrel
    have HV := Lib.hid hov; have HB := Lib.hid hb
    have HLN := Lib.hid (rf_len xss k hk)
    have hvl : vs.length = xss.length := by rw [hov.len]; exact HLN.out
    clear hov hb
    by_cases hlt : k < xss.length
    · obtain ⟨b, o, c', he, _, hrow⟩ := HA.out.openAt (by omega)
      cases he
      obtain ⟨u, hu⟩ := hrow k hlt
      obtain ⟨g1, hr1⟩ := hu wo (fun p hp => HB.out.cell hp)
      have htk := totL_step xss k hlt
      have HC := Lib.hid (toIntSM_any xss[k] u wo (hr1.mono HB.out.size) (by omega))
      have HST := Lib.hid (rf_set xss k hlt)
      obtain ⟨x, hx⟩ : ∃ x, x = xss[k] := ⟨_, rfl⟩
      rw [← hx] at HC HST
      clear hrow hu hr1 htk hx
      go_wp2_with fail
      refine HC.out.mono ?_
      rintro e w3 ⟨g3, rfl, ho3, hb3⟩
      have HV3 := Lib.hid (HV.out.below hb3)
      have HO3 := Lib.hid ho3; have HB3 := Lib.hid hb3
      have hvo := HV3.out.own
      rw [HLN.out] at hvo
      have g4 := hvo.cellAt k (by omega)
      rw [List.getElem?_eq_getElem (by omega)] at g4
      have g5 := hvo.frozenAt k
      have h6 := hvo.stored k (.slice (some ⟨g3, 0, none⟩) x.length x.length)
      have H6 := Lib.hid h6
      obtain ⟨v0, hv0⟩ : ∃ v0, v0 = vs[k]'(by omega) := ⟨_, rfl⟩
      rw [← hv0] at g4
      clear ho3 hb3 h6 g1 hv0 hvo
      go_wp2
      go_roundw
      case rel =>
        have hv := HV.out.store (k := k) types_apart HB.out.size HB3.out HO3.out (by omega) (by rw [HLN.out]; exact H6.out.1) H6.out.2
        rw [HST.out] at hv
        exact ⟨k + 1, _, by omega, by go_num, hv, since_grown (bthen HB.out HB3.out) H6.out.2 (fun g hg => by simp at hg; omega)⟩
      case measure => simp [intOf]; omega
    · obtain rfl : k = xss.length := by omega
      have HE := Lib.hid (show xss.take xss.length ++ List.replicate (xss.length - xss.length) ([] : List Int) = xss by simp)
      rw [HE.out] at HV
      go_wp2
      go_ret
      exact ⟨_, rfl, HV.out.own2, HB.out⟩
end Go.Proofs.Ytciiokegifgbdaa
/- Plain mathematics: signs of products of matrices; primitive matrices. Conditions: none beyond the hypotheses of each lemma. -/
namespace Go.Proofs.Ytciiokegifgbdaa
open Go.RowKit

def fullR (r : List Int) : Bool := r.all fun x => decide (0 < x)
def fullB (a : List (List Int)) : Bool := a.all fullR
def hitB (row : List Int) (b : List (List Int)) (k j : Nat) : Bool := decide (0 < row.getD j 0) && decide (0 < (b.getD j []).getD k 0)
def sgnTo (row : List Int) (b : List (List Int)) (k j : Nat) : Int := if (List.range j).any (hitB row b k) = true then 1 else 0
def sgnRow (row : List Int) (b : List (List Int)) : List Int := (List.range b.length).map fun k => sgnTo row b k row.length
def signs (a b : List (List Int)) : List (List Int) := a.map fun row => sgnRow row b
theorem sgn_zero (row : List Int) (b : List (List Int)) (k : Nat) : sgnTo row b k 0 = 0 := by simp [sgnTo]
theorem sgn_hit {row : List Int} {b : List (List Int)} {k j : Nat} (h1 : 0 < row.getD j 0) (h2 : 0 < (b.getD j []).getD k 0) : sgnTo row b k (j + 1) = 1 := by
  unfold sgnTo
  rw [List.range_succ, List.any_append]
  have : hitB row b k j = true := by unfold hitB; rw [decide_eq_true h1, decide_eq_true h2]; rfl
  simp [this]
theorem sgn_miss {row : List Int} {b : List (List Int)} {k j : Nat} (h : ¬ (0 < row.getD j 0 ∧ 0 < (b.getD j []).getD k 0)) : sgnTo row b k (j + 1) = sgnTo row b k j := by
  unfold sgnTo
  rw [List.range_succ, List.any_append]
  have : hitB row b k j = false := by
    unfold hitB
    rw [Bool.and_eq_false_iff, decide_eq_false_iff_not, decide_eq_false_iff_not]
    exact Decidable.not_and_iff_or_not.1 h
  simp [this]
theorem sgnRow_len (row : List Int) (b : List (List Int)) : (sgnRow row b).length = b.length := by simp [sgnRow]
theorem signs_len (a b : List (List Int)) : (signs a b).length = a.length := List.length_map _
theorem signs_rows (a b : List (List Int)) : ∀ r ∈ signs a b, r.length = b.length := by
  intro r hr
  obtain ⟨s, _, rfl⟩ := List.mem_map.1 hr
  exact sgnRow_len s b
theorem sgnRow_take {row : List Int} {b : List (List Int)} {q : Nat} (h : q < b.length) : ints ((sgnRow row b).take (q + 1)) = ints ((sgnRow row b).take q) ++ [.int .i64 (sgnTo row b q row.length)] := by
  rw [List.take_succ_eq_append_getElem (by rw [sgnRow_len]; exact h)]
  simp [ints, sgnRow]
theorem signs_take {a b : List (List Int)} {k : Nat} (h : k < a.length) : (signs a b).take (k + 1) = (signs a b).take k ++ [sgnRow a[k] b] := by
  rw [List.take_succ_eq_append_getElem (by rw [signs_len]; exact h)]
  simp [signs]
/-- a row while the letters up to j are looked at, those below q at j + 1 -/
def sgnPart (row : List Int) (b : List (List Int)) (j q : Nat) : List Int := (List.range b.length).map fun k => if k < q then sgnTo row b k (j + 1) else sgnTo row b k j
theorem sgnPart_len (row : List Int) (b : List (List Int)) (j q : Nat) : (sgnPart row b j q).length = b.length := by simp [sgnPart]
theorem sgnPart_set {row : List Int} {b : List (List Int)} {j q : Nat} : (sgnPart row b j q).set q (sgnTo row b q (j + 1)) = sgnPart row b j (q + 1) := by
  apply List.ext_getElem
  · simp [sgnPart]
  · intro n h1 h2
    rw [List.getElem_set]
    simp only [sgnPart, List.getElem_map, List.getElem_range]
    by_cases e : q = n
    · subst e; simp
    · rw [if_neg e]
      by_cases h3 : n < q
      · rw [if_pos h3, if_pos (by omega)]
      · rw [if_neg h3, if_neg (by omega)]
theorem sgnPart_same {row : List Int} {b : List (List Int)} {j q : Nat} (h : sgnTo row b q (j + 1) = sgnTo row b q j) : sgnPart row b j (q + 1) = sgnPart row b j q := by
  unfold sgnPart
  apply List.map_congr_left
  intro n _
  by_cases e : n = q
  · subst e; simp [h]
  · by_cases h3 : n < q
    · rw [if_pos h3, if_pos (by omega)]
    · rw [if_neg h3, if_neg (by omega)]
theorem sgnPart_end (row : List Int) (b : List (List Int)) (j : Nat) : sgnPart row b j b.length = sgnPart row b (j + 1) 0 := by
  unfold sgnPart
  apply List.map_congr_left
  intro n hn
  rw [if_pos (List.mem_range.1 hn), if_neg (by omega)]
theorem sgnPart_zero (row : List Int) (b : List (List Int)) : sgnPart row b 0 0 = List.replicate b.length 0 := by
  unfold sgnPart
  apply List.ext_getElem
  · simp
  · intro n _ _; simp [sgn_zero]
theorem sgnPart_all (row : List Int) (b : List (List Int)) : sgnPart row b row.length 0 = sgnRow row b := by
  unfold sgnPart sgnRow
  apply List.map_congr_left
  intro n _; simp
theorem sgnPart_get {row : List Int} {b : List (List Int)} {j q n : Nat} (h : n < b.length) : ∃ z, (ints (sgnPart row b j q))[n]? = some (.int .i64 z) :=
  ⟨_, by rw [List.getElem?_map, List.getElem?_eq_getElem (by rw [sgnPart_len]; exact h)]; rfl⟩
/-- within n more powers all entries are positive -/
def primGo (m : List (List Int)) : Nat → List (List Int) → Bool
  | 0, _ => false
  | n + 1, a => if fullB a = true then true else primGo m n (signs a m)
theorem prim_yes {m a : List (List Int)} {n : Nat} (h : fullB a = true) : primGo m (n + 1) a = true := by rw [primGo, if_pos h]
theorem prim_no {m a : List (List Int)} {n : Nat} (h : fullB a = false) : primGo m (n + 1) a = primGo m n (signs a m) := by rw [primGo, if_neg (by simp [h])]
theorem full_step {a : List (List Int)} {k : Nat} (h : k < a.length) : fullB (a.take (k + 1)) = (fullB (a.take k) && fullR a[k]) := by
  unfold fullB; rw [List.take_succ_eq_append_getElem h, List.all_append]; simp
theorem fullR_step {r : List Int} {j : Nat} (h : j < r.length) : fullR (r.take (j + 1)) = (fullR (r.take j) && decide (0 < r.getD j 0)) := by
  unfold fullR; rw [List.take_succ_eq_append_getElem h, List.all_append, List.getD_eq_getElem?_getD, List.getElem?_eq_getElem h]; simp
/-- rows of one length, opened -/
theorem Row2.open2 {w : World} {B : Nat} {v : Value} {xss : List (List Int)} {N : Nat} (h : Row2 w B v xss) (hn : 0 < xss.length) (hN : 0 < N) (hr : ∀ r ∈ xss, r.length = N) :
    ∃ b o c, v = .slice (some ⟨b, o, none⟩) xss.length c ∧ b < B ∧ xss.length ≤ c ∧ ∀ (k : Nat) (hk : k < xss.length), ∃ b' o' c', b' < B ∧ N ≤ c' ∧ w.cell? ⟨b, o + k, none⟩ = some (.slice (some ⟨b', o', none⟩) N c') ∧
      ∀ j, j < N → w.cell? ⟨b', o' + j, none⟩ = some (.int .i64 ((xss[k]).getD j 0)) := by
  obtain ⟨vs, hl, ⟨A, c, e, hc, hm, hA⟩, h2⟩ := h
  obtain ⟨b, o, rfl, hb, hcell⟩ := hA (by intro h; subst h; simp at hl; omega)
  refine ⟨b, o, c, by rw [e, hl], hb, by omega, fun k hk => ?_⟩
  obtain ⟨A', c', e', hc', hm', hA'⟩ := h2 k (by omega) hk
  have hrl := hr _ (List.getElem_mem hk)
  rw [ints_len, hrl] at hc' e'
  obtain ⟨b', o', rfl, hb', hcell'⟩ := hA' (by intro h; have := congrArg List.length h; rw [ints_len, hrl] at this; simp at this; omega)
  refine ⟨b', o', c', hb', hc', ?_, fun j hj => ?_⟩
  · rw [hcell k _ (List.getElem?_eq_getElem (by omega)), e']
  · refine hcell' j _ ?_
    rw [List.getElem?_map, List.getElem?_eq_getElem (by rw [hrl]; exact hj), List.getD_eq_getElem?_getD, List.getElem?_eq_getElem (by rw [hrl]; exact hj)]
    rfl
end Go.Proofs.Ytciiokegifgbdaa
