/- Walks: the laws' own helpers on substitutions: measured, copied, compared. -/
import Derived.Test.YtglleimmmfnhcaaSz
namespace Go.Proofs.Ytglleimmmfnhcaa
open Go.RowKit

set_option maxHeartbeats 400000 in
theorem szSubst_any (xs : List ByteArray) (va : Value) (L : Int) (w : World) (ha : Row1 w w.heap.size va (xs.map .string)) (hs : ∀ s ∈ xs, s.size ≤ maxLen) (L0 : 0 ≤ L) (L1 : L ≤ 1048576) :
    Calls Try.prog 13 #[.agg #[va], .int .i64 L] w fun e w' => e = .returned (.int .i64 (szR xs L)) ∧ Below w.heap.size w w' := by
  have h1 := szStringS_any xs va L (w.alloc (.cells #[va] 24)) w.heap.size (ha.alloc (Nat.le_refl _) _) hs L0 L1
  have H1 := Lib.hid h1; clear h1
  by_cases hneg : szR xs L < 0
  · have h2 : szR xs L = -1 := by
      unfold szR at hneg ⊢
      by_cases h : (xs.length + bytesOf xs : Int) ≤ L
      · rw [if_pos h] at hneg; omega
      · rw [if_neg h]
    have H2 := Lib.hid h2; clear h2
    go_enter Try.func13, Try.ntmps13
    go_wp2_with (go_at_call 48; refine H1.out.mono ?_; rintro e w' ⟨rfl, rfl⟩)
    go_ret
    exact ⟨ret_int H2.out.symm, (Below.refl _ _).alloc (Nat.le_refl _) _⟩
  · go_enter Try.func13, Try.ntmps13
    go_wp2_with (go_at_call 48; refine H1.out.mono ?_; rintro e w' ⟨rfl, rfl⟩)
    go_ret
    exact ⟨rfl, (Below.refl _ _).alloc (Nat.le_refl _) _⟩
set_option maxHeartbeats 400000 in
theorem eqSubst_same (xs : List ByteArray) (va vb : Value) (w : World) (ha : Row1 w w.heap.size va (xs.map .string)) (hb : Row1 w w.heap.size vb (xs.map .string)) :
    Calls Try.prog 17 #[.agg #[va], .agg #[vb]] w fun e w' => e = .returned (.bool true) ∧ Below w.heap.size w w' := by
  have h1 := eqStringS_same xs va vb ((w.alloc (.cells #[va] 28)).alloc (.cells #[vb] 28)) w.heap.size ((ha.alloc (Nat.le_refl _) _).alloc (by simp) _) ((hb.alloc (Nat.le_refl _) _).alloc (by simp) _)
  have H1 := Lib.hid h1; clear h1
  go_enter Try.func17, Try.ntmps17
  go_wp2_with (go_at_call 45; refine H1.out.mono ?_; rintro e w' ⟨rfl, n, rfl⟩)
  go_ret
  exact ⟨rfl, below_drewN (((Below.refl _ _).alloc (Nat.le_refl _) _).alloc (by simp) _) _⟩
theorem toSubst_one1 {w w1 : World} {a c : Obj} {T : TypeId} {x : Value} (h : Below ((((w.alloc a).alloc (.cells #[x] T)).alloc c)).heap.size (((w.alloc a).alloc (.cells #[x] T)).alloc c) w1) : One w1 (w.heap.size + 1) T x := by
  have h1 := ((One.new (w.alloc a) T x).alloc c).below h (by simp)
  simpa using h1
theorem toSubst_one2 {w w1 : World} {a b : Obj} {T : TypeId} {x : Value} (h : Below ((((w.alloc a).alloc b).alloc (.cells #[x] T))).heap.size (((w.alloc a).alloc b).alloc (.cells #[x] T)) w1) : One w1 (w.heap.size + 1 + 1) T x := by
  have h1 := (One.new ((w.alloc a).alloc b) T x).below h (by simp)
  simpa using h1
set_option maxHeartbeats 400000 in
theorem toSubst_any (xs : List ByteArray) (va : Value) (w : World) (ha : Row1 w w.heap.size va (xs.map .string)) (hx : xs.length ≤ 1048576) :
    Calls Try.prog 15 #[.agg #[va]] w fun e w' => ∃ g, e = .returned (.agg #[.slice (some ⟨g, 0, none⟩) xs.length xs.length]) ∧ w'.ownsRow w.heap.size 9 1 (.slice (some ⟨g, 0, none⟩) xs.length xs.length) xs.length (xs.map .string) ∧ Below w.heap.size w w' := by
  have h1 := toStringS_any xs va (((w.alloc (.cells #[va] 24)).alloc (.cells #[.slice none 0 0] 28)).alloc (.cells #[.slice none 0 0] 28))
    ((((ha.alloc (Nat.le_refl _) _).alloc (by simp) _).alloc (by simp; omega) _).mono (by simp; omega)) hx
  have H1 := Lib.hid h1; clear h1
  go_enter Try.func15, Try.ntmps15
  go_wp2_with fail
  refine H1.out.mono ?_
  rintro e w1 ⟨rfl, hown, hbel⟩
  have o1 := toSubst_one1 hbel
  have o2 := toSubst_one2 hbel
  have c1 := o1.cell
  have c2 := o2.cell
  have f1 := o1.frozen
  have f2 := o2.frozen
  have O1 := Lib.hid o1; have O2 := Lib.hid o2; have HB := Lib.hid hbel; have HO := Lib.hid hown
  clear o1 o2 hbel hown H1
  go_wp2_with fail
  refine bodyPost_ret (v := .agg #[.slice (some ⟨w.heap.size + 1 + 1 + 1, 0, none⟩) xs.length xs.length]) (by simp [results, Try.results15, go_sem, c1]) rfl ?_
  have HO2 := HO.out
  have HB2 := HB.out
  simp only [World.size_alloc] at HO2 HB2
  refine ⟨_, rfl, ?_, ?_⟩
  · exact own_base (ownsRow_setCell_other (ownsRow_setCell_other HO2 (by simp [Value.ownBlock]; try omega) _) (by simp [Value.ownBlock]; try omega) _) (by omega)
  · exact ((((((Below.refl _ _).alloc (Nat.le_refl _) _).alloc (by simp) _).alloc (by simp; omega) _).trans (HB2.mono (by omega))).setCell (by simp; omega) _).setCell (by simp) _
end Go.Proofs.Ytglleimmmfnhcaa
