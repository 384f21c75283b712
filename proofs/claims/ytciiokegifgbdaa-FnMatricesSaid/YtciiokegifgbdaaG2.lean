/- Walks and plain laws of the functions that a law reaches, several texts in one (part 2). Conditions: none beyond the hypotheses of each lemma. -/
import Derived.Deep.RegionWith
import Derived.Laws.IdiomStrings
import Derived.Laws.MakeOwn
import Derived.Test.YtciiokegifgbdaaShelf
import Derived.WalkKit
import Derived.Test.YtciiokegifgbdaaRows
import Derived.Lib.Strings
import Derived.Test.YtciiokegifgbdaaG1
/- Walks: the laws' own helpers on slices: compared, marked, held. -/
namespace Go.Proofs.Ytciiokegifgbdaa
open Go.RowKit

set_option maxHeartbeats 400000 in
theorem eqIntS_same (xs : List Int) (va vb : Value) (w : World) (B : Nat) (ha : Row1 w B va (xs.map (.int .i64))) (hb : Row1 w B vb (xs.map (.int .i64))) :
    Calls Try.prog 32 #[va, vb] w fun e w' => e = .returned (.bool true) ∧ ∃ n, w' = w.drewN n := by
  have hl := ha.len
  simp only [List.length_map] at hl
  obtain ⟨A, c, rfl, hc, hm, hA⟩ := ha
  obtain ⟨A', c', rfl, hc', hm', hA'⟩ := hb
  simp only [List.length_map] at hc hc' ⊢
  rcases Nat.eq_zero_or_pos xs.length with h0 | h0
  · rw [h0]
    go_enter Try.func32, Try.ntmps32
    go_wp2_with fail
    refine wp_loop_rounds 1 ?_
    rw [rounds_succ]
    go_wp2
    go_ret
    exact ⟨rfl, 0, rfl⟩
  · have hne : xs.map (Value.int .i64) ≠ [] := by intro h; rw [List.map_eq_nil_iff] at h; subst h; simp at h0
    obtain ⟨b, o, rfl, _, hcell⟩ := hA hne
    obtain ⟨b', o', rfl, _, hcell'⟩ := hA' hne
    have HC := Lib.hid hcell; have HC' := Lib.hid hcell'; clear hcell hcell' hA hA' hne
    go_enter Try.func32, Try.ntmps32
    go_wp2_with fail
    go_loopw [5] (fun i wr => ∃ k : Nat, k ≤ xs.length ∧ i = .int .i64 k ∧ ∃ n, wr = w.drewN n) (fun i _ => xs.length - (intOf i).toNat)
    case atStart => exact ⟨0, Nat.zero_le _, rfl, 0, rfl⟩
    case round =>
      obtain ⟨k, hk, rfl, n, rfl⟩ := hrel
      by_cases hlt : k < xs.length
      · have g1 := HC.out k _ (map_get (Value.int .i64) xs k hlt)
        have g2 := HC'.out k _ (map_get (Value.int .i64) xs k hlt)
        go_wp2_with fail
        go_quiet (fail)
        go_wp2
        go_roundw
        case rel => exact ⟨k + 1, by omega, by go_num, _, rfl⟩
        case measure => simp [intOf]; omega
      · go_wp2
        go_ret
        exact ⟨rfl, _, rfl⟩
/-- the marks from k on: n of them -/
def marksI (k : Int) (n : Nat) : List Value := (List.range n).map fun (i : Nat) => .int .i64 (k + (i : Int))
theorem marksI_len (k : Int) (n : Nat) : (marksI k n).length = n := by simp [marksI]
theorem marksI_get (k : Int) (n i : Nat) (h : i < n) : (marksI k n)[i]? = some (.int .i64 (k + i)) := by simp [marksI, h]
theorem marksI_succ (k : Int) (n : Nat) : marksI k (n + 1) = marksI k n ++ [.int .i64 (k + n)] := by simp [marksI, List.range_succ]
theorem marked_get {xs : List Value} {ms : List Value} {k : Nat} (hm : ms.length = k) : (ms ++ xs.drop k)[k]? = xs[k]? := by
  rw [List.getElem?_append_right (by omega), hm, Nat.sub_self, List.getElem?_drop, Nat.add_zero]
theorem marked_set {xs : List Value} {ms : List Value} {k : Nat} (hm : ms.length = k) (h : k < xs.length) (u : Value) : (ms ++ xs.drop k).set k u = (ms ++ [u]) ++ xs.drop (k + 1) := by
  rw [List.set_append_right _ _ (by omega), hm, Nat.sub_self, List.drop_eq_getElem_cons h, List.set_cons_zero, List.append_assoc]
  rfl

set_option maxHeartbeats 400000 in
theorem markIntS_any (base : Nat) (v : Value) (xs : List Value) (k : Int) (w : World) (hown : w.ownsRow base 3 1 v xs.length xs) (hx : ∀ u ∈ xs, ∃ z, u = .int .i64 z) (h0 : 0 ≤ k) (h1 : k + xs.length ≤ 4611686018427387904) :
    Calls Try.prog 35 #[v, .int .i64 k] w fun e w' => e = .returned (.int .i64 (k + xs.length)) ∧ w'.ownsRow base 3 1 v xs.length (marksI k xs.length) ∧ w.grownBy w' v.ownBlock := by
  have hown0 := hown
  rcases hown.2 with ⟨rfl, hn⟩ | ⟨g, cap, cur, rfl, hb, hg, hnc, hcm, hcs, htake⟩
  · obtain rfl : xs = [] := List.eq_nil_of_length_eq_zero hn
    clear hown
    go_enter Try.func35, Try.ntmps35
    go_wp2_with fail
    refine wp_loop_rounds 1 ?_
    rw [rounds_succ]
    go_wp2
    go_ret
    exact ⟨by simp, hown0, World.grownBy.refl _ _⟩
  · clear hown hg htake hcs
    have HX := Lib.hid hx; clear hx
    go_enter Try.func35, Try.ntmps35
    go_wp2_with fail
    go_loopw [1, 5] (fun q i wr => ∃ n : Nat, n ≤ xs.length ∧ i = .int .i64 n ∧ q = .int .i64 (k + n) ∧ wr.ownsRow base 3 1 (.slice (some ⟨g, 0, none⟩) xs.length cap) xs.length (marksI k n ++ xs.drop n) ∧ w.grownBy wr (some g)) (fun _ i _ => xs.length - (intOf i).toNat)
    case atStart => exact ⟨0, Nat.zero_le _, rfl, by simp, hown0, World.grownBy.refl _ _⟩
    case round =>
      clear hown0
      obtain ⟨n, hn, rfl, rfl, ho, hgr⟩ := hrel
      by_cases hlt : n < xs.length
      · obtain ⟨z, hz⟩ := HX.out _ (List.getElem_mem hlt)
        have g2 := ho.cellAt n (by omega)
        rw [marked_get (marksI_len _ _), List.getElem?_eq_getElem hlt, hz] at g2
        have g3 := ho.frozenAt n
        have H := Lib.hid ho; have HG := Lib.hid hgr; clear ho hgr hz
        go_wp2
        go_roundw
        case rel =>
          have h2 := H.out.stored n (.int .i64 (k + n))
          rw [marked_set (marksI_len _ _) hlt, ← marksI_succ] at h2
          exact ⟨n + 1, by omega, by go_num, by go_num, h2.1, ⟨h2.2.os.trans HG.out.os, h2.2.tape.trans HG.out.tape, h2.2.output.trans HG.out.output, Nat.le_trans HG.out.size h2.2.size, fun j hj hne => (h2.2.block j (Nat.lt_of_lt_of_le hj HG.out.size) hne).trans (HG.out.block j hj hne)⟩⟩
        case measure => simp [intOf]; omega
      · obtain rfl : n = xs.length := by omega
        rw [List.drop_length, List.append_nil] at ho
        go_wp2
        go_ret
        exact ⟨rfl, ho, hgr⟩
set_option maxHeartbeats 400000 in
theorem heldIntS_any (n : Nat) (v : Value) (k : Int) (w : World) (B : Nat) (ha : Row1 w B v (marksI k n)) (h0 : 0 ≤ k) (h1 : k + n ≤ 4611686018427387904) :
    Calls Try.prog 36 #[v, .int .i64 k] w fun e w' => e = .returned (.int .i64 (k + n)) ∧ ∃ m, w' = w.drewN m := by
  obtain ⟨A, c, rfl, hc, hm, hA⟩ := ha
  simp only [marksI_len] at hc ⊢
  rcases Nat.eq_zero_or_pos n with rfl | hp
  · clear hA
    go_enter Try.func36, Try.ntmps36
    go_wp2_with fail
    refine wp_loop_rounds 1 ?_
    rw [rounds_succ]
    go_wp2
    go_ret
    exact ⟨by simp, 0, rfl⟩
  · obtain ⟨b, o, rfl, _, hcell⟩ := hA (by intro h; have := congrArg List.length h; rw [marksI_len] at this; simp at this; omega)
    have HC := Lib.hid hcell; clear hcell hA
    go_enter Try.func36, Try.ntmps36
    go_wp2_with fail
    go_loopw [1, 5] (fun q i wr => ∃ j : Nat, j ≤ n ∧ i = .int .i64 j ∧ q = .int .i64 (k + j) ∧ ∃ m, wr = w.drewN m) (fun _ i _ => n - (intOf i).toNat)
    case atStart => exact ⟨0, Nat.zero_le _, rfl, by simp, 0, rfl⟩
    case round =>
      obtain ⟨j, hj, rfl, rfl, m, rfl⟩ := hrel
      by_cases hlt : j < n
      · have g1 := HC.out j _ (marksI_get k n j hlt)
        go_wp2
        go_roundw
        case rel => exact ⟨j + 1, by omega, by go_num, by go_num, _, rfl⟩
        case measure => simp [intOf]; omega
      · obtain rfl : j = n := by omega
        go_wp2
        go_ret
        exact ⟨rfl, _, rfl⟩
theorem grown_below {w a b : World} {row : Option Nat} (h : w.grownBy a row) (hb : Below a.heap.size a b) : w.grownBy b row :=
  ⟨hb.os.trans h.os, hb.tape.trans h.tape, hb.output.trans h.output, Nat.le_trans h.size hb.size, fun j hj hne => (hb.block j (Nat.lt_of_lt_of_le hj h.size)).trans (h.block j hj hne)⟩
theorem grown_trans {w a b : World} {row : Option Nat} (h : w.grownBy a row) (k : a.grownBy b row) : w.grownBy b row :=
  ⟨k.os.trans h.os, k.tape.trans h.tape, k.output.trans h.output, Nat.le_trans h.size k.size, fun j hj hne => (k.block j (Nat.lt_of_lt_of_le hj h.size) hne).trans (h.block j hj hne)⟩

end Go.Proofs.Ytciiokegifgbdaa
/- Walks: the indices at which a word begins in another one; the numbers of the letters. -/
namespace Go.Proofs.Ytciiokegifgbdaa
open Go.RowKit
set_option maxRecDepth 20000

/-- f stands in s at the index i -/
def standsAt (s f : ByteArray) (i : Nat) : Bool := (s.extract i (i + f.size)).toList == f.toList
/-- the indices below k at which f stands -/
def placesL (s f : ByteArray) (k : Nat) : List Int := ((List.range k).filter fun i => standsAt s f i).map fun (i : Nat) => (i : Int)
theorem places_yes {s f : ByteArray} {k : Nat} (h : standsAt s f k = true) : placesL s f (k + 1) = placesL s f k ++ [(k : Int)] := by
  unfold placesL; rw [List.range_succ, List.filter_append]; simp [h]
theorem places_no {s f : ByteArray} {k : Nat} (h : standsAt s f k = false) : placesL s f (k + 1) = placesL s f k := by
  unfold placesL; rw [List.range_succ, List.filter_append]; simp [h]
theorem places_len (s f : ByteArray) (k : Nat) : (placesL s f k).length ≤ k := by
  unfold placesL; rw [List.length_map]; have := List.length_filter_le (fun i => standsAt s f i) (List.range k); simpa using this
/-- what PlacesIn returns -/
def placesR (s f : ByteArray) : List Int := if wordB s.data.toList = true ∧ wordB f.data.toList = true ∧ 0 < f.size then placesL s f (s.size + 1 - f.size) else []
theorem info_int : (Try.prog.info? 3).map (fun i => (i.zero, i.size, i.bytes)) = some (some (.int .i64 0), 1, 8) := by kernel_rfl

theorem empty_of {f : ByteArray} (h : f.size = 0) : f = ⟨#[]⟩ := by
  obtain ⟨⟨l⟩⟩ := f
  match l, h with
  | [], _ => rfl
theorem toList_ne {f : ByteArray} (h : 0 < f.size) : f.toList.isEmpty = false := by
  rw [Lib.toList_data]
  rw [Lib.size_eq] at h
  cases hl : f.data.toList with
  | nil => rw [hl] at h; simp at h
  | cons a l => rfl
theorem places_out {s f : ByteArray} (h : ¬ (wordB s.data.toList = true ∧ wordB f.data.toList = true ∧ 0 < f.size)) : placesR s f = [] := by unfold placesR; rw [if_neg h]
theorem places_in {s f : ByteArray} (h : wordB s.data.toList = true ∧ wordB f.data.toList = true ∧ 0 < f.size) : placesR s f = placesL s f (s.size + 1 - f.size) := by unfold placesR; rw [if_pos h]
theorem placesR_len (s f : ByteArray) : (placesR s f).length ≤ s.size + 1 := by
  unfold placesR
  split
  · have := places_len s f (s.size + 1 - f.size); omega
  · simp
end Go.Proofs.Ytciiokegifgbdaa
/- Walks: the numbers of the letters. -/
namespace Go.Proofs.Ytciiokegifgbdaa
open Go.RowKit

def countC (l : List UInt8) (c : UInt8) : Nat := (l.filter fun x => x == c).length
theorem countC_snoc (l : List UInt8) (x c : UInt8) : countC (l ++ [x]) c = countC l c + if x = c then 1 else 0 := by
  unfold countC; rw [List.filter_append]
  by_cases h : x = c <;> simp [h]
theorem countC_le (l : List UInt8) (c : UInt8) : countC l c ≤ l.length := List.length_filter_le _ _
def countsL (l : List UInt8) : List Int := [(countC l 97 : Int), (countC l 98 : Int), (countC l 99 : Int), (countC l 100 : Int)]
/-- what CountsOf returns -/
def countsR (l : List UInt8) : List Int := if wordB l = true then countsL l else []

theorem countsR_len (l : List UInt8) : (countsR l).length ≤ 4 := by
  unfold countsR countsL; split <;> simp
theorem counts_out {l : List UInt8} (h : wordB l = false) : countsR l = [] := by unfold countsR; rw [h]; rfl
theorem counts_in {l : List UInt8} (h : wordB l = true) : countsR l = countsL l := by unfold countsR; rw [if_pos h]
theorem u8_lit (n : Nat) (h : n < 256) : (Value.int .u8 (n : Int)) = .int .u8 (UInt8.ofNat n).toNat := by
  congr 1
  rw [UInt8.toNat_ofNat']; omega
end Go.Proofs.Ytciiokegifgbdaa
/- Walks: how often a letter occurs in a word. -/
namespace Go.Proofs.Ytciiokegifgbdaa
open Go.RowKit

/-- what CountLetter returns -/
def clR (l t : List UInt8) : Int := if wordB l = true ∧ oneB t = true then (countC l (t.getD 0 0) : Int) else -1
theorem count_same (l : List UInt8) (c : UInt8) : Lib.countByte l c = countC l c := by
  unfold Lib.countByte countC; rw [← List.countP_eq_length_filter]; rfl
theorem one_is {t : ByteArray} (h : oneB t.data.toList = true) : ∃ c, t = ⟨#[c]⟩ ∧ wordB [c] = true := by
  obtain ⟨⟨l⟩⟩ := t
  match l, h with
  | [c], h => exact ⟨c, rfl, by rw [← h]; simp [oneB, wordB]⟩
theorem clR_out {l t : List UInt8} (h : ¬ (wordB l = true ∧ oneB t = true)) : clR l t = -1 := by unfold clR; rw [if_neg h]
theorem clR_in {l : List UInt8} {c : UInt8} (h : wordB l = true) (h2 : oneB [c] = true) : clR l [c] = countC l c := by unfold clR; rw [if_pos ⟨h, h2⟩]; rfl
end Go.Proofs.Ytciiokegifgbdaa
/- Words for slices of slices of integers, over any program: a value that reads as rows; rows that the call has made. Conditions: none beyond the hypotheses of each lemma. -/
namespace Go.Proofs.Ytciiokegifgbdaa
open Go.RowKit

abbrev ints (xs : List Int) : List Value := xs.map (Value.int .i64)
theorem ints_len (xs : List Int) : (ints xs).length = xs.length := List.length_map _

/-- the slice value v reads as rows of integers; all of it lies below block B -/
def Row2 (w : World) (B : Nat) (v : Value) (xss : List (List Int)) : Prop :=
  ∃ vs : List Value, vs.length = xss.length ∧ Row1 w B v vs ∧ ∀ (k : Nat) (hk : k < vs.length) (hx : k < xss.length), Row1 w B vs[k] (ints xss[k])

section
variable {w w' : World} {B B' : Nat} {v : Value} {xss : List (List Int)}
theorem Row2.keep (h : Row2 w B v xss) (hk : ∀ p : Addr, p.block < B → w'.cell? p = w.cell? p) : Row2 w' B v xss := by
  obtain ⟨vs, hl, h1, h2⟩ := h
  exact ⟨vs, hl, h1.keep hk, fun k a b => (h2 k a b).keep hk⟩
theorem Row2.below (h : Row2 w B v xss) (hb : Below B' w w') (hB : B ≤ B') : Row2 w' B v xss := h.keep fun _ hp => hb.cell (Nat.lt_of_lt_of_le hp hB)
theorem Row2.mono (h : Row2 w B v xss) (hB : B ≤ B') : Row2 w B' v xss := by
  obtain ⟨vs, hl, h1, h2⟩ := h
  exact ⟨vs, hl, h1.mono hB, fun k a b => (h2 k a b).mono hB⟩
theorem Row2.alloc (h : Row2 w B v xss) (hB : B ≤ w.heap.size) (o : Obj) : Row2 (w.alloc o) B v xss := h.below ((Below.refl B w).alloc hB o) (Nat.le_refl _)
theorem Row2.drewN (h : Row2 w B v xss) (n : Nat) : Row2 (w.drewN n) B v xss := h.keep fun _ _ => rfl
theorem Row2.drew (h : Row2 w B v xss) : Row2 w.drew B v xss := h.drewN 1
theorem Row2.on (h : Row2 w w.heap.size v xss) (hb : Below w.heap.size w w') : Row2 w' w'.heap.size v xss := (h.below hb (Nat.le_refl _)).mono hb.size
theorem Row2.grown {row : Option Nat} (h : Row2 w B v xss) (hg : w.grownBy w' row) (hB : B ≤ w.heap.size) (hr : ∀ g, row = some g → B ≤ g) : Row2 w' B v xss :=
  h.keep fun p hp => World.cell?_of_block (hg.block p.block (by omega) (fun e => by have := hr _ e.symm; omega))
theorem Row2.nil (w : World) (B : Nat) : Row2 w B (.slice none 0 0) [] := ⟨[], rfl, Row1.nil w B, fun k hk => absurd hk (Nat.not_lt_zero k)⟩
theorem Row2.shape (h : Row2 w B v xss) : ∃ A c, v = .slice A xss.length c ∧ xss.length ≤ c := by
  obtain ⟨vs, hl, ⟨A, c, e, hc, _⟩, _⟩ := h
  exact ⟨A, c, by rw [e, hl], by omega⟩
theorem Row2.len (h : Row2 w B v xss) : xss.length ≤ 9223372036854775807 := by
  obtain ⟨vs, hl, h1, _⟩ := h
  have := h1.len; omega
/-- each row, in this world and in each later one that keeps what lies below B -/
theorem Row2.openAt (h : Row2 w B v xss) (hn : 0 < xss.length) : ∃ b o c, v = .slice (some ⟨b, o, none⟩) xss.length c ∧ xss.length ≤ c ∧
    ∀ (k : Nat) (hk : k < xss.length), ∃ u, ∀ w' : World, (∀ p : Addr, p.block < B → w'.cell? p = w.cell? p) → w'.cell? ⟨b, o + k, none⟩ = some u ∧ Row1 w' B u (ints xss[k]) := by
  obtain ⟨vs, hl, ⟨A, c, e, hc, hm, hA⟩, h2⟩ := h
  obtain ⟨b, o, rfl, hb, hcell⟩ := hA (by intro h; subst h; simp at hl; omega)
  refine ⟨b, o, c, by rw [e, hl], by omega, fun k hk => ⟨vs[k]'(by omega), fun w' hw' => ⟨?_, (h2 k (by omega) hk).keep hw'⟩⟩⟩
  exact (hw' _ hb).trans (hcell k _ (List.getElem?_eq_getElem (by omega)))
end

/-- v owns rows that the call has made: vs are their values -/
structure OwnV (E2 E1 : TypeId) (w : World) (base : Nat) (v : Value) (vs : List Value) (xss : List (List Int)) : Prop where
  len : vs.length = xss.length
  own : w.ownsRow base E2 1 v xss.length vs
  row : ∀ (k : Nat) (hk : k < vs.length) (hx : k < xss.length), w.ownsRow base E1 1 vs[k] xss[k].length (ints xss[k])
  apart : ∀ (i j : Nat) (hi : i < vs.length) (hj : j < vs.length), i ≠ j → ∀ g, vs[i].ownBlock = some g → vs[j].ownBlock ≠ some g
def Own2 (E2 E1 : TypeId) (w : World) (base hi : Nat) (v : Value) (xss : List (List Int)) : Prop := ∃ vs, OwnV E2 E1 w base v vs xss ∧ ∀ u ∈ vs, ∀ g, u.ownBlock = some g → g < hi

theorem own_block {w : World} {base : Nat} {E : TypeId} {size n g : Nat} {v : Value} {xs : List Value} (h : w.ownsRow base E size v n xs) (hg : v.ownBlock = some g) : base ≤ g ∧ ∃ cur, w.heap[g]? = some (.cells cur E (0, 0)) := by
  rcases h.2 with ⟨rfl, _⟩ | ⟨g', cap, cur, rfl, hb, hh, _⟩
  · simp [Value.ownBlock] at hg
  · simp only [Value.ownBlock, Option.some.injEq] at hg
    subst hg
    exact ⟨hb, cur, hh⟩
theorem own_lt {w : World} {base : Nat} {E : TypeId} {size n g : Nat} {v : Value} {xs : List Value} (h : w.ownsRow base E size v n xs) (hg : v.ownBlock = some g) : base ≤ g ∧ g < w.heap.size := by
  obtain ⟨h1, cur, h2⟩ := own_block h hg
  refine ⟨h1, ?_⟩
  rcases Nat.lt_or_ge g w.heap.size with hlt | hge
  · exact hlt
  · rw [Array.getElem?_eq_none hge] at h2; cases h2
/-- two rows of other element types lie in other blocks -/
theorem own_types {w : World} {b1 b2 : Nat} {E1 E2 : TypeId} (hE : E1 ≠ E2) {s1 s2 n1 n2 : Nat} {v1 v2 : Value} {xs1 xs2 : List Value} (h1 : w.ownsRow b1 E1 s1 v1 n1 xs1) (h2 : w.ownsRow b2 E2 s2 v2 n2 xs2) : v1.ownBlock = none ∨ v1.ownBlock ≠ v2.ownBlock := by
  rcases h : v1.ownBlock with _ | g
  · exact .inl rfl
  · refine .inr fun e => ?_
    obtain ⟨_, c1, e1⟩ := own_block h1 h
    obtain ⟨_, c2, e2⟩ := own_block h2 e.symm
    rw [e1] at e2
    exact hE (by injection (Option.some.inj e2))

section
variable {E2 E1 : TypeId} {w w' : World} {base : Nat} {v v' : Value} {vs : List Value} {xss : List (List Int)}
theorem OwnV.below (h : OwnV E2 E1 w base v vs xss) (hb : Below w.heap.size w w') : OwnV E2 E1 w' base v vs xss :=
  ⟨h.len, own_below h.own hb, fun k hk hx => own_below (h.row k hk hx) hb, h.apart⟩
theorem OwnV.mono {base' : Nat} (h : OwnV E2 E1 w base v vs xss) (hb : base' ≤ base) : OwnV E2 E1 w base' v vs xss :=
  ⟨h.len, own_base h.own hb, fun k hk hx => own_base (h.row k hk hx) hb, h.apart⟩
theorem Own2.below {hi : Nat} (h : Own2 E2 E1 w base hi v xss) (hb : Below w.heap.size w w') : Own2 E2 E1 w' base hi v xss := by obtain ⟨vs, h, hu⟩ := h; exact ⟨vs, h.below hb, hu⟩
theorem Own2.mono {base' hi : Nat} (h : Own2 E2 E1 w base hi v xss) (hb : base' ≤ base) : Own2 E2 E1 w base' hi v xss := by obtain ⟨vs, h, hu⟩ := h; exact ⟨vs, h.mono hb, hu⟩
theorem Own2.drewN {hi : Nat} (h : Own2 E2 E1 w base hi v xss) (n : Nat) : Own2 E2 E1 (w.drewN n) base hi v xss := h.below (below_drewN (Below.refl _ _) n)
theorem Own2.alloc {hi : Nat} (h : Own2 E2 E1 w base hi v xss) (o : Obj) : Own2 E2 E1 (w.alloc o) base hi v xss := h.below ((Below.refl _ _).alloc (Nat.le_refl _) o)
theorem OwnV.own2 (h : OwnV E2 E1 w base v vs xss) : Own2 E2 E1 w base w.heap.size v xss := by
  refine ⟨vs, h, fun u hu g hg => ?_⟩
  obtain ⟨k, hk, rfl⟩ := List.mem_iff_getElem.1 hu
  exact (own_lt (h.row k hk (by rw [← h.len]; exact hk)) hg).2
theorem OwnV.zero (w : World) (base : Nat) : OwnV E2 E1 w base (.slice none 0 0) [] [] := ⟨rfl, ⟨rfl, .inl ⟨rfl, rfl⟩⟩, fun k hk => absurd hk (Nat.not_lt_zero k), fun i _ hi => absurd hi (Nat.not_lt_zero i)⟩
theorem Own2.zero (w : World) (base hi : Nat) : Own2 E2 E1 w base hi (.slice none 0 0) [] := ⟨[], OwnV.zero w base, fun u hu => by cases hu⟩
theorem OwnV.empty (h : w.ownsRow base E2 1 v 0 []) : OwnV E2 E1 w base v [] [] := ⟨rfl, h, fun k hk => absurd hk (Nat.not_lt_zero k), fun i _ hi => absurd hi (Nat.not_lt_zero i)⟩
theorem OwnV.row2 (h : OwnV E2 E1 w base v vs xss) : Row2 w w.heap.size v xss :=
  ⟨vs, h.len, Row1.own h.own h.len.symm, fun k hk hx => Row1.own (h.row k hk hx) (ints_len _).symm⟩
theorem Own2.row2 {hi : Nat} (h : Own2 E2 E1 w base hi v xss) : Row2 w w.heap.size v xss := by
  obtain ⟨vs, h, _⟩ := h
  exact h.row2
theorem Own2.shape {hi : Nat} (h : Own2 E2 E1 w base hi v xss) : ∃ A c, v = .slice A xss.length c := by
  obtain ⟨A, c, e, _⟩ := h.row2.shape
  exact ⟨A, c, e⟩
/-- behind an append of one row that is younger than all the others -/
theorem OwnV.push {w0 w1 : World} {u : Value} {ys : List Int} (hE : E1 ≠ E2) (h : OwnV E2 E1 w0 base v vs xss) (hB : base ≤ w0.heap.size) (h01 : Below w0.heap.size w0 w1) (hu : w1.ownsRow w0.heap.size E1 1 u ys.length (ints ys))
    (hown : w'.ownsRow base E2 1 v' (xss.length + 1) (vs ++ [u])) (hg : w1.grownBy w' v.ownBlock) : OwnV E2 E1 w' base v' (vs ++ [u]) (xss ++ [ys]) := by
  have h1 := h.below h01
  have hlen := h.len
  have hneU : u.ownBlock = none ∨ u.ownBlock ≠ v.ownBlock := own_types hE hu h1.own
  have hu' : w'.ownsRow base E1 1 u ys.length (ints ys) := (own_base hu hB).kept hg hneU
  have hr' : ∀ (k : Nat) (hk : k < vs.length) (hx : k < xss.length), w'.ownsRow base E1 1 vs[k] xss[k].length (ints xss[k]) := fun k hk hx => (h1.row k hk hx).kept hg (own_types hE (h1.row k hk hx) h1.own)
  refine ⟨by simp [hlen], by simpa using hown, fun k hk hx => ?_, fun i j hi hj hij g hgi hgj => ?_⟩
  · rw [List.length_append] at hk hx
    by_cases hkl : k < vs.length
    · rw [List.getElem_append_left hkl, List.getElem_append_left (by omega)]
      exact hr' k hkl (by omega)
    · have e : k = vs.length := by simp at hk; omega
      have e2 : k = xss.length := by omega
      rw [List.getElem_append_right (by omega), List.getElem_append_right (by omega)]
      simpa [e, hlen] using hu'
  · have hold : ∀ (k : Nat) (hk : k < vs.length) (g : Nat), vs[k].ownBlock = some g → g < w0.heap.size := fun k hk g hg => (own_lt (h.row k hk (by omega)) hg).2
    rw [List.length_append] at hi hj
    by_cases h1i : i < vs.length <;> by_cases h1j : j < vs.length
    · rw [List.getElem_append_left h1i] at hgi
      rw [List.getElem_append_left h1j] at hgj
      exact h.apart i j h1i h1j hij g hgi hgj
    · rw [List.getElem_append_left h1i] at hgi
      rw [List.getElem_append_right (by omega)] at hgj
      have := hold i h1i g hgi
      have := (own_lt hu (g := g) (by simpa using hgj)).1
      omega
    · rw [List.getElem_append_right (by omega)] at hgi
      rw [List.getElem_append_left h1j] at hgj
      have := hold j h1j g hgj
      have := (own_lt hu (g := g) (by simpa using hgi)).1
      omega
    · simp at hi hj; omega
/-- behind a change within one row -/
theorem OwnV.set {k : Nat} {ys : List Int} (hE : E1 ≠ E2) (h : OwnV E2 E1 w base v vs xss) (hk : k < vs.length) (hown : w'.ownsRow base E1 1 vs[k] ys.length (ints ys)) (hg : w.grownBy w' vs[k].ownBlock) :
    OwnV E2 E1 w' base v vs (xss.set k ys) := by
  have hlen := h.len
  have hx : k < xss.length := by omega
  refine ⟨by simp [hlen], ?_, fun j hj hjx => ?_, h.apart⟩
  · rw [List.length_set]
    refine h.own.kept hg ?_
    rcases own_types (fun e => hE e.symm) h.own (h.row k hk hx) with e | e
    · exact .inl e
    · exact .inr e
  · by_cases e : k = j
    · subst e
      rw [List.getElem_set_self]
      exact hown
    · rw [List.getElem_set_ne e]
      rw [List.length_set] at hjx
      refine (h.row j hj hjx).kept hg ?_
      rcases hv : vs[j].ownBlock with _ | g
      · exact .inl rfl
      · exact .inr fun e2 => h.apart j k hj hk (fun e3 => e e3.symm) g hv e2.symm
end
end Go.Proofs.Ytciiokegifgbdaa
/- What a walk through a law carries along from step to step, over any program. Conditions: none beyond the hypotheses of each lemma. -/
namespace Go.Proofs.Ytciiokegifgbdaa
open Go.RowKit

section
variable {w0 w w' : World} {B B' g lo hi base n size : Nat} {T E : TypeId} {x v : Value} {xs : List Value} {xss : List (List Int)}
theorem since_on (h : Below w0.heap.size w0 w) (hb : Below w.heap.size w w') : Below w0.heap.size w0 w' := h.trans (hb.mono h.size)
theorem bnew (w : World) (o : Obj) : Below w.heap.size w (w.alloc o) := (Below.refl _ _).alloc (Nat.le_refl _) o
theorem bdrew (w : World) : Below w.heap.size w w.drew := (Below.refl _ _).drew
theorem bdrewN (w : World) (n : Nat) : Below w.heap.size w (w.drewN n) := below_drewN (Below.refl _ _) n
theorem bthen {w1 : World} (h : Below w.heap.size w w') (k : Below w'.heap.size w' w1) : Below w.heap.size w w1 := h.trans (k.mono h.size)

/-- a slice that lies below block B and reads as xs -/
structure Rd (B : Nat) (v : Value) (xs : List Value) (w : World) : Prop where
  row : Row1 w B v xs
  le : B ≤ w.heap.size
theorem Rd.new (h : Row1 w w.heap.size v xs) : Rd w.heap.size v xs w := ⟨h, Nat.le_refl _⟩
theorem Rd.on (h : Rd B v xs w) (hb : Below w.heap.size w w') : Rd B v xs w' := ⟨h.row.below hb h.le, Nat.le_trans h.le hb.size⟩
theorem Rd.at (h : Rd B v xs w) : Row1 w w.heap.size v xs := h.row.mono h.le
structure Rd2 (B : Nat) (v : Value) (xss : List (List Int)) (w : World) : Prop where
  row : Row2 w B v xss
  le : B ≤ w.heap.size
theorem Rd2.new (h : Row2 w w.heap.size v xss) : Rd2 w.heap.size v xss w := ⟨h, Nat.le_refl _⟩
theorem Rd2.on (h : Rd2 B v xss w) (hb : Below w.heap.size w w') : Rd2 B v xss w' := ⟨h.row.below hb h.le, Nat.le_trans h.le hb.size⟩
theorem Rd2.at (h : Rd2 B v xss w) : Row2 w w.heap.size v xss := h.row.mono h.le

/-- of the blocks that were there only those from lo up to hi have turned -/
structure Within (lo hi : Nat) (w w' : World) : Prop where
  os : w'.os = w.os
  tape : w'.tape = w.tape
  output : w'.output = w.output
  size : w.heap.size ≤ w'.heap.size
  block : ∀ k, k < w.heap.size → (k < lo ∨ hi ≤ k) → w'.heap[k]? = w.heap[k]?
theorem Within.refl (lo hi : Nat) (w : World) : Within lo hi w w := ⟨rfl, rfl, rfl, Nat.le_refl _, fun _ _ _ => rfl⟩
theorem Within.trans {w1 : World} (h : Within lo hi w w') (k : Within lo hi w' w1) : Within lo hi w w1 :=
  ⟨k.os.trans h.os, k.tape.trans h.tape, k.output.trans h.output, Nat.le_trans h.size k.size, fun j hj hn => (k.block j (Nat.lt_of_lt_of_le hj h.size) hn).trans (h.block j hj hn)⟩
theorem Within.of_grown {row : Option Nat} (hg : w.grownBy w' row) (hr : ∀ g, row = some g → lo ≤ g ∧ g < hi) : Within lo hi w w' :=
  ⟨hg.os, hg.tape, hg.output, hg.size, fun k hk hn => hg.block k hk fun e => by have := hr k e.symm; omega⟩
theorem Within.of_below (hb : Below w.heap.size w w') : Within lo hi w w' := ⟨hb.os, hb.tape, hb.output, hb.size, fun k hk _ => hb.block k hk⟩
theorem Within.below (h : Within lo hi w w') (hB : B ≤ lo) (hw : B ≤ w.heap.size) : Below B w w' :=
  ⟨h.os, h.tape, h.output, h.size, fun k hk => h.block k (by omega) (.inl (by omega))⟩
theorem Within.cell (h : Within lo hi w w') {p : Addr} (hp : p.block < w.heap.size) (hn : p.block < lo ∨ hi ≤ p.block) : w'.cell? p = w.cell? p := World.cell?_of_block (h.block p.block hp hn)
theorem One.within (h : One w g T x) (hb : Within lo hi w w') (hn : g < lo ∨ hi ≤ g) : One w' g T x := (hb.block g h.lt hn).trans h
theorem Rd.within (h : Rd B v xs w) (hb : Within lo hi w w') (hl : B ≤ lo) : Rd B v xs w' := ⟨h.row.below (hb.below hl h.le) (Nat.le_refl _), Nat.le_trans h.le hb.size⟩
theorem Rd2.within (h : Rd2 B v xss w) (hb : Within lo hi w w') (hl : B ≤ lo) : Rd2 B v xss w' := ⟨h.row.below (hb.below hl h.le) (Nat.le_refl _), Nat.le_trans h.le hb.size⟩
theorem own_within (h : w.ownsRow base E size v n xs) (hb : Within lo hi w w') (hl : hi ≤ base) : w'.ownsRow base E size v n xs := by
  refine ⟨h.1, ?_⟩
  rcases h.2 with h2 | ⟨g, cap, cur, e, h1, h2, r⟩
  · exact .inl h2
  · refine .inr ⟨g, cap, cur, e, h1, ?_, r⟩
    rcases Nat.lt_or_ge g w.heap.size with hlt | hge
    · rw [hb.block g hlt (.inr (by omega))]; exact h2
    · rw [Array.getElem?_eq_none hge] at h2; cases h2
theorem Own2.within {E2 E1 : TypeId} {top : Nat} (h : Own2 E2 E1 w base top v xss) (hb : Within lo hi w w') (hl : hi ≤ base) : Own2 E2 E1 w' base top v xss := by
  obtain ⟨vs, h, hu⟩ := h
  exact ⟨vs, ⟨h.len, own_within h.own hb hl, fun k hk hx => own_within (h.row k hk hx) hb hl, h.apart⟩, hu⟩
theorem since_in (h : Below w0.heap.size w0 w) (hb : Within lo hi w w') (hl : w0.heap.size ≤ lo) : Below w0.heap.size w0 w' := h.trans (hb.below hl h.size)
end
end Go.Proofs.Ytciiokegifgbdaa
/- Plain mathematics: the marks that are laid into rows of integers, one after the other. Conditions: none beyond the hypotheses of each lemma. -/
namespace Go.Proofs.Ytciiokegifgbdaa
open Go.RowKit

def mkL (k : Int) (n : Nat) : List Int := (List.range n).map fun (i : Nat) => k + (i : Int)
theorem mkL_len (k : Int) (n : Nat) : (mkL k n).length = n := by simp [mkL]
/-- how many cells the rows have -/
def totL : List (List Int) → Nat
  | [] => 0
  | x :: l => x.length + totL l
theorem totL_append : ∀ a b : List (List Int), totL (a ++ b) = totL a + totL b
  | [], b => by simp [totL]
  | x :: a, b => by rw [List.cons_append, totL, totL, totL_append a b]; omega
theorem totL_one (x : List Int) : totL [x] = x.length := by simp [totL]
theorem totL_take (xss : List (List Int)) (n : Nat) (h : n < xss.length) : totL (xss.take (n + 1)) = totL (xss.take n) + xss[n].length := by
  rw [List.take_succ_eq_append_getElem h, totL_append, totL_one]
theorem totL_le (xss : List (List Int)) (n : Nat) : totL (xss.take n) ≤ totL xss := by
  have h : totL xss = totL (xss.take n ++ xss.drop n) := by rw [List.take_append_drop]
  rw [h, totL_append]; omega
theorem totL_step (xss : List (List Int)) (n : Nat) (h : n < xss.length) : totL (xss.take n) + xss[n].length ≤ totL xss := by
  rw [← totL_take xss n h]; exact totL_le _ _
def marks2 (k : Int) : List (List Int) → List (List Int)
  | [] => []
  | x :: l => mkL k x.length :: marks2 (k + x.length) l
theorem marks2_append (b : List (List Int)) : ∀ (a : List (List Int)) (k : Int), marks2 k (a ++ b) = marks2 k a ++ marks2 (k + totL a) b
  | [], k => by simp [marks2, totL]
  | x :: a, k => by
    rw [List.cons_append, marks2, marks2, marks2_append b a, List.cons_append, totL]
    congr 3; simp only [Int.natCast_add]; omega
theorem marks2_len : ∀ (a : List (List Int)) (k : Int), (marks2 k a).length = a.length
  | [], _ => rfl
  | x :: a, k => by rw [marks2, List.length_cons, marks2_len a, List.length_cons]
theorem marks2_tot : ∀ (a : List (List Int)) (k : Int), totL (marks2 k a) = totL a
  | [], _ => rfl
  | x :: a, k => by rw [marks2, totL, totL, marks2_tot a, mkL_len]
theorem marks2_get (xss : List (List Int)) (k : Int) (n : Nat) (h : n < xss.length) : (marks2 k xss)[n]? = some (mkL (k + totL (xss.take n)) xss[n].length) := by
  have e : xss = xss.take n ++ (xss[n] :: xss.drop (n + 1)) := by rw [← List.drop_eq_getElem_cons h, List.take_append_drop]
  have h2 : (marks2 k xss)[n]? = (marks2 k (xss.take n ++ (xss[n] :: xss.drop (n + 1))))[n]? := by rw [← e]
  rw [h2, marks2_append, List.getElem?_append_right (by rw [marks2_len, List.length_take]; omega), marks2_len, List.length_take, show n - min n xss.length = 0 by omega]
  rfl
/-- n rows are marked, the others are as they were -/
def half2 (k : Int) (xss : List (List Int)) (n : Nat) : List (List Int) := marks2 k (xss.take n) ++ xss.drop n
theorem half2_zero (k : Int) (xss : List (List Int)) : half2 k xss 0 = xss := by simp [half2, marks2]
theorem half2_end (k : Int) (xss : List (List Int)) : half2 k xss xss.length = marks2 k xss := by simp [half2]
theorem half2_len (k : Int) (xss : List (List Int)) (n : Nat) : (half2 k xss n).length = xss.length := by
  rw [half2, List.length_append, marks2_len, List.length_take, List.length_drop]; omega
theorem half2_get (k : Int) (xss : List (List Int)) (n : Nat) (h : n < xss.length) : (half2 k xss n)[n]'(by rw [half2_len]; exact h) = xss[n] := by
  have h2 : (half2 k xss n)[n]? = xss[n]? := by
    rw [half2, List.getElem?_append_right (by rw [marks2_len, List.length_take]; omega), marks2_len, List.length_take, List.getElem?_drop]
    congr 1; omega
  rw [List.getElem?_eq_getElem h, List.getElem?_eq_getElem (by rw [half2_len]; exact h)] at h2
  exact Option.some.inj h2
theorem half2_set (k : Int) (xss : List (List Int)) (n : Nat) (h : n < xss.length) : (half2 k xss n).set n (mkL (k + totL (xss.take n)) xss[n].length) = half2 k xss (n + 1) := by
  have hl : (marks2 k (xss.take n)).length = n := by rw [marks2_len, List.length_take]; omega
  rw [half2, List.set_append_right _ _ (by omega), hl, Nat.sub_self, List.drop_eq_getElem_cons h, List.set_cons_zero, half2, List.take_succ_eq_append_getElem h, marks2_append, List.append_assoc]
  rfl
end Go.Proofs.Ytciiokegifgbdaa
/- Walks: the laws' own helpers on rows of integers: compared, marked, held. -/
namespace Go.Proofs.Ytciiokegifgbdaa
open Go.RowKit
set_option maxRecDepth 20000

theorem types_apart : (3 : TypeId) ≠ 37 := by decide
abbrev OwnG (w : World) (base hi : Nat) (v : Value) (xss : List (List Int)) : Prop := Own2 37 3 w base hi v xss
theorem marksI_ints (k : Int) (n : Nat) : marksI k n = ints (mkL k n) := by simp [marksI, ints, mkL]

set_option maxHeartbeats 1000000 in
theorem eqIntSS_same (xss : List (List Int)) (va vb : Value) (w : World) (B : Nat) (ha : Row2 w B va xss) (hb : Row2 w B vb xss) :
    Calls Try.prog 11 #[va, vb] w fun e w' => e = .returned (.bool true) ∧ ∃ n, w' = w.drewN n := by
  have hl := ha.len
  rcases Nat.eq_zero_or_pos xss.length with h0 | h0
  · obtain ⟨A, c, rfl, _⟩ := ha.shape
    obtain ⟨A', c', rfl, _⟩ := hb.shape
    rw [h0]
    go_enter Try.func11, Try.ntmps11
    go_wp2_with fail
    refine wp_loop_rounds 1 ?_
    rw [rounds_succ]
    go_wp2
    go_ret
    exact ⟨rfl, 0, rfl⟩
  · obtain ⟨b, o, c, rfl, hc, hA⟩ := ha.openAt h0
    obtain ⟨b', o', c', rfl, hc', hA'⟩ := hb.openAt h0
    have HA := Lib.hid hA; have HA' := Lib.hid hA'; clear hA hA' ha hb
    go_enter Try.func11, Try.ntmps11
    go_wp2_with fail
    go_loopw [5] (fun i wr => ∃ k : Nat, k ≤ xss.length ∧ i = .int .i64 k ∧ ∃ n, wr = w.drewN n) (fun i _ => xss.length - (intOf i).toNat)
    case atStart => exact ⟨0, Nat.zero_le _, rfl, 0, rfl⟩
    case round =>
      obtain ⟨k, hk, rfl, n, rfl⟩ := hrel
      by_cases hlt : k < xss.length
      · obtain ⟨u, hu⟩ := HA.out k hlt
        obtain ⟨u', hu'⟩ := HA'.out k hlt
        obtain ⟨g1, r1⟩ := hu w (fun _ _ => rfl)
        obtain ⟨g2, r2⟩ := hu' w (fun _ _ => rfl)
        have R1 := Lib.hid r1; have R2 := Lib.hid r2
        clear hu hu' r1 r2
        go_wp2_with fail
        go_region_with (go_at_call 32; refine (eqIntS_same _ _ _ _ B ((R1.out.drewN n).drew) ((R2.out.drewN n).drew)).mono ?_; rintro e w1 ⟨rfl, m, rfl⟩)
        all_goals
          go_wp2
          go_roundw
          case rel => exact ⟨k + 1, by omega, by go_num, n + 1 + m, by simp [World.drewN, Nat.add_assoc]⟩
          case measure => simp [intOf]; omega
      · go_wp2
        go_ret
        exact ⟨rfl, _, rfl⟩
set_option maxHeartbeats 1000000 in
theorem markIntSS_any (base hi : Nat) (v : Value) (xss : List (List Int)) (k : Int) (w : World) (hown : OwnG w base hi v xss) (h0 : 0 ≤ k) (h1 : k + totL xss ≤ 4611686018427387904) (h2 : xss.length ≤ 4611686018427387904) :
    Calls Try.prog 16 #[v, .int .i64 k] w fun e w' => e = .returned (.int .i64 (k + totL xss)) ∧ OwnG w' base hi v (marks2 k xss) ∧ Within base hi w w' := by
  obtain ⟨vs, hv, hun⟩ := hown
  have HUN := Lib.hid hun; clear hun
  rcases hv.own.2 with ⟨rfl, hn⟩ | ⟨g, cap, cur, rfl, hb, hg, hnc, hcm, hcs, htake⟩
  · obtain rfl : xss = [] := List.eq_nil_of_length_eq_zero hn
    have HV := Lib.hid hv; clear hv
    go_enter Try.func16, Try.ntmps16
    go_wp2_with fail
    refine wp_loop_rounds 1 ?_
    rw [rounds_succ]
    go_wp2
    go_ret
    exact ⟨by simp [totL], ⟨vs, HV.out, HUN.out⟩, Within.refl _ _ _⟩
  · have HV := Lib.hid hv
    clear hv hg htake hcs
    go_enter Try.func16, Try.ntmps16
    go_wp2_with fail
    go_loopw [1, 5] (fun q i wr => ∃ n : Nat, n ≤ xss.length ∧ i = .int .i64 n ∧ q = .int .i64 (k + totL (xss.take n)) ∧ OwnV 37 3 wr base (.slice (some ⟨g, 0, none⟩) xss.length cap) vs (half2 k xss n) ∧ Within base hi w wr) (fun _ i _ => xss.length - (intOf i).toNat)
    case atStart => exact ⟨0, Nat.zero_le _, rfl, by simp [totL], by rw [half2_zero]; exact HV.out, Within.refl _ _ _⟩
    case round =>
      obtain ⟨n, hn, rfl, rfl, ho, hbel⟩ := hrel
      have hlen := half2_len k xss n
      by_cases hlt : n < xss.length
      · have hvl : n < vs.length := by rw [ho.len, hlen]; exact hlt
        have hst := totL_step xss n hlt
        have hown1 := ho.own
        rw [hlen] at hown1
        have g2 := hown1.cellAt n (by omega)
        rw [List.getElem?_eq_getElem hvl] at g2
        have hrow := ho.row n hvl (by omega)
        have hg := half2_get k xss n hlt
        rw [hg] at hrow
        have HM := markIntS_any base vs[n] (ints xss[n]) (k + totL (xss.take n)) wr (by rw [ints_len]; exact hrow) (by intro u hu; obtain ⟨z, _, rfl⟩ := List.mem_map.1 hu; exact ⟨z, rfl⟩) (by omega) (by rw [ints_len]; omega)
        rw [ints_len, marksI_ints] at HM
        have HM := Lib.hid HM
        have HO := Lib.hid ho; have HBL := Lib.hid hbel; have HR := Lib.hid hrow; have HQ := Lib.hid hg
        obtain ⟨u, hu⟩ : ∃ u, u = vs[n] := ⟨_, rfl⟩
        rw [← hu] at g2 HM
        have HU := Lib.hid hu
        clear ho hbel hrow hg hu hown1
        go_wp2_with fail
        refine HM.out.mono ?_
        rintro e w1 ⟨rfl, ho1, hg1⟩
        have HO1 := Lib.hid ho1; have HG1 := Lib.hid hg1
        clear ho1 hg1
        go_wp2_with fail
        go_roundw
        case rel =>
          refine ⟨n + 1, by omega, by go_num, by rw [totL_take xss n hlt]; go_num, ?_, ?_⟩
          · have h3 := HO.out.set (k := n) (ys := mkL (k + totL (xss.take n)) xss[n].length) types_apart hvl (by rw [← HU.out, mkL_len]; exact HO1.out) (by rw [← HU.out]; exact HG1.out)
            rw [half2_set k xss n hlt] at h3
            exact h3
          · exact HBL.out.trans (Within.of_grown HG1.out (fun g' hg' => ⟨(own_lt HR.out (by rw [← HU.out]; exact hg')).1, HUN.out u (by rw [HU.out]; exact List.getElem_mem _) g' hg'⟩))
        case measure => simp [intOf]; omega
      · obtain rfl : n = xss.length := by omega
        rw [half2_end] at ho
        rw [List.take_length]
        go_wp2
        go_ret
        exact ⟨rfl, ⟨vs, ho, HUN.out⟩, hbel⟩
set_option maxHeartbeats 1000000 in
theorem heldIntSS_any (xss : List (List Int)) (v : Value) (k : Int) (w : World) (B : Nat) (ha : Row2 w B v (marks2 k xss)) (h0 : 0 ≤ k) (h1 : k + totL xss ≤ 4611686018427387904) (h2 : xss.length ≤ 4611686018427387904) :
    Calls Try.prog 17 #[v, .int .i64 k] w fun e w' => e = .returned (.int .i64 (k + totL xss)) ∧ ∃ m, w' = w.drewN m := by
  have hml := marks2_len xss k
  rcases Nat.eq_zero_or_pos xss.length with hz | hp
  · obtain rfl : xss = [] := List.eq_nil_of_length_eq_zero hz
    obtain ⟨A, c, rfl, _⟩ := ha.shape
    clear ha
    go_enter Try.func17, Try.ntmps17
    go_wp2_with fail
    refine wp_loop_rounds 1 ?_
    rw [rounds_succ]
    go_wp2
    go_ret
    exact ⟨by simp [totL], 0, rfl⟩
  · obtain ⟨b, o, c, rfl, hc, hA⟩ := ha.openAt (by omega)
    rw [hml] at hc ⊢
    have HA := Lib.hid hA; clear hA ha
    go_enter Try.func17, Try.ntmps17
    go_wp2_with fail
    go_loopw [1, 5] (fun q i wr => ∃ j : Nat, j ≤ xss.length ∧ i = .int .i64 j ∧ q = .int .i64 (k + totL (xss.take j)) ∧ ∃ m, wr = w.drewN m) (fun _ i _ => xss.length - (intOf i).toNat)
    case atStart => exact ⟨0, Nat.zero_le _, rfl, by simp [totL], 0, rfl⟩
    case round =>
      obtain ⟨j, hj, rfl, rfl, m, rfl⟩ := hrel
      by_cases hlt : j < xss.length
      · obtain ⟨u, hu⟩ := HA.out j (by omega)
        obtain ⟨g1, r1⟩ := hu w (fun _ _ => rfl)
        have hget := marks2_get xss k j hlt
        rw [List.getElem?_eq_getElem (by omega)] at hget
        rw [Option.some.inj hget, ← marksI_ints] at r1
        have hst := totL_step xss j hlt
        have HH := Lib.hid (heldIntS_any xss[j].length u (k + totL (xss.take j)) (w.drewN m) B (r1.drewN m) (by omega) (by omega))
        clear hu r1 hget
        go_wp2_with fail
        refine HH.out.mono ?_
        rintro e w1 ⟨rfl, m', rfl⟩
        go_wp2_with fail
        go_roundw
        case rel => exact ⟨j + 1, by omega, by go_num, by rw [totL_take xss j hlt]; go_num, m + m', by simp [World.drewN]⟩
        case measure => simp [intOf]; omega
      · obtain rfl : j = xss.length := by omega
        rw [List.take_length]
        go_wp2
        go_ret
        exact ⟨rfl, _, rfl⟩
end Go.Proofs.Ytciiokegifgbdaa
/- Boxes of one cell beside rows that the call has made, over any program. Conditions: none beyond the hypotheses of each lemma. -/
namespace Go.Proofs.Ytciiokegifgbdaa
open Go.RowKit

section
variable {w0 w w' : World} {b lo hi base n size : Nat} {T E : TypeId} {x v : Value} {xs : List Value}
/-- a box and a row of another element type lie in other blocks -/
theorem one_ne (h : One w b T x) (ho : w.ownsRow base E size v n xs) (hT : T ≠ E) : v.ownBlock ≠ some b := by
  intro e
  obtain ⟨_, cur, h2⟩ := own_block ho e
  unfold One at h
  rw [h] at h2
  injection h2 with h3
  exact hT (by injection h3)
theorem One.grown {row : Option Nat} (h : One w b T x) (hg : w.grownBy w' row) (hr : row ≠ some b) : One w' b T x := (hg.block b h.lt (fun e => hr e.symm)).trans h
theorem One.grownRow (h : One w b T x) (ho : w.ownsRow base E size v n xs) (hT : T ≠ E) (hg : w.grownBy w' v.ownBlock) : One w' b T x := h.grown hg (one_ne h ho hT)
theorem own_set (ho : w.ownsRow base E size v n xs) (hne : v.ownBlock ≠ some b) (u : Value) : (w.setCell ⟨b, 0, none⟩ u).ownsRow base E size v n xs := by
  refine ho.kept (row := some b) ⟨rfl, rfl, rfl, by simp [World.setCell], fun k _ hn => Below.heap_setCell w _ u k (fun e => hn (by rw [e]))⟩ (.inr hne)
theorem since_set (h : Below w0.heap.size w0 w) (hb : w0.heap.size ≤ b) (u : Value) : Below w0.heap.size w0 (w.setCell ⟨b, 0, none⟩ u) := h.setCell hb u
theorem since_grown {row : Option Nat} (h : Below w0.heap.size w0 w) (hg : w.grownBy w' row) (hr : ∀ g, row = some g → w0.heap.size ≤ g) : Below w0.heap.size w0 w' := h.grown hg h.size hr
end
end Go.Proofs.Ytciiokegifgbdaa
/- Words for slices of bytes that the call makes: converted from a string and back. Conditions: none beyond the hypotheses of each lemma. -/
namespace Go.Proofs.Ytciiokegifgbdaa
open Go.RowKit

theorem info_byte : (Try.prog.info? 5).map (fun i => (i.zero, i.size, i.bytes)) = some (some (.int .u8 0), 1, 1) := by kernel_rfl
def byteV (c : UInt8) : Value := .int .u8 c.toNat
theorem own_shape {w : World} {base : Nat} {E : TypeId} {size n : Nat} {v : Value} {xs : List Value} (h : w.ownsRow base E size v n xs) : ∃ A c, v = .slice A n c := by
  rcases h.2 with ⟨rfl, rfl⟩ | ⟨g, cap, cur, rfl, _⟩
  · exact ⟨_, _, rfl⟩
  · exact ⟨_, _, rfl⟩
/-- what a conversion of a string to bytes lays, and its capacity -/
def cvCap (W : World) (t : ByteArray) : Nat := grownCap W t.size 0 5
def cvObj (W : World) (t : ByteArray) : Obj := .cells (bytesRow t (cvCap W t)) 5 ((bytesRow t (cvCap W t)).size, (bytesRow t (cvCap W t)).size + 1)
theorem run_cv (t : ByteArray) (W : World) : (convert 9 30 (.string t)).run Try.prog W = .ok (.slice (some ⟨W.heap.size, 0, none⟩) t.size (cvCap W t)) (W.drew.alloc (cvObj W t)) :=
  run_bytes_of_string W 9 30 5 t Try.underlying9 Try.underlying30 Try.underlying5
theorem cv_cells {W w' : World} {t : ByteArray} {g : Nat} (h : w'.heap[g]? = some (cvObj W t)) : ∀ (j : Nat) (u : Value), (t.data.toList.map byteV)[j]? = some u → w'.cell? ((⟨g, 0, none⟩ : Addr).add j) = some u := by
  intro j u hu
  have hj : j < t.data.size := by have := (List.getElem?_eq_some_iff.1 hu).1; simpa using this
  rw [Addr.add_lit, Nat.zero_add]
  have h2 := cell_of_row w' g j _ _ _ h
  rw [h2, bytesRow_at t _ j hj]
  rw [← hu, List.getElem?_map, List.getElem?_eq_getElem (by simpa using hj)]
  rfl
theorem byte_one (l : List UInt8) : ∀ u ∈ l.map byteV, u.oneCell' = true := by
  intro u hu
  obtain ⟨c, _, rfl⟩ := List.mem_map.1 hu
  rfl
theorem run_back_bytes {w : World} {base g n c : Nat} {l : List UInt8} (h : w.ownsRow base 5 1 (.slice (some ⟨g, 0, none⟩) n c) n (l.map byteV)) :
    (convert 30 9 (.slice (some ⟨g, 0, none⟩) n c)).run Try.prog w = .ok (.string ⟨l.toArray⟩) w := by
  have hn : n = l.length := by have := h.1; simp at this; omega
  subst hn
  refine run_convert_bytes_back w 30 9 5 ⟨g, 0, none⟩ c l Try.underlying30 Try.underlying5 Try.underlying9 fun j hj => ?_
  rw [Addr.add_lit, Nat.zero_add, h.cellAt j (by omega), List.getElem?_map, List.getElem?_eq_getElem hj]
  rfl
end Go.Proofs.Ytciiokegifgbdaa
