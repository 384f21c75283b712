/- Walks and plain laws of the functions that a law reaches, several texts in one (part 1). Conditions: none beyond the hypotheses of each lemma. -/
import Derived.Test.YtciiokegifgbdaaRows
import Derived.HandedShaped
import Derived.ProofKit
import Derived.WalkKit
import Derived.WalkSpells
import Derived.WalkLawsBesides
import Derived.Deep.QuietTactic
import Derived.BigQuiet
import Derived.Lib.Hide
import Derived.Lib.Strings
import Derived.Laws.MakeOwn
/- For any law of this seat: if a call of its Go function answers true and leaves all memory that was there as it was, then the row's post holds. Conditions: none beyond the hypotheses of each lemma. -/
namespace Go.Proofs.Ytciiokegifgbdaa
open Go.ChangeShapes Go.WideShapes Go.ChangeAt Go.RowKit
open Go.ChangeMaps (open_string shut_string)

theorem own_knob : ownKnob Try.prog.godebug = none := by kernel_rfl
theorem laid_out : laidOutB Try.prog = true := by kernel_rfl

/-- Every argument reads behind the call as it read before it, where nothing below the old heap has turned. -/
theorem carry_all {H : Type} {enc : TypeId × Value → H} {P : Program} (hl : laidOutB P = true) {W W' : World} (hb : Below W.heap.size W W') :
    ∀ (ts : List TypeId) (vs : List Value) (ds : List (DataW H)) (ps : List MemPlace), ts.all (fun t => P.readableRec t && decide (t < P.types.size)) = true → (∀ x ∈ ps, x.block < W.heap.size) →
      DataW.TrodAll enc P W 0 (fun _ => true) true ts vs ds ps → DataW.TrodAll enc P W' 0 (fun b => decide (b < W.heap.size)) true ts vs ds ps
  | [], [], [], _, _, _, h => h
  | t :: ts, v :: vs, d :: ds, ps, hr, hlt, h => by
    obtain ⟨p, q, h1, h2, rfl⟩ := h
    rw [List.all_cons, Bool.and_eq_true, Bool.and_eq_true] at hr
    exact ⟨p, q, Below.trod hl hr.1.1 (of_decide_eq_true hr.1.2) h1 hb (fun x hx => hlt x (List.mem_append_left _ hx)),
      carry_all hl hb ts vs ds q hr.2 (fun x hx => hlt x (List.mem_append_right _ hx)) h2, rfl⟩
  | [], _ :: _, _, _, _, _, h => h.elim
  | [], [], _ :: _, _, _, _, h => h.elim
  | _ :: _, [], _, _, _, _, h => h.elim
  | _ :: _, _ :: _, [], _, _, _, h => h.elim

/-- The row's post of a law: it answered true, and what was there is as it was. -/
theorem law_post {H : Type} {enc : TypeId × Value → H} {P : Program} (hl : laidOutB P = true) {f : Func} {s : ChangeSpec} {W W' : World} {args : Array Value} {ds : List (DataW H)} {before : List MemPlace} {bt : TypeId}
    (hbt : P.underlying bt = some .bool) (hrt : f.resultTypes = #[bt]) (hv : s.vars = [])
    (hr : f.params.toList.all (fun t => P.readableRec t && decide (t < P.types.size)) = true)
    (hW : DataW.Whole enc P f.params.toList s.vars false W args.toList ds [] before)
    (hres : (s.fn H (ds ++ [])).results = [.lit (.bool true)]) (hargs : (s.fn H (ds ++ [])).args = ds) (hvars : (s.fn H (ds ++ [])).vars = []) (hb : Below W.heap.size W W') :
    s.post enc P f false true false false W args (.bool true) W' := by
  have hW2 := hW
  obtain ⟨p, q, hA, hV, rfl, _, _⟩ := hW
  rw [hv] at hV
  have hq : q = [] := by simpa [DataW.TrodVars] using hV
  subst hq
  refine ⟨ds, [], p ++ [], [], p, [], hW2, ?_, ?_, ?_, hb.frame _, fun h => by cases h⟩
  · rw [hres, hrt]
    exact trodAll_mk1 (shut_bool hbt true)
  · rw [hargs]
    exact carry_all hl hb _ _ _ _ hr (fun x hx => by simpa using hW2.lt x (List.mem_append_left _ hx)) hA
  · rw [hv, hvars]
    rfl

end Go.Proofs.Ytciiokegifgbdaa
/- Words for slices of one-cell elements, over any program: a slice value that reads as a list; what keeps it. Conditions: none beyond the hypotheses of each lemma. -/
namespace Go.Proofs.Ytciiokegifgbdaa
open Go.RowKit

/-- the slice value v reads as the cells xs; it lies below block B -/
def Row1 (w : World) (B : Nat) (v : Value) (xs : List Value) : Prop :=
  ∃ A c, v = .slice A xs.length c ∧ xs.length ≤ c ∧ c ≤ maxLen ∧ (xs ≠ [] → ∃ b o, A = some ⟨b, o, none⟩ ∧ b < B ∧ ∀ (k : Nat) (u : Value), xs[k]? = some u → w.cell? ⟨b, o + k, none⟩ = some u)

section
variable {w w' : World} {B B' : Nat} {v : Value} {xs : List Value}

theorem Row1.keep (h : Row1 w B v xs) (hk : ∀ p : Addr, p.block < B → w'.cell? p = w.cell? p) : Row1 w' B v xs := by
  obtain ⟨A, c, e, hc, hm, ha⟩ := h
  refine ⟨A, c, e, hc, hm, fun hn => ?_⟩
  obtain ⟨b, o, e2, hb, hcell⟩ := ha hn
  exact ⟨b, o, e2, hb, fun k u hu => (hk _ hb).trans (hcell k u hu)⟩
theorem Row1.below (h : Row1 w B v xs) (hb : Below B' w w') (hB : B ≤ B') : Row1 w' B v xs := h.keep fun _ hp => hb.cell (Nat.lt_of_lt_of_le hp hB)
theorem Row1.mono (h : Row1 w B v xs) (hB : B ≤ B') : Row1 w B' v xs := by
  obtain ⟨A, c, e, hc, hm, ha⟩ := h
  refine ⟨A, c, e, hc, hm, fun hn => ?_⟩
  obtain ⟨b, o, e2, hb, hcell⟩ := ha hn
  exact ⟨b, o, e2, by omega, hcell⟩
theorem Row1.alloc (h : Row1 w B v xs) (hB : B ≤ w.heap.size) (o : Obj) : Row1 (w.alloc o) B v xs := h.below ((Below.refl B w).alloc hB o) (Nat.le_refl _)
theorem Row1.drewN (h : Row1 w B v xs) (n : Nat) : Row1 (w.drewN n) B v xs := h.keep fun _ _ => rfl
theorem Row1.grown {row : Option Nat} (h : Row1 w B v xs) (hg : w.grownBy w' row) (hB : B ≤ w.heap.size) (hr : ∀ g, row = some g → B ≤ g) : Row1 w' B v xs :=
  h.keep fun p hp => World.cell?_of_block (hg.block p.block (by omega) (fun e => by have := hr _ e.symm; omega))
theorem Row1.nil (w : World) (B : Nat) : Row1 w B (.slice none 0 0) [] := ⟨none, 0, rfl, Nat.le_refl _, Nat.zero_le _, fun h => absurd rfl h⟩
theorem Row1.of_own {base : Nat} {E : TypeId} (h : w.ownsRow base E 1 v xs.length xs) : Row1 w w.heap.size v xs := by
  have h0 := h
  rcases h.2 with ⟨rfl, hn⟩ | ⟨g, cap, cur, rfl, hb, hg, hnc, hcm, hcs, htake⟩
  · have : xs = [] := List.eq_nil_of_length_eq_zero hn
    subst this
    exact Row1.nil _ _
  · refine ⟨_, _, rfl, hnc, hcm, fun _ => ⟨g, 0, rfl, (h.lt g rfl).2, fun k u hu => ?_⟩⟩
    rw [Nat.zero_add]
    have hk : k < xs.length := (List.getElem?_eq_some_iff.1 hu).1
    rw [h0.cellAt k (by omega), hu]
theorem Row1.len (h : Row1 w B v xs) : xs.length ≤ 9223372036854775807 := by
  obtain ⟨A, c, _, hc, hm, _⟩ := h
  unfold maxLen at hm
  omega
end

theorem own_base {w : World} {base base' : Nat} {E : TypeId} {size n : Nat} {v : Value} {xs : List Value} (h : w.ownsRow base E size v n xs) (hb : base' ≤ base) : w.ownsRow base' E size v n xs := by
  refine ⟨h.1, ?_⟩
  rcases h.2 with h2 | ⟨g, cap, cur, e, h1, r⟩
  · exact .inl h2
  · exact .inr ⟨g, cap, cur, e, by omega, r⟩
theorem own_below {w w' : World} {base : Nat} {E : TypeId} {size n : Nat} {v : Value} {xs : List Value} (h : w.ownsRow base E size v n xs) (hb : Below w.heap.size w w') : w'.ownsRow base E size v n xs := by
  refine h.kept (row := none) ⟨hb.os, hb.tape, hb.output, hb.size, fun k hk _ => hb.block k hk⟩ ?_
  cases v.ownBlock <;> simp
theorem own_drewN {w : World} {base : Nat} {E : TypeId} {size n : Nat} {v : Value} {xs : List Value} (h : w.ownsRow base E size v n xs) (m : Nat) : (w.drewN m).ownsRow base E size v n xs := own_below h (below_drewN (Below.refl _ _) m)

/-- block g is one cell of type T that holds x, not frozen -/
def One (w : World) (g : Nat) (T : TypeId) (x : Value) : Prop := w.heap[g]? = some (.cells #[x] T (0, 0))
section
variable {w w' : World} {g : Nat} {T : TypeId} {x : Value}
theorem One.lt (h : One w g T x) : g < w.heap.size := by
  rcases Nat.lt_or_ge g w.heap.size with hlt | hge
  · exact hlt
  · unfold One at h; rw [Array.getElem?_eq_none hge] at h; cases h
theorem One.cell (h : One w g T x) : w.cell? ⟨g, 0, none⟩ = some x := by rw [cell_of_row w g 0 _ T (0, 0) h]; rfl
theorem One.frozen (h : One w g T x) : w.frozen? ⟨g, 0, none⟩ = false := by unfold One at h; simp [World.frozen?, h]
theorem One.new (w : World) (T : TypeId) (x : Value) : One (w.alloc (.cells #[x] T)) w.heap.size T x := heap_alloc_new w _
theorem One.below {B : Nat} (h : One w g T x) (hb : Below B w w') (hg : g < B) : One w' g T x := (hb.block g hg).trans h
theorem One.alloc (h : One w g T x) (o : Obj) : One (w.alloc o) g T x := (Below.heap_alloc w o g h.lt).trans h
theorem One.drewN (h : One w g T x) (n : Nat) : One (w.drewN n) g T x := h
theorem One.far (h : One w g T x) {p : Addr} (hp : g ≠ p.block) (u : Value) : One (w.setCell p u) g T x := (Below.heap_setCell w p u g hp).trans h
theorem One.set (h : One w g T x) (u : Value) : One (w.setCell ⟨g, 0, none⟩ u) g T u := by
  unfold One at h ⊢
  simp [World.setCell, Array.getElem?_modify, h]
end

theorem map_get {α : Type} (f : α → Value) (l : List α) (k : Nat) (hk : k < l.length) : (l.map f)[k]? = some (f l[k]) := by simp [hk]

end Go.Proofs.Ytciiokegifgbdaa
/- Walks: the laws' own helpers on slices of strings and of integers: equal slices compare as equal. -/
namespace Go.Proofs.Ytciiokegifgbdaa
open Go.RowKit

end Go.Proofs.Ytciiokegifgbdaa
/- Plain mathematics over lists of bytes: which strings are words, names, digits. Conditions: none beyond the hypotheses of each lemma. -/
namespace Go.Proofs.Ytciiokegifgbdaa
open Go.RowKit

theorem take_snoc (s : ByteArray) (k : Nat) (h : k < s.size) : s.data.toList.take (k + 1) = s.data.toList.take k ++ [s[k]] := by
  rw [List.take_succ_eq_append_getElem (by simpa using h)]; rfl
theorem take_all (s : ByteArray) (k : Nat) (h : s.size ≤ k) : s.data.toList.take k = s.data.toList :=
  List.take_of_length_le (by rw [← Lib.size_eq]; exact h)
theorem ret_bool {a b : Bool} (h : a = b) : Ending.returned (.bool a) = .returned (.bool b) := by rw [h]
theorem ret_int {k : IntKind} {a b : Int} (h : a = b) : Ending.returned (.int k a) = .returned (.int k b) := by rw [h]

/-- one of the letters a, b, c, d -/
def letterB (c : UInt8) : Bool := decide (97 ≤ (c.toNat : Int)) && decide ((c.toNat : Int) ≤ 100)
/-- a word: at most 400 letters -/
def wordB (l : List UInt8) : Bool := decide (l.length ≤ 400) && l.all letterB

theorem all_step (p : UInt8 → Bool) (s : ByteArray) (k : Nat) (h : k < s.size) (ha : (s.data.toList.take k).all p = true) (hp : p s[k] = true) : (s.data.toList.take (k + 1)).all p = true := by
  rw [take_snoc s k h, List.all_append, ha]; simp [hp]
theorem all_fail (p : UInt8 → Bool) (s : ByteArray) (k : Nat) (h : k < s.size) (hp : p s[k] = false) : s.data.toList.all p = false := by
  rw [List.all_eq_false]
  exact ⟨s[k], by rw [ByteArray.getElem_eq_getElem_data, ← Array.getElem_toList]; exact List.getElem_mem _, by simp [hp]⟩
theorem letter_yes {c : UInt8} (h1 : (97 : Int) ≤ (c.toNat : Int)) (h2 : (c.toNat : Int) ≤ 100) : letterB c = true := by simp [letterB, h1, h2]
theorem letter_low {c : UInt8} (h1 : (c.toNat : Int) < 97) : letterB c = false := by unfold letterB; rw [decide_eq_false (by omega)]; rfl
theorem letter_high {c : UInt8} (h1 : (100 : Int) < (c.toNat : Int)) : letterB c = false := by unfold letterB; rw [decide_eq_false (p := (c.toNat : Int) ≤ 100) (by omega)]; simp
theorem word_fail {l : List UInt8} (h : l.all letterB = false) : wordB l = false := by simp [wordB, h]
theorem word_size {s : ByteArray} (h : s.data.toList.all letterB = true) : wordB s.data.toList = decide ((s.size : Int) ≤ 400) := by
  unfold wordB; rw [h, Bool.and_true, ← Lib.size_eq]; congr 1; exact propext (by omega)
theorem word_long {s : ByteArray} (h : 400 < s.size) : wordB s.data.toList = false := by
  unfold wordB; rw [decide_eq_false (by rw [← Lib.size_eq]; omega)]; rfl
theorem word_short {s : ByteArray} (h4 : ¬ 400 < s.size) (h : s.data.toList.all letterB = true) : wordB s.data.toList = true := by
  rw [word_size h]; exact decide_eq_true (by omega)
end Go.Proofs.Ytciiokegifgbdaa
/- Walks: the laws' own helpers that measure and copy slices of strings. -/
namespace Go.Proofs.Ytciiokegifgbdaa
open Go.RowKit

/-- all the bytes of a list of strings -/
def bytesOf : List ByteArray → Nat
  | [] => 0
  | s :: r => s.size + bytesOf r
/-- what szStringS returns -/
def szR (xs : List ByteArray) (L : Int) : Int := if (xs.length + bytesOf xs : Int) ≤ L then L - (xs.length + bytesOf xs) else -1
theorem bytesOf_append (xs ys : List ByteArray) : bytesOf (xs ++ ys) = bytesOf xs + bytesOf ys := by
  induction xs with
  | nil => simp [bytesOf]
  | cons a l ih => simp [bytesOf, ih]; omega
theorem bytesOf_step (xs : List ByteArray) (k : Nat) (h : k < xs.length) : bytesOf (xs.take (k + 1)) = bytesOf (xs.take k) + xs[k].size := by
  rw [List.take_succ_eq_append_getElem h, bytesOf_append]; simp [bytesOf]
theorem bytesOf_le (xs : List ByteArray) (k : Nat) : bytesOf (xs.take k) ≤ bytesOf xs := by
  have h : bytesOf xs = bytesOf (xs.take k ++ xs.drop k) := by rw [List.take_append_drop]
  rw [h, bytesOf_append]; omega
theorem bytesOf_mem {xs : List ByteArray} {s : ByteArray} (h : s ∈ xs) : s.size ≤ bytesOf xs := by
  induction xs with
  | nil => cases h
  | cons a l ih =>
    rcases List.mem_cons.1 h with rfl | h
    · simp [bytesOf]
    · have := ih h; simp [bytesOf]; omega
theorem szR_nonneg {xs : List ByteArray} {L : Int} (h : 0 ≤ szR xs L) : (xs.length + bytesOf xs : Int) ≤ L := by
  unfold szR at h; split at h <;> omega

theorem fill_get (xs : List ByteArray) (k : Nat) (h : k < xs.length) : ((xs.take k).map Value.string ++ List.replicate (xs.length - k) (Value.string ByteArray.empty))[k]? = some (Value.string ByteArray.empty) := by
  have hl : ((xs.take k).map Value.string).length = k := by simp; omega
  rw [List.getElem?_append_right (by omega), hl, Nat.sub_self, List.getElem?_replicate, if_pos (by omega)]
theorem fill_set (xs : List ByteArray) (k : Nat) (h : k < xs.length) : ((xs.take k).map Value.string ++ List.replicate (xs.length - k) (Value.string ByteArray.empty)).set k (.string xs[k]) =
    (xs.take (k + 1)).map Value.string ++ List.replicate (xs.length - (k + 1)) (Value.string ByteArray.empty) := by
  have hl : ((xs.take k).map Value.string).length = k := by simp; omega
  rw [List.set_append_right _ _ (by omega), hl, Nat.sub_self, List.take_succ_eq_append_getElem h, show xs.length - k = (xs.length - (k + 1)) + 1 by omega, List.replicate_succ, List.set_cons_zero, List.map_append, List.append_assoc]
  rfl

end Go.Proofs.Ytciiokegifgbdaa
/- Walks: the laws' own helpers on substitutions: measured, copied, compared. -/
namespace Go.Proofs.Ytciiokegifgbdaa
open Go.RowKit

theorem toSubst_one1 {w w1 : World} {a c : Obj} {T : TypeId} {x : Value} (h : Below ((((w.alloc a).alloc (.cells #[x] T)).alloc c)).heap.size (((w.alloc a).alloc (.cells #[x] T)).alloc c) w1) : One w1 (w.heap.size + 1) T x := by
  have h1 := ((One.new (w.alloc a) T x).alloc c).below h (by simp)
  simpa using h1
theorem toSubst_one2 {w w1 : World} {a b : Obj} {T : TypeId} {x : Value} (h : Below ((((w.alloc a).alloc b).alloc (.cells #[x] T))).heap.size (((w.alloc a).alloc b).alloc (.cells #[x] T)) w1) : One w1 (w.heap.size + 1 + 1) T x := by
  have h1 := (One.new ((w.alloc a).alloc b) T x).below h (by simp)
  simpa using h1
end Go.Proofs.Ytciiokegifgbdaa
/- What keeps a slice that reads as a list, over any program, further. Conditions: none beyond the hypotheses of each lemma. -/
namespace Go.Proofs.Ytciiokegifgbdaa
open Go.RowKit

theorem Row1.drew {w : World} {B : Nat} {v : Value} {xs : List Value} (h : Row1 w B v xs) : Row1 w.drew B v xs := h.drewN 1
theorem Row1.on {w w' : World} {v : Value} {xs : List Value} (h : Row1 w w.heap.size v xs) (hb : Below w.heap.size w w') : Row1 w' w'.heap.size v xs := (h.below hb (Nat.le_refl _)).mono hb.size
theorem One.drew {w : World} {g : Nat} {T : TypeId} {x : Value} (h : One w g T x) : One w.drew g T x := h
theorem One.on {w w' : World} {g : Nat} {T : TypeId} {x : Value} (h : One w g T x) (hb : Below w.heap.size w w') : One w' g T x := h.below hb h.lt
theorem Row1.own {w : World} {base : Nat} {E : TypeId} {v : Value} {n : Nat} {xs : List Value} (h : w.ownsRow base E 1 v n xs) (hn : n = xs.length) : Row1 w w.heap.size v xs := by
  subst hn; exact Row1.of_own h
theorem Row1.openAt {w : World} {B : Nat} {v : Value} {xs : List ByteArray} (h : Row1 w B v (xs.map .string)) (hn : 0 < xs.length) :
    ∃ b o c, v = .slice (some ⟨b, o, none⟩) xs.length c ∧ b < B ∧ xs.length ≤ c ∧ ∀ (k : Nat) (hk : k < xs.length), w.cell? ⟨b, o + k, none⟩ = some (.string xs[k]) := by
  obtain ⟨A, c, rfl, hc, hm, hA⟩ := h
  simp only [List.length_map] at hc
  obtain ⟨b, o, rfl, hb, hcell⟩ := hA (by intro h; rw [List.map_eq_nil_iff] at h; subst h; simp at hn)
  exact ⟨b, o, c, by simp, hb, hc, fun k hk => hcell k _ (map_get Value.string xs k hk)⟩

theorem Row1.shape {w : World} {B : Nat} {v : Value} {xs : List ByteArray} (h : Row1 w B v (xs.map .string)) : ∃ A c, v = .slice A xs.length c := by
  obtain ⟨A, c, rfl, _⟩ := h
  exact ⟨A, c, by simp⟩

end Go.Proofs.Ytciiokegifgbdaa
/- The state of a walk through a law of one substitution: the box of the argument and the argument itself stand. Conditions: none beyond the hypotheses of each lemma. -/
namespace Go.Proofs.Ytciiokegifgbdaa
open Go.RowKit

/-- the world wc is the law's start with its argument's box, and more: what was there stands -/
def Stands (w : World) (T : TypeId) (va : Value) (wc : World) : Prop := Below (w.heap.size + 1) (w.alloc (.cells #[va] T)) wc
section
variable {w wc w' : World} {T : TypeId} {va : Value} {xs : List Value} {B : Nat}
theorem Stands.start (w : World) (T : TypeId) (va : Value) : Stands w T va (w.alloc (.cells #[va] T)) := Below.refl _ _
theorem Stands.size (h : Stands w T va wc) : w.heap.size + 1 ≤ wc.heap.size := by have := Below.size h; simpa using this
theorem Stands.next (h : Stands w T va wc) (hb : Below B wc w') (hB : w.heap.size + 1 ≤ B) : Stands w T va w' := Below.trans h (hb.mono hB)
theorem Stands.on (h : Stands w T va wc) (hb : Below wc.heap.size wc w') : Stands w T va w' := h.next hb h.size
theorem Stands.alloc (h : Stands w T va wc) (o : Obj) : Stands w T va (wc.alloc o) := Below.alloc h h.size o
theorem Stands.drew (h : Stands w T va wc) : Stands w T va wc.drew := Below.drew h
theorem Stands.drewN (h : Stands w T va wc) (n : Nat) : Stands w T va (wc.drewN n) := below_drewN h n
theorem Stands.below (h : Stands w T va wc) : Below w.heap.size w wc := ((Below.refl _ _).alloc (Nat.le_refl _) _).trans (Below.mono h (Nat.le_succ _))
theorem Stands.box (h : Stands w T va wc) : wc.cell? ⟨w.heap.size, 0, none⟩ = some va := (One.below (One.new w T va) h (Nat.lt_succ_self _)).cell
theorem Stands.row (h : Stands w T va wc) (ha : Row1 w w.heap.size va xs) : Row1 wc wc.heap.size va xs := (ha.below h.below (Nat.le_refl _)).mono h.below.size
end
end Go.Proofs.Ytciiokegifgbdaa
/- Walks: which strings the program and the reference take for words. -/
namespace Go.Proofs.Ytciiokegifgbdaa
open Go.RowKit
set_option maxRecDepth 20000

set_option maxHeartbeats 400000 in
theorem isWord_any (s : ByteArray) (w : World) (hs : s.size ≤ maxLen) :
    Calls Try.prog 47 #[.string s] w fun e w' => e = .returned (.bool (wordB s.data.toList)) ∧ w = w' := by
  unfold maxLen at hs
  go_enter Try.func47, Try.ntmps47
  go_wp2_with fail
  go_loop [6] (fun i => ∃ k : Nat, k ≤ s.size ∧ (s.data.toList.take k).all letterB = true ∧ i = .int .i64 k) (fun i => s.size - (intOf i).toNat)
  case atStart => exact ⟨0, Nat.zero_le _, rfl, rfl⟩
  case round =>
    obtain ⟨k, hk, ha, rfl⟩ := hrel
    have HA := Lib.hid ha; clear ha
    go_wp2
    all_goals first
      | (have hlt : k < s.size := by assumption
         have h1 : (97 : Int) ≤ (s[k].toNat : Int) ∧ (s[k].toNat : Int) ≤ 100 := by assumption
         go_round
         case rel => exact ⟨k + 1, by omega, all_step _ s k hlt HA.out (letter_yes h1.1 h1.2), by go_num⟩
         case measure => simp [intOf]; omega)
      | (have hlt : k < s.size := by assumption
         go_ret
         exact ⟨ret_bool (word_fail (all_fail _ s k hlt (by first | exact letter_low (by omega) | exact letter_high (by omega)))).symm, rfl⟩)
      | (have hge : ¬ k < s.size := by assumption
         go_ret
         have e := take_all s k (by omega)
         exact ⟨ret_bool (word_size (by rw [← e]; exact HA.out)).symm, rfl⟩)

set_option maxHeartbeats 400000 in
theorem specWordOk_any (s : ByteArray) (w : World) (hs : s.size ≤ maxLen) :
    Calls Try.prog 70 #[.string s] w fun e w' => e = .returned (.bool (wordB s.data.toList)) ∧ w = w' := by
  unfold maxLen at hs
  by_cases h4 : 400 < s.size
  · go_enter Try.func70, Try.ntmps70
    go_wp2_with fail
    go_ret
    exact ⟨ret_bool (word_long h4).symm, rfl⟩
  go_enter Try.func70, Try.ntmps70
  go_wp2_with fail
  go_loop [3] (fun i => ∃ k : Nat, k ≤ s.size ∧ (s.data.toList.take k).all letterB = true ∧ i = .int .i64 k) (fun i => s.size - (intOf i).toNat)
  case atStart => exact ⟨0, Nat.zero_le _, rfl, rfl⟩
  case round =>
    obtain ⟨k, hk, ha, rfl⟩ := hrel
    have HA := Lib.hid ha; clear ha
    go_wp2
    all_goals first
      | (have hlt : k < s.size := by assumption
         have h1 : (97 : Int) ≤ (s[k].toNat : Int) ∧ (s[k].toNat : Int) ≤ 100 := by assumption
         go_round
         case rel => exact ⟨k + 1, by omega, all_step _ s k hlt HA.out (letter_yes h1.1 h1.2), by go_num⟩
         case measure => simp [intOf]; omega)
      | (have hlt : k < s.size := by assumption
         go_ret
         exact ⟨ret_bool (word_fail (all_fail _ s k hlt (by first | exact letter_low (by omega) | exact letter_high (by omega)))).symm, rfl⟩)
      | (have hge : ¬ k < s.size := by assumption
         go_ret
         have e := take_all s k (by omega)
         exact ⟨ret_bool (word_short h4 (by rw [← e]; exact HA.out)).symm, rfl⟩)


end Go.Proofs.Ytciiokegifgbdaa
/- Plain mathematics: which lists of strings are substitutions. Conditions: none beyond the hypotheses of each lemma. -/
namespace Go.Proofs.Ytciiokegifgbdaa
open Go.RowKit

/-- all letters are among the first n -/
def inB (n : Nat) (l : List UInt8) : Bool := l.all fun c => decide ((c.toNat : Int) - 97 < n)
/-- an image over n letters -/
def okImg (n : Nat) (l : List UInt8) : Bool := (decide ((1 : Int) ≤ (l.length : Int)) && decide ((l.length : Int) ≤ 8)) && (inB n l && wordB l)
/-- a substitution -/
def substB (xs : List ByteArray) : Bool := (xs.all fun s => okImg xs.length s.data.toList) && (decide ((1 : Int) ≤ (xs.length : Int)) && decide ((xs.length : Int) ≤ 4))

theorem inB_step (n : Nat) (s : ByteArray) (k : Nat) (h : k < s.size) (ha : inB n (s.data.toList.take k) = true) (hp : (s[k].toNat : Int) - 97 < n) : inB n (s.data.toList.take (k + 1)) = true :=
  all_step _ s k h ha (by simpa using hp)
theorem inB_fail (n : Nat) (s : ByteArray) (k : Nat) (h : k < s.size) (hp : (n : Int) ≤ (s[k].toNat : Int) - 97) : inB n s.data.toList = false :=
  all_fail _ s k h (by simpa using by omega)
theorem img_step (n : Nat) (xs : List ByteArray) (k : Nat) (h : k < xs.length) (ha : ((xs.take k).all fun s => okImg n s.data.toList) = true) (hp : okImg n xs[k].data.toList = true) :
    ((xs.take (k + 1)).all fun s => okImg n s.data.toList) = true := by
  rw [List.take_succ_eq_append_getElem h, List.all_append, ha]; simp [hp]
theorem img_fail (xs : List ByteArray) (k : Nat) (h : k < xs.length) (hp : okImg xs.length xs[k].data.toList = false) : substB xs = false := by
  have e : (xs.all fun s => okImg xs.length s.data.toList) = false := by
    rw [List.all_eq_false]
    exact ⟨xs[k], List.getElem_mem h, by simp [hp]⟩
  unfold substB; rw [e]; rfl
theorem subst_end (xs : List ByteArray) (ha : ((xs.take xs.length).all fun s => okImg xs.length s.data.toList) = true) : substB xs = (decide ((1 : Int) ≤ (xs.length : Int)) && decide ((xs.length : Int) ≤ 4)) := by
  rw [List.take_length] at ha
  unfold substB; rw [ha, Bool.true_and]
theorem subst_many (xs : List ByteArray) (h : (decide ((1 : Int) ≤ (xs.length : Int)) && decide ((xs.length : Int) ≤ 4)) = false) : substB xs = false := by
  unfold substB; rw [h, Bool.and_false]
theorem subst_parts {xs : List ByteArray} (h : substB xs = true) : 1 ≤ xs.length ∧ xs.length ≤ 4 ∧ ∀ s ∈ xs, 1 ≤ s.size ∧ s.size ≤ 8 ∧ inB xs.length s.data.toList = true ∧ wordB s.data.toList = true := by
  simp only [substB, Bool.and_eq_true, decide_eq_true_eq, List.all_eq_true] at h
  obtain ⟨h1, h2, h3⟩ := h
  refine ⟨by omega, by omega, fun s hs => ?_⟩
  have := h1 s hs
  simp only [okImg, Bool.and_eq_true, decide_eq_true_eq] at this
  rw [← Lib.size_eq] at this
  exact ⟨by omega, by omega, this.2.1, this.2.2⟩
theorem okImg_size (n : Nat) (s : ByteArray) : okImg n s.data.toList = ((decide ((1 : Int) ≤ (s.size : Int)) && decide ((s.size : Int) ≤ 8)) && (inB n s.data.toList && wordB s.data.toList)) := by
  unfold okImg; rw [← Lib.size_eq]
theorem word_letters {l : List UInt8} (h : wordB l = true) : l.all letterB = true := by
  unfold wordB at h; rw [Bool.and_eq_true] at h; exact h.2
theorem word_byte {s : ByteArray} (h : s.data.toList.all letterB = true) (k : Nat) (hk : k < s.size) : (97 : Int) ≤ (s[k].toNat : Int) ∧ (s[k].toNat : Int) ≤ 100 := by
  have hm : s[k] ∈ s.data.toList := by rw [ByteArray.getElem_eq_getElem_data, ← Array.getElem_toList]; exact List.getElem_mem _
  have := List.all_eq_true.1 h _ hm
  simpa [letterB] using this
theorem word_len {s : ByteArray} (h : wordB s.data.toList = true) : s.size ≤ 400 := by
  unfold wordB at h; rw [Bool.and_eq_true, ← Lib.size_eq] at h; simpa using h.1
end Go.Proofs.Ytciiokegifgbdaa
/- Walks: a number from a least one to a greatest one. -/
namespace Go.Proofs.Ytciiokegifgbdaa
open Go.RowKit

theorem within_any (n lo hi : Int) (w : World) : Calls Try.prog 40 #[.int .i64 n, .int .i64 lo, .int .i64 hi] w fun e w' => e = .returned (.bool (decide (lo ≤ n) && decide (n ≤ hi))) ∧ w = w' := by
  go_enter Try.func40, Try.ntmps40
  go_wp2_with fail
  all_goals (go_ret; exact ⟨ret_bool (by simp; try omega), rfl⟩)
theorem l01In_any (n lo hi : Int) (w : World) : Calls Try.prog 49 #[.int .i64 n, .int .i64 lo, .int .i64 hi] w fun e w' => e = .returned (.bool (decide (lo ≤ n) && decide (n ≤ hi))) ∧ w = w' := by
  go_enter Try.func49, Try.ntmps49
  go_wp2_with fail
  all_goals (go_ret; exact ⟨ret_bool (by simp; try omega), rfl⟩)
end Go.Proofs.Ytciiokegifgbdaa
/- Walks: which values the program and the reference take for substitutions. -/
namespace Go.Proofs.Ytciiokegifgbdaa
open Go.RowKit
set_option maxRecDepth 20000

set_option maxHeartbeats 400000 in
theorem l03Within_any (n : Nat) (s : ByteArray) (w : World) (hw : wordB s.data.toList = true) :
    Calls Try.prog 71 #[.int .i64 n, .string s] w fun e w' => e = .returned (.bool (inB n s.data.toList)) ∧ w = w' := by
  have hs := word_len hw
  have HL := Lib.hid (word_letters hw)
  clear hw
  go_enter Try.func71, Try.ntmps71
  go_wp2_with fail
  go_loop [5] (fun i => ∃ k : Nat, k ≤ s.size ∧ inB n (s.data.toList.take k) = true ∧ i = .int .i64 k) (fun i => s.size - (intOf i).toNat)
  case atStart => exact ⟨0, Nat.zero_le _, rfl, rfl⟩
  case round =>
    obtain ⟨k, hk, ha, rfl⟩ := hrel
    have HA := Lib.hid ha; clear ha
    by_cases hlt : k < s.size
    · have hb := word_byte HL.out k hlt
      obtain ⟨hb1, hb2⟩ := hb
      by_cases hn : (s[k].toNat : Int) - 97 < n
      · go_wp2
        all_goals first
          | (go_round
             case rel => exact ⟨k + 1, by omega, inB_step n s k hlt HA.out hn, by go_num⟩
             case measure => simp [intOf]; omega)
          | (exfalso; omega)
      · go_wp2
        all_goals first
          | (go_ret
             exact ⟨ret_bool (inB_fail n s k hlt (by omega)).symm, rfl⟩)
          | (exfalso; omega)
    · have e := take_all s k (by omega)
      go_wp2
      go_ret
      exact ⟨ret_bool (by rw [← e]; exact HA.out.symm), rfl⟩
set_option maxHeartbeats 400000 in
theorem hasImages_any (xs : List ByteArray) (va : Value) (s : ByteArray) (w : World) (ha : Row1 w w.heap.size va (xs.map .string)) (hs : s.size ≤ maxLen) :
    Calls Try.prog 41 #[.agg #[va], .string s] w fun e w' => e = .returned (.bool (inB xs.length s.data.toList && wordB s.data.toList)) ∧ Below w.heap.size w w' := by
  have hs' := hs
  unfold maxLen at hs'
  obtain ⟨A, c, rfl, hc, hm, hA⟩ := ha
  simp only [List.length_map] at hc ⊢
  clear hA
  unfold maxLen at hm
  have hb0 : Below w.heap.size w (w.alloc (.cells #[.slice A xs.length c] 33)) := (Below.refl _ _).alloc (Nat.le_refl _) _
  have HB := Lib.hid hb0; clear hb0
  go_enter Try.func41, Try.ntmps41
  go_wp2_with fail
  go_loopw [8] (fun i wr => ∃ k : Nat, k ≤ s.size ∧ inB xs.length (s.data.toList.take k) = true ∧ i = .int .i64 k ∧ ∃ n, wr = (w.alloc (.cells #[.slice A xs.length c] 33)).drewN n) (fun i _ => s.size - (intOf i).toNat)
  case atStart => exact ⟨0, Nat.zero_le _, rfl, rfl, 0, rfl⟩
  case round =>
    obtain ⟨k, hk, ha, rfl, n, rfl⟩ := hrel
    have HA := Lib.hid ha; clear ha
    by_cases hlt : k < s.size
    · have hb1 := s[k].toNat_lt
      have e1 : IntKind.i64.wrap (s[k].toNat : Int) = (s[k].toNat : Int) := IntWalk.i64_in _ (by omega)
      have e2 : IntKind.i64.wrap ((s[k].toNat : Int) - 97) = (s[k].toNat : Int) - 97 := IntWalk.i64_in _ (by omega)
      by_cases hn : (s[k].toNat : Int) - 97 < xs.length
      · have d1 : decide ((xs.length : Int) ≤ (s[k].toNat : Int) - 97) = false := decide_eq_false (by omega)
        have HN := Lib.hid hn
        clear hb1 hn
        go_wp2_with fail
        go_quiet (fail)
        clear e1 e2
        go_wp2
        go_roundw
        case rel => exact ⟨k + 1, by omega, inB_step _ s k hlt HA.out HN.out, by go_num, _, rfl⟩
        case measure => simp [intOf]; omega
      · have hf := inB_fail xs.length s k hlt (by omega)
        have HF := Lib.hid hf
        have d1 : decide ((xs.length : Int) ≤ (s[k].toNat : Int) - 97) = true := decide_eq_true (by omega)
        clear hb1 hn hf
        go_wp2_with fail
        go_quiet (fail)
        clear e1 e2
        go_wp2
        go_ret
        exact ⟨ret_bool (by rw [HF.out, Bool.false_and]), by first | exact below_drewN HB.out _ | exact below_drewN (below_drewN HB.out _) _⟩
    · have e := take_all s k (by omega)
      go_wp2_with (go_at_call 47; refine (isWord_any _ _ hs).mono ?_; rintro e w' ⟨rfl, rfl⟩)
      go_ret
      exact ⟨ret_bool (by rw [← e, HA.out, Bool.true_and]), below_drewN HB.out _⟩
set_option maxHeartbeats 400000 in
theorem specSubstOk_any (xs : List ByteArray) (va : Value) (w : World) (ha : Row1 w w.heap.size va (xs.map .string)) (hs : ∀ s ∈ xs, s.size ≤ maxLen) :
    Calls Try.prog 64 #[.agg #[va]] w fun e w' => e = .returned (.bool (substB xs)) ∧ Below w.heap.size w w' := by
  have HA := Lib.hid (ha.alloc (Nat.le_refl _) (.cells #[va] 33))
  have hl := ha.len
  simp only [List.length_map] at hl
  obtain ⟨A, c, rfl, hc, hm, hA⟩ := ha
  simp only [List.length_map] at hc HA ⊢
  have hb0 : Below w.heap.size w (w.alloc (.cells #[.slice A xs.length c] 33)) := (Below.refl _ _).alloc (Nat.le_refl _) _
  have HB := Lib.hid hb0; clear hb0
  unfold maxLen at hm
  cases d : (decide ((1 : Int) ≤ (xs.length : Int)) && decide ((xs.length : Int) ≤ 4))
  · have HF := Lib.hid (subst_many xs d)
    have D := Lib.hid d
    clear d hA
    go_enter Try.func64, Try.ntmps64
    go_wp2_with (go_at_call 49; refine (l01In_any _ _ _ _).mono ?_; rw [D.out]; rintro e w' ⟨rfl, rfl⟩)
    go_ret
    exact ⟨ret_bool HF.out.symm, HB.out⟩
  · have hd : 1 ≤ xs.length ∧ xs.length ≤ 4 := by simp only [Bool.and_eq_true, decide_eq_true_eq] at d; omega
    obtain ⟨hd1, hd4⟩ := hd
    have D := Lib.hid d
    clear d
    have hne : xs.map Value.string ≠ [] := by intro h; rw [List.map_eq_nil_iff] at h; subst h; simp at hd1
    obtain ⟨b, o, rfl, hbB, hcell⟩ := hA hne
    have HC := Lib.hid hcell; have HS := Lib.hid hs; clear hcell hA hne hs HA
    go_enter Try.func64, Try.ntmps64
    go_wp2_with (go_at_call 49; refine (l01In_any _ _ _ _).mono ?_; rw [D.out]; rintro e w' ⟨rfl, rfl⟩)
    go_loop [15] (fun i => ∃ k : Nat, k ≤ xs.length ∧ ((xs.take k).all fun s => okImg xs.length s.data.toList) = true ∧ i = .int .i64 k) (fun i => xs.length - (intOf i).toNat)
    case atStart => exact ⟨0, Nat.zero_le _, rfl, rfl⟩
    case round =>
      obtain ⟨k, hk, ha, rfl⟩ := hrel
      have HT := Lib.hid ha; clear ha
      by_cases hlt : k < xs.length
      · have g1 := (HB.out.cell (p := ⟨b, o + k, none⟩) hbB).trans (HC.out k _ (map_get Value.string xs k hlt))
        have gs := HS.out xs[k] (List.getElem_mem hlt)
        have hok := okImg_size xs.length xs[k]
        have HK := Lib.hid hok; clear hok
        cases q1 : (decide ((1 : Int) ≤ (xs[k].size : Int)) && decide ((xs[k].size : Int) ≤ 8)) <;> cases q2 : wordB xs[k].data.toList <;> cases q3 : inB xs.length xs[k].data.toList
        all_goals
          rw [q1, q2, q3] at HK
          have Q1 := Lib.hid q1
          have Q2 := Lib.hid q2
          clear q1
          go_wp2_with (first
            | (go_at_call 49; refine (l01In_any _ _ _ _).mono ?_; rw [Q1.out]; rintro e w' ⟨rfl, rfl⟩)
            | (go_at_call 70; refine (specWordOk_any _ _ gs).mono ?_; rintro e w' ⟨rfl, rfl⟩)
            | (go_at_call 71; refine (l03Within_any _ _ _ Q2.out).mono ?_; rintro e w' ⟨rfl, rfl⟩))
          first
            | (go_ret
               exact ⟨ret_bool (img_fail xs k hlt (by rw [HK.out]; rfl)).symm, HB.out⟩)
            | (go_round
               case rel => exact ⟨k + 1, by omega, img_step _ xs k hlt HT.out (by rw [HK.out]; rfl), by go_num⟩
               case measure => simp [intOf]; omega)
      · obtain rfl : k = xs.length := by omega
        have e := subst_end xs HT.out
        rw [D.out] at e
        have HE := Lib.hid e; clear e
        go_wp2
        go_ret
        exact ⟨ret_bool HE.out.symm, HB.out⟩
set_option maxHeartbeats 400000 in
theorem implSubstOk_any (xs : List ByteArray) (va : Value) (w : World) (ha : Row1 w w.heap.size va (xs.map .string)) (hs : ∀ s ∈ xs, s.size ≤ maxLen) :
    Calls Try.prog 20 #[.agg #[va]] w fun e w' => e = .returned (.bool (substB xs)) ∧ Below w.heap.size w w' := by
  have HA := Lib.hid ha
  have hl := ha.len
  simp only [List.length_map] at hl
  obtain ⟨A, c, rfl, hc, hm, hA⟩ := ha
  simp only [List.length_map] at hc HA ⊢
  have hb0 : Below w.heap.size w (w.alloc (.cells #[.slice A xs.length c] 33)) := (Below.refl _ _).alloc (Nat.le_refl _) _
  have HB := Lib.hid hb0; clear hb0
  unfold maxLen at hm
  rcases Nat.eq_zero_or_pos xs.length with h0 | h0
  · obtain rfl : xs = [] := List.eq_nil_of_length_eq_zero h0
    clear hA HA
    go_enter Try.func20, Try.ntmps20
    go_wp2_with fail
    refine wp_loop_rounds 1 ?_
    rw [rounds_succ]
    go_wp2_with (go_at_call 40; refine (within_any _ _ _ _).mono ?_; rintro e w' ⟨rfl, rfl⟩)
    go_ret
    exact ⟨ret_bool (by rfl), HB.out⟩
  · have hne : xs.map Value.string ≠ [] := by intro h; rw [List.map_eq_nil_iff] at h; subst h; simp at h0
    obtain ⟨b, o, rfl, hbB, hcell⟩ := hA hne
    have HC := Lib.hid hcell; have HS := Lib.hid hs; clear hcell hA hne hs
    have HO := Lib.hid (One.new w 33 (.slice (some ⟨b, o, none⟩) xs.length c))
    go_enter Try.func20, Try.ntmps20
    go_wp2_with fail
    go_loopw [8] (fun i wr => ∃ k : Nat, k ≤ xs.length ∧ ((xs.take k).all fun s => okImg xs.length s.data.toList) = true ∧ i = .int .i64 k ∧ Below (w.heap.size + 1) (w.alloc (.cells #[.slice (some ⟨b, o, none⟩) xs.length c] 33)) wr) (fun i _ => xs.length - (intOf i).toNat)
    case atStart => exact ⟨0, Nat.zero_le _, rfl, rfl, Below.refl _ _⟩
    case round =>
      obtain ⟨k, hk, ha, rfl, hbel⟩ := hrel
      have HT := Lib.hid ha; clear ha
      have c0 := (HO.out.below hbel (by omega)).cell
      have HW := Lib.hid (HB.out.trans (hbel.mono (Nat.le_succ _)))
      have HBL := Lib.hid hbel; clear hbel
      by_cases hlt : k < xs.length
      · have g1 := (HW.out.cell (p := ⟨b, o + k, none⟩) hbB).trans (HC.out k _ (map_get Value.string xs k hlt))
        have gs := HS.out xs[k] (List.getElem_mem hlt)
        have hR := (HA.out.below HW.out (Nat.le_refl _)).mono HW.out.size
        have HR := Lib.hid hR
        have hok := okImg_size xs.length xs[k]
        have HK := Lib.hid hok; clear hok hR
        cases q1 : (decide ((1 : Int) ≤ (xs[k].size : Int)) && decide ((xs[k].size : Int) ≤ 8)) <;> cases q2 : (inB xs.length xs[k].data.toList && wordB xs[k].data.toList)
        all_goals
          rw [q1, q2] at HK
          have Q1 := Lib.hid q1
          have Q2 := Lib.hid q2
          clear q1 q2
          go_wp2_with fail
          refine (within_any _ _ _ _).mono ?_
          rw [Q1.out]
          rintro e w' ⟨rfl, rfl⟩
          go_wp2_with fail
        · go_ret
          exact ⟨ret_bool (img_fail xs k hlt (by rw [HK.out]; rfl)).symm, HW.out⟩
        · go_ret
          exact ⟨ret_bool (img_fail xs k hlt (by rw [HK.out]; rfl)).symm, HW.out⟩
        · refine (hasImages_any xs _ _ _ HR.out gs).mono ?_
          rw [Q2.out]
          rintro e w1 ⟨rfl, hb1⟩
          go_wp2_with fail
          go_ret
          exact ⟨ret_bool (img_fail xs k hlt (by rw [HK.out]; rfl)).symm, HW.out.trans (hb1.mono HW.out.size)⟩
        · refine (hasImages_any xs _ _ _ HR.out gs).mono ?_
          rw [Q2.out]
          rintro e w1 ⟨rfl, hb1⟩
          have H1 := Lib.hid hb1; clear hb1
          go_wp2_with fail
          go_roundw
          case rel => exact ⟨k + 1, by omega, img_step _ xs k hlt HT.out (by rw [HK.out]; rfl), by go_num, HBL.out.trans (H1.out.mono (by have := HBL.out.size; simp at this; omega))⟩
          case measure => simp [intOf]; omega
      · obtain rfl : k = xs.length := by omega
        have HE := Lib.hid (subst_end xs HT.out)
        go_wp2_with (go_at_call 40; refine (within_any _ _ _ _).mono ?_; rintro e w' ⟨rfl, rfl⟩)
        go_ret
        exact ⟨ret_bool HE.out.symm, HW.out⟩
end Go.Proofs.Ytciiokegifgbdaa
/- Plain mathematics: images of letters and words under a substitution. Conditions: none beyond the hypotheses of each lemma. -/
namespace Go.Proofs.Ytciiokegifgbdaa
open Go.RowKit

/-- the image of a letter -/
def imgAt (xs : List ByteArray) (c : UInt8) : ByteArray := xs.getD (c.toNat - 97) ByteArray.empty
/-- the images of the letters of a word, one after the other -/
def applyL (xs : List ByteArray) (l : List UInt8) : List UInt8 := l.flatMap fun c => (imgAt xs c).data.toList
/-- n applications, where each leaves a word -/
def iterO (xs : List ByteArray) : Nat → List UInt8 → Option (List UInt8)
  | 0, l => some l
  | n + 1, l => if (applyL xs l).length ≤ 400 then iterO xs n (applyL xs l) else none
def wordIn (xs : List ByteArray) (l : List UInt8) : Bool := inB xs.length l && wordB l
/-- what IterateSubst returns -/
def iterP (xs : List ByteArray) (l : List UInt8) (n : Int) : ByteArray × Bool :=
  if substB xs = true ∧ wordIn xs l = true ∧ 0 ≤ n ∧ n ≤ 20 then (match iterO xs n.toNat l with | some r => (⟨r.toArray⟩, true) | none => (⟨#[]⟩, false)) else (⟨#[]⟩, false)

theorem wordIn_byte {xs : List ByteArray} {s : ByteArray} (h : wordIn xs s.data.toList = true) (k : Nat) (hk : k < s.size) : (97 : Int) ≤ (s[k].toNat : Int) ∧ (s[k].toNat : Int) ≤ 100 ∧ (s[k].toNat : Int) - 97 < xs.length := by
  simp only [wordIn, Bool.and_eq_true] at h
  have h1 := word_byte (word_letters h.2) k hk
  refine ⟨h1.1, h1.2, ?_⟩
  have hm : s[k] ∈ s.data.toList := by rw [ByteArray.getElem_eq_getElem_data, ← Array.getElem_toList]; exact List.getElem_mem _
  have := List.all_eq_true.1 h.1 _ hm
  simpa using this
theorem imgAt_get {xs : List ByteArray} {c : UInt8} (h : c.toNat - 97 < xs.length) : imgAt xs c = xs[c.toNat - 97] := by
  unfold imgAt; rw [List.getD_eq_getElem?_getD, List.getElem?_eq_getElem h]; rfl
theorem imgAt_ok {xs : List ByteArray} (hx : substB xs = true) {c : UInt8} (h : c.toNat - 97 < xs.length) : 1 ≤ (imgAt xs c).size ∧ (imgAt xs c).size ≤ 8 ∧ wordIn xs (imgAt xs c).data.toList = true := by
  rw [imgAt_get h]
  have := (subst_parts hx).2.2 _ (List.getElem_mem h)
  exact ⟨this.1, this.2.1, by unfold wordIn; rw [this.2.2.1, this.2.2.2]; rfl⟩
theorem applyL_snoc (xs : List ByteArray) (s : ByteArray) (k : Nat) (h : k < s.size) : applyL xs (s.data.toList.take (k + 1)) = applyL xs (s.data.toList.take k) ++ (imgAt xs s[k]).data.toList := by
  rw [take_snoc s k h]; simp [applyL]
theorem applyL_append (xs : List ByteArray) (l r : List UInt8) : applyL xs (l ++ r) = applyL xs l ++ applyL xs r := by simp [applyL]
theorem applyL_cons (xs : List ByteArray) (c : UInt8) (l : List UInt8) : applyL xs (c :: l) = (imgAt xs c).data.toList ++ applyL xs l := by simp [applyL]
theorem applyL_take_le (xs : List ByteArray) (l : List UInt8) (k : Nat) : (applyL xs (l.take k)).length ≤ (applyL xs l).length := by
  have h : applyL xs l = applyL xs (l.take k ++ l.drop k) := by rw [List.take_append_drop]
  rw [h, applyL_append, List.length_append]; omega
/-- every letter of a list is a letter with an image -/
def Letters (xs : List ByteArray) (l : List UInt8) : Prop := ∀ c ∈ l, letterB c = true ∧ c.toNat - 97 < xs.length
theorem letters_of_word {xs : List ByteArray} {l : List UInt8} (h : wordIn xs l = true) : Letters xs l := by
  simp only [wordIn, Bool.and_eq_true] at h
  intro c hc
  have h1 := List.all_eq_true.1 (word_letters h.2) c hc
  refine ⟨h1, ?_⟩
  have h2 := List.all_eq_true.1 h.1 c hc
  simp only [letterB, Bool.and_eq_true, decide_eq_true_eq] at h1 h2
  omega
theorem word_of_letters {xs : List ByteArray} {l : List UInt8} (h : Letters xs l) (hl : l.length ≤ 400) : wordIn xs l = true := by
  simp only [wordIn, inB, wordB, Bool.and_eq_true, List.all_eq_true, decide_eq_true_eq]
  refine ⟨fun c hc => ?_, hl, fun c hc => (h c hc).1⟩
  have := h c hc
  simp only [letterB, Bool.and_eq_true, decide_eq_true_eq] at this
  omega
theorem letters_word {xs : List ByteArray} {l : List UInt8} (h : Letters xs l) : wordB l = decide (l.length ≤ 400) := by
  unfold wordB
  rw [List.all_eq_true.2 (fun c hc => (h c hc).1), Bool.and_true]
theorem letters_apply {xs : List ByteArray} (hx : substB xs = true) {l : List UInt8} (h : Letters xs l) : Letters xs (applyL xs l) := by
  intro c hc
  simp only [applyL, List.mem_flatMap] at hc
  obtain ⟨a, ha, hc⟩ := hc
  exact letters_of_word (imgAt_ok hx (h a ha).2).2.2 c hc
theorem applyL_len {xs : List ByteArray} (hx : substB xs = true) : ∀ {l : List UInt8}, Letters xs l → (applyL xs l).length ≤ 8 * l.length
  | [], _ => by simp [applyL]
  | c :: l, h => by
    have h1 := applyL_len hx (l := l) fun a ha => h a (List.mem_cons_of_mem _ ha)
    have h2 := (imgAt_ok hx (h c List.mem_cons_self).2).2.1
    rw [applyL_cons, List.length_append, ← Lib.size_eq, List.length_cons]; omega
theorem iterP_bad {xs : List ByteArray} {l : List UInt8} {n : Int} (h : ¬ (substB xs = true ∧ wordIn xs l = true ∧ 0 ≤ n ∧ n ≤ 20)) : iterP xs l n = (⟨#[]⟩, false) := by unfold iterP; rw [if_neg h]
theorem iterP_some {xs : List ByteArray} {l r : List UInt8} {n : Nat} (h : substB xs = true ∧ wordIn xs l = true ∧ 0 ≤ (n : Int) ∧ (n : Int) ≤ 20) (hr : iterO xs n l = some r) : iterP xs l (n : Int) = (⟨r.toArray⟩, true) := by
  unfold iterP; rw [if_pos h, Int.toNat_natCast, hr]
theorem iterP_none {xs : List ByteArray} {l : List UInt8} {n : Nat} (h : substB xs = true ∧ wordIn xs l = true ∧ 0 ≤ (n : Int) ∧ (n : Int) ≤ 20) (hr : iterO xs n l = none) : iterP xs l (n : Int) = (⟨#[]⟩, false) := by
  unfold iterP; rw [if_pos h, Int.toNat_natCast, hr]
theorem wordIn_parts {xs : List ByteArray} {l : List UInt8} (h : wordIn xs l = true) : inB xs.length l = true ∧ wordB l = true := by simpa only [wordIn, Bool.and_eq_true] using h
/-- what the reference's l03Apply returns: all the images, or more than 400 letters of them -/
def CutOf (xs : List ByteArray) (l : List UInt8) (out : ByteArray) : Prop := (out.data.toList = applyL xs l ∨ 400 < out.size) ∧ ∃ k, out.data.toList = applyL xs (l.take k)
theorem cut_big {xs : List ByteArray} {l : List UInt8} {out : ByteArray} (h : CutOf xs l out) (hb : 400 < out.size) : ¬ (applyL xs l).length ≤ 400 := by
  obtain ⟨_, k, hk⟩ := h
  have := applyL_take_le xs l k
  rw [← hk, ← Lib.size_eq] at this
  omega
theorem cut_small {xs : List ByteArray} {l : List UInt8} {out : ByteArray} (h : CutOf xs l out) (hb : ¬ 400 < out.size) : out.data.toList = applyL xs l ∧ (applyL xs l).length ≤ 400 := by
  rcases h.1 with h1 | h1
  · refine ⟨h1, ?_⟩
    rw [← h1, ← Lib.size_eq]; omega
  · exact absurd h1 hb
theorem iterO_big {xs : List ByteArray} {l : List UInt8} (n : Nat) (h : ¬ (applyL xs l).length ≤ 400) : iterO xs (n + 1) l = none := by rw [iterO, if_neg h]
theorem iterO_small {xs : List ByteArray} {l : List UInt8} (n : Nat) (h : (applyL xs l).length ≤ 400) : iterO xs (n + 1) l = iterO xs n (applyL xs l) := by rw [iterO, if_pos h]
theorem word_apply {xs : List ByteArray} (hx : substB xs = true) {l : List UInt8} (h : wordIn xs l = true) (hl : (applyL xs l).length ≤ 400) : wordIn xs (applyL xs l) = true :=
  word_of_letters (letters_apply hx (letters_of_word h)) hl
theorem mk_list (s : ByteArray) {l : List UInt8} (h : s.data.toList = l) : s = ⟨l.toArray⟩ := by subst h; exact (Lib.mk_data s).symm
theorem data_mk (l : List UInt8) : (⟨l.toArray⟩ : ByteArray).data.toList = l := rfl
theorem size_mk (l : List UInt8) : (⟨l.toArray⟩ : ByteArray).size = l.length := rfl
theorem data_append (a b : ByteArray) : (a ++ b).data.toList = a.data.toList ++ b.data.toList := by rw [ByteArray.data_append, Array.toList_append]
end Go.Proofs.Ytciiokegifgbdaa
/- Plain mathematics: letters with an image, growing letters. Conditions: none beyond the hypotheses of each lemma. -/
namespace Go.Proofs.Ytciiokegifgbdaa
open Go.RowKit

/-- the letter with the index j, and as a string -/
def lc (j : Nat) : UInt8 := UInt8.ofNat (97 + j)
def ltr (j : Nat) : ByteArray := ⟨#[lc j]⟩
theorem lc_nat {j : Nat} (h : j < 4) : (lc j).toNat = 97 + j := by unfold lc; rw [UInt8.toNat_ofNat']; omega
theorem abcd_at {k : Nat} (h : k < 4) : (⟨#[97, 98, 99, 100]⟩ : ByteArray).extract k (k + 1) = ltr k := by
  rcases (show k = 0 ∨ k = 1 ∨ k = 2 ∨ k = 3 by omega) with rfl | rfl | rfl | rfl <;> decide
theorem ltr_size (j : Nat) : (ltr j).size = 1 := rfl
theorem ltr_data (j : Nat) : (ltr j).data.toList = [lc j] := rfl
theorem lc_of {c : UInt8} (h : 97 ≤ c.toNat) : lc (c.toNat - 97) = c := by
  unfold lc
  rw [show 97 + (c.toNat - 97) = c.toNat by omega]
  exact UInt8.ofNat_toNat
theorem lc_inj {i j : Nat} (hi : i < 4) (hj : j < 4) (h : lc i = lc j) : i = j := by
  have := congrArg UInt8.toNat h
  rw [lc_nat hi, lc_nat hj] at this
  omega

/-- a string that is one letter with an image -/
def imgB (xs : List ByteArray) : List UInt8 → Bool
  | [c] => letterB c && decide ((c.toNat : Int) - 97 < xs.length)
  | _ => false
/-- one letter -/
def oneB : List UInt8 → Bool
  | [c] => letterB c
  | _ => false
theorem list_one {s : ByteArray} (h : s.size = 1) : s.data.toList = [s[0]'(by omega)] := by
  obtain ⟨⟨l⟩⟩ := s
  match l, h with
  | [c], _ => rfl
theorem oneB_one {s : ByteArray} (h : s.size = 1) : oneB s.data.toList = wordB s.data.toList := by
  rw [list_one h]; simp [oneB, wordB]
theorem oneB_not {s : ByteArray} (h : ¬ s.size = 1) : oneB s.data.toList = false := by
  obtain ⟨⟨l⟩⟩ := s
  match l, h with
  | [], _ => rfl
  | [c], h => exact absurd rfl h
  | _ :: _ :: _, _ => rfl
theorem imgB_eq (xs : List ByteArray) (l : List UInt8) : imgB xs l = (oneB l && (inB xs.length l && wordB l)) := by
  match l with
  | [] => rfl
  | [c] => simp only [imgB, oneB, inB, wordB, List.all_cons, List.all_nil, Bool.and_true, List.length_singleton]; cases letterB c <;> simp
  | _ :: _ :: _ => rfl
theorem imgB_letter {xs : List ByteArray} {s : ByteArray} (h : imgB xs s.data.toList = true) : ∃ hs : s.size = 1, (97 : Int) ≤ ((s[0]'(by omega)).toNat : Int) ∧ ((s[0]'(by omega)).toNat : Int) ≤ 100 ∧ ((s[0]'(by omega)).toNat : Int) - 97 < xs.length := by
  by_cases hs : s.size = 1
  · refine ⟨hs, ?_⟩
    rw [list_one hs] at h
    simp only [imgB, letterB, Bool.and_eq_true, decide_eq_true_eq] at h
    exact ⟨h.1.1, h.1.2, h.2⟩
  · rw [imgB_eq, oneB_not hs] at h; cases h

/-- the letter c is growing: its image has more than one letter and begins with it -/
def growC (xs : List ByteArray) (c : UInt8) : Bool := decide ((1 : Int) < ((imgAt xs c).size : Int)) && ((imgAt xs c).data.toList.headD 0 == c)
def growB (xs : List ByteArray) : List UInt8 → Bool
  | [c] => imgB xs [c] && growC xs c
  | _ => false
theorem growB_one (xs : List ByteArray) (c : UInt8) : growB xs [c] = (imgB xs [c] && growC xs c) := rfl
theorem head_get {s : ByteArray} (h : 0 < s.size) : s.data.toList.headD 0 = s[0] := by
  obtain ⟨⟨l⟩⟩ := s
  match l, h with
  | c :: _, _ => rfl
def growIx (xs : List ByteArray) (k : Nat) : List UInt8 := ((List.range k).filter fun j => growC xs (lc j)).map lc
theorem growIx_yes {xs : List ByteArray} {k : Nat} (h : growC xs (lc k) = true) : growIx xs (k + 1) = growIx xs k ++ [lc k] := by
  unfold growIx; rw [List.range_succ, List.filter_append]; simp [h]
theorem growIx_no {xs : List ByteArray} {k : Nat} (h : growC xs (lc k) = false) : growIx xs (k + 1) = growIx xs k := by
  unfold growIx; rw [List.range_succ, List.filter_append]; simp [h]
theorem growIx_len (xs : List ByteArray) (k : Nat) : (growIx xs k).length ≤ k := by
  unfold growIx; rw [List.length_map]; have := List.length_filter_le (fun j => growC xs (lc j)) (List.range k); simpa using this
/-- what GrowingLetters returns -/
def growL (xs : List ByteArray) : List UInt8 := if substB xs = true then growIx xs xs.length else []
end Go.Proofs.Ytciiokegifgbdaa
/- Walks: words of one letter. -/
namespace Go.Proofs.Ytciiokegifgbdaa
open Go.RowKit
set_option maxRecDepth 20000

set_option maxHeartbeats 400000 in
theorem isLetter_any (s : ByteArray) (w : World) (hs : s.size ≤ maxLen) : Calls Try.prog 57 #[.string s] w fun e w' => e = .returned (.bool (oneB s.data.toList)) ∧ w = w' := by
  by_cases h : s.size = 1
  · have HO := Lib.hid (oneB_one h)
    have b1 : ((s.size : Int) == 1) = true := by rw [h]; rfl
    clear h
    go_enter Try.func57, Try.ntmps57
    go_wp2_with (go_at_call 47; refine (isWord_any _ _ hs).mono ?_; rintro e w' ⟨rfl, rfl⟩)
    go_ret
    exact ⟨ret_bool HO.out.symm, rfl⟩
  · have HO := Lib.hid (oneB_not h)
    have b1 : ((s.size : Int) == 1) = false := by rw [beq_eq_false_iff_ne]; omega
    clear h
    go_enter Try.func57, Try.ntmps57
    go_wp2_with fail
    go_ret
    exact ⟨ret_bool HO.out.symm, rfl⟩
end Go.Proofs.Ytciiokegifgbdaa
