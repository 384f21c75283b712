/- Words for slices of slices of integers, over any program: a value that reads as rows; rows that the call has made. Conditions: none beyond the hypotheses of each lemma. -/
import Derived.Test.YtciiokegifgbdaaDoorOn
import Derived.Laws.MakeOwn
namespace Go.Proofs.YtciiokegifgbdaaDoor
open Go.RowKit

abbrev ints (xs : List Int) : List Value := xs.map (Value.int .i64)
theorem ints_len (xs : List Int) : (ints xs).length = xs.length := List.length_map _

/-- the slice value v reads as rows of integers; all of it lies below block B -/
def Row2 (w : World) (B : Nat) (v : Value) (xss : List (List Int)) : Prop :=
  ∃ vs : List Value, vs.length = xss.length ∧ Row1 w B v vs ∧ ∀ (k : Nat) (hk : k < vs.length) (hx : k < xss.length), Row1 w B vs[k] (ints xss[k])

section
variable {w w' : World} {B B' : Nat} {v : Value} {xss : List (List Int)}
theorem Row2.keep (h : Row2 w B v xss) (hk : ∀ p : Addr, p.block < B → w'.cell? p = w.cell? p) : Row2 w' B v xss := by
  obtain ⟨vs, hl, h1, h2⟩ := h
  exact ⟨vs, hl, h1.keep hk, fun k a b => (h2 k a b).keep hk⟩
theorem Row2.below (h : Row2 w B v xss) (hb : Below B' w w') (hB : B ≤ B') : Row2 w' B v xss := h.keep fun _ hp => hb.cell (Nat.lt_of_lt_of_le hp hB)
theorem Row2.mono (h : Row2 w B v xss) (hB : B ≤ B') : Row2 w B' v xss := by
  obtain ⟨vs, hl, h1, h2⟩ := h
  exact ⟨vs, hl, h1.mono hB, fun k a b => (h2 k a b).mono hB⟩
theorem Row2.alloc (h : Row2 w B v xss) (hB : B ≤ w.heap.size) (o : Obj) : Row2 (w.alloc o) B v xss := h.below ((Below.refl B w).alloc hB o) (Nat.le_refl _)
theorem Row2.drewN (h : Row2 w B v xss) (n : Nat) : Row2 (w.drewN n) B v xss := h.keep fun _ _ => rfl
theorem Row2.drew (h : Row2 w B v xss) : Row2 w.drew B v xss := h.drewN 1
theorem Row2.on (h : Row2 w w.heap.size v xss) (hb : Below w.heap.size w w') : Row2 w' w'.heap.size v xss := (h.below hb (Nat.le_refl _)).mono hb.size
theorem Row2.grown {row : Option Nat} (h : Row2 w B v xss) (hg : w.grownBy w' row) (hB : B ≤ w.heap.size) (hr : ∀ g, row = some g → B ≤ g) : Row2 w' B v xss :=
  h.keep fun p hp => World.cell?_of_block (hg.block p.block (by omega) (fun e => by have := hr _ e.symm; omega))
theorem Row2.nil (w : World) (B : Nat) : Row2 w B (.slice none 0 0) [] := ⟨[], rfl, Row1.nil w B, fun k hk => absurd hk (Nat.not_lt_zero k)⟩
theorem Row2.shape (h : Row2 w B v xss) : ∃ A c, v = .slice A xss.length c ∧ xss.length ≤ c := by
  obtain ⟨vs, hl, ⟨A, c, e, hc, _⟩, _⟩ := h
  exact ⟨A, c, by rw [e, hl], by omega⟩
theorem Row2.len (h : Row2 w B v xss) : xss.length ≤ 9223372036854775807 := by
  obtain ⟨vs, hl, h1, _⟩ := h
  have := h1.len; omega
/-- each row, in this world and in each later one that keeps what lies below B -/
theorem Row2.openAt (h : Row2 w B v xss) (hn : 0 < xss.length) : ∃ b o c, v = .slice (some ⟨b, o, none⟩) xss.length c ∧ xss.length ≤ c ∧
    ∀ (k : Nat) (hk : k < xss.length), ∃ u, ∀ w' : World, (∀ p : Addr, p.block < B → w'.cell? p = w.cell? p) → w'.cell? ⟨b, o + k, none⟩ = some u ∧ Row1 w' B u (ints xss[k]) := by
  obtain ⟨vs, hl, ⟨A, c, e, hc, hm, hA⟩, h2⟩ := h
  obtain ⟨b, o, rfl, hb, hcell⟩ := hA (by intro h; subst h; simp at hl; omega)
  refine ⟨b, o, c, by rw [e, hl], by omega, fun k hk => ⟨vs[k]'(by omega), fun w' hw' => ⟨?_, (h2 k (by omega) hk).keep hw'⟩⟩⟩
  exact (hw' _ hb).trans (hcell k _ (List.getElem?_eq_getElem (by omega)))
end

/-- v owns rows that the call has made: vs are their values -/
structure OwnV (E2 E1 : TypeId) (w : World) (base : Nat) (v : Value) (vs : List Value) (xss : List (List Int)) : Prop where
  len : vs.length = xss.length
  own : w.ownsRow base E2 1 v xss.length vs
  row : ∀ (k : Nat) (hk : k < vs.length) (hx : k < xss.length), w.ownsRow base E1 1 vs[k] xss[k].length (ints xss[k])
  apart : ∀ (i j : Nat) (hi : i < vs.length) (hj : j < vs.length), i ≠ j → ∀ g, vs[i].ownBlock = some g → vs[j].ownBlock ≠ some g
def Own2 (E2 E1 : TypeId) (w : World) (base hi : Nat) (v : Value) (xss : List (List Int)) : Prop := ∃ vs, OwnV E2 E1 w base v vs xss ∧ ∀ u ∈ vs, ∀ g, u.ownBlock = some g → g < hi

theorem own_block {w : World} {base : Nat} {E : TypeId} {size n g : Nat} {v : Value} {xs : List Value} (h : w.ownsRow base E size v n xs) (hg : v.ownBlock = some g) : base ≤ g ∧ ∃ cur, w.heap[g]? = some (.cells cur E (0, 0)) := by
  rcases h.2 with ⟨rfl, _⟩ | ⟨g', cap, cur, rfl, hb, hh, _⟩
  · simp [Value.ownBlock] at hg
  · simp only [Value.ownBlock, Option.some.injEq] at hg
    subst hg
    exact ⟨hb, cur, hh⟩
theorem own_lt {w : World} {base : Nat} {E : TypeId} {size n g : Nat} {v : Value} {xs : List Value} (h : w.ownsRow base E size v n xs) (hg : v.ownBlock = some g) : base ≤ g ∧ g < w.heap.size := by
  obtain ⟨h1, cur, h2⟩ := own_block h hg
  refine ⟨h1, ?_⟩
  rcases Nat.lt_or_ge g w.heap.size with hlt | hge
  · exact hlt
  · rw [Array.getElem?_eq_none hge] at h2; cases h2
/-- two rows of other element types lie in other blocks -/
theorem own_types {w : World} {b1 b2 : Nat} {E1 E2 : TypeId} (hE : E1 ≠ E2) {s1 s2 n1 n2 : Nat} {v1 v2 : Value} {xs1 xs2 : List Value} (h1 : w.ownsRow b1 E1 s1 v1 n1 xs1) (h2 : w.ownsRow b2 E2 s2 v2 n2 xs2) : v1.ownBlock = none ∨ v1.ownBlock ≠ v2.ownBlock := by
  rcases h : v1.ownBlock with _ | g
  · exact .inl rfl
  · refine .inr fun e => ?_
    obtain ⟨_, c1, e1⟩ := own_block h1 h
    obtain ⟨_, c2, e2⟩ := own_block h2 e.symm
    rw [e1] at e2
    exact hE (by injection (Option.some.inj e2))

section
variable {E2 E1 : TypeId} {w w' : World} {base : Nat} {v v' : Value} {vs : List Value} {xss : List (List Int)}
theorem OwnV.below (h : OwnV E2 E1 w base v vs xss) (hb : Below w.heap.size w w') : OwnV E2 E1 w' base v vs xss :=
  ⟨h.len, own_below h.own hb, fun k hk hx => own_below (h.row k hk hx) hb, h.apart⟩
theorem OwnV.mono {base' : Nat} (h : OwnV E2 E1 w base v vs xss) (hb : base' ≤ base) : OwnV E2 E1 w base' v vs xss :=
  ⟨h.len, own_base h.own hb, fun k hk hx => own_base (h.row k hk hx) hb, h.apart⟩
theorem Own2.below {hi : Nat} (h : Own2 E2 E1 w base hi v xss) (hb : Below w.heap.size w w') : Own2 E2 E1 w' base hi v xss := by obtain ⟨vs, h, hu⟩ := h; exact ⟨vs, h.below hb, hu⟩
theorem Own2.mono {base' hi : Nat} (h : Own2 E2 E1 w base hi v xss) (hb : base' ≤ base) : Own2 E2 E1 w base' hi v xss := by obtain ⟨vs, h, hu⟩ := h; exact ⟨vs, h.mono hb, hu⟩
theorem Own2.drewN {hi : Nat} (h : Own2 E2 E1 w base hi v xss) (n : Nat) : Own2 E2 E1 (w.drewN n) base hi v xss := h.below (below_drewN (Below.refl _ _) n)
theorem Own2.alloc {hi : Nat} (h : Own2 E2 E1 w base hi v xss) (o : Obj) : Own2 E2 E1 (w.alloc o) base hi v xss := h.below ((Below.refl _ _).alloc (Nat.le_refl _) o)
theorem OwnV.own2 (h : OwnV E2 E1 w base v vs xss) : Own2 E2 E1 w base w.heap.size v xss := by
  refine ⟨vs, h, fun u hu g hg => ?_⟩
  obtain ⟨k, hk, rfl⟩ := List.mem_iff_getElem.1 hu
  exact (own_lt (h.row k hk (by rw [← h.len]; exact hk)) hg).2
theorem OwnV.zero (w : World) (base : Nat) : OwnV E2 E1 w base (.slice none 0 0) [] [] := ⟨rfl, ⟨rfl, .inl ⟨rfl, rfl⟩⟩, fun k hk => absurd hk (Nat.not_lt_zero k), fun i _ hi => absurd hi (Nat.not_lt_zero i)⟩
theorem Own2.zero (w : World) (base hi : Nat) : Own2 E2 E1 w base hi (.slice none 0 0) [] := ⟨[], OwnV.zero w base, fun u hu => by cases hu⟩
theorem OwnV.empty (h : w.ownsRow base E2 1 v 0 []) : OwnV E2 E1 w base v [] [] := ⟨rfl, h, fun k hk => absurd hk (Nat.not_lt_zero k), fun i _ hi => absurd hi (Nat.not_lt_zero i)⟩
theorem OwnV.row2 (h : OwnV E2 E1 w base v vs xss) : Row2 w w.heap.size v xss :=
  ⟨vs, h.len, Row1.own h.own h.len.symm, fun k hk hx => Row1.own (h.row k hk hx) (ints_len _).symm⟩
theorem Own2.row2 {hi : Nat} (h : Own2 E2 E1 w base hi v xss) : Row2 w w.heap.size v xss := by
  obtain ⟨vs, h, _⟩ := h
  exact h.row2
theorem Own2.shape {hi : Nat} (h : Own2 E2 E1 w base hi v xss) : ∃ A c, v = .slice A xss.length c := by
  obtain ⟨A, c, e, _⟩ := h.row2.shape
  exact ⟨A, c, e⟩
/-- behind an append of one row that is younger than all the others -/
theorem OwnV.push {w0 w1 : World} {u : Value} {ys : List Int} (hE : E1 ≠ E2) (h : OwnV E2 E1 w0 base v vs xss) (hB : base ≤ w0.heap.size) (h01 : Below w0.heap.size w0 w1) (hu : w1.ownsRow w0.heap.size E1 1 u ys.length (ints ys))
    (hown : w'.ownsRow base E2 1 v' (xss.length + 1) (vs ++ [u])) (hg : w1.grownBy w' v.ownBlock) : OwnV E2 E1 w' base v' (vs ++ [u]) (xss ++ [ys]) := by
  have h1 := h.below h01
  have hlen := h.len
  have hneU : u.ownBlock = none ∨ u.ownBlock ≠ v.ownBlock := own_types hE hu h1.own
  have hu' : w'.ownsRow base E1 1 u ys.length (ints ys) := (own_base hu hB).kept hg hneU
  have hr' : ∀ (k : Nat) (hk : k < vs.length) (hx : k < xss.length), w'.ownsRow base E1 1 vs[k] xss[k].length (ints xss[k]) := fun k hk hx => (h1.row k hk hx).kept hg (own_types hE (h1.row k hk hx) h1.own)
  refine ⟨by simp [hlen], by simpa using hown, fun k hk hx => ?_, fun i j hi hj hij g hgi hgj => ?_⟩
  · rw [List.length_append] at hk hx
    by_cases hkl : k < vs.length
    · rw [List.getElem_append_left hkl, List.getElem_append_left (by omega)]
      exact hr' k hkl (by omega)
    · have e : k = vs.length := by simp at hk; omega
      have e2 : k = xss.length := by omega
      rw [List.getElem_append_right (by omega), List.getElem_append_right (by omega)]
      simpa [e, hlen] using hu'
  · have hold : ∀ (k : Nat) (hk : k < vs.length) (g : Nat), vs[k].ownBlock = some g → g < w0.heap.size := fun k hk g hg => (own_lt (h.row k hk (by omega)) hg).2
    rw [List.length_append] at hi hj
    by_cases h1i : i < vs.length <;> by_cases h1j : j < vs.length
    · rw [List.getElem_append_left h1i] at hgi
      rw [List.getElem_append_left h1j] at hgj
      exact h.apart i j h1i h1j hij g hgi hgj
    · rw [List.getElem_append_left h1i] at hgi
      rw [List.getElem_append_right (by omega)] at hgj
      have := hold i h1i g hgi
      have := (own_lt hu (g := g) (by simpa using hgj)).1
      omega
    · rw [List.getElem_append_right (by omega)] at hgi
      rw [List.getElem_append_left h1j] at hgj
      have := hold j h1j g hgj
      have := (own_lt hu (g := g) (by simpa using hgi)).1
      omega
    · simp at hi hj; omega
/-- behind a change within one row -/
theorem OwnV.set {k : Nat} {ys : List Int} (hE : E1 ≠ E2) (h : OwnV E2 E1 w base v vs xss) (hk : k < vs.length) (hown : w'.ownsRow base E1 1 vs[k] ys.length (ints ys)) (hg : w.grownBy w' vs[k].ownBlock) :
    OwnV E2 E1 w' base v vs (xss.set k ys) := by
  have hlen := h.len
  have hx : k < xss.length := by omega
  refine ⟨by simp [hlen], ?_, fun j hj hjx => ?_, h.apart⟩
  · rw [List.length_set]
    refine h.own.kept hg ?_
    rcases own_types (fun e => hE e.symm) h.own (h.row k hk hx) with e | e
    · exact .inl e
    · exact .inr e
  · by_cases e : k = j
    · subst e
      rw [List.getElem_set_self]
      exact hown
    · rw [List.getElem_set_ne e]
      rw [List.length_set] at hjx
      refine (h.row j hj hjx).kept hg ?_
      rcases hv : vs[j].ownBlock with _ | g
      · exact .inl rfl
      · exact .inr fun e2 => h.apart j k hj hk (fun e3 => e e3.symm) g hv e2.symm
end
end Go.Proofs.YtciiokegifgbdaaDoor
