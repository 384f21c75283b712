/- What a walk through a law carries along from step to step, over any program. Conditions: none beyond the hypotheses of each lemma. -/
import Derived.Test.YtciiokegifgbdaaDoorGrid
namespace Go.Proofs.YtciiokegifgbdaaDoor
open Go.RowKit

section
variable {w0 w w' : World} {B B' g lo hi base n size : Nat} {T E : TypeId} {x v : Value} {xs : List Value} {xss : List (List Int)}
theorem since_on (h : Below w0.heap.size w0 w) (hb : Below w.heap.size w w') : Below w0.heap.size w0 w' := h.trans (hb.mono h.size)
theorem bnew (w : World) (o : Obj) : Below w.heap.size w (w.alloc o) := (Below.refl _ _).alloc (Nat.le_refl _) o
theorem bdrew (w : World) : Below w.heap.size w w.drew := (Below.refl _ _).drew
theorem bdrewN (w : World) (n : Nat) : Below w.heap.size w (w.drewN n) := below_drewN (Below.refl _ _) n
theorem bthen {w1 : World} (h : Below w.heap.size w w') (k : Below w'.heap.size w' w1) : Below w.heap.size w w1 := h.trans (k.mono h.size)

/-- a slice that lies below block B and reads as xs -/
structure Rd (B : Nat) (v : Value) (xs : List Value) (w : World) : Prop where
  row : Row1 w B v xs
  le : B ≤ w.heap.size
theorem Rd.new (h : Row1 w w.heap.size v xs) : Rd w.heap.size v xs w := ⟨h, Nat.le_refl _⟩
theorem Rd.on (h : Rd B v xs w) (hb : Below w.heap.size w w') : Rd B v xs w' := ⟨h.row.below hb h.le, Nat.le_trans h.le hb.size⟩
theorem Rd.at (h : Rd B v xs w) : Row1 w w.heap.size v xs := h.row.mono h.le
structure Rd2 (B : Nat) (v : Value) (xss : List (List Int)) (w : World) : Prop where
  row : Row2 w B v xss
  le : B ≤ w.heap.size
theorem Rd2.new (h : Row2 w w.heap.size v xss) : Rd2 w.heap.size v xss w := ⟨h, Nat.le_refl _⟩
theorem Rd2.on (h : Rd2 B v xss w) (hb : Below w.heap.size w w') : Rd2 B v xss w' := ⟨h.row.below hb h.le, Nat.le_trans h.le hb.size⟩
theorem Rd2.at (h : Rd2 B v xss w) : Row2 w w.heap.size v xss := h.row.mono h.le

/-- of the blocks that were there only those from lo up to hi have turned -/
structure Within (lo hi : Nat) (w w' : World) : Prop where
  os : w'.os = w.os
  tape : w'.tape = w.tape
  output : w'.output = w.output
  size : w.heap.size ≤ w'.heap.size
  block : ∀ k, k < w.heap.size → (k < lo ∨ hi ≤ k) → w'.heap[k]? = w.heap[k]?
theorem Within.refl (lo hi : Nat) (w : World) : Within lo hi w w := ⟨rfl, rfl, rfl, Nat.le_refl _, fun _ _ _ => rfl⟩
theorem Within.trans {w1 : World} (h : Within lo hi w w') (k : Within lo hi w' w1) : Within lo hi w w1 :=
  ⟨k.os.trans h.os, k.tape.trans h.tape, k.output.trans h.output, Nat.le_trans h.size k.size, fun j hj hn => (k.block j (Nat.lt_of_lt_of_le hj h.size) hn).trans (h.block j hj hn)⟩
theorem Within.of_grown {row : Option Nat} (hg : w.grownBy w' row) (hr : ∀ g, row = some g → lo ≤ g ∧ g < hi) : Within lo hi w w' :=
  ⟨hg.os, hg.tape, hg.output, hg.size, fun k hk hn => hg.block k hk fun e => by have := hr k e.symm; omega⟩
theorem Within.of_below (hb : Below w.heap.size w w') : Within lo hi w w' := ⟨hb.os, hb.tape, hb.output, hb.size, fun k hk _ => hb.block k hk⟩
theorem Within.below (h : Within lo hi w w') (hB : B ≤ lo) (hw : B ≤ w.heap.size) : Below B w w' :=
  ⟨h.os, h.tape, h.output, h.size, fun k hk => h.block k (by omega) (.inl (by omega))⟩
theorem Within.cell (h : Within lo hi w w') {p : Addr} (hp : p.block < w.heap.size) (hn : p.block < lo ∨ hi ≤ p.block) : w'.cell? p = w.cell? p := World.cell?_of_block (h.block p.block hp hn)
theorem One.within (h : One w g T x) (hb : Within lo hi w w') (hn : g < lo ∨ hi ≤ g) : One w' g T x := (hb.block g h.lt hn).trans h
theorem Rd.within (h : Rd B v xs w) (hb : Within lo hi w w') (hl : B ≤ lo) : Rd B v xs w' := ⟨h.row.below (hb.below hl h.le) (Nat.le_refl _), Nat.le_trans h.le hb.size⟩
theorem Rd2.within (h : Rd2 B v xss w) (hb : Within lo hi w w') (hl : B ≤ lo) : Rd2 B v xss w' := ⟨h.row.below (hb.below hl h.le) (Nat.le_refl _), Nat.le_trans h.le hb.size⟩
theorem own_within (h : w.ownsRow base E size v n xs) (hb : Within lo hi w w') (hl : hi ≤ base) : w'.ownsRow base E size v n xs := by
  refine ⟨h.1, ?_⟩
  rcases h.2 with h2 | ⟨g, cap, cur, e, h1, h2, r⟩
  · exact .inl h2
  · refine .inr ⟨g, cap, cur, e, h1, ?_, r⟩
    rcases Nat.lt_or_ge g w.heap.size with hlt | hge
    · rw [hb.block g hlt (.inr (by omega))]; exact h2
    · rw [Array.getElem?_eq_none hge] at h2; cases h2
theorem Own2.within {E2 E1 : TypeId} {top : Nat} (h : Own2 E2 E1 w base top v xss) (hb : Within lo hi w w') (hl : hi ≤ base) : Own2 E2 E1 w' base top v xss := by
  obtain ⟨vs, h, hu⟩ := h
  exact ⟨vs, ⟨h.len, own_within h.own hb hl, fun k hk hx => own_within (h.row k hk hx) hb hl, h.apart⟩, hu⟩
theorem since_in (h : Below w0.heap.size w0 w) (hb : Within lo hi w w') (hl : w0.heap.size ≤ lo) : Below w0.heap.size w0 w' := h.trans (hb.below hl h.size)
end
end Go.Proofs.YtciiokegifgbdaaDoor
