/- Plain mathematics: the letters that are reached. Conditions: none beyond the hypotheses of each lemma. -/
import Derived.Test.YtglleimmmfnhcaaSub
namespace Go.Proofs.Ytglleimmmfnhcaa
open Go.RowKit

inductive Rch (ls : List (List UInt8)) (k : Nat) : Nat → Prop
  | base : Rch ls k k
  | step {i : Nat} {c : UInt8} : Rch ls k i → c ∈ ls.getD i [] → Rch ls k (c.toNat - 97)
open Classical in
noncomputable def rchB (ls : List (List UInt8)) (k j : Nat) : Bool := decide (Rch ls k j)
open Classical in
theorem rch_yes {ls : List (List UInt8)} {k j : Nat} (h : Rch ls k j) : rchB ls k j = true := by unfold rchB; exact decide_eq_true h
open Classical in
theorem rch_no {ls : List (List UInt8)} {k j : Nat} (h : ¬ Rch ls k j) : rchB ls k j = false := by unfold rchB; exact decide_eq_false h
def namesOf (p : Nat → Bool) (n : Nat) : List UInt8 := ((List.range n).filter p).map fun j => UInt8.ofNat (97 + j)
noncomputable def rbN (ls : List (List UInt8)) (k : Nat) : List UInt8 := namesOf (rchB ls k) ls.length
theorem names_step (p : Nat → Bool) (n : Nat) : namesOf p (n + 1) = namesOf p n ++ if p n = true then [UInt8.ofNat (97 + n)] else [] := by
  unfold namesOf
  rw [List.range_succ, List.filter_append, List.map_append]
  by_cases h : p n = true <;> simp [h]
theorem names_congr {p q : Nat → Bool} {n : Nat} (h : ∀ j, j < n → p j = q j) : namesOf p n = namesOf q n := by
  unfold namesOf
  rw [List.filter_congr (fun j hj => h j (List.mem_range.1 hj))]

def isIn (b : List Bool) (j : Nat) : Bool := b.getD j false
def putB (b : List Bool) (c : UInt8) : List Bool := b.set (c.toNat - 97) true
def rowB2 (b : List Bool) (w : List UInt8) : List Bool := w.foldl putB b
def rstep (ls : List (List UInt8)) (i : Nat) (b : List Bool) : List Bool := if isIn b i = true then rowB2 b (ls.getD i []) else b
def sweepTo (ls : List (List UInt8)) (b : List Bool) : Nat → List Bool
  | 0 => b
  | i + 1 => rstep ls i (sweepTo ls b i)
def sweeps (ls : List (List UInt8)) (b : List Bool) : Nat → List Bool
  | 0 => b
  | r + 1 => sweepTo ls (sweeps ls b r) ls.length
def subB (b b' : List Bool) : Prop := ∀ j, isIn b j = true → isIn b' j = true
theorem subB_refl (b : List Bool) : subB b b := fun _ h => h
theorem subB_trans {a b c : List Bool} (h : subB a b) (k : subB b c) : subB a c := fun j hj => k j (h j hj)
theorem isIn_set (b : List Bool) (i j : Nat) : isIn (b.set i true) j = if i = j ∧ j < b.length then true else isIn b j := by
  unfold isIn
  rw [List.getD_eq_getElem?_getD, List.getD_eq_getElem?_getD, List.getElem?_set]
  by_cases h : i = j
  · subst h
    by_cases hl : i < b.length
    · simp [hl]
    · simp [hl]
  · simp [h]
theorem put_len (b : List Bool) (c : UInt8) : (putB b c).length = b.length := List.length_set
theorem put_sub (b : List Bool) (c : UInt8) : subB b (putB b c) := by
  intro j hj; unfold putB; rw [isIn_set]; split <;> simp_all
theorem put_in {b : List Bool} {c : UInt8} (h : c.toNat - 97 < b.length) : isIn (putB b c) (c.toNat - 97) = true := by
  unfold putB; rw [isIn_set, if_pos ⟨rfl, h⟩]
theorem row_len2 (w : List UInt8) : ∀ b : List Bool, (rowB2 b w).length = b.length := by
  induction w with
  | nil => intro b; rfl
  | cons c w ih => intro b; show (rowB2 (putB b c) w).length = _; rw [ih, put_len]
theorem row_sub (w : List UInt8) : ∀ b : List Bool, subB b (rowB2 b w) := by
  induction w with
  | nil => intro b; exact subB_refl b
  | cons c w ih => intro b; exact subB_trans (put_sub b c) (ih (putB b c))
theorem row_in {c : UInt8} : ∀ (w : List UInt8) (b : List Bool), c ∈ w → c.toNat - 97 < b.length → isIn (rowB2 b w) (c.toNat - 97) = true := by
  intro w
  induction w with
  | nil => intro b h; cases h
  | cons d w ih =>
    intro b h hl
    rcases List.mem_cons.1 h with rfl | h
    · exact row_sub w _ _ (put_in hl)
    · exact ih (putB b d) h (by rw [put_len]; exact hl)
theorem row_sound {P : Nat → Prop} : ∀ (w : List UInt8) (b : List Bool), (∀ j, isIn b j = true → P j) → (∀ c ∈ w, P (c.toNat - 97)) → ∀ j, isIn (rowB2 b w) j = true → P j := by
  intro w
  induction w with
  | nil => intro b h _; exact h
  | cons d w ih =>
    intro b h hw
    refine ih (putB b d) (fun j hj => ?_) (fun c hc => hw c (List.mem_cons_of_mem _ hc))
    unfold putB at hj; rw [isIn_set] at hj
    by_cases he : d.toNat - 97 = j ∧ j < b.length
    · rw [← he.1]; exact hw d List.mem_cons_self
    · rw [if_neg he] at hj; exact h j hj
theorem row_take {b : List Bool} {w : List UInt8} {k : Nat} (h : k < w.length) : rowB2 b (w.take (k + 1)) = putB (rowB2 b (w.take k)) w[k] := by
  unfold rowB2; rw [List.take_succ_eq_append_getElem h, List.foldl_append]; rfl
theorem rstep_len (ls : List (List UInt8)) (i : Nat) (b : List Bool) : (rstep ls i b).length = b.length := by unfold rstep; split; exact row_len2 _ _; rfl
theorem rstep_sub (ls : List (List UInt8)) (i : Nat) (b : List Bool) : subB b (rstep ls i b) := by unfold rstep; split; exact row_sub _ _; exact subB_refl b
theorem sweepTo_len (ls : List (List UInt8)) (b : List Bool) : ∀ i, (sweepTo ls b i).length = b.length
  | 0 => rfl
  | i + 1 => by rw [sweepTo, rstep_len, sweepTo_len]
theorem sweeps_len (ls : List (List UInt8)) (b : List Bool) : ∀ r, (sweeps ls b r).length = b.length
  | 0 => rfl
  | r + 1 => by rw [sweeps, sweepTo_len, sweeps_len]
theorem sweepTo_le (ls : List (List UInt8)) (b : List Bool) (i : Nat) : ∀ d, subB (sweepTo ls b i) (sweepTo ls b (i + d))
  | 0 => subB_refl _
  | d + 1 => subB_trans (sweepTo_le ls b i d) (rstep_sub ls (i + d) _)
theorem sweepTo_sub (ls : List (List UInt8)) (b : List Bool) (n : Nat) : subB b (sweepTo ls b n) := by
  have h := sweepTo_le ls b 0 n
  rw [Nat.zero_add] at h; exact h
/-- a state that a sweep leaves as it was is closed. -/
theorem stable_closed {ls : List (List UInt8)} {b : List Bool} {n : Nat} (hs : sweepTo ls b n = b) {i : Nat} (hi : i < n) (hb : isIn b i = true) {c : UInt8} (hc : c ∈ ls.getD i []) (hl : c.toNat - 97 < b.length) : isIn b (c.toNat - 97) = true := by
  have h1 : isIn (sweepTo ls b i) i = true := sweepTo_sub ls b i i hb
  have h2 : isIn (sweepTo ls b (i + 1)) (c.toNat - 97) = true := by
    rw [sweepTo, rstep, if_pos h1]
    exact row_in _ _ hc (by rw [sweepTo_len]; exact hl)
  have h3 := sweepTo_le ls b (i + 1) (n - (i + 1)) _ h2
  rw [show i + 1 + (n - (i + 1)) = n by omega, hs] at h3
  exact h3
theorem sweepTo_sound {ls : List (List UInt8)} {k : Nat} {b : List Bool} (h : ∀ j, isIn b j = true → Rch ls k j) : ∀ i j, isIn (sweepTo ls b i) j = true → Rch ls k j
  | 0, j, hj => h j hj
  | i + 1, j, hj => by
    rw [sweepTo, rstep] at hj
    by_cases hi : isIn (sweepTo ls b i) i = true
    · rw [if_pos hi] at hj
      exact row_sound _ _ (fun j hj => sweepTo_sound h i j hj) (fun c hc => Rch.step (sweepTo_sound h i i hi) hc) j hj
    · rw [if_neg hi] at hj
      exact sweepTo_sound h i j hj
theorem sweeps_sound {ls : List (List UInt8)} {k : Nat} {b : List Bool} (h : ∀ j, isIn b j = true → Rch ls k j) : ∀ r j, isIn (sweeps ls b r) j = true → Rch ls k j
  | 0, j, hj => h j hj
  | r + 1, j, hj => sweepTo_sound (fun j hj => sweeps_sound h r j hj) _ j hj
def cntB (b : List Bool) : Nat := b.countP id
theorem subB_cons {x y : Bool} {a b : List Bool} (h : subB (x :: a) (y :: b)) : (x = true → y = true) ∧ subB a b := ⟨fun hx => h 0 hx, fun j hj => h (j + 1) hj⟩
theorem cnt_le : ∀ {b b' : List Bool}, b.length = b'.length → subB b b' → cntB b ≤ cntB b'
  | [], [], _, _ => Nat.le_refl _
  | x :: a, y :: b, hl, h => by
    have h2 := subB_cons h
    have h3 := cnt_le (b := a) (b' := b) (by simpa using hl) h2.2
    unfold cntB at *
    cases x <;> cases y <;> simp_all <;> omega
theorem cnt_lt : ∀ {b b' : List Bool}, b.length = b'.length → subB b b' → b ≠ b' → cntB b < cntB b'
  | [], [], _, _, h => absurd rfl h
  | x :: a, y :: b, hl, h, hne => by
    have h2 := subB_cons h
    have hl2 : a.length = b.length := by simpa using hl
    by_cases hab : a = b
    · subst hab
      unfold cntB
      cases x <;> cases y <;> simp_all
    · have h3 := cnt_lt (b := a) (b' := b) hl2 h2.2 hab
      unfold cntB at *
      cases x <;> cases y <;> simp_all <;> omega
theorem cnt_top (b : List Bool) : cntB b ≤ b.length := List.countP_le_length
theorem cnt_pos {b : List Bool} {k : Nat} (h : isIn b k = true) : 1 ≤ cntB b := by
  unfold isIn at h
  rw [List.getD_eq_getElem?_getD] at h
  have hk : k < b.length := by
    rcases Nat.lt_or_ge k b.length with h' | h'
    · exact h'
    · rw [List.getElem?_eq_none h'] at h; cases h
  rw [List.getElem?_eq_getElem hk] at h
  exact List.countP_pos_iff.2 ⟨b[k], List.getElem_mem hk, h⟩
theorem sweeps_grow {ls : List (List UInt8)} {b : List Bool} {k : Nat} (h : isIn b k = true) : ∀ r, (∃ q, q ≤ r ∧ sweeps ls b (q + 1) = sweeps ls b q) ∨ r + 2 ≤ cntB (sweeps ls b (r + 1))
  | 0 => by
    by_cases he : sweeps ls b 1 = sweeps ls b 0
    · exact .inl ⟨0, Nat.le_refl _, he⟩
    · right
      have h1 : cntB b < cntB (sweeps ls b 1) := cnt_lt (by rw [sweeps_len]) (sweepTo_sub ls b _) (fun e => he e.symm)
      have := cnt_pos h
      show 2 ≤ cntB (sweeps ls b 1)
      omega
  | r + 1 => by
    rcases sweeps_grow h r with ⟨q, hq, he⟩ | h2
    · exact .inl ⟨q, by omega, he⟩
    · by_cases he : sweeps ls b (r + 2) = sweeps ls b (r + 1)
      · exact .inl ⟨r + 1, Nat.le_refl _, he⟩
      · right
        have h1 : cntB (sweeps ls b (r + 1)) < cntB (sweeps ls b (r + 2)) := cnt_lt (by rw [sweeps_len, sweeps_len]) (sweepTo_sub ls _ _) (fun e => he e.symm)
        show r + 1 + 2 ≤ cntB (sweeps ls b (r + 2))
        omega
theorem sweeps_stay {ls : List (List UInt8)} {b : List Bool} {q : Nat} (he : sweeps ls b (q + 1) = sweeps ls b q) : ∀ d, sweeps ls b (q + d) = sweeps ls b q
  | 0 => rfl
  | d + 1 => by
    show sweepTo ls (sweeps ls b (q + d)) ls.length = _
    rw [sweeps_stay he d]; exact he
theorem sweeps_sub (ls : List (List UInt8)) (b : List Bool) : ∀ r, subB b (sweeps ls b r)
  | 0 => subB_refl _
  | r + 1 => subB_trans (sweeps_sub ls b r) (sweepTo_sub ls _ _)
/-- four sweeps over at most four letters reach all that is reached. -/
theorem sweeps_all {ls : List (List UInt8)} {k : Nat} (h4 : ls.length ≤ 4) (hk : k < ls.length) (hin : ∀ l ∈ ls, ∀ c ∈ l, c.toNat - 97 < ls.length) (j : Nat) :
    isIn (sweeps ls ((List.replicate ls.length false).set k true) 4) j = true ↔ Rch ls k j := by
  have hlen : ((List.replicate ls.length false).set k true).length = ls.length := by simp
  have h0 : isIn ((List.replicate ls.length false).set k true) k = true := by rw [isIn_set, if_pos ⟨rfl, by simpa using hk⟩]
  have hs0 : ∀ j, isIn ((List.replicate ls.length false).set k true) j = true → Rch ls k j := by
    intro j hj
    rw [isIn_set] at hj
    by_cases he : k = j ∧ j < (List.replicate ls.length false).length
    · rw [← he.1]; exact Rch.base
    · rw [if_neg he] at hj
      exfalso
      unfold isIn at hj
      rw [List.getD_eq_getElem?_getD, List.getElem?_replicate] at hj
      split at hj <;> simp at hj
  obtain ⟨b, hb⟩ : ∃ b, b = (List.replicate ls.length false).set k true := ⟨_, rfl⟩
  rw [← hb] at hlen h0 hs0 ⊢
  refine ⟨fun h => sweeps_sound hs0 4 j h, fun h => ?_⟩
  have hst : sweeps ls b 5 = sweeps ls b 4 := by
    rcases sweeps_grow (ls := ls) h0 3 with ⟨q, hq, he⟩ | h2
    · have e1 := sweeps_stay he (4 - q)
      have e2 := sweeps_stay he (5 - q)
      rw [show q + (4 - q) = 4 by omega] at e1
      rw [show q + (5 - q) = 5 by omega] at e2
      rw [e1, e2]
    · have h3 : 5 ≤ cntB (sweeps ls b 4) := h2
      have := cnt_top (sweeps ls b 4)
      rw [sweeps_len, hlen] at this
      omega
  have hfin : ∀ j, Rch ls k j → j < ls.length ∧ isIn (sweeps ls b 4) j = true := by
    intro j hj
    induction hj with
    | base => exact ⟨hk, sweeps_sub ls b 4 k h0⟩
    | @step i c _ hc ih =>
      have hm : ls.getD i [] ∈ ls := by rw [List.getD_eq_getElem?_getD, List.getElem?_eq_getElem ih.1]; exact List.getElem_mem ih.1
      have hl := hin _ hm c hc
      exact ⟨hl, stable_closed (n := ls.length) hst ih.1 ih.2 hc (by rw [sweeps_len, hlen]; exact hl)⟩
  exact (hfin j h).2
end Go.Proofs.Ytglleimmmfnhcaa
