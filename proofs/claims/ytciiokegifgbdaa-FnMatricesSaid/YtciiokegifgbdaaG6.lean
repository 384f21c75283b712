/- Walks and plain laws of the functions that a law reaches, several texts in one (part 6). Conditions: none beyond the hypotheses of each lemma. -/
import Derived.Maps.Own
import Derived.Maps.Views
import Derived.ArgAppend
import Derived.Test.YtciiokegifgbdaaG1
import Derived.Test.YtciiokegifgbdaaG5
import Derived.Test.YtciiokegifgbdaaG3
import Derived.Test.YtciiokegifgbdaaG2
/- Plain mathematics: the letters that are reached. Conditions: none beyond the hypotheses of each lemma. -/
namespace Go.Proofs.Ytciiokegifgbdaa
open Go.RowKit

inductive Rch (ls : List (List UInt8)) (k : Nat) : Nat → Prop
  | base : Rch ls k k
  | step {i : Nat} {c : UInt8} : Rch ls k i → c ∈ ls.getD i [] → Rch ls k (c.toNat - 97)
open Classical in
noncomputable def rchB (ls : List (List UInt8)) (k j : Nat) : Bool := decide (Rch ls k j)
open Classical in
theorem rch_yes {ls : List (List UInt8)} {k j : Nat} (h : Rch ls k j) : rchB ls k j = true := by unfold rchB; exact decide_eq_true h
open Classical in
theorem rch_no {ls : List (List UInt8)} {k j : Nat} (h : ¬ Rch ls k j) : rchB ls k j = false := by unfold rchB; exact decide_eq_false h
def namesOf (p : Nat → Bool) (n : Nat) : List UInt8 := ((List.range n).filter p).map fun j => UInt8.ofNat (97 + j)
noncomputable def rbN (ls : List (List UInt8)) (k : Nat) : List UInt8 := namesOf (rchB ls k) ls.length
theorem names_step (p : Nat → Bool) (n : Nat) : namesOf p (n + 1) = namesOf p n ++ if p n = true then [UInt8.ofNat (97 + n)] else [] := by
  unfold namesOf
  rw [List.range_succ, List.filter_append, List.map_append]
  by_cases h : p n = true <;> simp [h]
theorem names_congr {p q : Nat → Bool} {n : Nat} (h : ∀ j, j < n → p j = q j) : namesOf p n = namesOf q n := by
  unfold namesOf
  rw [List.filter_congr (fun j hj => h j (List.mem_range.1 hj))]

def isIn (b : List Bool) (j : Nat) : Bool := b.getD j false
def putB (b : List Bool) (c : UInt8) : List Bool := b.set (c.toNat - 97) true
def rowB2 (b : List Bool) (w : List UInt8) : List Bool := w.foldl putB b
def rstep (ls : List (List UInt8)) (i : Nat) (b : List Bool) : List Bool := if isIn b i = true then rowB2 b (ls.getD i []) else b
def sweepTo (ls : List (List UInt8)) (b : List Bool) : Nat → List Bool
  | 0 => b
  | i + 1 => rstep ls i (sweepTo ls b i)
def sweeps (ls : List (List UInt8)) (b : List Bool) : Nat → List Bool
  | 0 => b
  | r + 1 => sweepTo ls (sweeps ls b r) ls.length
def subB (b b' : List Bool) : Prop := ∀ j, isIn b j = true → isIn b' j = true
theorem subB_refl (b : List Bool) : subB b b := fun _ h => h
theorem subB_trans {a b c : List Bool} (h : subB a b) (k : subB b c) : subB a c := fun j hj => k j (h j hj)
theorem isIn_set (b : List Bool) (i j : Nat) : isIn (b.set i true) j = if i = j ∧ j < b.length then true else isIn b j := by
  unfold isIn
  rw [List.getD_eq_getElem?_getD, List.getD_eq_getElem?_getD, List.getElem?_set]
  by_cases h : i = j
  · subst h
    by_cases hl : i < b.length
    · simp [hl]
    · simp [hl]
  · simp [h]
theorem put_len (b : List Bool) (c : UInt8) : (putB b c).length = b.length := List.length_set
theorem put_sub (b : List Bool) (c : UInt8) : subB b (putB b c) := by
  intro j hj; unfold putB; rw [isIn_set]; split <;> simp_all
theorem put_in {b : List Bool} {c : UInt8} (h : c.toNat - 97 < b.length) : isIn (putB b c) (c.toNat - 97) = true := by
  unfold putB; rw [isIn_set, if_pos ⟨rfl, h⟩]
theorem row_len2 (w : List UInt8) : ∀ b : List Bool, (rowB2 b w).length = b.length := by
  induction w with
  | nil => intro b; rfl
  | cons c w ih => intro b; show (rowB2 (putB b c) w).length = _; rw [ih, put_len]
theorem row_sub (w : List UInt8) : ∀ b : List Bool, subB b (rowB2 b w) := by
  induction w with
  | nil => intro b; exact subB_refl b
  | cons c w ih => intro b; exact subB_trans (put_sub b c) (ih (putB b c))
theorem row_in {c : UInt8} : ∀ (w : List UInt8) (b : List Bool), c ∈ w → c.toNat - 97 < b.length → isIn (rowB2 b w) (c.toNat - 97) = true := by
  intro w
  induction w with
  | nil => intro b h; cases h
  | cons d w ih =>
    intro b h hl
    rcases List.mem_cons.1 h with rfl | h
    · exact row_sub w _ _ (put_in hl)
    · exact ih (putB b d) h (by rw [put_len]; exact hl)
theorem row_sound {P : Nat → Prop} : ∀ (w : List UInt8) (b : List Bool), (∀ j, isIn b j = true → P j) → (∀ c ∈ w, P (c.toNat - 97)) → ∀ j, isIn (rowB2 b w) j = true → P j := by
  intro w
  induction w with
  | nil => intro b h _; exact h
  | cons d w ih =>
    intro b h hw
    refine ih (putB b d) (fun j hj => ?_) (fun c hc => hw c (List.mem_cons_of_mem _ hc))
    unfold putB at hj; rw [isIn_set] at hj
    by_cases he : d.toNat - 97 = j ∧ j < b.length
    · rw [← he.1]; exact hw d List.mem_cons_self
    · rw [if_neg he] at hj; exact h j hj
theorem row_take {b : List Bool} {w : List UInt8} {k : Nat} (h : k < w.length) : rowB2 b (w.take (k + 1)) = putB (rowB2 b (w.take k)) w[k] := by
  unfold rowB2; rw [List.take_succ_eq_append_getElem h, List.foldl_append]; rfl
theorem rstep_len (ls : List (List UInt8)) (i : Nat) (b : List Bool) : (rstep ls i b).length = b.length := by unfold rstep; split; exact row_len2 _ _; rfl
theorem rstep_sub (ls : List (List UInt8)) (i : Nat) (b : List Bool) : subB b (rstep ls i b) := by unfold rstep; split; exact row_sub _ _; exact subB_refl b
theorem sweepTo_len (ls : List (List UInt8)) (b : List Bool) : ∀ i, (sweepTo ls b i).length = b.length
  | 0 => rfl
  | i + 1 => by rw [sweepTo, rstep_len, sweepTo_len]
theorem sweeps_len (ls : List (List UInt8)) (b : List Bool) : ∀ r, (sweeps ls b r).length = b.length
  | 0 => rfl
  | r + 1 => by rw [sweeps, sweepTo_len, sweeps_len]
theorem sweepTo_le (ls : List (List UInt8)) (b : List Bool) (i : Nat) : ∀ d, subB (sweepTo ls b i) (sweepTo ls b (i + d))
  | 0 => subB_refl _
  | d + 1 => subB_trans (sweepTo_le ls b i d) (rstep_sub ls (i + d) _)
theorem sweepTo_sub (ls : List (List UInt8)) (b : List Bool) (n : Nat) : subB b (sweepTo ls b n) := by
  have h := sweepTo_le ls b 0 n
  rw [Nat.zero_add] at h; exact h
/-- a state that a sweep leaves as it was is closed. -/
theorem stable_closed {ls : List (List UInt8)} {b : List Bool} {n : Nat} (hs : sweepTo ls b n = b) {i : Nat} (hi : i < n) (hb : isIn b i = true) {c : UInt8} (hc : c ∈ ls.getD i []) (hl : c.toNat - 97 < b.length) : isIn b (c.toNat - 97) = true := by
  have h1 : isIn (sweepTo ls b i) i = true := sweepTo_sub ls b i i hb
  have h2 : isIn (sweepTo ls b (i + 1)) (c.toNat - 97) = true := by
    rw [sweepTo, rstep, if_pos h1]
    exact row_in _ _ hc (by rw [sweepTo_len]; exact hl)
  have h3 := sweepTo_le ls b (i + 1) (n - (i + 1)) _ h2
  rw [show i + 1 + (n - (i + 1)) = n by omega, hs] at h3
  exact h3
theorem sweepTo_sound {ls : List (List UInt8)} {k : Nat} {b : List Bool} (h : ∀ j, isIn b j = true → Rch ls k j) : ∀ i j, isIn (sweepTo ls b i) j = true → Rch ls k j
  | 0, j, hj => h j hj
  | i + 1, j, hj => by
    rw [sweepTo, rstep] at hj
    by_cases hi : isIn (sweepTo ls b i) i = true
    · rw [if_pos hi] at hj
      exact row_sound _ _ (fun j hj => sweepTo_sound h i j hj) (fun c hc => Rch.step (sweepTo_sound h i i hi) hc) j hj
    · rw [if_neg hi] at hj
      exact sweepTo_sound h i j hj
theorem sweeps_sound {ls : List (List UInt8)} {k : Nat} {b : List Bool} (h : ∀ j, isIn b j = true → Rch ls k j) : ∀ r j, isIn (sweeps ls b r) j = true → Rch ls k j
  | 0, j, hj => h j hj
  | r + 1, j, hj => sweepTo_sound (fun j hj => sweeps_sound h r j hj) _ j hj
def cntB (b : List Bool) : Nat := b.countP id
theorem subB_cons {x y : Bool} {a b : List Bool} (h : subB (x :: a) (y :: b)) : (x = true → y = true) ∧ subB a b := ⟨fun hx => h 0 hx, fun j hj => h (j + 1) hj⟩
theorem cnt_le : ∀ {b b' : List Bool}, b.length = b'.length → subB b b' → cntB b ≤ cntB b'
  | [], [], _, _ => Nat.le_refl _
  | x :: a, y :: b, hl, h => by
    have h2 := subB_cons h
    have h3 := cnt_le (b := a) (b' := b) (by simpa using hl) h2.2
    unfold cntB at *
    cases x <;> cases y <;> simp_all <;> omega
theorem cnt_lt : ∀ {b b' : List Bool}, b.length = b'.length → subB b b' → b ≠ b' → cntB b < cntB b'
  | [], [], _, _, h => absurd rfl h
  | x :: a, y :: b, hl, h, hne => by
    have h2 := subB_cons h
    have hl2 : a.length = b.length := by simpa using hl
    by_cases hab : a = b
    · subst hab
      unfold cntB
      cases x <;> cases y <;> simp_all
    · have h3 := cnt_lt (b := a) (b' := b) hl2 h2.2 hab
      unfold cntB at *
      cases x <;> cases y <;> simp_all <;> omega
theorem cnt_top (b : List Bool) : cntB b ≤ b.length := List.countP_le_length
theorem cnt_pos {b : List Bool} {k : Nat} (h : isIn b k = true) : 1 ≤ cntB b := by
  unfold isIn at h
  rw [List.getD_eq_getElem?_getD] at h
  have hk : k < b.length := by
    rcases Nat.lt_or_ge k b.length with h' | h'
    · exact h'
    · rw [List.getElem?_eq_none h'] at h; cases h
  rw [List.getElem?_eq_getElem hk] at h
  exact List.countP_pos_iff.2 ⟨b[k], List.getElem_mem hk, h⟩
theorem sweeps_grow {ls : List (List UInt8)} {b : List Bool} {k : Nat} (h : isIn b k = true) : ∀ r, (∃ q, q ≤ r ∧ sweeps ls b (q + 1) = sweeps ls b q) ∨ r + 2 ≤ cntB (sweeps ls b (r + 1))
  | 0 => by
    by_cases he : sweeps ls b 1 = sweeps ls b 0
    · exact .inl ⟨0, Nat.le_refl _, he⟩
    · right
      have h1 : cntB b < cntB (sweeps ls b 1) := cnt_lt (by rw [sweeps_len]) (sweepTo_sub ls b _) (fun e => he e.symm)
      have := cnt_pos h
      show 2 ≤ cntB (sweeps ls b 1)
      omega
  | r + 1 => by
    rcases sweeps_grow h r with ⟨q, hq, he⟩ | h2
    · exact .inl ⟨q, by omega, he⟩
    · by_cases he : sweeps ls b (r + 2) = sweeps ls b (r + 1)
      · exact .inl ⟨r + 1, Nat.le_refl _, he⟩
      · right
        have h1 : cntB (sweeps ls b (r + 1)) < cntB (sweeps ls b (r + 2)) := cnt_lt (by rw [sweeps_len, sweeps_len]) (sweepTo_sub ls _ _) (fun e => he e.symm)
        show r + 1 + 2 ≤ cntB (sweeps ls b (r + 2))
        omega
theorem sweeps_stay {ls : List (List UInt8)} {b : List Bool} {q : Nat} (he : sweeps ls b (q + 1) = sweeps ls b q) : ∀ d, sweeps ls b (q + d) = sweeps ls b q
  | 0 => rfl
  | d + 1 => by
    show sweepTo ls (sweeps ls b (q + d)) ls.length = _
    rw [sweeps_stay he d]; exact he
theorem sweeps_sub (ls : List (List UInt8)) (b : List Bool) : ∀ r, subB b (sweeps ls b r)
  | 0 => subB_refl _
  | r + 1 => subB_trans (sweeps_sub ls b r) (sweepTo_sub ls _ _)
/-- four sweeps over at most four letters reach all that is reached. -/
theorem sweeps_all {ls : List (List UInt8)} {k : Nat} (h4 : ls.length ≤ 4) (hk : k < ls.length) (hin : ∀ l ∈ ls, ∀ c ∈ l, c.toNat - 97 < ls.length) (j : Nat) :
    isIn (sweeps ls ((List.replicate ls.length false).set k true) 4) j = true ↔ Rch ls k j := by
  have hlen : ((List.replicate ls.length false).set k true).length = ls.length := by simp
  have h0 : isIn ((List.replicate ls.length false).set k true) k = true := by rw [isIn_set, if_pos ⟨rfl, by simpa using hk⟩]
  have hs0 : ∀ j, isIn ((List.replicate ls.length false).set k true) j = true → Rch ls k j := by
    intro j hj
    rw [isIn_set] at hj
    by_cases he : k = j ∧ j < (List.replicate ls.length false).length
    · rw [← he.1]; exact Rch.base
    · rw [if_neg he] at hj
      exfalso
      unfold isIn at hj
      rw [List.getD_eq_getElem?_getD, List.getElem?_replicate] at hj
      split at hj <;> simp at hj
  obtain ⟨b, hb⟩ : ∃ b, b = (List.replicate ls.length false).set k true := ⟨_, rfl⟩
  rw [← hb] at hlen h0 hs0 ⊢
  refine ⟨fun h => sweeps_sound hs0 4 j h, fun h => ?_⟩
  have hst : sweeps ls b 5 = sweeps ls b 4 := by
    rcases sweeps_grow (ls := ls) h0 3 with ⟨q, hq, he⟩ | h2
    · have e1 := sweeps_stay he (4 - q)
      have e2 := sweeps_stay he (5 - q)
      rw [show q + (4 - q) = 4 by omega] at e1
      rw [show q + (5 - q) = 5 by omega] at e2
      rw [e1, e2]
    · have h3 : 5 ≤ cntB (sweeps ls b 4) := h2
      have := cnt_top (sweeps ls b 4)
      rw [sweeps_len, hlen] at this
      omega
  have hfin : ∀ j, Rch ls k j → j < ls.length ∧ isIn (sweeps ls b 4) j = true := by
    intro j hj
    induction hj with
    | base => exact ⟨hk, sweeps_sub ls b 4 k h0⟩
    | @step i c _ hc ih =>
      have hm : ls.getD i [] ∈ ls := by rw [List.getD_eq_getElem?_getD, List.getElem?_eq_getElem ih.1]; exact List.getElem_mem ih.1
      have hl := hin _ hm c hc
      exact ⟨hl, stable_closed (n := ls.length) hst ih.1 ih.2 hc (by rw [sweeps_len, hlen]; exact hl)⟩
  exact (hfin j h).2
end Go.Proofs.Ytciiokegifgbdaa
/- Walks: the letters that are reached, the reference. -/
namespace Go.Proofs.Ytciiokegifgbdaa
open Go.RowKit
set_option maxRecDepth 20000

theorem info_bool : (Try.prog.info? 4).map (fun i => (i.zero, i.size, i.bytes)) = some (some (.bool false), 1, 1) := by kernel_rfl
def lss (xs : List ByteArray) : List (List UInt8) := xs.map fun s => s.data.toList
def bls (b : List Bool) : List Value := b.map .bool
theorem bls_len (b : List Bool) : (bls b).length = b.length := List.length_map _
theorem bls_get {b : List Bool} {i : Nat} (h : i < b.length) : (bls b)[i]? = some (.bool (isIn b i)) := by
  unfold bls isIn; rw [List.getElem?_map, List.getD_eq_getElem?_getD, List.getElem?_eq_getElem h]; rfl
theorem bls_set (b : List Bool) (i : Nat) : (bls b).set i (.bool true) = bls (b.set i true) := by unfold bls; rw [List.map_set]
theorem lss_len (xs : List ByteArray) : (lss xs).length = xs.length := List.length_map _
theorem lss_get {xs : List ByteArray} {i : Nat} (h : i < xs.length) : (lss xs).getD i [] = xs[i].data.toList := by
  unfold lss; rw [List.getD_eq_getElem?_getD, List.getElem?_map, List.getElem?_eq_getElem h]; rfl
theorem inB_at {n : Nat} {s : ByteArray} (h : inB n s.data.toList = true) (m : Nat) (hm : m < s.size) : (s[m].toNat : Int) - 97 < n := by
  rcases Int.lt_or_le ((s[m].toNat : Int) - 97) n with h' | h'
  · exact h'
  · rw [inB_fail n s m hm h'] at h; cases h
/-- what ReachedBy returns -/
noncomputable def rbL (xs : List ByteArray) (t : List UInt8) : List UInt8 := if imgB xs t = true then (if substB xs = true then rbN (lss xs) (letK xs t).toNat else []) else []
theorem rb_no1 {xs : List ByteArray} {t : List UInt8} (h : imgB xs t = false) : rbL xs t = [] := by unfold rbL; rw [h]; rfl
theorem rb_no2 {xs : List ByteArray} {t : List UInt8} (h : substB xs = false) : rbL xs t = [] := by unfold rbL; rw [h]; split <;> rfl
theorem rb_yes {xs : List ByteArray} {t : List UInt8} (h1 : imgB xs t = true) (h2 : substB xs = true) : rbL xs t = rbN (lss xs) (letK xs t).toNat := by unfold rbL; rw [if_pos h1, if_pos h2]
theorem names_len (p : Nat → Bool) (n : Nat) : (namesOf p n).length ≤ n := by
  unfold namesOf; rw [List.length_map]; exact Nat.le_trans (List.length_filter_le _ _) (by rw [List.length_range]; exact Nat.le_refl _)
theorem lss_in {xs : List ByteArray} (hx : substB xs = true) : ∀ l ∈ lss xs, ∀ c ∈ l, c.toNat - 97 < (lss xs).length := by
  intro l hl c hc
  obtain ⟨s, hs, rfl⟩ := List.mem_map.1 hl
  obtain ⟨_, _, h3, h4⟩ := (subst_parts hx).2.2 s hs
  obtain ⟨m, hm, rfl⟩ := List.getElem_of_mem hc
  have hm' : m < s.size := by rw [Lib.size_eq]; exact hm
  have a1 := inB_at h3 m hm'
  have a2 := (subst_parts hx).1
  have e : s[m] = s.data.toList[m] := by simp [ByteArray.getElem_eq_getElem_data]
  rw [← e, lss_len]; omega
theorem rb_end {xs : List ByteArray} {k : Nat} (hx : substB xs = true) (hk : k < xs.length) : namesOf (isIn (sweeps (lss xs) ((List.replicate xs.length false).set k true) 4)) xs.length = rbN (lss xs) k := by
  unfold rbN; rw [lss_len]
  refine names_congr fun j _ => ?_
  have h := sweeps_all (ls := lss xs) (k := k) (by rw [lss_len]; exact (subst_parts hx).2.1) (by rw [lss_len]; exact hk) (lss_in hx) j
  rw [lss_len] at h
  by_cases hr : Rch (lss xs) k j
  · rw [h.2 hr, rch_yes hr]
  · rw [rch_no hr]
    cases hb : isIn (sweeps (lss xs) ((List.replicate xs.length false).set k true) 4) j
    · rfl
    · exact absurd (h.1 hb) hr

end Go.Proofs.Ytciiokegifgbdaa
/- Words: a set of bytes as a map that the call has made; a queue of bytes; plain search. Conditions: none beyond the hypotheses of each lemma. -/
namespace Go.Proofs.Ytciiokegifgbdaa
open Go.RowKit Go.Maps

theorem byte_law : Keyed Try.prog 5 := int_keyed Try.underlying5
theorem zero_bool (w : World) : (zeroValue 4).run Try.prog w = .ok (.bool false) w := by kernel_rfl
theorem plain_bool_inv {P : Program} {e : TypeId} (he : P.underlying e = some .bool) {v : Value} {x : Bool} {ps : List MemPlace} (h : plainElem (H := Unit) P e v = some (.lit (.bool x), ps)) : v = .bool x := by
  unfold plainElem at h
  rw [he] at h
  cases v <;> simp at h
  rw [h.1]
def SetM (w : World) (bm n : Nat) (S : Nat → Bool) : Prop :=
  ∃ D : DataW Unit, w.ownsMap Try.prog 5 (plainElem Try.prog 4) bm n D ∧ IsMap D ∧ ∀ c : Nat, c < 256 → D.atKey (.int .u8 c) (.lit (.bool false)) = .lit (.bool (S c))
theorem byte_key (c : UInt8) : keyOf Try.prog 5 (.int .u8 (c.toNat : Int)) = some (.int .u8 (c.toNat : Int)) :=
  keyOf_int_mk Try.underlying5 (WalkArith.wf_u8 (by have := c.toNat_lt; omega))
theorem SetM.made (w : World) : SetM (w.alloc (.map #[] 0)) w.heap.size 0 (fun _ => false) :=
  ⟨.map [], World.ownsMap_made w Try.prog 5 _, isMap_empty, fun _ _ => rfl⟩
theorem SetM.look {w : World} {bm n : Nat} {S : Nat → Bool} (h : SetM w bm n S) (c : UInt8) :
    (Instr.lookup 57 (.map (some bm)) (.int .u8 (c.toNat : Int)) false).run Try.prog w = .ok (.bool (S c.toNat)) w := by
  obtain ⟨D, ho, _, hD⟩ := h
  obtain ⟨v, ps, hrun, hv⟩ := ho.lookup byte_law Try.underlying57 (zero_bool w) (plainElem_bool Try.underlying4 false) (byte_key c)
  rw [hD _ c.toNat_lt] at hv
  rw [hrun, plain_bool_inv Try.underlying4 hv]
theorem SetM.put {w : World} {bm n : Nat} {S : Nat → Bool} (h : SetM w bm n S) (hn : n < maxLen) (c : UInt8) :
    ∃ w', (Instr.mapUpdate 57 (.map (some bm)) (.int .u8 (c.toNat : Int)) (.bool true)).run Try.prog w = .ok () w' ∧ SetM w' bm (n + 1) (fun j => S j || j == c.toNat) ∧ w.grownBy w' (some bm) := by
  obtain ⟨D, ho, hm, hD⟩ := h
  obtain ⟨w', hrun, ho', hg⟩ := ho.update byte_law Try.underlying57 hn (byte_key c) (plainElem_bool Try.underlying4 true)
  refine ⟨w', hrun, ⟨_, ho', hm.put _ _, fun j hj => ?_⟩, hg⟩
  by_cases he : j = c.toNat
  · subst he
    rw [atKey_put_same hm (byte_law.key (byte_key c))]; simp
  · rw [atKey_put_other (by intro h; injection h with _ h; exact he (by omega)), hD j hj]
    simp [he]
theorem SetM.kept {w w' : World} {bm n : Nat} {S : Nat → Bool} {row : Option Nat} (h : SetM w bm n S) (hg : w.grownBy w' row) (hne : some bm ≠ row) : SetM w' bm n S := by
  obtain ⟨D, ho, hm, hD⟩ := h
  exact ⟨D, ho.kept hg hne, hm, hD⟩
theorem SetM.lt {w : World} {bm n : Nat} {S : Nat → Bool} (h : SetM w bm n S) : bm < w.heap.size := by obtain ⟨_, ho, _⟩ := h; exact ho.lt
theorem SetM.below {w w' : World} {bm n : Nat} {S : Nat → Bool} (h : SetM w bm n S) (hb : Below w.heap.size w w') : SetM w' bm n S :=
  h.kept (row := none) ⟨hb.os, hb.tape, hb.output, hb.size, fun k hk _ => hb.block k hk⟩ (by simp)
theorem SetM.one {w : World} {bm n n' : Nat} {S S' : Nat → Bool} (h : SetM w bm n S) (h' : SetM w bm n' S') (c : Nat) (hc : c < 256) : S c = S' c := by
  obtain ⟨D, ⟨es, cl, hb, _, _, e⟩, _, hD⟩ := h
  obtain ⟨D', ⟨es', cl', hb', _, _, e'⟩, _, hD'⟩ := h'
  rw [hb] at hb'
  cases hb'
  have h1 := hD c hc
  have h2 := hD' c hc
  rw [e] at h1
  rw [e', h1] at h2
  injection h2 with h2
  injection h2 with h2

def unseen (S : Nat → Bool) : Nat → Nat
  | 0 => 0
  | N + 1 => unseen S N + if S (97 + N) = true then 0 else 1
theorem unseen_le {S S' : Nat → Bool} : ∀ {N : Nat}, (∀ j, j < N → S (97 + j) = true → S' (97 + j) = true) → unseen S' N ≤ unseen S N
  | 0, _ => Nat.le_refl _
  | N + 1, h => by
    have h1 := unseen_le (N := N) (fun j hj => h j (by omega))
    have h2 := h N (by omega)
    rw [unseen, unseen]
    by_cases h3 : S (97 + N) = true
    · rw [if_pos h3, if_pos (h2 h3)]; omega
    · rw [if_neg h3]; split <;> omega
theorem unseen_lt {S S' : Nat → Bool} {j : Nat} (h0 : S (97 + j) = false) (h1 : S' (97 + j) = true) : ∀ {N : Nat}, j < N → (∀ j, j < N → S (97 + j) = true → S' (97 + j) = true) → unseen S' N + 1 ≤ unseen S N
  | 0, h, _ => absurd h (Nat.not_lt_zero _)
  | N + 1, hj, h => by
    rw [unseen, unseen]
    by_cases he : j = N
    · subst he
      have h2 := unseen_le (N := j) (fun i hi => h i (by omega))
      rw [if_pos h1, if_neg (by rw [h0]; simp)]; omega
    · have h2 := unseen_lt h0 h1 (N := N) (by omega) (fun i hi => h i (by omega))
      have h3 := h N (by omega)
      by_cases h4 : S (97 + N) = true
      · rw [if_pos h4, if_pos (h3 h4)]; omega
      · rw [if_neg h4]; split <;> omega
open Classical in
noncomputable def leftW (w : World) (bm N : Nat) : Nat := if h : ∃ S n, SetM w bm n S then unseen (Classical.choose h) N else 0
theorem leftW_is {w : World} {bm n N : Nat} {S : Nat → Bool} (h : SetM w bm n S) (hN : N ≤ 4) : leftW w bm N = unseen S N := by
  have hx : ∃ S n, SetM w bm n S := ⟨S, n, h⟩
  unfold leftW
  rw [dif_pos hx]
  obtain ⟨n', h'⟩ := Classical.choose_spec hx
  have key : ∀ c, c < 256 → Classical.choose hx c = S c := fun c hc => h'.one h c hc
  exact Nat.le_antisymm (unseen_le fun j hj hs => by rw [key _ (by omega)]; exact hs) (unseen_le fun j hj hs => by rw [← key _ (by omega)]; exact hs)

/-- a queue of bytes: a slice of bytes anywhere in a block of the call's own -/
def Qu (w : World) (base bm : Nat) (v : Value) (l : List UInt8) : Prop :=
  ∃ g off cap, v = .slice (some ⟨g, off, none⟩) l.length cap ∧ base ≤ g ∧ g < w.heap.size ∧ g ≠ bm ∧ l.length ≤ cap ∧ cap ≤ maxLen ∧ (∀ (j : Nat) (hj : j < l.length), w.cell? ⟨g, off + j, none⟩ = some (.int .u8 (l[j].toNat : Int))) ∧ ∀ j, j < cap → (w.cell? ⟨g, off + j, none⟩).isSome = true ∧ w.frozen? ⟨g, off + j, none⟩ = false
theorem Qu.kept {w w' : World} {base bm : Nat} {v : Value} {l : List UInt8} {row : Option Nat} (h : Qu w base bm v l) (hg : w.grownBy w' row) (hr : ∀ g, row = some g → g = bm) : Qu w' base bm v l := by
  obtain ⟨g, off, cap, rfl, h1, h2, h3, h4, h5, h6, h7⟩ := h
  have hb : w'.heap[g]? = w.heap[g]? := hg.block g h2 (fun e => h3 (hr g e.symm))
  refine ⟨g, off, cap, rfl, h1, Nat.lt_of_lt_of_le h2 hg.size, h3, h4, h5, fun j hj => ?_, fun j hj => ?_⟩
  · rw [World.cell?_of_block hb]; exact h6 j hj
  · rw [World.cell?_of_block hb, World.frozen?_of_block hb]; exact h7 j hj
theorem Qu.below {w w' : World} {base bm : Nat} {v : Value} {l : List UInt8} (h : Qu w base bm v l) (hb : Below w.heap.size w w') : Qu w' base bm v l :=
  h.kept (row := none) ⟨hb.os, hb.tape, hb.output, hb.size, fun k hk _ => hb.block k hk⟩ (fun g e => by cases e)
def bys (l : List UInt8) : List Value := l.map fun c => .int .u8 (c.toNat : Int)
theorem Qu.own {w : World} {base base' bm n : Nat} {v : Value} {l : List UInt8} (h : w.ownsRow base' 5 1 v n (bys l)) (hn : n = l.length) (hpos : 0 < n) (hb : base ≤ base') (hm : ∀ g, v.ownBlock = some g → g ≠ bm) : Qu w base bm v l := by
  obtain ⟨hl, h | ⟨g, cap, cur, rfl, h1, h2, h3, h4, h5, h6⟩⟩ := h
  · omega
  · have hlt : g < w.heap.size := (Array.getElem?_eq_some_iff.1 h2).1
    have hcell : ∀ j, w.cell? ⟨g, 0 + j, none⟩ = cur[j]? := fun j => by rw [Nat.zero_add]; simp [World.cell?, h2]
    refine ⟨g, 0, cap, by rw [hn], by omega, hlt, hm g rfl, by omega, h4, fun j hj => ?_, fun j hj => ⟨?_, ?_⟩⟩
    · have h7 : (bys l)[j]? = some (.int .u8 (l[j].toNat : Int)) := by unfold bys; rw [List.getElem?_map, List.getElem?_eq_getElem hj]; rfl
      rw [hcell, ← h7, ← h6, List.getElem?_take_of_lt (by omega)]; simp
    · rw [hcell]; simp; omega
    · simp [World.frozen?, h2]
theorem Qu.pop {w : World} {base bm g off cap n : Nat} {c : UInt8} {l : List UInt8} (h : Qu w base bm (.slice (some ⟨g, off, none⟩) n cap) (c :: l)) :
    n = l.length + 1 ∧ l.length + 1 ≤ cap ∧ w.cell? ⟨g, off, none⟩ = some (.int .u8 (c.toNat : Int)) ∧ Qu w base bm (.slice (some ⟨g, off + 1, none⟩) l.length (cap - 1)) l ∧ (cap = 1 → Qu w base bm (.slice (some ⟨g, off, none⟩) 0 0) l) := by
  obtain ⟨g', off', cap', he, h1, h2, h3, h4, h5, h6, h7⟩ := h
  cases he
  have h0 := h6 0 (by simp)
  simp only [List.length_cons] at h4
  refine ⟨rfl, h4, by simpa using h0, ⟨g, off + 1, cap - 1, rfl, h1, h2, h3, by omega, by omega, fun j hj => ?_, fun j hj => ?_⟩, fun hc => ?_⟩
  · have := h6 (j + 1) (by simp; omega)
    rw [show off + 1 + j = off + (j + 1) by omega, this]; simp
  · rw [show off + 1 + j = off + (j + 1) by omega]; exact h7 (j + 1) (by omega)
  · have hl : l = [] := List.eq_nil_of_length_eq_zero (by omega)
    subst hl
    exact ⟨g, off, 0, rfl, h1, h2, h3, Nat.le_refl _, by unfold maxLen; omega, fun j hj => absurd hj (Nat.not_lt_zero _), fun j hj => absurd hj (Nat.not_lt_zero _)⟩

/-- the search between two rounds -/
structure Found (ls : List (List UInt8)) (k : Nat) (S : Nat → Bool) (l : List UInt8) : Prop where
  start : S (97 + k) = true
  sound : ∀ c, S c = true → 97 ≤ c ∧ c - 97 < ls.length ∧ Rch ls k (c - 97)
  queued : ∀ c ∈ l, S c.toNat = true
  done : ∀ i, i < ls.length → S (97 + i) = true → lc i ∈ l ∨ ∀ c ∈ ls.getD i [], S c.toNat = true
/-- the search inside a round: h is being expanded, of its image the first letters are seen -/
structure Under (ls : List (List UInt8)) (k h : Nat) (S : Nat → Bool) (l p : List UInt8) : Prop where
  start : S (97 + k) = true
  sound : ∀ c, S c = true → 97 ≤ c ∧ c - 97 < ls.length ∧ Rch ls k (c - 97)
  queued : ∀ c ∈ l, S c.toNat = true
  done : ∀ i, i < ls.length → S (97 + i) = true → i = h ∨ lc i ∈ l ∨ ∀ c ∈ ls.getD i [], S c.toNat = true
  head : Rch ls k h
  part : ∀ c ∈ p, S c.toNat = true
theorem Found.pop {ls : List (List UInt8)} {k : Nat} {S : Nat → Bool} {c : UInt8} {l : List UInt8} (h : Found ls k S (c :: l)) (h4 : ls.length ≤ 4) : 97 ≤ c.toNat ∧ c.toNat - 97 < ls.length ∧ Under ls k (c.toNat - 97) S l [] := by
  obtain ⟨h1, h2, h3⟩ := h.sound _ (h.queued c List.mem_cons_self)
  refine ⟨h1, h2, h.start, h.sound, fun d hd => h.queued d (List.mem_cons_of_mem _ hd), fun i hil hi => ?_, h3, fun d hd => by cases hd⟩
  rcases h.done i hil hi with h5 | h5
  · rcases List.mem_cons.1 h5 with h6 | h6
    · left
      have h7 : (lc i).toNat = c.toNat := by rw [h6]
      rw [lc_nat (by omega)] at h7
      omega
    · exact .inr (.inl h6)
  · exact .inr (.inr h5)
theorem Under.seen {ls : List (List UInt8)} {k h : Nat} {S : Nat → Bool} {l p : List UInt8} (u : Under ls k h S l p) {c : UInt8} (hc : S c.toNat = true) : Under ls k h S l (p ++ [c]) :=
  ⟨u.start, u.sound, u.queued, u.done, u.head, fun d hd => by
    rcases List.mem_append.1 hd with h1 | h1
    · exact u.part d h1
    · rw [List.mem_singleton.1 h1]; exact hc⟩
theorem Under.push {ls : List (List UInt8)} {k h : Nat} {S : Nat → Bool} {l p : List UInt8} (u : Under ls k h S l p) {c : UInt8} (hc : c ∈ ls.getD h []) (h1 : 97 ≤ c.toNat) (h2 : c.toNat - 97 < ls.length) (h4 : ls.length ≤ 4) :
    Under ls k h (fun j => S j || j == c.toNat) (l ++ [c]) (p ++ [c]) := by
  have mono : ∀ d : UInt8, S d.toNat = true → (S d.toNat || d.toNat == c.toNat) = true := fun d hd => by rw [hd]; rfl
  refine ⟨by show (S (97 + k) || _) = true; rw [u.start]; rfl, fun d hd => ?_, fun d hd => ?_, fun i hil hi => ?_, u.head, fun d hd => ?_⟩
  · have hd' : (S d || d == c.toNat) = true := hd
    rcases Bool.or_eq_true_iff.1 hd' with h5 | h5
    · exact u.sound d h5
    · have h6 : d = c.toNat := by simpa using h5
      rw [h6]
      exact ⟨h1, h2, Rch.step u.head hc⟩
  · rcases List.mem_append.1 hd with h5 | h5
    · exact mono d (u.queued d h5)
    · rw [List.mem_singleton.1 h5]; simp
  · have hi' : (S (97 + i) || 97 + i == c.toNat) = true := hi
    rcases Bool.or_eq_true_iff.1 hi' with h5 | h5
    · rcases u.done i hil h5 with h6 | h6 | h6
      · exact .inl h6
      · exact .inr (.inl (List.mem_append.2 (.inl h6)))
      · exact .inr (.inr fun d hd => mono d (h6 d hd))
    · have h6 : 97 + i = c.toNat := by simpa using h5
      refine .inr (.inl (List.mem_append.2 (.inr ?_)))
      rw [List.mem_singleton]
      apply UInt8.toNat_inj.1
      rw [lc_nat (by omega), h6]
  · rcases List.mem_append.1 hd with h5 | h5
    · exact mono d (u.part d h5)
    · rw [List.mem_singleton.1 h5]; simp
theorem Under.leave {ls : List (List UInt8)} {k h : Nat} {S : Nat → Bool} {l : List UInt8} (u : Under ls k h S l (ls.getD h [])) : Found ls k S l :=
  ⟨u.start, u.sound, u.queued, fun i hil hi => by
    rcases u.done i hil hi with rfl | h6 | h6
    · exact .inr u.part
    · exact .inl h6
    · exact .inr h6⟩
theorem Found.all {ls : List (List UInt8)} {k : Nat} {S : Nat → Bool} (f : Found ls k S []) (hin : ∀ l ∈ ls, ∀ c ∈ l, 97 ≤ c.toNat ∧ c.toNat - 97 < ls.length) (hk : k < ls.length) (j : Nat) : S (97 + j) = rchB ls k j := by
  have hfin : ∀ j, Rch ls k j → j < ls.length ∧ S (97 + j) = true := by
    intro j hj
    induction hj with
    | base => exact ⟨hk, f.start⟩
    | @step i c _ hc ih =>
      have hm : ls.getD i [] ∈ ls := by rw [List.getD_eq_getElem?_getD, List.getElem?_eq_getElem ih.1]; exact List.getElem_mem ih.1
      obtain ⟨h1, h2⟩ := hin _ hm c hc
      refine ⟨h2, ?_⟩
      rcases f.done i ih.1 ih.2 with h3 | h3
      · cases h3
      · have := h3 c hc
        rw [show 97 + (c.toNat - 97) = c.toNat by omega]; exact this
  by_cases hr : Rch ls k j
  · rw [rch_yes hr, (hfin j hr).2]
  · rw [rch_no hr]
    cases hs : S (97 + j)
    · rfl
    · have h3 := (f.sound _ hs).2.2
      rw [show 97 + j - 97 = j by omega] at h3
      exact absurd h3 hr
theorem names_more {p : Nat → Bool} {n : Nat} (h : ∀ j, n ≤ j → p j = false) : ∀ d, namesOf p (n + d) = namesOf p n
  | 0 => rfl
  | d + 1 => by rw [← Nat.add_assoc, names_step, names_more h d, h _ (by omega)]; simp
theorem Found.names {ls : List (List UInt8)} {k : Nat} {S : Nat → Bool} (f : Found ls k S []) (hin : ∀ l ∈ ls, ∀ c ∈ l, 97 ≤ c.toNat ∧ c.toNat - 97 < ls.length) (hk : k < ls.length) (h4 : ls.length ≤ 4) : namesOf (fun j => S (97 + j)) 4 = rbN ls k := by
  have h1 := names_more (p := fun j => S (97 + j)) (n := ls.length) (fun j hj => by
    cases hs : S (97 + j)
    · rfl
    · have := (f.sound _ hs).2.1; omega) (4 - ls.length)
  rw [show ls.length + (4 - ls.length) = 4 by omega] at h1
  rw [h1]
  exact names_congr fun j _ => f.all hin hk j
theorem Found.first {ls : List (List UInt8)} {k : Nat} (h4 : ls.length ≤ 4) (hk : k < ls.length) : Found ls k (fun j => false || j == (lc k).toNat) [lc k] := by
  have e := lc_nat (j := k) (by omega)
  refine ⟨by simp [e], fun c hc => ?_, fun c hc => by rw [List.mem_singleton.1 hc]; simp, fun i hil hi => ?_⟩
  · have h1 : c = (lc k).toNat := by simpa using hc
    rw [h1, e]
    exact ⟨by omega, by omega, by rw [show 97 + k - 97 = k by omega]; exact Rch.base⟩
  · have h1 : 97 + i = (lc k).toNat := by simpa using hi
    rw [e] at h1
    exact .inl (by rw [show i = k by omega]; exact List.mem_singleton.2 rfl)
theorem unseen_top (S : Nat → Bool) : ∀ N, unseen S N ≤ N
  | 0 => Nat.le_refl _
  | N + 1 => by rw [unseen]; have := unseen_top S N; split <;> omega
theorem Qu.len {w : World} {base bm : Nat} {v : Value} {l : List UInt8} (h : Qu w base bm v l) : ∃ g off cap, v = .slice (some ⟨g, off, none⟩) l.length cap := by
  obtain ⟨g, off, cap, e, _⟩ := h; exact ⟨g, off, cap, e⟩
def quLen : Value → Nat
  | .slice _ n _ => n
  | _ => 0
theorem Qu.quLen {w : World} {base bm : Nat} {v : Value} {l : List UInt8} (h : Qu w base bm v l) : quLen v = l.length := by
  obtain ⟨g, off, cap, rfl, _⟩ := h; rfl
theorem bys_snoc (l : List UInt8) (c : UInt8) : bys (l ++ [c]) = bys l ++ [.int .u8 (c.toNat : Int)] := by simp [bys]
theorem grow_set (w : World) (b i : Nat) (v : Value) : w.grownBy (w.setCell ⟨b, i, none⟩ v) (some b) :=
  ⟨rfl, rfl, rfl, by simp [World.setCell], fun k _ hk => by simp [World.setCell, Array.getElem?_modify, Ne.symm (show k ≠ b from fun e => hk (by rw [e]))]⟩
theorem wpList_append_qu {w : World} {ops : Array Oper} {rest : List Oper} {o : Oper} {a : Act} {Q : Exit → Act → World → Prop}
    (hg : o.guard = none) (s x : Operand) (hop : o.op = Op.call { callee := Callee.builtin Builtin.append, args := #[s, x], argTypes := #[30, 30] })
    (i : TypeInfo) (h2 : Try.prog.info? 5 = some i) (h3 : i.zero = some (.int .u8 0)) (h4 : i.size = 1) (h5 : i.bytes = 1)
    (base bm : Nat) (v : Value) (l : List UInt8) (hs : a.eval s = v) (hq : Qu w base bm v l) (hb : base ≤ w.heap.size) (hbm : bm < w.heap.size) (hl : l.length ≤ 1000)
    (c : UInt8) (ad : Addr) (cc : Nat) (hx : a.eval x = .slice (some ad) 1 cc) (hc : ∀ j u, [Value.int .u8 (c.toNat : Int)][j]? = some u → w.cell? (ad.add j) = some u)
    (hK : ∀ v' w' row, Qu w' base bm v' (l ++ [c]) → w.grownBy w' row → (∀ g, row = some g → base ≤ g ∧ g ≠ bm) → wpList Try.prog ops Q rest (a.put o.dst v') w') :
    wpList Try.prog ops Q (o :: rest) a w := by
  obtain ⟨g, off, cap, rfl, q1, q2, q3, q4, q5, q6, q7⟩ := hq
  refine wpList_append_arg w hg s x 30 hop 5 i (.int .u8 0) 1 1 Try.underlying30 h2 h3 h4 h5 rfl (by decide) g off l.length cap (bys l) hs (by simp [bys]) (fun j u hu => ?_) ad 1 cc [.int .u8 (c.toNat : Int)] hx rfl hc (by intro u hu; simp at hu; subst hu; rfl) (fun hr j hj => ?_) (by unfold maxLen; omega) (by omega) (fun hr => ?_) (fun hr v' w' ho hgr => ?_)
  · have hj : j < l.length := by
      rcases Nat.lt_or_ge j l.length with h | h
      · exact h
      · rw [List.getElem?_eq_none (by simp [bys]; exact h)] at hu; cases hu
    have h6 := q6 j hj
    unfold bys at hu
    rw [List.getElem?_map, List.getElem?_eq_getElem hj] at hu
    rw [h6]; exact hu
  · have hj0 : j = 0 := by simpa using hj
    subst hj0
    have := q7 l.length (by omega)
    simpa using this
  · have hz := q7 l.length (by omega)
    have hset : (w.setCell ⟨g, off + l.length, none⟩ (.int .u8 (c.toNat : Int))).cell? ⟨g, off + l.length, none⟩ = some (.int .u8 (c.toNat : Int)) := by
      have h8 := World.cell?_setCells_in g [Value.int .u8 (c.toNat : Int)] (off + l.length) w (fun j hj => by
        obtain rfl : j = 0 := by simpa using hj
        exact hz.1) 0 (by simp)
      exact h8
    have hfz : ∀ x, (w.setCell ⟨g, off + l.length, none⟩ (.int .u8 (c.toNat : Int))).frozen? x = w.frozen? x := fun x =>
      World.frozen?_setCells g [Value.int .u8 (c.toNat : Int)] (off + l.length) w x
    have hw : World.setCells w g (off + l.length * 1) [Value.int .u8 (c.toNat : Int)] = w.setCell ⟨g, off + l.length, none⟩ (.int .u8 (c.toNat : Int)) := by rw [Nat.mul_one]; rfl
    rw [hw]
    refine hK _ _ (some g) ?_ (grow_set w g _ _) (fun g' e => by cases e; exact ⟨q1, q3⟩)
    refine ⟨g, off, cap, by rw [List.length_append]; rfl, q1, by simpa using q2, q3, by rw [List.length_append]; exact hr, q5, fun j hj => ?_, fun j hj => ⟨?_, by rw [hfz]; exact (q7 j hj).2⟩⟩
    · by_cases hjl : j < l.length
      · rw [World.cell?_setCell_other _ _ _ _ (by intro e; injection e with _ e; omega), q6 j hjl, List.getElem_append_left hjl]
      · have hje : j = l.length := by rw [List.length_append] at hj; simp at hj; omega
        subst hje
        rw [hset]; simp
    · by_cases hje : j = l.length
      · subst hje; rw [hset]; rfl
      · rw [World.cell?_setCell_other _ _ _ _ (by intro e; injection e with _ e; omega)]
        exact (q7 j hj).1
  · refine hK v' w' none ?_ hgr (fun g e => by cases e)
    have h1 : w'.ownsRow w.heap.size 5 1 v' (l.length + 1) (bys (l ++ [c])) := by rw [bys_snoc]; exact ho
    exact Qu.own h1 (by simp) (by omega) hb (fun g hg => by have := (own_lt h1 hg).1; omega)
end Go.Proofs.Ytciiokegifgbdaa
/- Walks: the least power of a substitution that has a letter whose image begins with it. -/
namespace Go.Proofs.Ytciiokegifgbdaa
open Go.RowKit
set_option maxRecDepth 20000

/-- the index of the first letter of the image of letter k -/
def nx (xs : List ByteArray) (k : Nat) : Nat := ((imgAt xs (lc k)).data.toList.headD 0).toNat - 97
def itN (xs : List ByteArray) : Nat → Nat → Nat
  | 0, k => k
  | n + 1, k => nx xs (itN xs n k)
def cyc (xs : List ByteArray) (n : Nat) : Bool := (List.range xs.length).any fun j => itN xs n j == j
/-- what PowerNeeded returns -/
def powR (xs : List ByteArray) : Nat := if substB xs = true then (if cyc xs 1 = true then 1 else if cyc xs 2 = true then 2 else if cyc xs 3 = true then 3 else 4) else 0
theorem nx_facts {xs : List ByteArray} (hx : substB xs = true) {k : Nat} (hk : k < xs.length) :
    imgAt xs (lc k) = xs[k] ∧ ∃ h : 0 < xs[k].size, xs[k].size ≤ 8 ∧ (97 : Int) ≤ (xs[k][0].toNat : Int) ∧ (xs[k][0].toNat : Int) ≤ 100 ∧ xs[k][0].toNat = 97 + nx xs k ∧ nx xs k < xs.length ∧ xs[k][0] = lc (nx xs k) := by
  have h4 := (subst_parts hx).2.1
  have hn := lc_nat (j := k) (by omega)
  have hi : imgAt xs (lc k) = xs[k] := by
    have := imgAt_get (xs := xs) (c := lc k) (by omega)
    rw [this]; congr 1; omega
  have hok := imgAt_ok hx (c := lc k) (by omega)
  rw [hi] at hok
  obtain ⟨ho1, ho8, hw⟩ := hok
  obtain ⟨hb2, hb3⟩ := word_byte (word_letters (wordIn_parts hw).2) 0 (by omega)
  have h0 : 0 < xs[k].size := by omega
  have hnx : nx xs k = xs[k][0].toNat - 97 := by unfold nx; rw [hi, head_get h0]
  have hin := (wordIn_parts hw).1
  have hlt : (xs[k][0].toNat : Int) - 97 < xs.length := by
    have hm : xs[k][0] ∈ xs[k].data.toList := by
      rw [ByteArray.getElem_eq_getElem_data, ← Array.getElem_toList]; exact List.getElem_mem _
    have := List.all_eq_true.1 hin _ hm
    simpa using this
  refine ⟨hi, h0, by omega, hb2, hb3, by omega, by omega, ?_⟩
  apply UInt8.toNat_inj.1
  rw [lc_nat (by omega)]; omega
theorem nx_at {xs : List ByteArray} (hx : substB xs = true) {k : Nat} (hk : k < xs.length) :
    ∃ (t : ByteArray) (h : 0 < t.size), xs[k] = t ∧ imgAt xs (lc k) = t ∧ t.size ≤ 8 ∧ (97 : Int) ≤ (t[0].toNat : Int) ∧ (t[0].toNat : Int) ≤ 100 ∧ t[0].toNat = 97 + nx xs k ∧ t[0] = lc (nx xs k) := by
  obtain ⟨h1, h0, h8, h2, h3, h4, _, h5⟩ := nx_facts hx hk
  exact ⟨xs[k], h0, rfl, h1, h8, h2, h3, h4, h5⟩
theorem itN_lt {xs : List ByteArray} (hx : substB xs = true) {k : Nat} (hk : k < xs.length) : ∀ n, itN xs n k < xs.length
  | 0 => hk
  | n + 1 => by
    obtain ⟨_, _, _, _, _, _, h, _⟩ := nx_facts hx (itN_lt hx hk n)
    exact h
theorem fin_cyc : ∀ L : Fin 5, 0 < L.val → ∀ a b c d : Fin 4, (∀ j : Fin 4, j.val < L.val → (([a, b, c, d] : List (Fin 4)).getD j.val 0).val < L.val) →
    ∃ n : Fin 5, 1 ≤ n.val ∧ ∃ j : Fin 4, j.val < L.val ∧ (Nat.repeat (fun x => (([a, b, c, d] : List (Fin 4)).getD x 0).val) n.val j.val) = j.val := by decide +kernel
theorem itN_repeat {xs : List ByteArray} {g : Nat → Nat} (hx : substB xs = true) (hg : ∀ j, j < xs.length → g j = nx xs j) {k : Nat} (hk : k < xs.length) : ∀ n, Nat.repeat g n k = itN xs n k
  | 0 => rfl
  | n + 1 => by
    show g (Nat.repeat g n k) = nx xs (itN xs n k)
    rw [itN_repeat hx hg hk n]; exact hg _ (itN_lt hx hk n)
theorem cyc_ex {xs : List ByteArray} (hx : substB xs = true) : ∃ n, 1 ≤ n ∧ n ≤ 4 ∧ cyc xs n = true := by
  obtain ⟨h1, h4, _⟩ := subst_parts hx
  have hm : ∀ j : Nat, (if h : nx xs j < 4 then (⟨nx xs j, h⟩ : Fin 4) else 0).val = if nx xs j < 4 then nx xs j else 0 := by
    intro j; split <;> rfl
  have hlt : ∀ j, j < xs.length → nx xs j < xs.length := fun j hj => by obtain ⟨_, _, _, _, _, _, h, _⟩ := nx_facts hx hj; exact h
  let f : Nat → Fin 4 := fun j => if h : nx xs j < 4 then ⟨nx xs j, h⟩ else 0
  have hf : ∀ j, j < xs.length → (([f 0, f 1, f 2, f 3] : List (Fin 4)).getD j 0).val = nx xs j := by
    intro j hj
    have hj4 : nx xs j < 4 := by have := hlt j hj; omega
    have key : (f j).val = nx xs j := by show (if h : nx xs j < 4 then (⟨nx xs j, h⟩ : Fin 4) else 0).val = _; rw [hm, if_pos hj4]
    rcases (show j = 0 ∨ j = 1 ∨ j = 2 ∨ j = 3 by omega) with rfl | rfl | rfl | rfl <;> exact key
  obtain ⟨n, hn1, j, hj, he⟩ := fin_cyc ⟨xs.length, by omega⟩ h1 (f 0) (f 1) (f 2) (f 3) (fun j hj => by rw [hf j.val hj]; exact hlt _ hj)
  refine ⟨n.val, hn1, by omega, List.any_eq_true.2 ⟨j.val, List.mem_range.2 hj, ?_⟩⟩
  rw [itN_repeat hx hf hj] at he
  rw [he]; exact beq_self_eq_true _
theorem powR_out {xs : List ByteArray} (h : substB xs = false) : powR xs = 0 := by unfold powR; rw [h]; rfl
theorem powR_is {xs : List ByteArray} (hx : substB xs = true) {n : Nat} (h1 : 1 ≤ n) (h4 : n ≤ 4) (hc : cyc xs n = true) (hno : ∀ m, 1 ≤ m → m < n → cyc xs m = false) : powR xs = n := by
  unfold powR
  rw [if_pos hx]
  rcases (show n = 1 ∨ n = 2 ∨ n = 3 ∨ n = 4 by omega) with rfl | rfl | rfl | rfl
  · rw [if_pos hc]
  · rw [hno 1 (by omega) (by omega), hc]; rfl
  · rw [hno 1 (by omega) (by omega), hno 2 (by omega) (by omega), hc]; rfl
  · rw [hno 1 (by omega) (by omega), hno 2 (by omega) (by omega), hno 3 (by omega) (by omega)]; rfl
theorem cyc_lt {xs : List ByteArray} (hx : substB xs = true) {n : Nat} (hno : ∀ m, 1 ≤ m → m < n + 1 → cyc xs m = false) : n < 4 := by
  obtain ⟨m, h1, h4, hc⟩ := cyc_ex hx
  by_cases h : m < n + 1
  · rw [hno m h1 h] at hc; cases hc
  · omega
theorem cyc_yes {xs : List ByteArray} {n j : Nat} (hj : j < xs.length) (h : itN xs n j = j) : cyc xs n = true := List.any_eq_true.2 ⟨j, List.mem_range.2 hj, by rw [h]; exact beq_self_eq_true _⟩
theorem cyc_no {xs : List ByteArray} {n : Nat} (h : ∀ j, j < xs.length → itN xs n j ≠ j) : cyc xs n = false := by
  rw [← Bool.not_eq_true]; intro hc
  obtain ⟨j, hj, he⟩ := List.any_eq_true.1 hc
  exact h j (List.mem_range.1 hj) (by simpa using he)
end Go.Proofs.Ytciiokegifgbdaa
