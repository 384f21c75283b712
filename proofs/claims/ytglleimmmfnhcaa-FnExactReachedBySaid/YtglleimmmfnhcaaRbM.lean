/- Words: a set of bytes as a map that the call has made; a queue of bytes; plain search. Conditions: none beyond the hypotheses of each lemma. -/
import Derived.Maps.Own
import Derived.Maps.Views
import Derived.Test.YtglleimmmfnhcaaRb
import Derived.Test.YtglleimmmfnhcaaCarry
import Derived.ArgAppend
namespace Go.Proofs.Ytglleimmmfnhcaa
open Go.RowKit Go.Maps

theorem byte_law : Keyed Try.prog 5 := int_keyed Try.underlying5
theorem zero_bool (w : World) : (zeroValue 4).run Try.prog w = .ok (.bool false) w := by kernel_rfl
theorem plain_bool_inv {P : Program} {e : TypeId} (he : P.underlying e = some .bool) {v : Value} {x : Bool} {ps : List MemPlace} (h : plainElem (H := Unit) P e v = some (.lit (.bool x), ps)) : v = .bool x := by
  unfold plainElem at h
  rw [he] at h
  cases v <;> simp at h
  rw [h.1]
def SetM (w : World) (bm n : Nat) (S : Nat → Bool) : Prop :=
  ∃ D : DataW Unit, w.ownsMap Try.prog 5 (plainElem Try.prog 4) bm n D ∧ IsMap D ∧ ∀ c : Nat, c < 256 → D.atKey (.int .u8 c) (.lit (.bool false)) = .lit (.bool (S c))
theorem byte_key (c : UInt8) : keyOf Try.prog 5 (.int .u8 (c.toNat : Int)) = some (.int .u8 (c.toNat : Int)) :=
  keyOf_int_mk Try.underlying5 (WalkArith.wf_u8 (by have := c.toNat_lt; omega))
theorem SetM.made (w : World) : SetM (w.alloc (.map #[] 0)) w.heap.size 0 (fun _ => false) :=
  ⟨.map [], World.ownsMap_made w Try.prog 5 _, isMap_empty, fun _ _ => rfl⟩
theorem SetM.look {w : World} {bm n : Nat} {S : Nat → Bool} (h : SetM w bm n S) (c : UInt8) :
    (Instr.lookup 65 (.map (some bm)) (.int .u8 (c.toNat : Int)) false).run Try.prog w = .ok (.bool (S c.toNat)) w := by
  obtain ⟨D, ho, _, hD⟩ := h
  obtain ⟨v, ps, hrun, hv⟩ := ho.lookup byte_law Try.underlying65 (zero_bool w) (plainElem_bool Try.underlying4 false) (byte_key c)
  rw [hD _ c.toNat_lt] at hv
  rw [hrun, plain_bool_inv Try.underlying4 hv]
theorem SetM.put {w : World} {bm n : Nat} {S : Nat → Bool} (h : SetM w bm n S) (hn : n < maxLen) (c : UInt8) :
    ∃ w', (Instr.mapUpdate 65 (.map (some bm)) (.int .u8 (c.toNat : Int)) (.bool true)).run Try.prog w = .ok () w' ∧ SetM w' bm (n + 1) (fun j => S j || j == c.toNat) ∧ w.grownBy w' (some bm) := by
  obtain ⟨D, ho, hm, hD⟩ := h
  obtain ⟨w', hrun, ho', hg⟩ := ho.update byte_law Try.underlying65 hn (byte_key c) (plainElem_bool Try.underlying4 true)
  refine ⟨w', hrun, ⟨_, ho', hm.put _ _, fun j hj => ?_⟩, hg⟩
  by_cases he : j = c.toNat
  · subst he
    rw [atKey_put_same hm (byte_law.key (byte_key c))]; simp
  · rw [atKey_put_other (by intro h; injection h with _ h; exact he (by omega)), hD j hj]
    simp [he]
theorem SetM.kept {w w' : World} {bm n : Nat} {S : Nat → Bool} {row : Option Nat} (h : SetM w bm n S) (hg : w.grownBy w' row) (hne : some bm ≠ row) : SetM w' bm n S := by
  obtain ⟨D, ho, hm, hD⟩ := h
  exact ⟨D, ho.kept hg hne, hm, hD⟩
theorem SetM.lt {w : World} {bm n : Nat} {S : Nat → Bool} (h : SetM w bm n S) : bm < w.heap.size := by obtain ⟨_, ho, _⟩ := h; exact ho.lt
theorem SetM.below {w w' : World} {bm n : Nat} {S : Nat → Bool} (h : SetM w bm n S) (hb : Below w.heap.size w w') : SetM w' bm n S :=
  h.kept (row := none) ⟨hb.os, hb.tape, hb.output, hb.size, fun k hk _ => hb.block k hk⟩ (by simp)
theorem SetM.one {w : World} {bm n n' : Nat} {S S' : Nat → Bool} (h : SetM w bm n S) (h' : SetM w bm n' S') (c : Nat) (hc : c < 256) : S c = S' c := by
  obtain ⟨D, ⟨es, cl, hb, _, _, e⟩, _, hD⟩ := h
  obtain ⟨D', ⟨es', cl', hb', _, _, e'⟩, _, hD'⟩ := h'
  rw [hb] at hb'
  cases hb'
  have h1 := hD c hc
  have h2 := hD' c hc
  rw [e] at h1
  rw [e', h1] at h2
  injection h2 with h2
  injection h2 with h2

def unseen (S : Nat → Bool) : Nat → Nat
  | 0 => 0
  | N + 1 => unseen S N + if S (97 + N) = true then 0 else 1
theorem unseen_le {S S' : Nat → Bool} : ∀ {N : Nat}, (∀ j, j < N → S (97 + j) = true → S' (97 + j) = true) → unseen S' N ≤ unseen S N
  | 0, _ => Nat.le_refl _
  | N + 1, h => by
    have h1 := unseen_le (N := N) (fun j hj => h j (by omega))
    have h2 := h N (by omega)
    rw [unseen, unseen]
    by_cases h3 : S (97 + N) = true
    · rw [if_pos h3, if_pos (h2 h3)]; omega
    · rw [if_neg h3]; split <;> omega
theorem unseen_lt {S S' : Nat → Bool} {j : Nat} (h0 : S (97 + j) = false) (h1 : S' (97 + j) = true) : ∀ {N : Nat}, j < N → (∀ j, j < N → S (97 + j) = true → S' (97 + j) = true) → unseen S' N + 1 ≤ unseen S N
  | 0, h, _ => absurd h (Nat.not_lt_zero _)
  | N + 1, hj, h => by
    rw [unseen, unseen]
    by_cases he : j = N
    · subst he
      have h2 := unseen_le (N := j) (fun i hi => h i (by omega))
      rw [if_pos h1, if_neg (by rw [h0]; simp)]; omega
    · have h2 := unseen_lt h0 h1 (N := N) (by omega) (fun i hi => h i (by omega))
      have h3 := h N (by omega)
      by_cases h4 : S (97 + N) = true
      · rw [if_pos h4, if_pos (h3 h4)]; omega
      · rw [if_neg h4]; split <;> omega
open Classical in
noncomputable def leftW (w : World) (bm N : Nat) : Nat := if h : ∃ S n, SetM w bm n S then unseen (Classical.choose h) N else 0
theorem leftW_is {w : World} {bm n N : Nat} {S : Nat → Bool} (h : SetM w bm n S) (hN : N ≤ 4) : leftW w bm N = unseen S N := by
  have hx : ∃ S n, SetM w bm n S := ⟨S, n, h⟩
  unfold leftW
  rw [dif_pos hx]
  obtain ⟨n', h'⟩ := Classical.choose_spec hx
  have key : ∀ c, c < 256 → Classical.choose hx c = S c := fun c hc => h'.one h c hc
  exact Nat.le_antisymm (unseen_le fun j hj hs => by rw [key _ (by omega)]; exact hs) (unseen_le fun j hj hs => by rw [← key _ (by omega)]; exact hs)

/-- a queue of bytes: a slice of bytes anywhere in a block of the call's own -/
def Qu (w : World) (base bm : Nat) (v : Value) (l : List UInt8) : Prop :=
  ∃ g off cap, v = .slice (some ⟨g, off, none⟩) l.length cap ∧ base ≤ g ∧ g < w.heap.size ∧ g ≠ bm ∧ l.length ≤ cap ∧ cap ≤ maxLen ∧ (∀ (j : Nat) (hj : j < l.length), w.cell? ⟨g, off + j, none⟩ = some (.int .u8 (l[j].toNat : Int))) ∧ ∀ j, j < cap → (w.cell? ⟨g, off + j, none⟩).isSome = true ∧ w.frozen? ⟨g, off + j, none⟩ = false
theorem Qu.kept {w w' : World} {base bm : Nat} {v : Value} {l : List UInt8} {row : Option Nat} (h : Qu w base bm v l) (hg : w.grownBy w' row) (hr : ∀ g, row = some g → g = bm) : Qu w' base bm v l := by
  obtain ⟨g, off, cap, rfl, h1, h2, h3, h4, h5, h6, h7⟩ := h
  have hb : w'.heap[g]? = w.heap[g]? := hg.block g h2 (fun e => h3 (hr g e.symm))
  refine ⟨g, off, cap, rfl, h1, Nat.lt_of_lt_of_le h2 hg.size, h3, h4, h5, fun j hj => ?_, fun j hj => ?_⟩
  · rw [World.cell?_of_block hb]; exact h6 j hj
  · rw [World.cell?_of_block hb, World.frozen?_of_block hb]; exact h7 j hj
theorem Qu.below {w w' : World} {base bm : Nat} {v : Value} {l : List UInt8} (h : Qu w base bm v l) (hb : Below w.heap.size w w') : Qu w' base bm v l :=
  h.kept (row := none) ⟨hb.os, hb.tape, hb.output, hb.size, fun k hk _ => hb.block k hk⟩ (fun g e => by cases e)
def bys (l : List UInt8) : List Value := l.map fun c => .int .u8 (c.toNat : Int)
theorem Qu.own {w : World} {base base' bm n : Nat} {v : Value} {l : List UInt8} (h : w.ownsRow base' 5 1 v n (bys l)) (hn : n = l.length) (hpos : 0 < n) (hb : base ≤ base') (hm : ∀ g, v.ownBlock = some g → g ≠ bm) : Qu w base bm v l := by
  obtain ⟨hl, h | ⟨g, cap, cur, rfl, h1, h2, h3, h4, h5, h6⟩⟩ := h
  · omega
  · have hlt : g < w.heap.size := (Array.getElem?_eq_some_iff.1 h2).1
    have hcell : ∀ j, w.cell? ⟨g, 0 + j, none⟩ = cur[j]? := fun j => by rw [Nat.zero_add]; simp [World.cell?, h2]
    refine ⟨g, 0, cap, by rw [hn], by omega, hlt, hm g rfl, by omega, h4, fun j hj => ?_, fun j hj => ⟨?_, ?_⟩⟩
    · have h7 : (bys l)[j]? = some (.int .u8 (l[j].toNat : Int)) := by unfold bys; rw [List.getElem?_map, List.getElem?_eq_getElem hj]; rfl
      rw [hcell, ← h7, ← h6, List.getElem?_take_of_lt (by omega)]; simp
    · rw [hcell]; simp; omega
    · simp [World.frozen?, h2]
theorem Qu.pop {w : World} {base bm g off cap n : Nat} {c : UInt8} {l : List UInt8} (h : Qu w base bm (.slice (some ⟨g, off, none⟩) n cap) (c :: l)) :
    n = l.length + 1 ∧ l.length + 1 ≤ cap ∧ w.cell? ⟨g, off, none⟩ = some (.int .u8 (c.toNat : Int)) ∧ Qu w base bm (.slice (some ⟨g, off + 1, none⟩) l.length (cap - 1)) l ∧ (cap = 1 → Qu w base bm (.slice (some ⟨g, off, none⟩) 0 0) l) := by
  obtain ⟨g', off', cap', he, h1, h2, h3, h4, h5, h6, h7⟩ := h
  cases he
  have h0 := h6 0 (by simp)
  simp only [List.length_cons] at h4
  refine ⟨rfl, h4, by simpa using h0, ⟨g, off + 1, cap - 1, rfl, h1, h2, h3, by omega, by omega, fun j hj => ?_, fun j hj => ?_⟩, fun hc => ?_⟩
  · have := h6 (j + 1) (by simp; omega)
    rw [show off + 1 + j = off + (j + 1) by omega, this]; simp
  · rw [show off + 1 + j = off + (j + 1) by omega]; exact h7 (j + 1) (by omega)
  · have hl : l = [] := List.eq_nil_of_length_eq_zero (by omega)
    subst hl
    exact ⟨g, off, 0, rfl, h1, h2, h3, Nat.le_refl _, by unfold maxLen; omega, fun j hj => absurd hj (Nat.not_lt_zero _), fun j hj => absurd hj (Nat.not_lt_zero _)⟩

/-- the search between two rounds -/
structure Found (ls : List (List UInt8)) (k : Nat) (S : Nat → Bool) (l : List UInt8) : Prop where
  start : S (97 + k) = true
  sound : ∀ c, S c = true → 97 ≤ c ∧ c - 97 < ls.length ∧ Rch ls k (c - 97)
  queued : ∀ c ∈ l, S c.toNat = true
  done : ∀ i, i < ls.length → S (97 + i) = true → lc i ∈ l ∨ ∀ c ∈ ls.getD i [], S c.toNat = true
/-- the search inside a round: h is being expanded, of its image the first letters are seen -/
structure Under (ls : List (List UInt8)) (k h : Nat) (S : Nat → Bool) (l p : List UInt8) : Prop where
  start : S (97 + k) = true
  sound : ∀ c, S c = true → 97 ≤ c ∧ c - 97 < ls.length ∧ Rch ls k (c - 97)
  queued : ∀ c ∈ l, S c.toNat = true
  done : ∀ i, i < ls.length → S (97 + i) = true → i = h ∨ lc i ∈ l ∨ ∀ c ∈ ls.getD i [], S c.toNat = true
  head : Rch ls k h
  part : ∀ c ∈ p, S c.toNat = true
theorem Found.pop {ls : List (List UInt8)} {k : Nat} {S : Nat → Bool} {c : UInt8} {l : List UInt8} (h : Found ls k S (c :: l)) (h4 : ls.length ≤ 4) : 97 ≤ c.toNat ∧ c.toNat - 97 < ls.length ∧ Under ls k (c.toNat - 97) S l [] := by
  obtain ⟨h1, h2, h3⟩ := h.sound _ (h.queued c List.mem_cons_self)
  refine ⟨h1, h2, h.start, h.sound, fun d hd => h.queued d (List.mem_cons_of_mem _ hd), fun i hil hi => ?_, h3, fun d hd => by cases hd⟩
  rcases h.done i hil hi with h5 | h5
  · rcases List.mem_cons.1 h5 with h6 | h6
    · left
      have h7 : (lc i).toNat = c.toNat := by rw [h6]
      rw [lc_nat (by omega)] at h7
      omega
    · exact .inr (.inl h6)
  · exact .inr (.inr h5)
theorem Under.seen {ls : List (List UInt8)} {k h : Nat} {S : Nat → Bool} {l p : List UInt8} (u : Under ls k h S l p) {c : UInt8} (hc : S c.toNat = true) : Under ls k h S l (p ++ [c]) :=
  ⟨u.start, u.sound, u.queued, u.done, u.head, fun d hd => by
    rcases List.mem_append.1 hd with h1 | h1
    · exact u.part d h1
    · rw [List.mem_singleton.1 h1]; exact hc⟩
theorem Under.push {ls : List (List UInt8)} {k h : Nat} {S : Nat → Bool} {l p : List UInt8} (u : Under ls k h S l p) {c : UInt8} (hc : c ∈ ls.getD h []) (h1 : 97 ≤ c.toNat) (h2 : c.toNat - 97 < ls.length) (h4 : ls.length ≤ 4) :
    Under ls k h (fun j => S j || j == c.toNat) (l ++ [c]) (p ++ [c]) := by
  have mono : ∀ d : UInt8, S d.toNat = true → (S d.toNat || d.toNat == c.toNat) = true := fun d hd => by rw [hd]; rfl
  refine ⟨by show (S (97 + k) || _) = true; rw [u.start]; rfl, fun d hd => ?_, fun d hd => ?_, fun i hil hi => ?_, u.head, fun d hd => ?_⟩
  · have hd' : (S d || d == c.toNat) = true := hd
    rcases Bool.or_eq_true_iff.1 hd' with h5 | h5
    · exact u.sound d h5
    · have h6 : d = c.toNat := by simpa using h5
      rw [h6]
      exact ⟨h1, h2, Rch.step u.head hc⟩
  · rcases List.mem_append.1 hd with h5 | h5
    · exact mono d (u.queued d h5)
    · rw [List.mem_singleton.1 h5]; simp
  · have hi' : (S (97 + i) || 97 + i == c.toNat) = true := hi
    rcases Bool.or_eq_true_iff.1 hi' with h5 | h5
    · rcases u.done i hil h5 with h6 | h6 | h6
      · exact .inl h6
      · exact .inr (.inl (List.mem_append.2 (.inl h6)))
      · exact .inr (.inr fun d hd => mono d (h6 d hd))
    · have h6 : 97 + i = c.toNat := by simpa using h5
      refine .inr (.inl (List.mem_append.2 (.inr ?_)))
      rw [List.mem_singleton]
      apply UInt8.toNat_inj.1
      rw [lc_nat (by omega), h6]
  · rcases List.mem_append.1 hd with h5 | h5
    · exact mono d (u.part d h5)
    · rw [List.mem_singleton.1 h5]; simp
theorem Under.leave {ls : List (List UInt8)} {k h : Nat} {S : Nat → Bool} {l : List UInt8} (u : Under ls k h S l (ls.getD h [])) : Found ls k S l :=
  ⟨u.start, u.sound, u.queued, fun i hil hi => by
    rcases u.done i hil hi with rfl | h6 | h6
    · exact .inr u.part
    · exact .inl h6
    · exact .inr h6⟩
theorem Found.all {ls : List (List UInt8)} {k : Nat} {S : Nat → Bool} (f : Found ls k S []) (hin : ∀ l ∈ ls, ∀ c ∈ l, 97 ≤ c.toNat ∧ c.toNat - 97 < ls.length) (hk : k < ls.length) (j : Nat) : S (97 + j) = rchB ls k j := by
  have hfin : ∀ j, Rch ls k j → j < ls.length ∧ S (97 + j) = true := by
    intro j hj
    induction hj with
    | base => exact ⟨hk, f.start⟩
    | @step i c _ hc ih =>
      have hm : ls.getD i [] ∈ ls := by rw [List.getD_eq_getElem?_getD, List.getElem?_eq_getElem ih.1]; exact List.getElem_mem ih.1
      obtain ⟨h1, h2⟩ := hin _ hm c hc
      refine ⟨h2, ?_⟩
      rcases f.done i ih.1 ih.2 with h3 | h3
      · cases h3
      · have := h3 c hc
        rw [show 97 + (c.toNat - 97) = c.toNat by omega]; exact this
  by_cases hr : Rch ls k j
  · rw [rch_yes hr, (hfin j hr).2]
  · rw [rch_no hr]
    cases hs : S (97 + j)
    · rfl
    · have h3 := (f.sound _ hs).2.2
      rw [show 97 + j - 97 = j by omega] at h3
      exact absurd h3 hr
theorem names_more {p : Nat → Bool} {n : Nat} (h : ∀ j, n ≤ j → p j = false) : ∀ d, namesOf p (n + d) = namesOf p n
  | 0 => rfl
  | d + 1 => by rw [← Nat.add_assoc, names_step, names_more h d, h _ (by omega)]; simp
theorem Found.names {ls : List (List UInt8)} {k : Nat} {S : Nat → Bool} (f : Found ls k S []) (hin : ∀ l ∈ ls, ∀ c ∈ l, 97 ≤ c.toNat ∧ c.toNat - 97 < ls.length) (hk : k < ls.length) (h4 : ls.length ≤ 4) : namesOf (fun j => S (97 + j)) 4 = rbN ls k := by
  have h1 := names_more (p := fun j => S (97 + j)) (n := ls.length) (fun j hj => by
    cases hs : S (97 + j)
    · rfl
    · have := (f.sound _ hs).2.1; omega) (4 - ls.length)
  rw [show ls.length + (4 - ls.length) = 4 by omega] at h1
  rw [h1]
  exact names_congr fun j _ => f.all hin hk j
theorem Found.first {ls : List (List UInt8)} {k : Nat} (h4 : ls.length ≤ 4) (hk : k < ls.length) : Found ls k (fun j => false || j == (lc k).toNat) [lc k] := by
  have e := lc_nat (j := k) (by omega)
  refine ⟨by simp [e], fun c hc => ?_, fun c hc => by rw [List.mem_singleton.1 hc]; simp, fun i hil hi => ?_⟩
  · have h1 : c = (lc k).toNat := by simpa using hc
    rw [h1, e]
    exact ⟨by omega, by omega, by rw [show 97 + k - 97 = k by omega]; exact Rch.base⟩
  · have h1 : 97 + i = (lc k).toNat := by simpa using hi
    rw [e] at h1
    exact .inl (by rw [show i = k by omega]; exact List.mem_singleton.2 rfl)
theorem unseen_top (S : Nat → Bool) : ∀ N, unseen S N ≤ N
  | 0 => Nat.le_refl _
  | N + 1 => by rw [unseen]; have := unseen_top S N; split <;> omega
theorem Qu.len {w : World} {base bm : Nat} {v : Value} {l : List UInt8} (h : Qu w base bm v l) : ∃ g off cap, v = .slice (some ⟨g, off, none⟩) l.length cap := by
  obtain ⟨g, off, cap, e, _⟩ := h; exact ⟨g, off, cap, e⟩
def quLen : Value → Nat
  | .slice _ n _ => n
  | _ => 0
theorem Qu.quLen {w : World} {base bm : Nat} {v : Value} {l : List UInt8} (h : Qu w base bm v l) : quLen v = l.length := by
  obtain ⟨g, off, cap, rfl, _⟩ := h; rfl
theorem bys_snoc (l : List UInt8) (c : UInt8) : bys (l ++ [c]) = bys l ++ [.int .u8 (c.toNat : Int)] := by simp [bys]
theorem grow_set (w : World) (b i : Nat) (v : Value) : w.grownBy (w.setCell ⟨b, i, none⟩ v) (some b) :=
  ⟨rfl, rfl, rfl, by simp [World.setCell], fun k _ hk => by simp [World.setCell, Array.getElem?_modify, Ne.symm (show k ≠ b from fun e => hk (by rw [e]))]⟩
theorem wpList_append_qu {w : World} {ops : Array Oper} {rest : List Oper} {o : Oper} {a : Act} {Q : Exit → Act → World → Prop}
    (hg : o.guard = none) (s x : Operand) (hop : o.op = Op.call { callee := Callee.builtin Builtin.append, args := #[s, x], argTypes := #[62, 62] })
    (i : TypeInfo) (h2 : Try.prog.info? 5 = some i) (h3 : i.zero = some (.int .u8 0)) (h4 : i.size = 1) (h5 : i.bytes = 1)
    (base bm : Nat) (v : Value) (l : List UInt8) (hs : a.eval s = v) (hq : Qu w base bm v l) (hb : base ≤ w.heap.size) (hbm : bm < w.heap.size) (hl : l.length ≤ 1000)
    (c : UInt8) (ad : Addr) (cc : Nat) (hx : a.eval x = .slice (some ad) 1 cc) (hc : ∀ j u, [Value.int .u8 (c.toNat : Int)][j]? = some u → w.cell? (ad.add j) = some u)
    (hK : ∀ v' w' row, Qu w' base bm v' (l ++ [c]) → w.grownBy w' row → (∀ g, row = some g → base ≤ g ∧ g ≠ bm) → wpList Try.prog ops Q rest (a.put o.dst v') w') :
    wpList Try.prog ops Q (o :: rest) a w := by
  obtain ⟨g, off, cap, rfl, q1, q2, q3, q4, q5, q6, q7⟩ := hq
  refine wpList_append_arg w hg s x 62 hop 5 i (.int .u8 0) 1 1 Try.underlying62 h2 h3 h4 h5 rfl (by decide) g off l.length cap (bys l) hs (by simp [bys]) (fun j u hu => ?_) ad 1 cc [.int .u8 (c.toNat : Int)] hx rfl hc (by intro u hu; simp at hu; subst hu; rfl) (fun hr j hj => ?_) (by unfold maxLen; omega) (by omega) (fun hr => ?_) (fun hr v' w' ho hgr => ?_)
  · have hj : j < l.length := by
      rcases Nat.lt_or_ge j l.length with h | h
      · exact h
      · rw [List.getElem?_eq_none (by simp [bys]; exact h)] at hu; cases hu
    have h6 := q6 j hj
    unfold bys at hu
    rw [List.getElem?_map, List.getElem?_eq_getElem hj] at hu
    rw [h6]; exact hu
  · have hj0 : j = 0 := by simpa using hj
    subst hj0
    have := q7 l.length (by omega)
    simpa using this
  · have hz := q7 l.length (by omega)
    have hset : (w.setCell ⟨g, off + l.length, none⟩ (.int .u8 (c.toNat : Int))).cell? ⟨g, off + l.length, none⟩ = some (.int .u8 (c.toNat : Int)) := by
      have h8 := World.cell?_setCells_in g [Value.int .u8 (c.toNat : Int)] (off + l.length) w (fun j hj => by
        obtain rfl : j = 0 := by simpa using hj
        exact hz.1) 0 (by simp)
      exact h8
    have hfz : ∀ x, (w.setCell ⟨g, off + l.length, none⟩ (.int .u8 (c.toNat : Int))).frozen? x = w.frozen? x := fun x =>
      World.frozen?_setCells g [Value.int .u8 (c.toNat : Int)] (off + l.length) w x
    have hw : World.setCells w g (off + l.length * 1) [Value.int .u8 (c.toNat : Int)] = w.setCell ⟨g, off + l.length, none⟩ (.int .u8 (c.toNat : Int)) := by rw [Nat.mul_one]; rfl
    rw [hw]
    refine hK _ _ (some g) ?_ (grow_set w g _ _) (fun g' e => by cases e; exact ⟨q1, q3⟩)
    refine ⟨g, off, cap, by rw [List.length_append]; rfl, q1, by simpa using q2, q3, by rw [List.length_append]; exact hr, q5, fun j hj => ?_, fun j hj => ⟨?_, by rw [hfz]; exact (q7 j hj).2⟩⟩
    · by_cases hjl : j < l.length
      · rw [World.cell?_setCell_other _ _ _ _ (by intro e; injection e with _ e; omega), q6 j hjl, List.getElem_append_left hjl]
      · have hje : j = l.length := by rw [List.length_append] at hj; simp at hj; omega
        subst hje
        rw [hset]; simp
    · by_cases hje : j = l.length
      · subst hje; rw [hset]; rfl
      · rw [World.cell?_setCell_other _ _ _ _ (by intro e; injection e with _ e; omega)]
        exact (q7 j hj).1
  · refine hK v' w' none ?_ hgr (fun g e => by cases e)
    have h1 : w'.ownsRow w.heap.size 5 1 v' (l.length + 1) (bys (l ++ [c])) := by rw [bys_snoc]; exact ho
    exact Qu.own h1 (by simp) (by omega) hb (fun g hg => by have := (own_lt h1 hg).1; omega)
end Go.Proofs.Ytglleimmmfnhcaa
