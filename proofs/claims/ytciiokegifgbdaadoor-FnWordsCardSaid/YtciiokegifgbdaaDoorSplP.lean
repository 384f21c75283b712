/- Plain mathematics: a list of bytes cut at every occurrence of one byte; joined again it is what it was. Conditions: none beyond the hypotheses of each lemma. -/
import Derived.Test.YtciiokegifgbdaaDoorSplit
import Derived.Lib.SplitLaws
import Derived.Lib.Join
namespace Go.Proofs.YtciiokegifgbdaaDoor

def consH (x : UInt8) : List (List UInt8) → List (List UInt8)
  | [] => [[x]]
  | h :: t => (x :: h) :: t
/-- the parts between the bytes c -/
def spl (c : UInt8) : List UInt8 → List (List UInt8)
  | [] => [[]]
  | x :: r => if x = c then [] :: spl c r else consH x (spl c r)
def snocL (x : UInt8) : List (List UInt8) → List (List UInt8)
  | [] => [[x]]
  | [y] => [y ++ [x]]
  | h :: h2 :: t => h :: snocL x (h2 :: t)
theorem spl_ne (c : UInt8) : ∀ l, spl c l ≠ []
  | [] => by simp [spl]
  | x :: r => by
    unfold spl
    split
    · simp
    · cases spl c r <;> simp [consH]
theorem snocL_end (x : UInt8) (y : List UInt8) : ∀ L : List (List UInt8), snocL x (L ++ [y]) = L ++ [y ++ [x]]
  | [] => rfl
  | [a] => rfl
  | a :: b :: L => by
    have := snocL_end x y (b :: L)
    simp only [List.cons_append, snocL] at this ⊢
    rw [this]
theorem spl_snoc (c x : UInt8) : ∀ l : List UInt8, spl c (l ++ [x]) = if x = c then spl c l ++ [[]] else snocL x (spl c l)
  | [] => by
    simp only [List.nil_append, spl]
    split
    · rfl
    · rfl
  | a :: l => by
    have ih := spl_snoc c x l
    rw [List.cons_append, spl, spl, ih]
    match h : spl c l, spl_ne c l with
    | y :: t, _ =>
      by_cases hx : x = c
      · rw [if_pos hx, if_pos hx]
        by_cases ha : a = c
        · rw [if_pos ha, if_pos ha]; rfl
        · rw [if_neg ha, if_neg ha]; rfl
      · rw [if_neg hx, if_neg hx]
        by_cases ha : a = c
        · rw [if_pos ha, if_pos ha]; rfl
        · rw [if_neg ha, if_neg ha]
          cases t <;> rfl
theorem join_spl (c : UInt8) : ∀ l : List UInt8, Lib.join (spl c l) [c] = l
  | [] => by simp [spl, Lib.join_one]
  | x :: r => by
    have ih := join_spl c r
    rw [spl]
    match h : spl c r, spl_ne c r with
    | y :: t, _ =>
      rw [h, Lib.join_cons] at ih
      by_cases hx : x = c
      · rw [if_pos hx, Lib.join_cons]
        have e : Lib.joinTail [c] (y :: t) = [c] ++ y ++ Lib.joinTail [c] t := by simp [Lib.joinTail]
        rw [e, List.nil_append, List.append_assoc, ih, hx]; rfl
      · rw [if_neg hx]
        show Lib.join ((x :: y) :: t) [c] = x :: r
        rw [Lib.join_cons, List.cons_append, ih]
/-- the library's cut is this cut -/
theorem splitK_spl (c : UInt8) : ∀ l : List UInt8, Lib.splitK [c] 0 (Lib.count l [c]) l = spl c l
  | [] => by rw [Lib.count_miss (by simp [Lib.index])]; rfl
  | x :: r => by
    have ih := splitK_spl c r
    by_cases hx : x = c
    · subst hx
      rw [Lib.count_cons_eq, Nat.add_comm, Lib.splitK, spl, if_pos rfl]
      have hix : Lib.index (x :: r) [x] = 0 := by rw [Lib.index]; simp [List.isPrefixOf]
      rw [hix, if_neg (by decide)]
      simp [ih]
    · rw [Lib.count_cons_ne x c r hx, spl, if_neg hx, ← ih]
      have hp : ([c] : List UInt8).isPrefixOf (x :: r) = false := by simp [List.isPrefixOf, Ne.symm hx]
      have hix : Lib.index (x :: r) [c] = if Lib.index r [c] == -1 then -1 else Lib.index r [c] + 1 := by rw [Lib.index, hp]; simp
      cases hk : Lib.count r [c] with
      | zero => rfl
      | succ k =>
        have hne : Lib.index r [c] ≠ -1 := fun e => by rw [Lib.count_miss e] at hk; omega
        have hge := Lib.index_ge r [c]
        obtain ⟨j, hj⟩ : ∃ j : Nat, Lib.index r [c] = j := ⟨(Lib.index r [c]).toNat, by omega⟩
        have hix' : Lib.index (x :: r) [c] = ((j + 1 : Nat) : Int) := by rw [hix, if_neg (fun e => hne (beq_iff_eq.1 e)), hj]; omega
        rw [Lib.splitK, Lib.splitK, if_neg (fun e => by have := beq_iff_eq.1 e; omega), if_neg (fun e => hne (beq_iff_eq.1 e)), hix', hj]
        simp [consH]
theorem splitB_spl (c : UInt8) (s : ByteArray) : (Lib.splitB ⟨#[c]⟩ 0 (Lib.count s.data.toList [c]) s).map (·.data.toList) = spl c s.data.toList := by
  rw [Lib.splitB_data]
  exact splitK_spl c _
/-- the cut by a loop is this cut -/
theorem splitSt_spl (s : ByteArray) (c : UInt8) (p : UInt8 → Bool) (hp : ∀ x, p x = decide (x = c)) : ∀ k, k ≤ s.size → (splitSt s p k).1.map (·.data.toList) ++ [(s.data.toList.take k).drop (splitSt s p k).2] = spl c (s.data.toList.take k)
  | 0, _ => by simp [splitSt, spl]
  | k + 1, hk => by
    have ih := splitSt_spl s c p hp k (by omega)
    have hlt : k < s.size := by omega
    have hl := split_le s p k
    have hlen : (s.data.toList.take k).length = k := by rw [List.length_take, ← Lib.size_eq]; omega
    rw [take_snoc s k hlt, spl_snoc]
    by_cases hx : s[k] = c
    · rw [if_pos hx, split_yes hlt (by rw [hp, decide_eq_true hx]), ← ih]
      have e1 : (s.data.toList.take k ++ [s[k]]).drop (k + 1) = [] := List.drop_eq_nil_of_le (by rw [List.length_append, hlen]; simp)
      rw [e1, List.map_append]
      congr 2
      show [(s.extract (splitSt s p k).2 k).data.toList] = _
      rw [Lib.extract_data, List.drop_take]
    · rw [if_neg hx, split_no hlt (by rw [hp, decide_eq_false hx]), ← ih, snocL_end, List.drop_append_of_le_length (by rw [hlen]; exact hl.2)]
theorem splitR_spl (s : ByteArray) (c : UInt8) (p : UInt8 → Bool) (hp : ∀ x, p x = decide (x = c)) : (splitR s p).map (·.data.toList) = spl c s.data.toList := by
  have h := splitSt_spl s c p hp s.size (Nat.le_refl _)
  rw [take_all s s.size (Nat.le_refl _)] at h
  rw [← h]
  unfold splitR
  rw [List.map_append]
  congr 2
  show [(s.extract (splitSt s p s.size).2 s.size).data.toList] = _
  rw [Lib.extract_to_end]
theorem one_has (c x : UInt8) : (⟨#[c]⟩ : ByteArray).data.toList.contains x = decide (x = c) := by
  show ([c] : List UInt8).contains x = decide (x = c)
  rw [List.contains_cons, List.contains_nil, Bool.or_false]
  by_cases h : x = c
  · rw [decide_eq_true h]; exact beq_iff_eq.2 h
  · rw [decide_eq_false h]; exact beq_eq_false_iff_ne.2 h
theorem lists_inj : ∀ {a b : List ByteArray}, a.map (·.data.toList) = b.map (·.data.toList) → a = b
  | [], [], _ => rfl
  | [], _ :: _, h => by cases h
  | _ :: _, [], h => by cases h
  | x :: a, y :: b, h => by
    simp only [List.map_cons, List.cons.injEq] at h
    rw [lists_inj h.2]
    have : x = y := by apply ByteArray.ext; apply Array.ext'; exact h.1
    rw [this]
/-- the parts as strings -/
def splB (c : UInt8) (s : ByteArray) : List ByteArray := (spl c s.data.toList).map fun l => ⟨l.toArray⟩
theorem splB_lists (c : UInt8) (s : ByteArray) : (splB c s).map (·.data.toList) = spl c s.data.toList := by
  unfold splB
  rw [List.map_map]
  have : ((fun x : ByteArray => x.data.toList) ∘ fun l : List UInt8 => (⟨l.toArray⟩ : ByteArray)) = id := by funext l; rfl
  rw [this, List.map_id]
theorem splitB_splB (c : UInt8) (s : ByteArray) : Lib.splitB ⟨#[c]⟩ 0 (Lib.count s.data.toList [c]) s = splB c s := lists_inj ((splitB_spl c s).trans (splB_lists c s).symm)
theorem splitR_splB (c : UInt8) (s : ByteArray) : splitR s (⟨#[c]⟩ : ByteArray).data.toList.contains = splB c s := lists_inj ((splitR_spl s c _ (one_has c)).trans (splB_lists c s).symm)
end Go.Proofs.YtciiokegifgbdaaDoor
