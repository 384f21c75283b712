/- Walks: the least power of a substitution that has a letter whose image begins with it. -/
import Derived.Test.YtglleimmmfnhcaaGrow
namespace Go.Proofs.Ytglleimmmfnhcaa
open Go.RowKit
set_option maxRecDepth 20000

/-- the index of the first letter of the image of letter k -/
def nx (xs : List ByteArray) (k : Nat) : Nat := ((imgAt xs (lc k)).data.toList.headD 0).toNat - 97
def itN (xs : List ByteArray) : Nat → Nat → Nat
  | 0, k => k
  | n + 1, k => nx xs (itN xs n k)
def cyc (xs : List ByteArray) (n : Nat) : Bool := (List.range xs.length).any fun j => itN xs n j == j
/-- what PowerNeeded returns -/
def powR (xs : List ByteArray) : Nat := if substB xs = true then (if cyc xs 1 = true then 1 else if cyc xs 2 = true then 2 else if cyc xs 3 = true then 3 else 4) else 0
theorem nx_facts {xs : List ByteArray} (hx : substB xs = true) {k : Nat} (hk : k < xs.length) :
    imgAt xs (lc k) = xs[k] ∧ ∃ h : 0 < xs[k].size, xs[k].size ≤ 8 ∧ (97 : Int) ≤ (xs[k][0].toNat : Int) ∧ (xs[k][0].toNat : Int) ≤ 100 ∧ xs[k][0].toNat = 97 + nx xs k ∧ nx xs k < xs.length ∧ xs[k][0] = lc (nx xs k) := by
  have h4 := (subst_parts hx).2.1
  have hn := lc_nat (j := k) (by omega)
  have hi : imgAt xs (lc k) = xs[k] := by
    have := imgAt_get (xs := xs) (c := lc k) (by omega)
    rw [this]; congr 1; omega
  have hok := imgAt_ok hx (c := lc k) (by omega)
  rw [hi] at hok
  obtain ⟨ho1, ho8, hw⟩ := hok
  obtain ⟨hb2, hb3⟩ := word_byte (word_letters (wordIn_parts hw).2) 0 (by omega)
  have h0 : 0 < xs[k].size := by omega
  have hnx : nx xs k = xs[k][0].toNat - 97 := by unfold nx; rw [hi, head_get h0]
  have hin := (wordIn_parts hw).1
  have hlt : (xs[k][0].toNat : Int) - 97 < xs.length := by
    have hm : xs[k][0] ∈ xs[k].data.toList := by
      rw [ByteArray.getElem_eq_getElem_data, ← Array.getElem_toList]; exact List.getElem_mem _
    have := List.all_eq_true.1 hin _ hm
    simpa using this
  refine ⟨hi, h0, by omega, hb2, hb3, by omega, by omega, ?_⟩
  apply UInt8.toNat_inj.1
  rw [lc_nat (by omega)]; omega
theorem nx_at {xs : List ByteArray} (hx : substB xs = true) {k : Nat} (hk : k < xs.length) :
    ∃ (t : ByteArray) (h : 0 < t.size), xs[k] = t ∧ imgAt xs (lc k) = t ∧ t.size ≤ 8 ∧ (97 : Int) ≤ (t[0].toNat : Int) ∧ (t[0].toNat : Int) ≤ 100 ∧ t[0].toNat = 97 + nx xs k ∧ t[0] = lc (nx xs k) := by
  obtain ⟨h1, h0, h8, h2, h3, h4, _, h5⟩ := nx_facts hx hk
  exact ⟨xs[k], h0, rfl, h1, h8, h2, h3, h4, h5⟩
theorem itN_lt {xs : List ByteArray} (hx : substB xs = true) {k : Nat} (hk : k < xs.length) : ∀ n, itN xs n k < xs.length
  | 0 => hk
  | n + 1 => by
    obtain ⟨_, _, _, _, _, _, h, _⟩ := nx_facts hx (itN_lt hx hk n)
    exact h
theorem fin_cyc : ∀ L : Fin 5, 0 < L.val → ∀ a b c d : Fin 4, (∀ j : Fin 4, j.val < L.val → (([a, b, c, d] : List (Fin 4)).getD j.val 0).val < L.val) →
    ∃ n : Fin 5, 1 ≤ n.val ∧ ∃ j : Fin 4, j.val < L.val ∧ (Nat.repeat (fun x => (([a, b, c, d] : List (Fin 4)).getD x 0).val) n.val j.val) = j.val := by decide +kernel
theorem itN_repeat {xs : List ByteArray} {g : Nat → Nat} (hx : substB xs = true) (hg : ∀ j, j < xs.length → g j = nx xs j) {k : Nat} (hk : k < xs.length) : ∀ n, Nat.repeat g n k = itN xs n k
  | 0 => rfl
  | n + 1 => by
    show g (Nat.repeat g n k) = nx xs (itN xs n k)
    rw [itN_repeat hx hg hk n]; exact hg _ (itN_lt hx hk n)
theorem cyc_ex {xs : List ByteArray} (hx : substB xs = true) : ∃ n, 1 ≤ n ∧ n ≤ 4 ∧ cyc xs n = true := by
  obtain ⟨h1, h4, _⟩ := subst_parts hx
  have hm : ∀ j : Nat, (if h : nx xs j < 4 then (⟨nx xs j, h⟩ : Fin 4) else 0).val = if nx xs j < 4 then nx xs j else 0 := by
    intro j; split <;> rfl
  have hlt : ∀ j, j < xs.length → nx xs j < xs.length := fun j hj => by obtain ⟨_, _, _, _, _, _, h, _⟩ := nx_facts hx hj; exact h
  let f : Nat → Fin 4 := fun j => if h : nx xs j < 4 then ⟨nx xs j, h⟩ else 0
  have hf : ∀ j, j < xs.length → (([f 0, f 1, f 2, f 3] : List (Fin 4)).getD j 0).val = nx xs j := by
    intro j hj
    have hj4 : nx xs j < 4 := by have := hlt j hj; omega
    have key : (f j).val = nx xs j := by show (if h : nx xs j < 4 then (⟨nx xs j, h⟩ : Fin 4) else 0).val = _; rw [hm, if_pos hj4]
    rcases (show j = 0 ∨ j = 1 ∨ j = 2 ∨ j = 3 by omega) with rfl | rfl | rfl | rfl <;> exact key
  obtain ⟨n, hn1, j, hj, he⟩ := fin_cyc ⟨xs.length, by omega⟩ h1 (f 0) (f 1) (f 2) (f 3) (fun j hj => by rw [hf j.val hj]; exact hlt _ hj)
  refine ⟨n.val, hn1, by omega, List.any_eq_true.2 ⟨j.val, List.mem_range.2 hj, ?_⟩⟩
  rw [itN_repeat hx hf hj] at he
  rw [he]; exact beq_self_eq_true _
theorem powR_out {xs : List ByteArray} (h : substB xs = false) : powR xs = 0 := by unfold powR; rw [h]; rfl
theorem powR_is {xs : List ByteArray} (hx : substB xs = true) {n : Nat} (h1 : 1 ≤ n) (h4 : n ≤ 4) (hc : cyc xs n = true) (hno : ∀ m, 1 ≤ m → m < n → cyc xs m = false) : powR xs = n := by
  unfold powR
  rw [if_pos hx]
  rcases (show n = 1 ∨ n = 2 ∨ n = 3 ∨ n = 4 by omega) with rfl | rfl | rfl | rfl
  · rw [if_pos hc]
  · rw [hno 1 (by omega) (by omega), hc]; rfl
  · rw [hno 1 (by omega) (by omega), hno 2 (by omega) (by omega), hc]; rfl
  · rw [hno 1 (by omega) (by omega), hno 2 (by omega) (by omega), hno 3 (by omega) (by omega)]; rfl
theorem cyc_lt {xs : List ByteArray} (hx : substB xs = true) {n : Nat} (hno : ∀ m, 1 ≤ m → m < n + 1 → cyc xs m = false) : n < 4 := by
  obtain ⟨m, h1, h4, hc⟩ := cyc_ex hx
  by_cases h : m < n + 1
  · rw [hno m h1 h] at hc; cases hc
  · omega
theorem cyc_yes {xs : List ByteArray} {n j : Nat} (hj : j < xs.length) (h : itN xs n j = j) : cyc xs n = true := List.any_eq_true.2 ⟨j, List.mem_range.2 hj, by rw [h]; exact beq_self_eq_true _⟩
theorem cyc_no {xs : List ByteArray} {n : Nat} (h : ∀ j, j < xs.length → itN xs n j ≠ j) : cyc xs n = false := by
  rw [← Bool.not_eq_true]; intro hc
  obtain ⟨j, hj, he⟩ := List.any_eq_true.1 hc
  exact h j (List.mem_range.1 hj) (by simpa using he)
end Go.Proofs.Ytglleimmmfnhcaa
