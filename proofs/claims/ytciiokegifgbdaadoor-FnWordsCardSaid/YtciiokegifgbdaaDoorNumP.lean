/- Plain mathematics: the numeral of an integer is parsed back by strconv.Atoi and by a parse that counts downward. Conditions: none beyond the hypotheses of each lemma. -/
import Derived.Lib.ItoaMem
import Derived.Lib.ItoaLen
import Derived.Lib.AtoiAllCases
namespace Go.Proofs.YtciiokegifgbdaaDoor

theorem dec_small {u : Nat} (h : u < 10) : Lib.decDigits u = [UInt8.ofNat (48 + u)] := Lib.decDigits_one h
theorem dec_step {u : Nat} (h : ¬ u < 10) : Lib.decDigits u = Lib.decDigits (u / 10) ++ [UInt8.ofNat (48 + u % 10)] := by rw [Lib.decDigits, dif_neg h]
theorem digit_val {k : Nat} (h : k < 10) : (UInt8.ofNat (48 + k)).toNat = 48 + k := by rw [UInt8.toNat_ofNat']; omega
/-- a byte that is a digit -/
def isDg (c : UInt8) : Bool := decide (48 ≤ (c.toNat : Int)) && decide ((c.toNat : Int) ≤ 57)
theorem dg_isDg {k : Nat} (h : k < 10) : isDg (UInt8.ofNat (48 + k)) = true := by
  unfold isDg; rw [digit_val h, decide_eq_true (by omega), decide_eq_true (by omega)]; rfl
theorem dec_all (u : Nat) : (Lib.decDigits u).all isDg = true := by
  induction u using Nat.strongRecOn with
  | _ u ih =>
    by_cases h : u < 10
    · rw [dec_small h, List.all_cons, dg_isDg h]; rfl
    · rw [dec_step h, List.all_append, ih (u / 10) (by omega)]
      rw [List.all_cons, dg_isDg (Nat.mod_lt u (by decide))]; rfl
theorem dec_ne (u : Nat) : Lib.decDigits u ≠ [] := by
  intro h
  have := Lib.nDigits_pos u
  rw [← Lib.decDigits_length, h] at this
  simp at this
theorem nDigits_le : ∀ (k u : Nat), u < 10 ^ (k + 1) → Lib.nDigits u ≤ k + 1
  | 0, u, h => by rw [Lib.nDigits_small (by simpa using h)]; omega
  | k + 1, u, h => by
    by_cases h1 : u < 10
    · rw [Lib.nDigits_small h1]; omega
    · rw [Lib.nDigits_big h1]
      have := nDigits_le k (u / 10) (by rw [Nat.pow_succ] at h; omega)
      omega
theorem dec_len19 {u : Nat} (h : u ≤ 9223372036854775808) : (Lib.decDigits u).length ≤ 19 := by
  rw [Lib.decDigits_length]
  exact nDigits_le 18 u (by have : (10 : Nat) ^ (18 + 1) = 10000000000000000000 := by decide
                            omega)

/-! ### strconv.Atoi reads the numeral back -/
theorem parse_append : ∀ (l1 l2 : List UInt8) (acc a : Nat), Lib.parseUint10 acc l1 = .ok a → Lib.parseUint10 acc (l1 ++ l2) = Lib.parseUint10 a l2
  | [], l2, acc, a, h => by
    simp only [Lib.parseUint10] at h
    injection h with h
    rw [h, List.nil_append]
  | c :: r, l2, acc, a, h => by
    simp only [List.cons_append, Lib.parseUint10] at h ⊢
    split at h
    · rename_i h1
      rw [if_pos h1]
      split at h
      · cases h
      · rename_i h2
        rw [if_neg h2]
        split at h
        · cases h
        · rename_i h3
          rw [if_neg h3]
          exact parse_append r l2 _ a h
    · cases h
theorem parse_dec (u : Nat) (hu : u < 18446744073709551616) : Lib.parseUint10 0 (Lib.decDigits u) = .ok u := by
  induction u using Nat.strongRecOn with
  | _ u ih =>
    by_cases h : u < 10
    · rw [dec_small h]
      simp only [Lib.parseUint10, digit_val h]
      rw [if_pos (by omega), if_neg (by omega), if_neg (by omega)]
      congr 1; omega
    · rw [dec_step h, parse_append _ _ _ _ (ih (u / 10) (by omega) (by omega))]
      simp only [Lib.parseUint10, digit_val (Nat.mod_lt u (by decide : 0 < 10))]
      rw [if_pos (by omega), if_neg (by omega), if_neg (by omega)]
      congr 1; omega
theorem mag_dec (u : Nat) (hu : u < 18446744073709551616) : Lib.parseMag (Lib.decDigits u) = .ok u := by
  unfold Lib.parseMag; rw [if_neg (dec_ne u), parse_dec u hu]
theorem dec_head (u : Nat) : ∃ c r, Lib.decDigits u = c :: r ∧ isDg c = true := by
  match h : Lib.decDigits u with
  | [] => exact absurd h (dec_ne u)
  | c :: r =>
    have := dec_all u
    rw [h, List.all_cons, Bool.and_eq_true] at this
    exact ⟨c, r, rfl, this.1⟩
theorem isDg_val {c : UInt8} (h : isDg c = true) : 48 ≤ c.toNat ∧ c.toNat ≤ 57 := by
  unfold isDg at h
  rw [Bool.and_eq_true, decide_eq_true_eq, decide_eq_true_eq] at h
  omega
/-- what strconv.Itoa writes strconv.Atoi reads -/
theorem atoi_itoa (n : Int) (h0 : -9223372036854775808 ≤ n) (h1 : n ≤ 9223372036854775807) : Lib.atoiAll (Lib.itoa n) = .ok n := by
  by_cases hn : n < 0
  · obtain ⟨u, rfl⟩ : ∃ u : Nat, n = -(u : Int) := ⟨n.natAbs, by omega⟩
    rw [Lib.itoa_neg u (by omega), Lib.atoiAll_minus, mag_dec u (by omega)]
    simp only [Lib.signed]
    rw [if_neg (by omega)]
  · obtain ⟨u, rfl⟩ : ∃ u : Nat, n = (u : Int) := ⟨n.toNat, by omega⟩
    rw [Lib.itoa_nonneg]
    obtain ⟨c, r, e, hc⟩ := dec_head u
    have hv := isDg_val hc
    rw [e, Lib.atoiAll_plain c r (by omega) (by omega), ← e, mag_dec u (by omega)]
    simp only [Lib.signless]
    rw [if_neg (by omega)]

/-! ### a parse that counts downward -/
/-- one digit more, behind the digits that gave n; none where the next number would be too small -/
def dnStep (n : Int) (c : UInt8) : Option Int := if n < (-9223372036854775808 + ((c.toNat : Int) - 48)).tdiv 10 then none else some (n * 10 - ((c.toNat : Int) - 48))
def dnGo (n : Int) : List UInt8 → Option Int
  | [] => some n
  | c :: r => match dnStep n c with | none => none | some m => dnGo m r
theorem dn_append : ∀ (l1 l2 : List UInt8) (n : Int), dnGo n (l1 ++ l2) = match dnGo n l1 with | none => none | some m => dnGo m l2
  | [], l2, n => rfl
  | c :: r, l2, n => by
    simp only [List.cons_append, dnGo]
    cases dnStep n c with
    | none => rfl
    | some m => exact dn_append r l2 m
theorem tdiv_down (d : Int) (h : d ≤ 9223372036854775808) : (-9223372036854775808 + d).tdiv 10 = -((9223372036854775808 - d) / 10) := by
  rw [show -9223372036854775808 + d = -(9223372036854775808 - d) by omega, Int.neg_tdiv, Int.tdiv_eq_ediv_of_nonneg (by omega)]
theorem dn_dec (u : Nat) (hu : u ≤ 9223372036854775808) : dnGo 0 (Lib.decDigits u) = some (-(u : Int)) := by
  induction u using Nat.strongRecOn with
  | _ u ih =>
    by_cases h : u < 10
    · rw [dec_small h]
      simp only [dnGo, dnStep, digit_val h]
      rw [tdiv_down _ (by omega), if_neg (by omega)]
      simp only [Option.some.injEq]; omega
    · rw [dec_step h, dn_append, ih (u / 10) (by omega) (by omega)]
      simp only [dnGo, dnStep, digit_val (Nat.mod_lt u (by decide : 0 < 10))]
      rw [tdiv_down _ (by omega), if_neg (by omega)]
      simp only [Option.some.injEq]; omega
/-- how the downward parse ends within the ints, digits alone -/
theorem dn_low {n m : Int} {c : UInt8} (hc : isDg c = true) (h0 : -9223372036854775808 ≤ n ∧ n ≤ 0) (h : dnStep n c = some m) : -9223372036854775808 ≤ m ∧ m ≤ 0 := by
  have hv := isDg_val hc
  unfold dnStep at h
  rw [tdiv_down _ (by omega)] at h
  split at h
  · cases h
  · injection h with h; omega

/-! ### the two parses -/
/-- the integer whose numeral the bytes are -/
def numOf (l : List UInt8) : Int × Bool := match Lib.atoiAll l with | .ok v => if Lib.itoa v = l then (v, true) else (0, false) | _ => (0, false)
theorem num_yes {n : Int} {l : List UInt8} (h0 : -9223372036854775808 ≤ n) (h1 : n ≤ 9223372036854775807) (h : Lib.itoa n = l) : numOf l = (n, true) := by
  unfold numOf; rw [← h, atoi_itoa n h0 h1]; simp
theorem num_no {l : List UInt8} (h : ∀ n : Int, -9223372036854775808 ≤ n → n ≤ 9223372036854775807 → Lib.itoa n ≠ l) : numOf l = (0, false) := by
  unfold numOf
  rcases e : Lib.atoiAll l with v | _ | _
  · obtain ⟨b0, b1⟩ := Lib.atoiAll_bounds e; simp only [if_neg (h v b0 b1)]
  · rfl
  · rfl
theorem num_ok {v : Int} {l : List UInt8} (h : Lib.atoiAll l = .ok v) : numOf l = if Lib.itoa v = l then (v, true) else (0, false) := by unfold numOf; rw [h]
theorem num_err {l : List UInt8} (h : ∀ v, Lib.atoiAll l ≠ .ok v) : numOf l = (0, false) := by
  unfold numOf
  rcases e : Lib.atoiAll l with v | _ | _
  · exact absurd e (h v)
  · rfl
  · rfl
theorem num_int (l : List UInt8) : -9223372036854775808 ≤ (numOf l).1 ∧ (numOf l).1 ≤ 9223372036854775807 := by
  unfold numOf
  rcases e : Lib.atoiAll l with v | _ | _
  · obtain ⟨b0, b1⟩ := Lib.atoiAll_bounds e; dsimp only; split <;> dsimp only <;> omega
  · dsimp only; omega
  · dsimp only; omega
/-- the digits behind a sign, if there is one -/
def unsign (l : List UInt8) : List UInt8 := if l.head? = some 45 then l.tail else l
theorem unsign_neg (r : List UInt8) : unsign (45 :: r) = r := rfl
theorem itoa_unsign (n : Int) (h0 : -9223372036854775808 ≤ n) (h1 : n ≤ 9223372036854775807) : ∃ u : Nat, u ≤ 9223372036854775808 ∧ unsign (Lib.itoa n) = Lib.decDigits u ∧ ((Lib.itoa n).head? = some 45 → n = -(u : Int)) ∧ ((Lib.itoa n).head? ≠ some 45 → n = (u : Int)) := by
  by_cases hn : n < 0
  · obtain ⟨u, rfl⟩ : ∃ u : Nat, n = -(u : Int) := ⟨n.natAbs, by omega⟩
    rw [Lib.itoa_neg u (by omega)]
    exact ⟨u, by omega, rfl, fun _ => rfl, fun h => absurd rfl h⟩
  · obtain ⟨u, rfl⟩ : ∃ u : Nat, n = (u : Int) := ⟨n.toNat, by omega⟩
    rw [Lib.itoa_nonneg]
    obtain ⟨c, r, e, hc⟩ := dec_head u
    have hv := isDg_val hc
    have h45 : (Lib.decDigits u).head? ≠ some 45 := by
      rw [e]; intro h
      injection h with h
      rw [h] at hv; exact absurd hv (by decide)
    refine ⟨u, by omega, ?_, fun h => absurd h h45, fun _ => rfl⟩
    unfold unsign; rw [if_neg h45]
/-- no numeral: a byte behind the sign that is no digit -/
theorem num_bad1 {l : List UInt8} (h : ((unsign l).all isDg && decide (unsign l ≠ [])) = false) : numOf l = (0, false) := by
  refine num_no fun n h0 h1 e => ?_
  obtain ⟨u, hu, e2, _, _⟩ := itoa_unsign n h0 h1
  rw [← e, e2, dec_all u, decide_eq_true (dec_ne u)] at h
  cases h
theorem num_bad2 {l : List UInt8} (h : 19 < (unsign l).length) : numOf l = (0, false) := by
  refine num_no fun n h0 h1 e => ?_
  obtain ⟨u, hu, e2, _, _⟩ := itoa_unsign n h0 h1
  have := dec_len19 hu
  rw [← e, e2] at h
  omega
theorem num_bad3 {l : List UInt8} (h : dnGo 0 (unsign l) = none) : numOf l = (0, false) := by
  refine num_no fun n h0 h1 e => ?_
  obtain ⟨u, hu, e2, _, _⟩ := itoa_unsign n h0 h1
  rw [← e, e2, dn_dec u hu] at h
  cases h
theorem num_bad4 {l : List UInt8} (h : dnGo 0 (unsign l) = some (-9223372036854775808)) (hs : l.head? ≠ some 45) : numOf l = (0, false) := by
  refine num_no fun n h0 h1 e => ?_
  obtain ⟨u, hu, e2, _, e4⟩ := itoa_unsign n h0 h1
  subst e
  rw [e2, dn_dec u hu] at h
  have := e4 hs
  injection h with h
  omega
/-- behind the parse: the number m, negative as it was counted -/
theorem num_end1 {l : List UInt8} {m : Int} (h : dnGo 0 (unsign l) = some m) (hs : l.head? = some 45) (hm : -9223372036854775808 ≤ m ∧ m ≤ 0) : numOf l = if Lib.itoa m = l then (m, true) else (0, false) := by
  split
  · rename_i e; exact num_yes (by omega) (by omega) e
  · rename_i e
    refine num_no fun n h0 h1 e1 => e ?_
    obtain ⟨u, hu, e2, e3, _⟩ := itoa_unsign n h0 h1
    subst e1
    rw [e2, dn_dec u hu] at h
    injection h with h
    rw [← h, ← e3 hs]
theorem num_end2 {l : List UInt8} {m : Int} (h : dnGo 0 (unsign l) = some m) (hs : l.head? ≠ some 45) (hm : -9223372036854775808 < m ∧ m ≤ 0) : numOf l = if Lib.itoa (-m) = l then (-m, true) else (0, false) := by
  split
  · rename_i e; exact num_yes (by omega) (by omega) e
  · rename_i e
    refine num_no fun n h0 h1 e1 => e ?_
    obtain ⟨u, hu, e2, _, e4⟩ := itoa_unsign n h0 h1
    subst e1
    rw [e2, dn_dec u hu] at h
    injection h with h
    rw [← h, ← e4 hs]; simp
end Go.Proofs.YtciiokegifgbdaaDoor
