/- Walks and plain laws of the functions that a law reaches, several texts in one (part 9). Conditions: none beyond the hypotheses of each lemma. -/
import Derived.Deep.RegionLaw
import Derived.Deep.AppendLies
import Derived.Test.YtciiokegifgbdaaG8
import Derived.Test.YtciiokegifgbdaaG2
import Derived.Test.YtciiokegifgbdaaG7
import Derived.Test.YtciiokegifgbdaaG4
/- Walks: a substitution read from its text. Conditions: none beyond the hypotheses of each lemma. -/
namespace Go.Proofs.Ytciiokegifgbdaa
open Go.RowKit
set_option maxRecDepth 20000

theorem types_ps : (33 : TypeId) ≠ 9 := by decide
/-- the substitution that a text names, if it names one -/
def psB (s : ByteArray) : Bool := substB (splB 44 s)
def psR (s : ByteArray) : List ByteArray := if psB s = true then splB 44 s else []
theorem ps_no {s : ByteArray} (h : psB s = false) : psR s = [] := by unfold psR; rw [h]; rfl
theorem ps_yes {s : ByteArray} (h : psB s = true) : psR s = splB 44 s := by unfold psR; rw [if_pos h]
theorem spl_len (c : UInt8) : ∀ l : List UInt8, ∀ x ∈ spl c l, x.length ≤ l.length
  | [], x, hx => by simp [spl] at hx; subst hx; exact Nat.le_refl _
  | a :: r, x, hx => by
    have ih := spl_len c r
    unfold spl at hx
    split at hx
    · rcases List.mem_cons.1 hx with rfl | hx
      · simp
      · have := ih x hx; simp; omega
    · cases h : spl c r with
      | nil => exact absurd h (spl_ne c r)
      | cons y t =>
        rw [h] at hx ih
        rcases List.mem_cons.1 hx with rfl | hx
        · have := ih y List.mem_cons_self; simp; omega
        · have := ih x (List.mem_cons_of_mem _ hx); simp; omega
theorem splB_size {c : UInt8} {s : ByteArray} : ∀ x ∈ splB c s, x.size ≤ s.size := by
  intro x hx
  obtain ⟨l, hl, rfl⟩ := List.mem_map.1 hx
  have := spl_len c _ l hl
  rw [Lib.size_eq s]
  exact this
theorem splB_join (s : ByteArray) : joinR (splB 44 s) comma = s := by
  have h : jl (splB 44 s) = spl 44 s.data.toList := splB_lists 44 s
  unfold joinR
  rw [h]
  show (⟨(Lib.join (spl 44 s.data.toList) [44]).toArray⟩ : ByteArray) = s
  rw [join_spl]
theorem ps_short {s : ByteArray} (h : psB s = true) : s.size ≤ 40 := by
  obtain ⟨h1, h4, hall⟩ := subst_parts h
  have h5 := bytesOf_each (n := 8) (fun x hx => (hall x hx).2.1)
  have h6 := join_len (splB 44 s) comma
  have h7 : (Lib.join (jl (splB 44 s)) comma.data.toList).length = s.size := by
    have e := congrArg (fun x : ByteArray => x.data.toList.length) (splB_join s)
    rw [Lib.size_eq]
    exact e
  rw [h7] at h6
  have e1 : comma.size = 1 := rfl
  rw [e1] at h6
  omega
theorem ps_long {s : ByteArray} (h : 40 < s.size) : psB s = false := by
  cases hb : psB s
  · rfl
  · have := ps_short hb; omega
theorem ps_fmt {s : ByteArray} (h : psB s = true) : fmtR (splB 44 s) = s := by rw [fmt_in h, splB_join]
set_option maxHeartbeats 1000000 in
theorem specParseSubst_any (s : ByteArray) (w : World) (hs : s.size ≤ 1048576) :
    Calls Try.prog 59 #[.string s] w fun e w' => ∃ v, e = .returned (.tuple #[.agg #[v], .bool (psB s)]) ∧ w'.ownsRow w.heap.size 9 1 v (psR s).length ((psR s).map .string) ∧ Below w.heap.size w w' := by
  have B0 := Lib.hid (bnew w (.cells #[.slice none 0 0] 33))
  have O0 := Lib.hid (One.new w 33 (.slice none 0 0))
  by_cases hlong : 40 < s.size
  · have HP := Lib.hid (ps_long hlong)
    have c0 := O0.out.cell
    have f0 := O0.out.frozen
    go_enter Try.func59, Try.ntmps59
    go_wp2_with fail
    refine bodyPost_ret (v := .tuple #[.agg #[.slice none 0 0], .bool false]) (by simp [results, Try.results59, go_sem, c0]) rfl ?_
    exact ⟨_, by rw [HP.out], by rw [ps_no HP.out]; exact World.ownsRow_nil _ _ _ _, B0.out⟩
  have HC := Lib.hid (specSplitAny_any s comma (w.alloc (.cells #[.slice none 0 0] 33)) hs (by decide))
  rw [show splitR s comma.data.toList.contains = splB 44 s from splitR_splB 44 s] at HC
  have HM := Lib.hid (show ((splB 44 s).map Value.string).length = (splB 44 s).length from List.length_map _)
  have HSZ := Lib.hid (show ∀ x ∈ splB 44 s, x.size ≤ maxLen from fun x hx => by have := splB_size x hx; unfold maxLen; omega)
  have HOK := Lib.hid (fun (v : Value) (W : World) (hR : Row1 W W.heap.size v ((splB 44 s).map .string)) => specSubstOk_any (splB 44 s) v W hR HSZ.out)
  have HFM := Lib.hid (fun (v : Value) (W : World) (hR : Row1 W W.heap.size v ((splB 44 s).map .string)) => specFormatSubst_any (splB 44 s) v W hR HSZ.out)
  go_enter Try.func59, Try.ntmps59
  go_wp2_with fail
  refine HC.out.mono ?_
  rintro e w1 ⟨v, rfl, ho, hb⟩
  obtain ⟨A, c, rfl⟩ := own_shape ho
  have OW := Lib.hid ho
  have B1 := Lib.hid (bthen B0.out hb)
  have O1 := Lib.hid (O0.out.on hb)
  clear ho hb
  have OW2 := Lib.hid (own_below OW.out (bnew w1 (.cells #[.slice A (splB 44 s).length c] 33)))
  have R2 := Lib.hid (Row1.own OW2.out HM.out.symm)
  have B2 := Lib.hid (bthen B1.out (bnew w1 (.cells #[.slice A (splB 44 s).length c] 33)))
  have O2 := Lib.hid (O1.out.alloc (.cells #[.slice A (splB 44 s).length c] 33))
  have P2 := Lib.hid (One.new w1 33 (.slice A (splB 44 s).length c))
  go_wp2_with fail
  refine (HOK.out _ _ R2.out).mono ?_
  cases hp : psB s
  · have HP := Lib.hid hp
    rw [show substB (splB 44 s) = false from hp]
    clear hp
    rintro e w2 ⟨rfl, hb⟩
    have B3 := Lib.hid (bthen B2.out hb)
    have O3 := Lib.hid (O2.out.on hb)
    have c3 := O3.out.cell
    have f3 := O3.out.frozen
    clear hb
    go_wp2_with fail
    refine bodyPost_ret (v := .tuple #[.agg #[.slice none 0 0], .bool false]) (by simp [results, Try.results59, go_sem, c3]) rfl ?_
    exact ⟨_, by rw [HP.out], by rw [ps_no HP.out]; exact World.ownsRow_nil _ _ _ _, since_set B3.out (Nat.le_refl _) _⟩
  · have HP := Lib.hid hp
    rw [show substB (splB 44 s) = true from hp]
    clear hp
    rintro e w2 ⟨rfl, hb⟩
    have B3 := Lib.hid (bthen B2.out hb)
    have O3 := Lib.hid (O2.out.on hb)
    have P3 := Lib.hid (P2.out.on hb)
    have OW3 := Lib.hid (own_below OW2.out hb)
    have R3 := Lib.hid (Row1.own OW3.out HM.out.symm)
    have d3 := P3.out.cell
    clear hb
    go_wp2_with fail
    refine (HFM.out _ _ R3.out).mono ?_
    rw [ps_fmt HP.out]
    rintro e w3 ⟨rfl, hb⟩
    have B4 := Lib.hid (bthen B3.out hb)
    have O4 := Lib.hid (O3.out.on hb)
    have P4 := Lib.hid (P3.out.on hb)
    have OW4 := Lib.hid (own_below OW3.out hb)
    have c4 := O4.out.cell
    have f4 := O4.out.frozen
    have d4 := P4.out.cell
    clear hb d3
    go_wp2_with fail
    refine bodyPost_ret (v := .tuple #[.agg #[.slice A (splB 44 s).length c], .bool true]) (by simp [results, Try.results59, go_sem, c4]) rfl ?_
    refine ⟨_, by rw [HP.out], ?_, since_set B4.out (Nat.le_refl _) _⟩
    rw [ps_yes HP.out]
    exact own_set (own_base OW4.out (by simp)) (one_ne O4.out OW4.out types_ps) _
end Go.Proofs.Ytciiokegifgbdaa
/- Walks: the named substitutions. Conditions: none beyond the hypotheses of each lemma. -/
namespace Go.Proofs.Ytciiokegifgbdaa
open Go.RowKit
set_option maxRecDepth 20000

/-- the text of a named substitution; empty where the name is none of the seven -/
def nmT (s : ByteArray) : ByteArray := if (s.toList == [102, 105, 98, 111, 110, 97, 99, 99, 105]) = true then ⟨#[97, 98, 44, 97]⟩ else if (s.toList == [116, 104, 117, 101]) = true then ⟨#[97, 98, 44, 98, 97]⟩ else if (s.toList == [100, 111, 117, 98, 108, 105, 110, 103]) = true then ⟨#[97, 98, 44, 97, 97]⟩ else if (s.toList == [116, 114, 105, 98, 111, 110, 97, 99, 99, 105]) = true then ⟨#[97, 98, 44, 97, 99, 44, 97]⟩ else if (s.toList == [115, 105, 108, 118, 101, 114]) = true then ⟨#[97, 97, 98, 44, 97]⟩ else if (s.toList == [115, 113, 117, 97, 114, 101, 102, 114, 101, 101]) = true then ⟨#[97, 98, 99, 44, 97, 99, 44, 98]⟩ else if (s.toList == [114, 117, 100, 105, 110]) = true then ⟨#[97, 98, 44, 97, 99, 44, 100, 98, 44, 100, 99]⟩ else ⟨#[]⟩
theorem ps_empty : psB ⟨#[]⟩ = false := by decide
set_option maxHeartbeats 2000000 in
theorem specNamedSubst_any (s : ByteArray) (w : World) :
    Calls Try.prog 51 #[.string s] w fun e w' => ∃ v, e = .returned (.tuple #[.agg #[v], .bool (psB (nmT s))]) ∧ w'.ownsRow w.heap.size 9 1 v (psR (nmT s)).length ((psR (nmT s)).map .string) ∧ Below w.heap.size w w' := by
  have B0 := Lib.hid (bnew w (.cells #[.slice none 0 0] 33))
  have O0 := Lib.hid (One.new w 33 (.slice none 0 0))
  have HC := Lib.hid (fun t (ht : t.size ≤ 1048576) => specParseSubst_any t (w.alloc (.cells #[.slice none 0 0] 33)) ht)
  have c0 := O0.out.cell
  have f0 := O0.out.frozen
  cases b0 : (s.toList == [102, 105, 98, 111, 110, 97, 99, 99, 105])
  case true =>
    have HT := Lib.hid (show nmT s = ⟨#[97, 98, 44, 97]⟩ by unfold nmT; rw [b0, if_pos rfl])
    go_enter Try.func51, Try.ntmps51
    go_wp2_with fail
    refine (HC.out _ (by decide)).mono ?_
    rintro e w1 ⟨v, rfl, ho, hb⟩
    obtain ⟨A, c, rfl⟩ := own_shape ho
    have OW := Lib.hid ho
    have B1 := Lib.hid (bthen B0.out hb)
    have O1 := Lib.hid (O0.out.on hb)
    clear c0 f0 ho hb
    have c1 := O1.out.cell
    have f1 := O1.out.frozen
    go_wp2_with fail
    refine bodyPost_ret (v := .tuple #[.agg #[.slice A (psR ⟨#[97, 98, 44, 97]⟩).length c], .bool (psB ⟨#[97, 98, 44, 97]⟩)]) (by simp [results, Try.results51, go_sem, c1]) rfl ?_
    rw [HT.out]
    exact ⟨_, rfl, own_set (own_base OW.out (by simp)) (one_ne O1.out OW.out types_ps) _, since_set B1.out (Nat.le_refl _) _⟩
  case false =>
    cases b1 : (s.toList == [116, 104, 117, 101])
    case true =>
      have HT := Lib.hid (show nmT s = ⟨#[97, 98, 44, 98, 97]⟩ by unfold nmT; rw [b0, if_neg (by decide)]; rw [b1, if_pos rfl])
      go_enter Try.func51, Try.ntmps51
      go_wp2_with fail
      refine (HC.out _ (by decide)).mono ?_
      rintro e w1 ⟨v, rfl, ho, hb⟩
      obtain ⟨A, c, rfl⟩ := own_shape ho
      have OW := Lib.hid ho
      have B1 := Lib.hid (bthen B0.out hb)
      have O1 := Lib.hid (O0.out.on hb)
      clear c0 f0 ho hb
      have c1 := O1.out.cell
      have f1 := O1.out.frozen
      go_wp2_with fail
      refine bodyPost_ret (v := .tuple #[.agg #[.slice A (psR ⟨#[97, 98, 44, 98, 97]⟩).length c], .bool (psB ⟨#[97, 98, 44, 98, 97]⟩)]) (by simp [results, Try.results51, go_sem, c1]) rfl ?_
      rw [HT.out]
      exact ⟨_, rfl, own_set (own_base OW.out (by simp)) (one_ne O1.out OW.out types_ps) _, since_set B1.out (Nat.le_refl _) _⟩
    case false =>
      cases b2 : (s.toList == [100, 111, 117, 98, 108, 105, 110, 103])
      case true =>
        have HT := Lib.hid (show nmT s = ⟨#[97, 98, 44, 97, 97]⟩ by unfold nmT; rw [b0, if_neg (by decide)]; rw [b1, if_neg (by decide)]; rw [b2, if_pos rfl])
        go_enter Try.func51, Try.ntmps51
        go_wp2_with fail
        refine (HC.out _ (by decide)).mono ?_
        rintro e w1 ⟨v, rfl, ho, hb⟩
        obtain ⟨A, c, rfl⟩ := own_shape ho
        have OW := Lib.hid ho
        have B1 := Lib.hid (bthen B0.out hb)
        have O1 := Lib.hid (O0.out.on hb)
        clear c0 f0 ho hb
        have c1 := O1.out.cell
        have f1 := O1.out.frozen
        go_wp2_with fail
        refine bodyPost_ret (v := .tuple #[.agg #[.slice A (psR ⟨#[97, 98, 44, 97, 97]⟩).length c], .bool (psB ⟨#[97, 98, 44, 97, 97]⟩)]) (by simp [results, Try.results51, go_sem, c1]) rfl ?_
        rw [HT.out]
        exact ⟨_, rfl, own_set (own_base OW.out (by simp)) (one_ne O1.out OW.out types_ps) _, since_set B1.out (Nat.le_refl _) _⟩
      case false =>
        cases b3 : (s.toList == [116, 114, 105, 98, 111, 110, 97, 99, 99, 105])
        case true =>
          have HT := Lib.hid (show nmT s = ⟨#[97, 98, 44, 97, 99, 44, 97]⟩ by unfold nmT; rw [b0, if_neg (by decide)]; rw [b1, if_neg (by decide)]; rw [b2, if_neg (by decide)]; rw [b3, if_pos rfl])
          go_enter Try.func51, Try.ntmps51
          go_wp2_with fail
          refine (HC.out _ (by decide)).mono ?_
          rintro e w1 ⟨v, rfl, ho, hb⟩
          obtain ⟨A, c, rfl⟩ := own_shape ho
          have OW := Lib.hid ho
          have B1 := Lib.hid (bthen B0.out hb)
          have O1 := Lib.hid (O0.out.on hb)
          clear c0 f0 ho hb
          have c1 := O1.out.cell
          have f1 := O1.out.frozen
          go_wp2_with fail
          refine bodyPost_ret (v := .tuple #[.agg #[.slice A (psR ⟨#[97, 98, 44, 97, 99, 44, 97]⟩).length c], .bool (psB ⟨#[97, 98, 44, 97, 99, 44, 97]⟩)]) (by simp [results, Try.results51, go_sem, c1]) rfl ?_
          rw [HT.out]
          exact ⟨_, rfl, own_set (own_base OW.out (by simp)) (one_ne O1.out OW.out types_ps) _, since_set B1.out (Nat.le_refl _) _⟩
        case false =>
          cases b4 : (s.toList == [115, 105, 108, 118, 101, 114])
          case true =>
            have HT := Lib.hid (show nmT s = ⟨#[97, 97, 98, 44, 97]⟩ by unfold nmT; rw [b0, if_neg (by decide)]; rw [b1, if_neg (by decide)]; rw [b2, if_neg (by decide)]; rw [b3, if_neg (by decide)]; rw [b4, if_pos rfl])
            go_enter Try.func51, Try.ntmps51
            go_wp2_with fail
            refine (HC.out _ (by decide)).mono ?_
            rintro e w1 ⟨v, rfl, ho, hb⟩
            obtain ⟨A, c, rfl⟩ := own_shape ho
            have OW := Lib.hid ho
            have B1 := Lib.hid (bthen B0.out hb)
            have O1 := Lib.hid (O0.out.on hb)
            clear c0 f0 ho hb
            have c1 := O1.out.cell
            have f1 := O1.out.frozen
            go_wp2_with fail
            refine bodyPost_ret (v := .tuple #[.agg #[.slice A (psR ⟨#[97, 97, 98, 44, 97]⟩).length c], .bool (psB ⟨#[97, 97, 98, 44, 97]⟩)]) (by simp [results, Try.results51, go_sem, c1]) rfl ?_
            rw [HT.out]
            exact ⟨_, rfl, own_set (own_base OW.out (by simp)) (one_ne O1.out OW.out types_ps) _, since_set B1.out (Nat.le_refl _) _⟩
          case false =>
            cases b5 : (s.toList == [115, 113, 117, 97, 114, 101, 102, 114, 101, 101])
            case true =>
              have HT := Lib.hid (show nmT s = ⟨#[97, 98, 99, 44, 97, 99, 44, 98]⟩ by unfold nmT; rw [b0, if_neg (by decide)]; rw [b1, if_neg (by decide)]; rw [b2, if_neg (by decide)]; rw [b3, if_neg (by decide)]; rw [b4, if_neg (by decide)]; rw [b5, if_pos rfl])
              go_enter Try.func51, Try.ntmps51
              go_wp2_with fail
              refine (HC.out _ (by decide)).mono ?_
              rintro e w1 ⟨v, rfl, ho, hb⟩
              obtain ⟨A, c, rfl⟩ := own_shape ho
              have OW := Lib.hid ho
              have B1 := Lib.hid (bthen B0.out hb)
              have O1 := Lib.hid (O0.out.on hb)
              clear c0 f0 ho hb
              have c1 := O1.out.cell
              have f1 := O1.out.frozen
              go_wp2_with fail
              refine bodyPost_ret (v := .tuple #[.agg #[.slice A (psR ⟨#[97, 98, 99, 44, 97, 99, 44, 98]⟩).length c], .bool (psB ⟨#[97, 98, 99, 44, 97, 99, 44, 98]⟩)]) (by simp [results, Try.results51, go_sem, c1]) rfl ?_
              rw [HT.out]
              exact ⟨_, rfl, own_set (own_base OW.out (by simp)) (one_ne O1.out OW.out types_ps) _, since_set B1.out (Nat.le_refl _) _⟩
            case false =>
              cases b6 : (s.toList == [114, 117, 100, 105, 110])
              case true =>
                have HT := Lib.hid (show nmT s = ⟨#[97, 98, 44, 97, 99, 44, 100, 98, 44, 100, 99]⟩ by unfold nmT; rw [b0, if_neg (by decide)]; rw [b1, if_neg (by decide)]; rw [b2, if_neg (by decide)]; rw [b3, if_neg (by decide)]; rw [b4, if_neg (by decide)]; rw [b5, if_neg (by decide)]; rw [b6, if_pos rfl])
                go_enter Try.func51, Try.ntmps51
                go_wp2_with fail
                refine (HC.out _ (by decide)).mono ?_
                rintro e w1 ⟨v, rfl, ho, hb⟩
                obtain ⟨A, c, rfl⟩ := own_shape ho
                have OW := Lib.hid ho
                have B1 := Lib.hid (bthen B0.out hb)
                have O1 := Lib.hid (O0.out.on hb)
                clear c0 f0 ho hb
                have c1 := O1.out.cell
                have f1 := O1.out.frozen
                go_wp2_with fail
                refine bodyPost_ret (v := .tuple #[.agg #[.slice A (psR ⟨#[97, 98, 44, 97, 99, 44, 100, 98, 44, 100, 99]⟩).length c], .bool (psB ⟨#[97, 98, 44, 97, 99, 44, 100, 98, 44, 100, 99]⟩)]) (by simp [results, Try.results51, go_sem, c1]) rfl ?_
                rw [HT.out]
                exact ⟨_, rfl, own_set (own_base OW.out (by simp)) (one_ne O1.out OW.out types_ps) _, since_set B1.out (Nat.le_refl _) _⟩
              case false =>
                have HT := Lib.hid (show nmT s = ⟨#[]⟩ by unfold nmT; rw [b0, if_neg (by decide)]; rw [b1, if_neg (by decide)]; rw [b2, if_neg (by decide)]; rw [b3, if_neg (by decide)]; rw [b4, if_neg (by decide)]; rw [b5, if_neg (by decide)]; rw [b6, if_neg (by decide)])
                go_enter Try.func51, Try.ntmps51
                go_wp2_with fail
                refine bodyPost_ret (v := .tuple #[.agg #[.slice none 0 0], .bool false]) (by simp [results, Try.results51, go_sem, c0]) rfl ?_
                rw [HT.out, ps_no ps_empty, ps_empty]
                exact ⟨_, rfl, World.ownsRow_nil _ _ _ _, B0.out⟩
end Go.Proofs.Ytciiokegifgbdaa
/- Walks: words, substitutions, sizes and matrices that the reference draws. Conditions: none beyond the hypotheses of each lemma. -/
namespace Go.Proofs.Ytciiokegifgbdaa
open Go.RowKit
set_option maxRecDepth 20000

theorem Cu.within {B p lo hi : Nat} {va : Value} {ns : List Int} {w w' : World} (h : Cu B p va ns w) (hw : Within lo hi w w') (hl : p < lo) : Cu B p va ns w' := by
  obtain ⟨i, k, hi, hc⟩ := h.cur
  exact ⟨h.rd.within hw (Nat.le_trans h.le (Nat.le_of_lt hl)), h.le, i, k, hi, (hw.block p hc.lt (.inl hl)).trans hc⟩
/-- what has grown is a row of the call's own -/
theorem Cu.grown {B p base : Nat} {va : Value} {ns : List Int} {w w' : World} {row : Option Nat} (h : Cu B p va ns w) (hg : w.grownBy w' row) (hr : ∀ g, row = some g → base ≤ g) (hl : p < base) : Cu B p va ns w' := by
  obtain ⟨i, k, hi, hc⟩ := h.cur
  exact ⟨⟨h.rd.row.keep fun q hq => World.cell?_of_block (hg.block q.block (Nat.lt_of_lt_of_le hq h.rd.le) (fun e => by have := hr _ e.symm; have := h.le; omega)), Nat.le_trans h.rd.le hg.size⟩, h.le, i, k, hi, (hg.block p hc.lt (fun e => by have := hr _ e.symm; omega)).trans hc⟩
/-- only the cursor's block has turned, of those that were there when w0 was -/
theorem cur_grown {p base : Nat} {w0 w w' : World} {row : Option Nat} (h : Within p (p + 1) w0 w) (hg : w.grownBy w' row) (hr : ∀ g, row = some g → base ≤ g) (hb : w0.heap.size ≤ base) : Within p (p + 1) w0 w' :=
  ⟨hg.os.trans h.os, hg.tape.trans h.tape, hg.output.trans h.output, Nat.le_trans h.size hg.size, fun k hk hn => (hg.block k (Nat.lt_of_lt_of_le hk h.size) (fun e => by have := hr _ e.symm; omega)).trans (h.block k hk hn)⟩
theorem within_new {lo hi g : Nat} {w0 w : World} (h : Within lo hi w0 w) (hg : w0.heap.size ≤ g) (v : Value) : Within lo hi w0 (w.setCell ⟨g, 0, none⟩ v) :=
  ⟨h.os, h.tape, h.output, by simpa [World.setCell] using h.size, fun k hk hn => (Below.heap_setCell w _ v k (by show k ≠ g; omega)).trans (h.block k hk hn)⟩
set_option maxHeartbeats 1000000 in
theorem l02Word_any (B p : Nat) (va : Value) (ns : List Int) (n k : Nat) (w : World) (hns : ∀ n ∈ ns, 0 ≤ n ∧ n ≤ 255) (hl : ns.length ≤ 1048576) (hn : n ≤ 100) (hk1 : 1 ≤ k) (hk4 : k ≤ 4) (hc : Cu B p va ns w) :
    Calls Try.prog 53 #[.pointer (some ⟨p, 0, none⟩), .int .i64 n, .int .i64 k] w fun e w' => ∃ l : List UInt8, l.length = n ∧ (∀ c ∈ l, 97 ≤ c.toNat ∧ c.toNat < 97 + k) ∧ e = .returned (.string ⟨l.toArray⟩) ∧ Cu B p va ns w' ∧ Within p (p + 1) w w' := by
  obtain ⟨i0, hi, hz0, hz1, hz2⟩ := info_parts info_byte
  have HI := Lib.hid hi; have HZ0 := Lib.hid hz0; have HZ1 := Lib.hid hz1; have HZ2 := Lib.hid hz2
  clear hi hz0 hz1 hz2
  have HBL := Lib.hid (fun W hcu => l01Below_any B p va ns k W hns hl hk1 (by omega) hcu)
  have hp := hc.lt
  have HC := Lib.hid (hc.on (bnew w (.cells #[] 5)))
  have HO0 := Lib.hid (World.ownsRow_made (base := w.heap.size) (e := 5) (size := 1) w #[] 0 (Nat.le_refl _) (Nat.zero_le _) rfl)
  have HW0 := Lib.hid (show Within p (p + 1) w (w.alloc (.cells #[] 5)) from Within.of_below (bnew w (.cells #[] 5)))
  clear hc hns
  go_enter Try.func53, Try.ntmps53
  go_wp2_with fail
  go_loopw [7, 8] (fun v i wr => ∃ (j g c : Nat) (l : List UInt8), j ≤ n ∧ i = .int .i64 j ∧ l.length = j ∧ (∀ c ∈ l, 97 ≤ c.toNat ∧ c.toNat < 97 + k) ∧ v = .slice (some ⟨g, 0, none⟩) j c ∧ wr.ownsRow w.heap.size 5 1 (.slice (some ⟨g, 0, none⟩) j c) j (l.map byteV) ∧ Cu B p va ns wr ∧ Within p (p + 1) w wr) (fun _ i _ => n - (intOf i).toNat)
  case atStart => exact ⟨0, w.heap.size, 0, [], Nat.zero_le _, rfl, rfl, (fun c hc => by cases hc), rfl, by simpa using HO0.out, HC.out, HW0.out⟩
  case round =>
    obtain ⟨j, g, c, l, hj, rfl, hlj, hlc, rfl, ho, hcu, hw⟩ := hrel
    have HO := Lib.hid ho; have C1 := Lib.hid hcu; have W1 := Lib.hid hw; have HLC := Lib.hid hlc; have HLJ := Lib.hid hlj
    clear ho hcu hw hlc hlj
    by_cases hlt : j < n
    · go_wp2_with fail
      refine (HBL.out _ C1.out).mono ?_
      rintro e w2 ⟨x, hx, rfl, hcu, hw⟩
      obtain ⟨d, hd⟩ : ∃ d : UInt8, d = UInt8.ofNat (97 + x) := ⟨_, rfl⟩
      have hdn : d.toNat = 97 + x := by rw [hd, UInt8.toNat_ofNat']; omega
      have e1 : (97 + (x : Int)) = (d.toNat : Int) := by omega
      have v1 : wrap64 (d.toNat : Int) = (d.toNat : Int) := by unfold wrap64; omega
      have v2 : (d.toNat : Int) % 256 = (d.toNat : Int) := by omega
      have HD := Lib.hid (show 97 ≤ d.toNat ∧ d.toNat < 97 + k by omega)
      have C2 := Lib.hid hcu
      have W2 := Lib.hid (W1.out.trans hw)
      have O2 := Lib.hid (own_within HO.out hw (by omega))
      clear hcu hw hd hdn
      go_wp2_with (at_builtin; refine wpList_append_lies _ rfl _ _ 30 rfl w.heap.size 5 i0 (.int .u8 0) 1 1 Try.underlying30 HI.out HZ0.out HZ1.out HZ2.out rfl (by decide) _ _ _ rfl (O2.out.alloc _) ⟨_, 0, none⟩ 1 1 [.int .u8 d.toNat] rfl rfl ?c1 ?c2 ?c3 ?c4 ?c5 ?c6 _ rfl ?_)
      case c1 => exact cell_one_new _ _ _
      case c2 => intro u hu; simp at hu; subst hu; rfl
      case c3 => omega
      case c4 => unfold maxLen; omega
      case c5 => omega
      case c6 => have := W2.out.size; simp; omega
      intro g1 c1 w3 ho3 hg3 _ _
      have C3 := Lib.hid ((C2.out.on (bnew _ _)).grown hg3 (fun g hg => (O2.out.lt g hg).1) hp)
      have W3 := Lib.hid (cur_grown (W2.out.trans (Within.of_below (bnew _ _))) hg3 (fun g hg => (O2.out.lt g hg).1) (Nat.le_refl _))
      have O3 := Lib.hid ho3
      clear ho3 hg3
      go_wp2_with fail
      go_roundw
      case rel =>
        refine ⟨j + 1, g1, c1, l ++ [d], by omega, by go_num, by rw [List.length_append, HLJ.out]; rfl, ?_, rfl, ?_, C3.out, W3.out⟩
        · intro c hc
          rcases List.mem_append.1 hc with h | h
          · exact HLC.out c h
          · rw [List.mem_singleton.1 h]; exact HD.out
        · rw [List.map_append]; simpa [byteV] using O3.out
      case measure => simp [intOf]; omega
    · obtain rfl : j = n := by omega
      have hback := run_back_bytes HO.out
      go_wp2_with fail
      go_ret
      exact ⟨l, HLJ.out, HLC.out, rfl, C1.out, W1.out⟩
set_option maxHeartbeats 1000000 in
theorem l01Once_any (B p : Nat) (va : Value) (ns : List Int) (n : Nat) (w : World) (hns : ∀ n ∈ ns, 0 ≤ n ∧ n ≤ 255) (hl : ns.length ≤ 1048576) (h1 : 1 ≤ n) (h2 : n ≤ 256) (hc : Cu B p va ns w) :
    Calls Try.prog 50 #[.pointer (some ⟨p, 0, none⟩), .int .i64 n] w fun e w' => ∃ b : Bool, e = .returned (.bool b) ∧ Cu B p va ns w' ∧ Within p (p + 1) w w' := by
  have HB := Lib.hid (l01Below_any B p va ns n w hns hl h1 h2 hc)
  clear hc hns
  go_enter Try.func50, Try.ntmps50
  go_wp2_with fail
  refine HB.out.mono ?_
  rintro e w1 ⟨x, hx, rfl, hcu, hw⟩
  have C1 := Lib.hid hcu; have W1 := Lib.hid hw
  clear hcu hw
  go_wp2_with fail
  go_ret
  exact ⟨_, rfl, C1.out, W1.out⟩
/-- the names that are drawn from -/
def nms : List ByteArray := [⟨#[102, 105, 98, 111, 110, 97, 99, 99, 105]⟩, ⟨#[116, 104, 117, 101]⟩, ⟨#[100, 111, 117, 98, 108, 105, 110, 103]⟩, ⟨#[116, 114, 105, 98, 111, 110, 97, 99, 99, 105]⟩, ⟨#[115, 105, 108, 118, 101, 114]⟩, ⟨#[115, 113, 117, 97, 114, 101, 102, 114, 101, 101]⟩, ⟨#[114, 117, 100, 105, 110]⟩]
theorem nms_ok : ∀ s ∈ nms, psB (nmT s) = true := by decide +kernel
/-- k images over n letters, one to four letters each -/
def imgsB (n : Nat) (xs : List ByteArray) : Prop := ∀ s ∈ xs, 1 ≤ s.size ∧ s.size ≤ 4 ∧ ∀ c ∈ s.data.toList, 97 ≤ c.toNat ∧ c.toNat < 97 + n
theorem imgs_subst {n : Nat} {xs : List ByteArray} (h : imgsB n xs) (hl : xs.length = n) (h1 : 1 ≤ n) (h4 : n ≤ 4) : substB xs = true := by
  unfold substB
  rw [Bool.and_eq_true]
  refine ⟨?_, ?_⟩
  · rw [List.all_eq_true]
    intro s hs
    obtain ⟨a, b, c⟩ := h s hs
    rw [okImg_size]
    simp only [Bool.and_eq_true, decide_eq_true_eq]
    refine ⟨⟨by omega, by omega⟩, ?_, ?_⟩
    · unfold inB
      rw [List.all_eq_true]
      intro x hx
      have := c x hx
      rw [decide_eq_true_eq]; omega
    · unfold wordB
      rw [Bool.and_eq_true, decide_eq_true_eq, List.all_eq_true]
      refine ⟨by rw [← Lib.size_eq]; omega, fun x hx => ?_⟩
      have := c x hx
      exact letter_yes (by omega) (by omega)
  · simp only [Bool.and_eq_true, decide_eq_true_eq]; omega
set_option maxHeartbeats 4000000 in
theorem l03Draw_any (B p : Nat) (va : Value) (ns : List Int) (w : World) (hns : ∀ n ∈ ns, 0 ≤ n ∧ n ≤ 255) (hl : ns.length ≤ 1048576) (hc : Cu B p va ns w) :
    Calls Try.prog 37 #[.pointer (some ⟨p, 0, none⟩)] w fun e w' => ∃ (v : Value) (xs : List ByteArray), e = .returned (.agg #[v]) ∧ substB xs = true ∧ w'.ownsRow w.heap.size 9 1 v xs.length (xs.map .string) ∧ Within p (p + 1) w w' := by
  have hp := hc.lt
  have C0 := Lib.hid (hc.on (bnew w (.cells #[.slice none 0 0] 33)))
  have W0 := Lib.hid (show Within p (p + 1) w (w.alloc (.cells #[.slice none 0 0] 33)) from Within.of_below (bnew w (.cells #[.slice none 0 0] 33)))
  have O0 := Lib.hid (One.new w 33 (.slice none 0 0))
  have HON := Lib.hid (fun W hcu => l01Once_any B p va ns 2 W hns hl (by decide) (by decide) hcu)
  have HBL := Lib.hid (fun n W h1 h2 hcu => l01Below_any B p va ns n W hns hl h1 h2 hcu)
  have HST := Lib.hid (fun g W hcu hb hg => l01Str_any B p g va ns nms W hns hl (by decide) (by decide) hcu hb hg)
  have HWD := Lib.hid (fun n k W h1 h2 h3 hcu => l02Word_any B p va ns n k W hns hl h1 h2 h3 hcu)
  clear hc hns
  go_enter Try.func37, Try.ntmps37
  go_wp2_with fail
  refine (HON.out _ C0.out).mono ?_
  rintro e w1 ⟨b, rfl, hcu, hw⟩
  have C1 := Lib.hid hcu
  have W1 := Lib.hid (W0.out.trans hw)
  have Z0 := Lib.hid (show w.heap.size + 1 ≤ w1.heap.size by have := hw.size; simp only [World.size_alloc] at this; exact this)
  have O1 := Lib.hid (O0.out.within hw (.inr (by omega)))
  clear hcu hw
  cases b
  · go_wp2_with fail
    refine (HBL.out 3 _ (by decide) (by decide) C1.out).mono ?_
    rintro e w2 ⟨m, hm, rfl, hcu, hw⟩
    have C2 := Lib.hid (hcu.on (bnew w2 (.cells #[.slice none 0 0] 33)))
    have W2 := Lib.hid ((W1.out.trans hw).trans (Within.of_below (bnew w2 (.cells #[.slice none 0 0] 33))))
    have O2 := Lib.hid ((O1.out.within hw (.inr (by omega))).alloc (.cells #[.slice none 0 0] 33))
    have N2 := Lib.hid (One.new w2 33 (.slice none 0 0))
    have Z2 := Lib.hid hw.size
    obtain ⟨n, hn⟩ : ∃ n : Nat, n = 1 + m := ⟨_, rfl⟩
    have e1 : (1 + (m : Int)) = (n : Int) := by omega
    have hn4 : 1 ≤ n ∧ n ≤ 3 := by omega
    have hpz : p < w2.heap.size := hcu.lt
    clear hcu hw hn
    obtain ⟨i0, hi, hz0, hz1, hz2⟩ := info_parts info_str2
    have HI := Lib.hid hi; have HZ0 := Lib.hid hz0; have HZ1 := Lib.hid hz1; have HZ2 := Lib.hid hz2
    clear hi hz0 hz1 hz2
    go_wp2_with fail
    go_loopw [7] (fun i wr => ∃ (k : Nat) (v : Value) (xs : List ByteArray), k ≤ n ∧ i = .int .i64 k ∧ xs.length = k ∧ imgsB n xs ∧ One wr w2.heap.size 33 v ∧ One wr w.heap.size 33 (.slice none 0 0) ∧ wr.ownsRow (w2.heap.size + 1) 9 1 v k (xs.map .string) ∧ Cu B p va ns wr ∧ Within p (p + 1) w wr ∧ w2.heap.size + 1 ≤ wr.heap.size) (fun i _ => n - (intOf i).toNat)
    case atStart => exact ⟨0, _, [], Nat.zero_le _, rfl, rfl, (fun s hs => by cases hs), N2.out, O2.out, World.ownsRow_nil _ _ _ _, C2.out, W2.out, by simp⟩
    case round =>
      obtain ⟨k, v, xs, hk, rfl, hxl, him, hone, hres, hown, hcu, hwi, hsz⟩ := hrel
      have N1 := Lib.hid hone; have NR := Lib.hid hres; have NO := Lib.hid hown; have NC := Lib.hid hcu; have NW := Lib.hid hwi; have XL := Lib.hid hxl; have XI := Lib.hid him; have NZ := Lib.hid hsz
      clear hone hres hown hcu hwi hxl him hsz
      by_cases hlt : k < n
      · have c5 := N1.out.cell
        have f5 := N1.out.frozen
        go_wp2_with fail
        go_region_law (first
          | (refine step_append_lies _ rfl _ _ 31 rfl (w2.heap.size + 1) 9 i0 (.string ByteArray.empty) 1 16 Try.underlying31 HI.out HZ0.out HZ1.out HZ2.out rfl (by decide) _ _ _ rfl (OB.out.alloc _) ⟨_, 0, none⟩ 1 1 [.string t] rfl rfl (cell_one_new _ _ _) (by intro u hu; simp at hu; subst hu; rfl) (by omega) (by unfold maxLen; omega) (by omega) (by have := ZB.out; simp; omega) _ rfl ?_; intro g c w3 ho3 hg3 _ _; have Q1 := Lib.hid ((N1B.out.alloc _).grownRow (OB.out.alloc _) types_ps hg3); have Q2 := Lib.hid ((NRB.out.alloc _).grownRow (OB.out.alloc _) types_ps hg3); have QC := Lib.hid ((CB.out.on (bnew _ _)).grown hg3 (fun g hg => (own_lt OB.out hg).1) (by omega)); have QW := Lib.hid (cur_grown (WB.out.trans (Within.of_below (bnew _ _))) hg3 (fun g hg => (own_lt OB.out hg).1) (by have := Z0.out; have := Z2.out; omega)); have QO := Lib.hid ho3; have QZ := Lib.hid (show w2.heap.size + 1 ≤ w3.heap.size from Nat.le_trans ZB.out (Nat.le_trans (bnew _ _).size hg3.size)); have c6 := Q1.out.cell; have f6 := Q1.out.frozen; clear ho3 hg3)
          | (go_simp; go_at_call 53; refine (HWD.out L n _ (by omega) hn4.1 (by omega) CA.out).mono ?_; rintro e wB ⟨l, hll, hlc, rfl, hcu, hw⟩; obtain ⟨t, ht⟩ : ∃ t : ByteArray, t = ⟨l.toArray⟩ := ⟨_, rfl⟩; rw [← ht]; have TB := Lib.hid (show t.size = L ∧ ∀ c ∈ t.data.toList, 97 ≤ c.toNat ∧ c.toNat < 97 + n by rw [ht]; exact ⟨hll, hlc⟩); have CB := Lib.hid hcu; have WB := Lib.hid (WA.out.trans hw); have N1B := Lib.hid (N1A.out.within hw (.inr (by omega))); have NRB := Lib.hid (NRA.out.within hw (.inr (by omega))); have OB := Lib.hid (own_within OA.out hw (by omega)); have ZB := Lib.hid (Nat.le_trans ZA.out hw.size); have c7 := N1B.out.cell; have f7 := N1B.out.frozen; have c8 := (N1B.out.alloc (.cells #[.string t] 9)).cell; clear ht hcu hw hll hlc)
          | (go_simp; go_at_call 43; refine (HBL.out 4 _ (by decide) (by decide) (NC.out.on (bdrew _))).mono ?_; rintro e wA ⟨x, hx, rfl, hcu, hw⟩; obtain ⟨L, hL⟩ : ∃ L : Nat, L = 1 + x := ⟨_, rfl⟩; have eL : (1 + (x : Int)) = (L : Int) := (by omega); have eW : IntKind.i64.wrap (L : Int) = (L : Int) := IntWalk.i64_in _ (by omega); have hLb : 1 ≤ L ∧ L ≤ 4 := (by omega); have CA := Lib.hid hcu; have WA := Lib.hid ((NW.out.trans (within_drew _ _ _)).trans hw); have N1A := Lib.hid (N1.out.drew.within hw (.inr (by omega))); have NRA := Lib.hid (NR.out.drew.within hw (.inr (by omega))); have OA := Lib.hid (own_within (own_below NO.out (bdrew _)) hw (by omega)); have ZA := Lib.hid (Nat.le_trans NZ.out hw.size); have c9 := N1A.out.cell; have f9 := N1A.out.frozen; clear hcu hw hL))
        all_goals
          go_wp2_with fail
          go_roundw
          case rel =>
            refine ⟨k + 1, _, xs ++ [t], by omega, by go_num, by rw [List.length_append, XL.out]; rfl, ?_, Q1.out.set _, Q2.out.far (by have := Z0.out; have := Z2.out; show w.heap.size ≠ w2.heap.size; omega) _, ?_, QC.out.within (within_set w3 w2.heap.size 0 _) hpz, within_new QW.out (by have := Z0.out; have := Z2.out; omega) _, by have := QZ.out; simpa [World.setCell] using this⟩
            · intro s hs
              rcases List.mem_append.1 hs with h | h
              · exact XI.out s h
              · rw [List.mem_singleton.1 h]
                obtain ⟨h1, h2⟩ := TB.out
                exact ⟨by omega, by omega, h2⟩
            · rw [List.map_append]
              exact own_set QO.out (one_ne Q1.out QO.out types_ps) _
          case measure => simp [intOf]; omega
      · obtain rfl : k = n := by omega
        obtain ⟨A, c, rfl⟩ := own_shape NO.out
        have c5 := N1.out.cell
        have c6 := NR.out.cell
        have f6 := NR.out.frozen
        go_wp2_with fail
        (try simp only [Exit.inBlock, Exit.then])
        refine bodyPost_ret (v := .agg #[.slice A k c]) (by simp [results, Try.results37, go_sem, c6]) rfl ?_
        refine ⟨_, xs, rfl, imgs_subst XI.out XL.out (by omega) (by omega), ?_, within_new NW.out (Nat.le_refl _) _⟩
        rw [XL.out]
        exact own_set (own_base NO.out (by have := Z0.out; have := Z2.out; omega)) (one_ne NR.out NO.out types_ps) _
  · have C2 := Lib.hid (C1.out.on (bnew w1 (.cells (nms.map Value.string).toArray 9)))
    have W2 := Lib.hid (W1.out.trans (Within.of_below (bnew w1 (.cells (nms.map Value.string).toArray 9))))
    have O2 := Lib.hid (O1.out.alloc (.cells (nms.map Value.string).toArray 9))
    have SB := Lib.hid (show StrB (w1.alloc (.cells (nms.map Value.string).toArray 9)) w1.heap.size nms from heap_alloc_new w1 _)
    have hp1 := C1.out.lt
    go_wp2_with fail
    refine (HST.out w1.heap.size _ C2.out SB.out (by omega)).mono ?_
    rintro e w3 ⟨s, hs, rfl, hcu, hw⟩
    have W3 := Lib.hid (W2.out.trans hw)
    have Z3 := Lib.hid (show w1.heap.size + 1 ≤ w3.heap.size by have := hw.size; simp only [World.size_alloc] at this; exact this)
    have O3 := Lib.hid (O2.out.within hw (.inr (by omega)))
    have HOK := Lib.hid (nms_ok s hs)
    clear hcu hw hs
    go_wp2_with fail
    refine (specNamedSubst_any s w3).mono ?_
    rw [HOK.out, ps_yes HOK.out]
    rintro e w4 ⟨v, rfl, ho, hb⟩
    obtain ⟨A, c, rfl⟩ := own_shape ho
    have W4 := Lib.hid (W3.out.trans (Within.of_below hb))
    have O4 := Lib.hid ((O3.out.on hb).alloc (.cells #[.slice A (splB 44 (nmT s)).length c] 33))
    have OW := Lib.hid (own_below ho (bnew w4 (.cells #[.slice A (splB 44 (nmT s)).length c] 33)))
    have Z4 := Lib.hid hb.size
    have c4 := O4.out.cell
    have f4 := O4.out.frozen
    clear ho hb
    go_wp2_with fail
    refine bodyPost_ret (v := .agg #[.slice A (splB 44 (nmT s)).length c]) (by simp [results, Try.results37, go_sem, c4]) rfl ?_
    exact ⟨_, splB 44 (nmT s), rfl, HOK.out, own_set (own_base OW.out (by have := Z0.out; have := Z3.out; omega)) (one_ne O4.out OW.out types_ps) _, within_new (W4.out.trans (Within.of_below (bnew _ _))) (Nat.le_refl _) _⟩
end Go.Proofs.Ytciiokegifgbdaa
/- Walks: sizes and matrices that the reference draws; its substitutions, called by a law. Conditions: none beyond the hypotheses of each lemma. -/
namespace Go.Proofs.Ytciiokegifgbdaa
open Go.RowKit
set_option maxRecDepth 20000

theorem OwnV.within {E2 E1 : TypeId} {w w' : World} {base lo hi : Nat} {v : Value} {vs : List Value} {xss : List (List Int)} (h : OwnV E2 E1 w base v vs xss) (hb : Within lo hi w w') (hl : hi ≤ base) : OwnV E2 E1 w' base v vs xss :=
  ⟨h.len, own_within h.own hb hl, fun k hk hx => own_within (h.row k hk hx) hb hl, h.apart⟩
/-- behind an append of one row that is younger than all the others -/
theorem OwnV.push2 {E2 E1 : TypeId} {w1 w' : World} {base hi : Nat} {v v' u : Value} {vs : List Value} {xss : List (List Int)} {ys : List Int} (hE : E1 ≠ E2) (h1 : OwnV E2 E1 w1 base v vs xss) (hB : base ≤ hi)
    (hold : ∀ (k : Nat) (hk : k < vs.length) (g : Nat), vs[k].ownBlock = some g → g < hi) (hu : w1.ownsRow hi E1 1 u ys.length (ints ys))
    (hown : w'.ownsRow base E2 1 v' (xss.length + 1) (vs ++ [u])) (hg : w1.grownBy w' v.ownBlock) : OwnV E2 E1 w' base v' (vs ++ [u]) (xss ++ [ys]) := by
  have hlen := h1.len
  have hneU : u.ownBlock = none ∨ u.ownBlock ≠ v.ownBlock := own_types hE hu h1.own
  have hu' : w'.ownsRow base E1 1 u ys.length (ints ys) := (own_base hu hB).kept hg hneU
  have hr' : ∀ (k : Nat) (hk : k < vs.length) (hx : k < xss.length), w'.ownsRow base E1 1 vs[k] xss[k].length (ints xss[k]) := fun k hk hx => (h1.row k hk hx).kept hg (own_types hE (h1.row k hk hx) h1.own)
  refine ⟨by simp [hlen], by simpa using hown, fun k hk hx => ?_, fun i j hi hj hij g hgi hgj => ?_⟩
  · rw [List.length_append] at hk hx
    by_cases hkl : k < vs.length
    · rw [List.getElem_append_left hkl, List.getElem_append_left (by omega)]
      exact hr' k hkl (by omega)
    · have e : k = vs.length := by simp at hk; omega
      have e2 : k = xss.length := by omega
      rw [List.getElem_append_right (by omega), List.getElem_append_right (by omega)]
      simpa [e, hlen] using hu'
  · rw [List.length_append] at hi hj
    by_cases h1i : i < vs.length <;> by_cases h1j : j < vs.length
    · rw [List.getElem_append_left h1i] at hgi
      rw [List.getElem_append_left h1j] at hgj
      exact h1.apart i j h1i h1j hij g hgi hgj
    · rw [List.getElem_append_left h1i] at hgi
      rw [List.getElem_append_right (by omega)] at hgj
      have := hold i h1i g hgi
      have := (own_lt hu (g := g) (by simpa using hgj)).1
      omega
    · rw [List.getElem_append_right (by omega)] at hgi
      rw [List.getElem_append_left h1j] at hgj
      have := hold j h1j g hgj
      have := (own_lt hu (g := g) (by simpa using hgi)).1
      omega
    · simp at hi hj; omega
/-- the drawn entries -/
def inD (x : Int) : Prop := -2 ≤ x ∧ x ≤ 4
set_option maxHeartbeats 4000000 in
theorem l04Draw_any (B p : Nat) (va : Value) (ns : List Int) (n : Nat) (w : World) (hns : ∀ n ∈ ns, 0 ≤ n ∧ n ≤ 255) (hl : ns.length ≤ 1048576) (hn : n ≤ 4) (hc : Cu B p va ns w) :
    Calls Try.prog 44 #[.pointer (some ⟨p, 0, none⟩), .int .i64 n] w fun e w' => ∃ (v : Value) (xss : List (List Int)), e = .returned v ∧ xss.length = n ∧ (∀ r ∈ xss, r.length = n) ∧ (∀ r ∈ xss, ∀ x ∈ r, inD x) ∧ Row2 w' w'.heap.size v xss ∧ Within p (p + 1) w w' := by
  obtain ⟨i0, hi, hz0, hz1, hz2⟩ := info_parts info_intM
  have HI := Lib.hid hi; have HZ0 := Lib.hid hz0; have HZ1 := Lib.hid hz1; have HZ2 := Lib.hid hz2
  clear hi hz0 hz1 hz2
  obtain ⟨i1, hi, hz0, hz1, hz2⟩ := info_parts info_rowM
  have HJ := Lib.hid hi; have HY0 := Lib.hid hz0; have HY1 := Lib.hid hz1; have HY2 := Lib.hid hz2
  clear hi hz0 hz1 hz2
  have HBL := Lib.hid (fun W hcu => l01Below_any B p va ns 7 W hns hl (by decide) (by decide) hcu)
  have hp := hc.lt
  have HC := Lib.hid (hc.on (bnew w (.cells #[] 37)))
  have HO0 := Lib.hid (World.ownsRow_made (base := w.heap.size) (e := 37) (size := 1) w #[] 0 (Nat.le_refl _) (Nat.zero_le _) rfl)
  have HW0 := Lib.hid (show Within p (p + 1) w (w.alloc (.cells #[] 37)) from Within.of_below (bnew w (.cells #[] 37)))
  clear hc hns
  go_enter Try.func44, Try.ntmps44
  go_wp2_with fail
  go_loopw [5, 6] (fun v i wr => ∃ (k : Nat) (u : Value) (vs : List Value) (xss : List (List Int)), v = u ∧ k ≤ n ∧ i = .int .i64 k ∧ xss.length = k ∧ (∀ r ∈ xss, r.length = n) ∧ (∀ r ∈ xss, ∀ x ∈ r, inD x) ∧ OwnV 37 3 wr w.heap.size u vs xss ∧ Cu B p va ns wr ∧ Within p (p + 1) w wr) (fun _ i _ => n - (intOf i).toNat)
  case atStart => exact ⟨0, _, [], [], rfl, Nat.zero_le _, rfl, rfl, (fun r hr => by cases hr), (fun r hr => by cases hr), OwnV.empty (by simpa using HO0.out), HC.out, HW0.out⟩
  case round =>
    obtain ⟨wo, rfl⟩ : ∃ wo, wo = wr := ⟨_, rfl⟩
    obtain ⟨k, u, vs, xss, rfl, hk, rfl, hxl, hxr, hxd, hov, hcu, hwi⟩ := hrel
    have HV := Lib.hid hov; have CO := Lib.hid hcu; have WO := Lib.hid hwi; have XL := Lib.hid hxl; have XR := Lib.hid hxr; have XD := Lib.hid hxd
    clear hov hcu hwi hxl hxr hxd
    by_cases hlt : k < n
    · have HR0 := Lib.hid (World.ownsRow_made (base := wo.heap.size) (e := 3) (size := 1) wo #[] 0 (Nat.le_refl _) (Nat.zero_le _) rfl)
      have CO2 := Lib.hid (CO.out.on (bnew wo (.cells #[] 3)))
      have hpo := CO.out.lt
      go_wp2_with fail
      go_loopw [7, 8] (fun rv j wr => ∃ (q : Nat) (ru : Value) (r : List Int), rv = ru ∧ q ≤ n ∧ j = .int .i64 q ∧ r.length = q ∧ (∀ x ∈ r, inD x) ∧ wr.ownsRow wo.heap.size 3 1 ru q (ints r) ∧ Cu B p va ns wr ∧ Within p (p + 1) wo wr) (fun _ j _ => n - (intOf j).toNat)
      case atStart => exact ⟨0, _, [], rfl, Nat.zero_le _, rfl, rfl, (fun x hx => by cases hx), by simpa [ints] using HR0.out, CO2.out, Within.of_below (bnew _ _)⟩
      case round =>
        clear HR0 CO2
        obtain ⟨q, ru, r, rfl, hq, rfl, hrl, hrd, ho, hcu, hwi⟩ := hrel
        have HO := Lib.hid ho; have CR := Lib.hid hcu; have WR := Lib.hid hwi; have RL := Lib.hid hrl; have RD := Lib.hid hrd
        clear ho hcu hwi hrl hrd
        by_cases hql : q < n
        · go_wp2_with fail
          refine (HBL.out _ CR.out).mono ?_
          rintro e w2 ⟨x, hx, rfl, hcu, hw⟩
          have C2 := Lib.hid hcu
          have W2 := Lib.hid (WR.out.trans hw)
          have O2 := Lib.hid (own_within HO.out hw (by omega))
          obtain ⟨y, hy⟩ : ∃ y : Int, (x : Int) - 2 = y := ⟨_, rfl⟩
          have hyb : -2 ≤ y ∧ y ≤ 4 := by omega
          clear hcu hw
          go_wp2_with (at_builtin; refine wpList_append_own _ rfl _ _ 37 rfl wo.heap.size 3 i0 (.int .i64 0) 1 8 Try.underlying37 HI.out HZ0.out HZ1.out HZ2.out rfl (by decide) _ _ _ rfl (O2.out.alloc _) ⟨_, 0, none⟩ 1 1 [.int .i64 y] rfl rfl (cell_one_new _ _ _) (by intro u hu; simp at hu; subst hu; rfl) (by unfold maxLen; omega) (by omega) (by have := W2.out.size; simp; omega) ?_)
          intro v' w3 hown' hgrow _
          have C3 := Lib.hid ((C2.out.on (bnew _ _)).grown hgrow (fun g hg => (own_lt O2.out hg).1) hpo)
          have W3 := Lib.hid (cur_grown (W2.out.trans (Within.of_below (bnew _ _))) hgrow (fun g hg => (own_lt O2.out hg).1) (Nat.le_refl _))
          have HO3 := Lib.hid hown'
          clear hown' hgrow
          go_wp2_with fail
          go_roundw
          case rel =>
            refine ⟨q + 1, v', r ++ [y], rfl, by omega, by go_num, by rw [List.length_append, RL.out]; rfl, ?_, by simpa [ints] using HO3.out, C3.out, W3.out⟩
            intro z hz
            rcases List.mem_append.1 hz with h | h
            · exact RD.out z h
            · rw [List.mem_singleton.1 h]; exact hyb
          case measure => simp [intOf]; omega
        · obtain rfl : q = n := by omega
          obtain ⟨A, cr, rfl⟩ := own_shapeM HO.out
          have HVB := Lib.hid (HV.out.within WR.out (by omega))
          have HROW := Lib.hid (show wr.ownsRow wo.heap.size 3 1 (.slice A q cr) r.length (ints r) by rw [RL.out]; exact HO.out)
          have hk4 : xss.length ≤ 4 := by have := XL.out; omega
          go_wp2_with (at_builtin; refine wpList_append_own _ rfl _ _ 22 rfl w.heap.size 37 i1 (.slice none 0 0) 1 24 Try.underlying22 HJ.out HY0.out HY1.out HY2.out rfl (by decide) _ _ _ rfl (HVB.out.own.alloc _) ⟨_, 0, none⟩ 1 1 [.slice A q cr] rfl rfl (cell_one_new _ _ _) (by intro u hu; simp at hu; subst hu; rfl) (by unfold maxLen; omega) (by omega) (by have := WR.out.size; have := WO.out.size; simp; omega) ?_)
          intro v' w3 hown' hgrow _
          have HV3 := Lib.hid (OwnV.push2 types_apart (HVB.out.below (bnew _ _)) WO.out.size (fun k hk g hg => (own_lt (HV.out.row k hk (by rw [← HV.out.len]; exact hk)) hg).2) (HROW.out.alloc _) (by simpa using hown') hgrow)
          have C3 := Lib.hid ((CR.out.on (bnew _ _)).grown hgrow (fun g hg => (own_lt HV.out.own hg).1) hp)
          have W3 := Lib.hid (cur_grown ((WO.out.trans WR.out).trans (Within.of_below (bnew _ _))) hgrow (fun g hg => (own_lt HV.out.own hg).1) (Nat.le_refl _))
          clear hown' hgrow
          go_wp2_with fail
          go_roundw
          case rel =>
            refine ⟨k + 1, v', _, xss ++ [r], rfl, by omega, by go_num, by rw [List.length_append, XL.out]; rfl, ?_, ?_, HV3.out, C3.out, W3.out⟩
            · intro z hz
              rcases List.mem_append.1 hz with h | h
              · exact XR.out z h
              · rw [List.mem_singleton.1 h]; exact RL.out
            · intro z hz
              rcases List.mem_append.1 hz with h | h
              · exact XD.out z h
              · rw [List.mem_singleton.1 h]; exact RD.out
          case measure => simp [intOf]; omega
    · obtain rfl : k = n := by omega
      go_wp2_with fail
      go_ret
      exact ⟨_, xss, rfl, XL.out, XR.out, XD.out, HV.out.row2, WO.out⟩
set_option maxHeartbeats 1000000 in
theorem makeMatrix_any (va : Value) (ns : List Int) (m n : Nat) (w : World) (hns : ∀ n ∈ ns, 0 ≤ n ∧ n ≤ 255) (hl : ns.length ≤ 1048576) (hm : m ≤ 100) (hn : n ≤ 4) (ha : Row1 w w.heap.size va (u8s ns)) :
    Calls Try.prog 24 #[va, .int .i64 m, .int .i64 n] w fun e w' => ∃ (v : Value) (xss : List (List Int)), e = .returned v ∧ xss.length = n ∧ (∀ r ∈ xss, r.length = n) ∧ (∀ r ∈ xss, ∀ x ∈ r, inD x) ∧ Row2 w' w'.heap.size v xss ∧ Below w.heap.size w w' := by
  have HC := Lib.hid (l31New_any va ns m w hns hl hm ha)
  have HD := Lib.hid (fun B p W hcu => l04Draw_any B p va ns n W hns hl hn hcu)
  clear ha hns
  go_enter Try.func24, Try.ntmps24
  go_wp2_with fail
  refine HC.out.mono ?_
  rintro e w1 ⟨p, rfl, hcu, hb⟩
  have C1 := Lib.hid hcu; have B1 := Lib.hid hb
  clear hcu hb
  go_wp2_with fail
  refine (HD.out _ _ _ C1.out).mono ?_
  rintro e w2 ⟨v, xss, rfl, h1, h2, h3, h4, hw⟩
  have H4 := Lib.hid (And.intro h1 (And.intro h2 (And.intro h3 h4)))
  have B2 := Lib.hid (since_in B1.out hw C1.out.le)
  clear h1 h2 h3 h4 hw
  go_wp2_with fail
  go_ret
  exact ⟨v, xss, rfl, H4.out.1, H4.out.2.1, H4.out.2.2.1, H4.out.2.2.2, B2.out⟩
set_option maxHeartbeats 1000000 in
theorem makeSubst_any (va : Value) (ns : List Int) (m : Nat) (w : World) (hns : ∀ n ∈ ns, 0 ≤ n ∧ n ≤ 255) (hl : ns.length ≤ 1048576) (hm : m ≤ 100) (ha : Row1 w w.heap.size va (u8s ns)) :
    Calls Try.prog 18 #[va, .int .i64 m] w fun e w' => ∃ (v : Value) (xs : List ByteArray), e = .returned (.agg #[v]) ∧ substB xs = true ∧ Row1 w' w'.heap.size v (xs.map .string) ∧ Below w.heap.size w w' := by
  have B0 := Lib.hid (bnew w (.cells #[.slice none 0 0] 33))
  have O0 := Lib.hid (One.new w 33 (.slice none 0 0))
  have HC := Lib.hid (l31New_any va ns m _ hns hl hm ((Rd.new ha).on B0.out).at)
  have HD := Lib.hid (fun B p W hcu => l03Draw_any B p va ns W hns hl hcu)
  clear ha hns
  go_enter Try.func18, Try.ntmps18
  go_wp2_with fail
  refine HC.out.mono ?_
  rintro e w1 ⟨p, rfl, hcu, hb⟩
  have C1 := Lib.hid hcu; have B1 := Lib.hid (bthen B0.out hb); have O1 := Lib.hid (O0.out.on hb)
  have Z0 := Lib.hid (show w.heap.size + 1 ≤ p by have := hcu.le; simp only [World.size_alloc] at this; exact this)
  clear hcu hb
  go_wp2_with fail
  refine (HD.out _ _ _ C1.out).mono ?_
  rintro e w2 ⟨v, xs, rfl, hx, ho, hw⟩
  obtain ⟨A, c, rfl⟩ := own_shape ho
  have HX := Lib.hid hx
  have OW := Lib.hid ho
  have B2 := Lib.hid (since_in B1.out hw (by have := Z0.out; omega))
  have O2 := Lib.hid (O1.out.within hw (.inl (by have := Z0.out; omega)))
  have c2 := O2.out.cell
  have f2 := O2.out.frozen
  clear ho hw hx
  go_wp2_with fail
  refine bodyPost_ret (v := .agg #[.slice A xs.length c]) (by simp [results, Try.results18, go_sem, c2]) rfl ?_
  exact ⟨_, xs, rfl, HX.out, Row1.own (own_set OW.out (one_ne O2.out OW.out types_ps) _) (List.length_map _).symm, since_set B2.out (Nat.le_refl _) _⟩
set_option maxHeartbeats 1000000 in
theorem makeSize_any (va : Value) (ns : List Int) (m : Nat) (w : World) (hns : ∀ n ∈ ns, 0 ≤ n ∧ n ≤ 255) (hl : ns.length ≤ 1048576) (hm : m ≤ 100) (ha : Row1 w w.heap.size va (u8s ns)) :
    Calls Try.prog 23 #[va, .int .i64 m, .int .i64 1, .int .i64 3] w fun e w' => ∃ n : Nat, 1 ≤ n ∧ n ≤ 3 ∧ e = .returned (.int .i64 n) ∧ Below w.heap.size w w' := by
  have HC := Lib.hid (l31New_any va ns m w hns hl hm ha)
  have HBL := Lib.hid (fun B p W hcu => l01Below_any B p va ns 3 W hns hl (by decide) (by decide) hcu)
  clear ha hns
  go_enter Try.func23, Try.ntmps23
  go_wp2_with fail
  go_loop [9, 10] (fun q i => ∃ j : Nat, 1 ≤ j ∧ j ≤ 3 ∧ q = .int .i64 j ∧ i = .int .i64 j) (fun _ i => 3 - (intOf i).toNat)
  case atStart => exact ⟨1, Nat.le_refl _, by omega, rfl, rfl⟩
  case round =>
    obtain ⟨j, hj1, hj3, rfl, rfl⟩ := hrel
    by_cases hlt : j < 3
    · go_wp2_with fail
      go_round
      case rel => exact ⟨j + 1, by omega, by omega, by go_num, by go_num⟩
      case measure => simp [intOf]; omega
    · obtain rfl : j = 3 := by omega
      go_wp2_with fail
      refine HC.out.mono ?_
      rintro e w1 ⟨p, rfl, hcu, hb⟩
      have C1 := Lib.hid hcu; have B1 := Lib.hid hb
      clear hcu hb
      go_wp2_with fail
      refine (HBL.out _ _ _ C1.out).mono ?_
      rintro e w2 ⟨x, hx, rfl, hcu, hw⟩
      have B2 := Lib.hid (since_in B1.out hw C1.out.le)
      clear hcu hw
      go_wp2_with fail
      go_loop [11, 12] (fun q i => ∃ k : Nat, k ≤ x ∧ i = .int .i64 k ∧ q = .int .i64 ((1 + (x - k) : Nat) : Int)) (fun _ i => (intOf i).toNat)
      case atStart => exact ⟨x, Nat.le_refl _, rfl, by rw [Nat.sub_self]; rfl⟩
      case round =>
        obtain ⟨k, hk, rfl, rfl⟩ := hrel
        by_cases hk0 : 0 < k
        · obtain ⟨y, hy⟩ : ∃ y : Nat, y = 1 + (x - k) := ⟨_, rfl⟩
          have hy3 : y ≤ 3 := by omega
          have e2 : ((1 + (x - k) : Nat) : Int) = (y : Int) := by omega
          rw [e2]
          have HY := Lib.hid hy
          clear hy e2
          go_wp2_with fail
          go_round
          case rel => exact ⟨k - 1, by omega, by go_num, by have := HY.out; congr 1; omega⟩
          case measure => simp [intOf]; omega
        · obtain rfl : k = 0 := by omega
          rw [Nat.sub_zero]
          obtain ⟨y, hy⟩ : ∃ y : Nat, y = 1 + x := ⟨_, rfl⟩
          have e2 : ((1 + x : Nat) : Int) = (y : Int) := by omega
          rw [e2]
          have HY := Lib.hid hy
          clear hy e2
          go_wp2_with fail
          go_ret
          exact ⟨y, by have := HY.out; omega, by have := HY.out; omega, rfl, B2.out⟩
end Go.Proofs.Ytciiokegifgbdaa
