/- Walks: the named substitutions. Conditions: none beyond the hypotheses of each lemma. -/
import Derived.Test.YtciiokegifgbdaaDoorPsub
namespace Go.Proofs.YtciiokegifgbdaaDoor
open Go.RowKit
set_option maxRecDepth 20000

/-- the text of a named substitution; empty where the name is none of the seven -/
def nmT (s : ByteArray) : ByteArray := if (s.toList == [102, 105, 98, 111, 110, 97, 99, 99, 105]) = true then ⟨#[97, 98, 44, 97]⟩ else if (s.toList == [116, 104, 117, 101]) = true then ⟨#[97, 98, 44, 98, 97]⟩ else if (s.toList == [100, 111, 117, 98, 108, 105, 110, 103]) = true then ⟨#[97, 98, 44, 97, 97]⟩ else if (s.toList == [116, 114, 105, 98, 111, 110, 97, 99, 99, 105]) = true then ⟨#[97, 98, 44, 97, 99, 44, 97]⟩ else if (s.toList == [115, 105, 108, 118, 101, 114]) = true then ⟨#[97, 97, 98, 44, 97]⟩ else if (s.toList == [115, 113, 117, 97, 114, 101, 102, 114, 101, 101]) = true then ⟨#[97, 98, 99, 44, 97, 99, 44, 98]⟩ else if (s.toList == [114, 117, 100, 105, 110]) = true then ⟨#[97, 98, 44, 97, 99, 44, 100, 98, 44, 100, 99]⟩ else ⟨#[]⟩
theorem ps_empty : psB ⟨#[]⟩ = false := by decide
set_option maxHeartbeats 2000000 in
theorem implNamedSubst_any (s : ByteArray) (w : World) (hm : MaxL w) :
    Calls Tryd.prog 24 #[.string s] w fun e w' => ∃ v, e = .returned (.tuple #[.agg #[v], .bool (psB (nmT s))]) ∧ w'.ownsRow w.heap.size 9 1 v (psR (nmT s)).length ((psR (nmT s)).map .string) ∧ Below w.heap.size w w' := by
  have B0 := Lib.hid (bnew w (.cells #[.slice none 0 0] 36))
  have O0 := Lib.hid (One.new w 36 (.slice none 0 0))
  have HC := Lib.hid (fun t (ht : t.size ≤ 1048576) => implParseSubst_any t (w.alloc (.cells #[.slice none 0 0] 36)) ht (hm.on B0.out))
  have c0 := O0.out.cell
  have f0 := O0.out.frozen
  cases b0 : (s.toList == [102, 105, 98, 111, 110, 97, 99, 99, 105])
  case true =>
    have HT := Lib.hid (show nmT s = ⟨#[97, 98, 44, 97]⟩ by unfold nmT; rw [b0, if_pos rfl])
    go_enter Tryd.func24, Tryd.ntmps24
    go_wp2_with fail
    refine (HC.out _ (by decide)).mono ?_
    rintro e w1 ⟨v, rfl, ho, hb⟩
    obtain ⟨A, c, rfl⟩ := own_shape ho
    have OW := Lib.hid ho
    have B1 := Lib.hid (bthen B0.out hb)
    have O1 := Lib.hid (O0.out.on hb)
    clear c0 f0 ho hb
    have c1 := O1.out.cell
    have f1 := O1.out.frozen
    go_wp2_with fail
    refine bodyPost_ret (v := .tuple #[.agg #[.slice A (psR ⟨#[97, 98, 44, 97]⟩).length c], .bool (psB ⟨#[97, 98, 44, 97]⟩)]) (by simp [results, Tryd.results24, go_sem, c1]) rfl ?_
    rw [HT.out]
    exact ⟨_, rfl, own_set (own_base OW.out (by simp)) (one_ne O1.out OW.out types_ps) _, since_set B1.out (Nat.le_refl _) _⟩
  case false =>
    cases b1 : (s.toList == [116, 104, 117, 101])
    case true =>
      have HT := Lib.hid (show nmT s = ⟨#[97, 98, 44, 98, 97]⟩ by unfold nmT; rw [b0, if_neg (by decide)]; rw [b1, if_pos rfl])
      go_enter Tryd.func24, Tryd.ntmps24
      go_wp2_with fail
      refine (HC.out _ (by decide)).mono ?_
      rintro e w1 ⟨v, rfl, ho, hb⟩
      obtain ⟨A, c, rfl⟩ := own_shape ho
      have OW := Lib.hid ho
      have B1 := Lib.hid (bthen B0.out hb)
      have O1 := Lib.hid (O0.out.on hb)
      clear c0 f0 ho hb
      have c1 := O1.out.cell
      have f1 := O1.out.frozen
      go_wp2_with fail
      refine bodyPost_ret (v := .tuple #[.agg #[.slice A (psR ⟨#[97, 98, 44, 98, 97]⟩).length c], .bool (psB ⟨#[97, 98, 44, 98, 97]⟩)]) (by simp [results, Tryd.results24, go_sem, c1]) rfl ?_
      rw [HT.out]
      exact ⟨_, rfl, own_set (own_base OW.out (by simp)) (one_ne O1.out OW.out types_ps) _, since_set B1.out (Nat.le_refl _) _⟩
    case false =>
      cases b2 : (s.toList == [100, 111, 117, 98, 108, 105, 110, 103])
      case true =>
        have HT := Lib.hid (show nmT s = ⟨#[97, 98, 44, 97, 97]⟩ by unfold nmT; rw [b0, if_neg (by decide)]; rw [b1, if_neg (by decide)]; rw [b2, if_pos rfl])
        go_enter Tryd.func24, Tryd.ntmps24
        go_wp2_with fail
        refine (HC.out _ (by decide)).mono ?_
        rintro e w1 ⟨v, rfl, ho, hb⟩
        obtain ⟨A, c, rfl⟩ := own_shape ho
        have OW := Lib.hid ho
        have B1 := Lib.hid (bthen B0.out hb)
        have O1 := Lib.hid (O0.out.on hb)
        clear c0 f0 ho hb
        have c1 := O1.out.cell
        have f1 := O1.out.frozen
        go_wp2_with fail
        refine bodyPost_ret (v := .tuple #[.agg #[.slice A (psR ⟨#[97, 98, 44, 97, 97]⟩).length c], .bool (psB ⟨#[97, 98, 44, 97, 97]⟩)]) (by simp [results, Tryd.results24, go_sem, c1]) rfl ?_
        rw [HT.out]
        exact ⟨_, rfl, own_set (own_base OW.out (by simp)) (one_ne O1.out OW.out types_ps) _, since_set B1.out (Nat.le_refl _) _⟩
      case false =>
        cases b3 : (s.toList == [116, 114, 105, 98, 111, 110, 97, 99, 99, 105])
        case true =>
          have HT := Lib.hid (show nmT s = ⟨#[97, 98, 44, 97, 99, 44, 97]⟩ by unfold nmT; rw [b0, if_neg (by decide)]; rw [b1, if_neg (by decide)]; rw [b2, if_neg (by decide)]; rw [b3, if_pos rfl])
          go_enter Tryd.func24, Tryd.ntmps24
          go_wp2_with fail
          refine (HC.out _ (by decide)).mono ?_
          rintro e w1 ⟨v, rfl, ho, hb⟩
          obtain ⟨A, c, rfl⟩ := own_shape ho
          have OW := Lib.hid ho
          have B1 := Lib.hid (bthen B0.out hb)
          have O1 := Lib.hid (O0.out.on hb)
          clear c0 f0 ho hb
          have c1 := O1.out.cell
          have f1 := O1.out.frozen
          go_wp2_with fail
          refine bodyPost_ret (v := .tuple #[.agg #[.slice A (psR ⟨#[97, 98, 44, 97, 99, 44, 97]⟩).length c], .bool (psB ⟨#[97, 98, 44, 97, 99, 44, 97]⟩)]) (by simp [results, Tryd.results24, go_sem, c1]) rfl ?_
          rw [HT.out]
          exact ⟨_, rfl, own_set (own_base OW.out (by simp)) (one_ne O1.out OW.out types_ps) _, since_set B1.out (Nat.le_refl _) _⟩
        case false =>
          cases b4 : (s.toList == [115, 105, 108, 118, 101, 114])
          case true =>
            have HT := Lib.hid (show nmT s = ⟨#[97, 97, 98, 44, 97]⟩ by unfold nmT; rw [b0, if_neg (by decide)]; rw [b1, if_neg (by decide)]; rw [b2, if_neg (by decide)]; rw [b3, if_neg (by decide)]; rw [b4, if_pos rfl])
            go_enter Tryd.func24, Tryd.ntmps24
            go_wp2_with fail
            refine (HC.out _ (by decide)).mono ?_
            rintro e w1 ⟨v, rfl, ho, hb⟩
            obtain ⟨A, c, rfl⟩ := own_shape ho
            have OW := Lib.hid ho
            have B1 := Lib.hid (bthen B0.out hb)
            have O1 := Lib.hid (O0.out.on hb)
            clear c0 f0 ho hb
            have c1 := O1.out.cell
            have f1 := O1.out.frozen
            go_wp2_with fail
            refine bodyPost_ret (v := .tuple #[.agg #[.slice A (psR ⟨#[97, 97, 98, 44, 97]⟩).length c], .bool (psB ⟨#[97, 97, 98, 44, 97]⟩)]) (by simp [results, Tryd.results24, go_sem, c1]) rfl ?_
            rw [HT.out]
            exact ⟨_, rfl, own_set (own_base OW.out (by simp)) (one_ne O1.out OW.out types_ps) _, since_set B1.out (Nat.le_refl _) _⟩
          case false =>
            cases b5 : (s.toList == [115, 113, 117, 97, 114, 101, 102, 114, 101, 101])
            case true =>
              have HT := Lib.hid (show nmT s = ⟨#[97, 98, 99, 44, 97, 99, 44, 98]⟩ by unfold nmT; rw [b0, if_neg (by decide)]; rw [b1, if_neg (by decide)]; rw [b2, if_neg (by decide)]; rw [b3, if_neg (by decide)]; rw [b4, if_neg (by decide)]; rw [b5, if_pos rfl])
              go_enter Tryd.func24, Tryd.ntmps24
              go_wp2_with fail
              refine (HC.out _ (by decide)).mono ?_
              rintro e w1 ⟨v, rfl, ho, hb⟩
              obtain ⟨A, c, rfl⟩ := own_shape ho
              have OW := Lib.hid ho
              have B1 := Lib.hid (bthen B0.out hb)
              have O1 := Lib.hid (O0.out.on hb)
              clear c0 f0 ho hb
              have c1 := O1.out.cell
              have f1 := O1.out.frozen
              go_wp2_with fail
              refine bodyPost_ret (v := .tuple #[.agg #[.slice A (psR ⟨#[97, 98, 99, 44, 97, 99, 44, 98]⟩).length c], .bool (psB ⟨#[97, 98, 99, 44, 97, 99, 44, 98]⟩)]) (by simp [results, Tryd.results24, go_sem, c1]) rfl ?_
              rw [HT.out]
              exact ⟨_, rfl, own_set (own_base OW.out (by simp)) (one_ne O1.out OW.out types_ps) _, since_set B1.out (Nat.le_refl _) _⟩
            case false =>
              cases b6 : (s.toList == [114, 117, 100, 105, 110])
              case true =>
                have HT := Lib.hid (show nmT s = ⟨#[97, 98, 44, 97, 99, 44, 100, 98, 44, 100, 99]⟩ by unfold nmT; rw [b0, if_neg (by decide)]; rw [b1, if_neg (by decide)]; rw [b2, if_neg (by decide)]; rw [b3, if_neg (by decide)]; rw [b4, if_neg (by decide)]; rw [b5, if_neg (by decide)]; rw [b6, if_pos rfl])
                go_enter Tryd.func24, Tryd.ntmps24
                go_wp2_with fail
                refine (HC.out _ (by decide)).mono ?_
                rintro e w1 ⟨v, rfl, ho, hb⟩
                obtain ⟨A, c, rfl⟩ := own_shape ho
                have OW := Lib.hid ho
                have B1 := Lib.hid (bthen B0.out hb)
                have O1 := Lib.hid (O0.out.on hb)
                clear c0 f0 ho hb
                have c1 := O1.out.cell
                have f1 := O1.out.frozen
                go_wp2_with fail
                refine bodyPost_ret (v := .tuple #[.agg #[.slice A (psR ⟨#[97, 98, 44, 97, 99, 44, 100, 98, 44, 100, 99]⟩).length c], .bool (psB ⟨#[97, 98, 44, 97, 99, 44, 100, 98, 44, 100, 99]⟩)]) (by simp [results, Tryd.results24, go_sem, c1]) rfl ?_
                rw [HT.out]
                exact ⟨_, rfl, own_set (own_base OW.out (by simp)) (one_ne O1.out OW.out types_ps) _, since_set B1.out (Nat.le_refl _) _⟩
              case false =>
                have HT := Lib.hid (show nmT s = ⟨#[]⟩ by unfold nmT; rw [b0, if_neg (by decide)]; rw [b1, if_neg (by decide)]; rw [b2, if_neg (by decide)]; rw [b3, if_neg (by decide)]; rw [b4, if_neg (by decide)]; rw [b5, if_neg (by decide)]; rw [b6, if_neg (by decide)])
                go_enter Tryd.func24, Tryd.ntmps24
                go_wp2_with fail
                refine (HC.out _ (by decide)).mono ?_
                rintro e w1 ⟨v, rfl, ho, hb⟩
                obtain ⟨A, c, rfl⟩ := own_shape ho
                have OW := Lib.hid ho
                have B1 := Lib.hid (bthen B0.out hb)
                have O1 := Lib.hid (O0.out.on hb)
                clear c0 f0 ho hb
                have c1 := O1.out.cell
                have f1 := O1.out.frozen
                go_wp2_with fail
                refine bodyPost_ret (v := .tuple #[.agg #[.slice A (psR ⟨#[]⟩).length c], .bool (psB ⟨#[]⟩)]) (by simp [results, Tryd.results24, go_sem, c1]) rfl ?_
                rw [HT.out]
                exact ⟨_, rfl, own_set (own_base OW.out (by simp)) (one_ne O1.out OW.out types_ps) _, since_set B1.out (Nat.le_refl _) _⟩
set_option maxHeartbeats 2000000 in
theorem specNamedSubst_any (s : ByteArray) (w : World) :
    Calls Tryd.prog 23 #[.string s] w fun e w' => ∃ v, e = .returned (.tuple #[.agg #[v], .bool (psB (nmT s))]) ∧ w'.ownsRow w.heap.size 9 1 v (psR (nmT s)).length ((psR (nmT s)).map .string) ∧ Below w.heap.size w w' := by
  have B0 := Lib.hid (bnew w (.cells #[.slice none 0 0] 36))
  have O0 := Lib.hid (One.new w 36 (.slice none 0 0))
  have HC := Lib.hid (fun t (ht : t.size ≤ 1048576) => specParseSubst_any t (w.alloc (.cells #[.slice none 0 0] 36)) ht)
  have c0 := O0.out.cell
  have f0 := O0.out.frozen
  cases b0 : (s.toList == [102, 105, 98, 111, 110, 97, 99, 99, 105])
  case true =>
    have HT := Lib.hid (show nmT s = ⟨#[97, 98, 44, 97]⟩ by unfold nmT; rw [b0, if_pos rfl])
    go_enter Tryd.func23, Tryd.ntmps23
    go_wp2_with fail
    refine (HC.out _ (by decide)).mono ?_
    rintro e w1 ⟨v, rfl, ho, hb⟩
    obtain ⟨A, c, rfl⟩ := own_shape ho
    have OW := Lib.hid ho
    have B1 := Lib.hid (bthen B0.out hb)
    have O1 := Lib.hid (O0.out.on hb)
    clear c0 f0 ho hb
    have c1 := O1.out.cell
    have f1 := O1.out.frozen
    go_wp2_with fail
    refine bodyPost_ret (v := .tuple #[.agg #[.slice A (psR ⟨#[97, 98, 44, 97]⟩).length c], .bool (psB ⟨#[97, 98, 44, 97]⟩)]) (by simp [results, Tryd.results23, go_sem, c1]) rfl ?_
    rw [HT.out]
    exact ⟨_, rfl, own_set (own_base OW.out (by simp)) (one_ne O1.out OW.out types_ps) _, since_set B1.out (Nat.le_refl _) _⟩
  case false =>
    cases b1 : (s.toList == [116, 104, 117, 101])
    case true =>
      have HT := Lib.hid (show nmT s = ⟨#[97, 98, 44, 98, 97]⟩ by unfold nmT; rw [b0, if_neg (by decide)]; rw [b1, if_pos rfl])
      go_enter Tryd.func23, Tryd.ntmps23
      go_wp2_with fail
      refine (HC.out _ (by decide)).mono ?_
      rintro e w1 ⟨v, rfl, ho, hb⟩
      obtain ⟨A, c, rfl⟩ := own_shape ho
      have OW := Lib.hid ho
      have B1 := Lib.hid (bthen B0.out hb)
      have O1 := Lib.hid (O0.out.on hb)
      clear c0 f0 ho hb
      have c1 := O1.out.cell
      have f1 := O1.out.frozen
      go_wp2_with fail
      refine bodyPost_ret (v := .tuple #[.agg #[.slice A (psR ⟨#[97, 98, 44, 98, 97]⟩).length c], .bool (psB ⟨#[97, 98, 44, 98, 97]⟩)]) (by simp [results, Tryd.results23, go_sem, c1]) rfl ?_
      rw [HT.out]
      exact ⟨_, rfl, own_set (own_base OW.out (by simp)) (one_ne O1.out OW.out types_ps) _, since_set B1.out (Nat.le_refl _) _⟩
    case false =>
      cases b2 : (s.toList == [100, 111, 117, 98, 108, 105, 110, 103])
      case true =>
        have HT := Lib.hid (show nmT s = ⟨#[97, 98, 44, 97, 97]⟩ by unfold nmT; rw [b0, if_neg (by decide)]; rw [b1, if_neg (by decide)]; rw [b2, if_pos rfl])
        go_enter Tryd.func23, Tryd.ntmps23
        go_wp2_with fail
        refine (HC.out _ (by decide)).mono ?_
        rintro e w1 ⟨v, rfl, ho, hb⟩
        obtain ⟨A, c, rfl⟩ := own_shape ho
        have OW := Lib.hid ho
        have B1 := Lib.hid (bthen B0.out hb)
        have O1 := Lib.hid (O0.out.on hb)
        clear c0 f0 ho hb
        have c1 := O1.out.cell
        have f1 := O1.out.frozen
        go_wp2_with fail
        refine bodyPost_ret (v := .tuple #[.agg #[.slice A (psR ⟨#[97, 98, 44, 97, 97]⟩).length c], .bool (psB ⟨#[97, 98, 44, 97, 97]⟩)]) (by simp [results, Tryd.results23, go_sem, c1]) rfl ?_
        rw [HT.out]
        exact ⟨_, rfl, own_set (own_base OW.out (by simp)) (one_ne O1.out OW.out types_ps) _, since_set B1.out (Nat.le_refl _) _⟩
      case false =>
        cases b3 : (s.toList == [116, 114, 105, 98, 111, 110, 97, 99, 99, 105])
        case true =>
          have HT := Lib.hid (show nmT s = ⟨#[97, 98, 44, 97, 99, 44, 97]⟩ by unfold nmT; rw [b0, if_neg (by decide)]; rw [b1, if_neg (by decide)]; rw [b2, if_neg (by decide)]; rw [b3, if_pos rfl])
          go_enter Tryd.func23, Tryd.ntmps23
          go_wp2_with fail
          refine (HC.out _ (by decide)).mono ?_
          rintro e w1 ⟨v, rfl, ho, hb⟩
          obtain ⟨A, c, rfl⟩ := own_shape ho
          have OW := Lib.hid ho
          have B1 := Lib.hid (bthen B0.out hb)
          have O1 := Lib.hid (O0.out.on hb)
          clear c0 f0 ho hb
          have c1 := O1.out.cell
          have f1 := O1.out.frozen
          go_wp2_with fail
          refine bodyPost_ret (v := .tuple #[.agg #[.slice A (psR ⟨#[97, 98, 44, 97, 99, 44, 97]⟩).length c], .bool (psB ⟨#[97, 98, 44, 97, 99, 44, 97]⟩)]) (by simp [results, Tryd.results23, go_sem, c1]) rfl ?_
          rw [HT.out]
          exact ⟨_, rfl, own_set (own_base OW.out (by simp)) (one_ne O1.out OW.out types_ps) _, since_set B1.out (Nat.le_refl _) _⟩
        case false =>
          cases b4 : (s.toList == [115, 105, 108, 118, 101, 114])
          case true =>
            have HT := Lib.hid (show nmT s = ⟨#[97, 97, 98, 44, 97]⟩ by unfold nmT; rw [b0, if_neg (by decide)]; rw [b1, if_neg (by decide)]; rw [b2, if_neg (by decide)]; rw [b3, if_neg (by decide)]; rw [b4, if_pos rfl])
            go_enter Tryd.func23, Tryd.ntmps23
            go_wp2_with fail
            refine (HC.out _ (by decide)).mono ?_
            rintro e w1 ⟨v, rfl, ho, hb⟩
            obtain ⟨A, c, rfl⟩ := own_shape ho
            have OW := Lib.hid ho
            have B1 := Lib.hid (bthen B0.out hb)
            have O1 := Lib.hid (O0.out.on hb)
            clear c0 f0 ho hb
            have c1 := O1.out.cell
            have f1 := O1.out.frozen
            go_wp2_with fail
            refine bodyPost_ret (v := .tuple #[.agg #[.slice A (psR ⟨#[97, 97, 98, 44, 97]⟩).length c], .bool (psB ⟨#[97, 97, 98, 44, 97]⟩)]) (by simp [results, Tryd.results23, go_sem, c1]) rfl ?_
            rw [HT.out]
            exact ⟨_, rfl, own_set (own_base OW.out (by simp)) (one_ne O1.out OW.out types_ps) _, since_set B1.out (Nat.le_refl _) _⟩
          case false =>
            cases b5 : (s.toList == [115, 113, 117, 97, 114, 101, 102, 114, 101, 101])
            case true =>
              have HT := Lib.hid (show nmT s = ⟨#[97, 98, 99, 44, 97, 99, 44, 98]⟩ by unfold nmT; rw [b0, if_neg (by decide)]; rw [b1, if_neg (by decide)]; rw [b2, if_neg (by decide)]; rw [b3, if_neg (by decide)]; rw [b4, if_neg (by decide)]; rw [b5, if_pos rfl])
              go_enter Tryd.func23, Tryd.ntmps23
              go_wp2_with fail
              refine (HC.out _ (by decide)).mono ?_
              rintro e w1 ⟨v, rfl, ho, hb⟩
              obtain ⟨A, c, rfl⟩ := own_shape ho
              have OW := Lib.hid ho
              have B1 := Lib.hid (bthen B0.out hb)
              have O1 := Lib.hid (O0.out.on hb)
              clear c0 f0 ho hb
              have c1 := O1.out.cell
              have f1 := O1.out.frozen
              go_wp2_with fail
              refine bodyPost_ret (v := .tuple #[.agg #[.slice A (psR ⟨#[97, 98, 99, 44, 97, 99, 44, 98]⟩).length c], .bool (psB ⟨#[97, 98, 99, 44, 97, 99, 44, 98]⟩)]) (by simp [results, Tryd.results23, go_sem, c1]) rfl ?_
              rw [HT.out]
              exact ⟨_, rfl, own_set (own_base OW.out (by simp)) (one_ne O1.out OW.out types_ps) _, since_set B1.out (Nat.le_refl _) _⟩
            case false =>
              cases b6 : (s.toList == [114, 117, 100, 105, 110])
              case true =>
                have HT := Lib.hid (show nmT s = ⟨#[97, 98, 44, 97, 99, 44, 100, 98, 44, 100, 99]⟩ by unfold nmT; rw [b0, if_neg (by decide)]; rw [b1, if_neg (by decide)]; rw [b2, if_neg (by decide)]; rw [b3, if_neg (by decide)]; rw [b4, if_neg (by decide)]; rw [b5, if_neg (by decide)]; rw [b6, if_pos rfl])
                go_enter Tryd.func23, Tryd.ntmps23
                go_wp2_with fail
                refine (HC.out _ (by decide)).mono ?_
                rintro e w1 ⟨v, rfl, ho, hb⟩
                obtain ⟨A, c, rfl⟩ := own_shape ho
                have OW := Lib.hid ho
                have B1 := Lib.hid (bthen B0.out hb)
                have O1 := Lib.hid (O0.out.on hb)
                clear c0 f0 ho hb
                have c1 := O1.out.cell
                have f1 := O1.out.frozen
                go_wp2_with fail
                refine bodyPost_ret (v := .tuple #[.agg #[.slice A (psR ⟨#[97, 98, 44, 97, 99, 44, 100, 98, 44, 100, 99]⟩).length c], .bool (psB ⟨#[97, 98, 44, 97, 99, 44, 100, 98, 44, 100, 99]⟩)]) (by simp [results, Tryd.results23, go_sem, c1]) rfl ?_
                rw [HT.out]
                exact ⟨_, rfl, own_set (own_base OW.out (by simp)) (one_ne O1.out OW.out types_ps) _, since_set B1.out (Nat.le_refl _) _⟩
              case false =>
                have HT := Lib.hid (show nmT s = ⟨#[]⟩ by unfold nmT; rw [b0, if_neg (by decide)]; rw [b1, if_neg (by decide)]; rw [b2, if_neg (by decide)]; rw [b3, if_neg (by decide)]; rw [b4, if_neg (by decide)]; rw [b5, if_neg (by decide)]; rw [b6, if_neg (by decide)])
                go_enter Tryd.func23, Tryd.ntmps23
                go_wp2_with fail
                refine bodyPost_ret (v := .tuple #[.agg #[.slice none 0 0], .bool false]) (by simp [results, Tryd.results23, go_sem, c0]) rfl ?_
                rw [HT.out, ps_no ps_empty, ps_empty]
                exact ⟨_, rfl, World.ownsRow_nil _ _ _ _, B0.out⟩
end Go.Proofs.YtciiokegifgbdaaDoor
