/- Walks: every image of a substitution turned. -/
import Derived.Test.YtnnkhjjecmldfaaTurn
import Derived.Test.YtnnkhjjecmldfaaOk
import Derived.Test.YtnnkhjjecmldfaaSubM
import Derived.Deep.RegionLaw
import Derived.Deep.AppendLies
namespace Go.Proofs.Ytnnkhjjecmldfaa
open Go.RowKit
set_option maxRecDepth 20000

theorem info_str2 : (Try.prog.info? 9).map (fun i => (i.zero, i.size, i.bytes)) = some (some (.string ByteArray.empty), 1, 16) := by kernel_rfl
def turnB (s : ByteArray) : ByteArray := ⟨s.data.toList.reverse.toArray⟩
/-- what TurnSubst returns -/
def tsR (xs : List ByteArray) : List ByteArray := if substB xs = true then xs.map turnB else []
theorem ts_no {xs : List ByteArray} (h : substB xs = false) : tsR xs = [] := by unfold tsR; rw [h]; rfl
theorem ts_yes {xs : List ByteArray} (h : substB xs = true) : tsR xs = xs.map turnB := by unfold tsR; rw [if_pos h]
theorem take_map_snoc (f : ByteArray → ByteArray) {xs : List ByteArray} {k : Nat} (h : k < xs.length) : (((xs.map f).take (k + 1)).map Value.string) = ((xs.map f).take k).map Value.string ++ [.string (f xs[k])] := by
  rw [List.take_succ_eq_append_getElem (by simpa using h), List.map_append]; simp
set_option maxHeartbeats 2000000 in
theorem specTurnSubst_any (xs : List ByteArray) (va : Value) (w : World) (ha : Row1 w w.heap.size va (xs.map .string)) (hs : ∀ s ∈ xs, s.size ≤ maxLen) :
    Calls Try.prog 14 #[.agg #[va]] w fun e w' => ∃ v, e = .returned (.tuple #[.agg #[v], .bool (substB xs)]) ∧ w'.ownsRow w.heap.size 9 1 v (tsR xs).length ((tsR xs).map .string) ∧ Below w.heap.size w w' := by
  obtain ⟨i0, hi, hz0, hz1, hz2⟩ := info_parts info_str2
  have HI := Lib.hid hi; have HZ0 := Lib.hid hz0; have HZ1 := Lib.hid hz1; have HZ2 := Lib.hid hz2
  clear hi hz0 hz1 hz2
  have B0 := Lib.hid (bthen (bnew w (.cells #[va] 26)) (bnew _ (.cells #[.slice none 0 0] 26)))
  have O1 := Lib.hid ((One.new w 26 va).alloc (.cells #[.slice none 0 0] 26))
  have o2 := One.new (w.alloc (.cells #[va] 26)) 26 (.slice none 0 0)
  rw [World.size_alloc] at o2
  have O2 := Lib.hid o2; clear o2
  have HOK := Lib.hid (specSubstOk_any xs va _ ((Rd.new ha).on B0.out).at hs)
  have HA := Lib.hid ha; clear ha hs
  cases hx : substB xs
  · have HF := Lib.hid (ts_no hx)
    go_enter Try.func14, Try.ntmps14
    go_wp2_with fail
    refine HOK.out.mono ?_
    rw [hx]
    rintro e w1 ⟨rfl, hb1⟩
    have B1 := Lib.hid (bthen B0.out hb1)
    have P2 := Lib.hid (O2.out.on hb1)
    have c2 := P2.out.cell
    have f2 := P2.out.frozen
    clear hb1
    go_wp2_with fail
    refine bodyPost_ret (v := .tuple #[.agg #[.slice none 0 0], .bool false]) (by simp [results, Try.results14, go_sem, c2]) rfl ?_
    exact ⟨_, rfl, by rw [HF.out]; exact World.ownsRow_nil _ _ _ _, since_set B1.out (Nat.le_succ _) _⟩
  have HF := Lib.hid (ts_yes hx)
  obtain ⟨h1x, h4x, hall⟩ := subst_parts hx
  have HALL := Lib.hid hall; clear hall
  obtain ⟨b, o, cp, rfl, hbB, hcp, hcell⟩ := HA.out.openAt (by omega)
  have HC := Lib.hid hcell; clear hcell
  have HX := Lib.hid hx; clear hx
  go_enter Try.func14, Try.ntmps14
  go_wp2_with fail
  refine HOK.out.mono ?_
  rw [HX.out]
  rintro e w1 ⟨rfl, hb1⟩
  have B1 := Lib.hid (bthen B0.out hb1)
  have P1 := Lib.hid (O1.out.on hb1)
  have P2 := Lib.hid (O2.out.on hb1)
  have Z1 := Lib.hid hb1.size
  have c1 := (P1.out.alloc (.cells #[.slice none 0 0] 26)).cell
  clear hb1
  go_wp2_with fail
  go_loopw [15] (fun i wr => ∃ (k : Nat) (v : Value), k ≤ xs.length ∧ i = .int .i64 k ∧ One wr w1.heap.size 26 v ∧ One wr (w.heap.size + 1) 26 (.slice none 0 0) ∧ wr.ownsRow w.heap.size 9 1 v k (((xs.map turnB).take k).map .string) ∧ Below w.heap.size w wr) (fun i _ => xs.length - (intOf i).toNat)
  case atStart => exact ⟨0, _, Nat.zero_le _, rfl, One.new _ _ _, P2.out.alloc _, World.ownsRow_nil _ _ _ _, bthen B1.out (bnew _ _)⟩
  case round =>
    obtain ⟨k, v, hk, rfl, hone, hres, hown, hbel⟩ := hrel
    have N1 := Lib.hid hone; have N2 := Lib.hid hres; have NO := Lib.hid hown; have NB := Lib.hid hbel
    clear hone hres hown hbel
    by_cases hlt : k < xs.length
    · have g1 := (NB.out.cell (p := ⟨b, o + k, none⟩) hbB).trans (HC.out k hlt)
      have c5 := N1.out.cell
      have f5 := N1.out.frozen
      have HT := Lib.hid (take_map_snoc turnB hlt)
      have ht := fun W => l02Turn_any xs[k] W (by have := (HALL.out _ (List.getElem_mem hlt)).2.1; omega)
      obtain ⟨t, het⟩ : ∃ t, t = turnB xs[k] := ⟨_, rfl⟩
      rw [← het] at HT
      have ht2 : ∀ W, Calls Try.prog 49 #[.string xs[k]] W fun e w' => e = .returned (.string t) ∧ Below W.heap.size W w' := by rw [het]; exact ht
      have HTC := Lib.hid ht2
      clear ht ht2 het c1
      go_wp2_with fail
      go_region_law (first
        | (refine step_append_lies _ rfl _ _ 22 rfl w.heap.size 9 i0 (.string ByteArray.empty) 1 16 Try.underlying22 HI.out HZ0.out HZ1.out HZ2.out rfl (by decide) _ _ _ rfl (A2.out.alloc _) ⟨_, 0, none⟩ 1 1 [.string t] rfl rfl (cell_one_new _ _ _) (by intro u hu; simp at hu; subst hu; rfl) (by omega) (by unfold maxLen; omega) (by omega) (by have := A3.out.size; simp; omega) _ rfl ?_; intro g c w3 ho3 hg3 _ _; have Q1 := Lib.hid ((A4.out.alloc _).grownRow (A2.out.alloc _) types_box hg3); have Q2 := Lib.hid ((A5.out.alloc _).grownRow (A2.out.alloc _) types_box hg3); have QB := Lib.hid (since_grown (bthen A3.out (bnew _ _)) hg3 (fun g hg => (own_lt A2.out hg).1)); have QO := Lib.hid ho3; have c6 := Q1.out.cell; have f6 := Q1.out.frozen; clear ho3 hg3)
        | (go_simp; go_at_call 49; refine (HTC.out _).mono ?_; rintro e w2 ⟨rfl, hb2⟩; have A2 := Lib.hid (own_below (own_below NO.out (bdrew _)) hb2); have A3 := Lib.hid (bthen (bthen NB.out (bdrew _)) hb2); have A4 := Lib.hid (N1.out.drew.on hb2); have A5 := Lib.hid (N2.out.drew.on hb2); have c7 := A4.out.cell; have f7 := A4.out.frozen; have c8 := (A4.out.alloc (.cells #[.string t] 9)).cell; clear hb2))
      all_goals
        go_wp2
        go_roundw
        case rel =>
          refine ⟨k + 1, _, by omega, by go_num, Q1.out.set _, Q2.out.far ?_ _, ?_, since_set QB.out ?_ _⟩
          · have := Z1.out; simp at this ⊢; omega
          · have h3 := own_set QO.out (one_ne Q1.out QO.out types_box) (.slice (some ⟨g, 0, none⟩) (k + 1) c)
            rw [← HT.out] at h3
            exact h3
          · have := Z1.out; simp at this; omega
        case measure => simp [intOf]; omega
    · obtain rfl : k = xs.length := by omega
      obtain ⟨A, cv, rfl⟩ := own_shape NO.out
      have c5 := N1.out.cell
      have c6 := N2.out.cell
      have f6 := N2.out.frozen
      go_wp2_with fail
      (try simp only [Exit.inBlock, Exit.then])
      refine bodyPost_ret (v := .tuple #[.agg #[.slice A xs.length cv], .bool true]) (by simp [results, Try.results14, go_sem, c6]) rfl ?_
      refine ⟨_, rfl, ?_, since_set NB.out (Nat.le_succ _) _⟩
      have h3 := own_set NO.out (one_ne N2.out NO.out types_box) (.slice A xs.length cv)
      rw [HF.out, List.length_map]
      rw [List.take_of_length_le (by simp)] at h3
      exact h3
set_option maxHeartbeats 2000000 in
theorem implTurnSubst_any (xs : List ByteArray) (va : Value) (w : World) (ha : Row1 w w.heap.size va (xs.map .string)) (hs : ∀ s ∈ xs, s.size ≤ maxLen) :
    Calls Try.prog 16 #[.agg #[va]] w fun e w' => ∃ v, e = .returned (.tuple #[.agg #[v], .bool (substB xs)]) ∧ w'.ownsRow w.heap.size 9 1 v (tsR xs).length ((tsR xs).map .string) ∧ Below w.heap.size w w' := by
  obtain ⟨i0, hi, hz0, hz1, hz2⟩ := info_parts info_str2
  have HI := Lib.hid hi; have HZ0 := Lib.hid hz0; have HZ1 := Lib.hid hz1; have HZ2 := Lib.hid hz2
  clear hi hz0 hz1 hz2
  have B0 := Lib.hid (bthen (bnew w (.cells #[va] 26)) (bnew _ (.cells #[.slice none 0 0] 26)))
  have O1 := Lib.hid ((One.new w 26 va).alloc (.cells #[.slice none 0 0] 26))
  have o2 := One.new (w.alloc (.cells #[va] 26)) 26 (.slice none 0 0)
  rw [World.size_alloc] at o2
  have O2 := Lib.hid o2; clear o2
  have HOK := Lib.hid (implSubstOk_any xs va _ ((Rd.new ha).on B0.out).at hs)
  have HA := Lib.hid ha; clear ha hs
  cases hx : substB xs
  · have HF := Lib.hid (ts_no hx)
    go_enter Try.func16, Try.ntmps16
    go_wp2_with fail
    refine HOK.out.mono ?_
    rw [hx]
    rintro e w1 ⟨rfl, hb1⟩
    have B1 := Lib.hid (bthen B0.out hb1)
    have P2 := Lib.hid (O2.out.on hb1)
    have c2 := P2.out.cell
    have f2 := P2.out.frozen
    clear hb1
    go_wp2_with fail
    refine bodyPost_ret (v := .tuple #[.agg #[.slice none 0 0], .bool false]) (by simp [results, Try.results16, go_sem, c2]) rfl ?_
    exact ⟨_, rfl, by rw [HF.out]; exact World.ownsRow_nil _ _ _ _, since_set B1.out (Nat.le_succ _) _⟩
  have HF := Lib.hid (ts_yes hx)
  obtain ⟨h1x, h4x, hall⟩ := subst_parts hx
  have HALL := Lib.hid hall; clear hall
  obtain ⟨b, o, cp, rfl, hbB, hcp, hcell⟩ := HA.out.openAt (by omega)
  have HC := Lib.hid hcell; clear hcell
  have HX := Lib.hid hx; clear hx
  go_enter Try.func16, Try.ntmps16
  go_wp2_with fail
  refine HOK.out.mono ?_
  rw [HX.out]
  rintro e w1 ⟨rfl, hb1⟩
  have B1 := Lib.hid (bthen B0.out hb1)
  have P1 := Lib.hid (O1.out.on hb1)
  have P2 := Lib.hid (O2.out.on hb1)
  have Z1 := Lib.hid hb1.size
  have c1 := (P1.out.alloc (.cells #[.slice none 0 0] 26)).cell
  clear hb1
  go_wp2_with fail
  go_loopw [15] (fun i wr => ∃ (k : Nat) (v : Value), k ≤ xs.length ∧ i = .int .i64 k ∧ One wr w1.heap.size 26 v ∧ One wr (w.heap.size + 1) 26 (.slice none 0 0) ∧ wr.ownsRow w.heap.size 9 1 v k (((xs.map turnB).take k).map .string) ∧ Below w.heap.size w wr) (fun i _ => xs.length - (intOf i).toNat)
  case atStart => exact ⟨0, _, Nat.zero_le _, rfl, One.new _ _ _, P2.out.alloc _, World.ownsRow_nil _ _ _ _, bthen B1.out (bnew _ _)⟩
  case round =>
    obtain ⟨k, v, hk, rfl, hone, hres, hown, hbel⟩ := hrel
    have N1 := Lib.hid hone; have N2 := Lib.hid hres; have NO := Lib.hid hown; have NB := Lib.hid hbel
    clear hone hres hown hbel
    by_cases hlt : k < xs.length
    · have g1 := (NB.out.cell (p := ⟨b, o + k, none⟩) hbB).trans (HC.out k hlt)
      have c5 := N1.out.cell
      have f5 := N1.out.frozen
      have HT := Lib.hid (take_map_snoc turnB hlt)
      have ht := fun W => turned_any xs[k] W (by have := (HALL.out _ (List.getElem_mem hlt)).2.1; omega)
      obtain ⟨t, het⟩ : ∃ t, t = turnB xs[k] := ⟨_, rfl⟩
      rw [← het] at HT
      have ht2 : ∀ W, Calls Try.prog 51 #[.string xs[k]] W fun e w' => e = .returned (.string t) ∧ Below W.heap.size W w' := by rw [het]; exact ht
      have HTC := Lib.hid ht2
      clear ht ht2 het c1
      go_wp2_with fail
      go_region_law (first
        | (refine step_append_lies _ rfl _ _ 22 rfl w.heap.size 9 i0 (.string ByteArray.empty) 1 16 Try.underlying22 HI.out HZ0.out HZ1.out HZ2.out rfl (by decide) _ _ _ rfl (A2.out.alloc _) ⟨_, 0, none⟩ 1 1 [.string t] rfl rfl (cell_one_new _ _ _) (by intro u hu; simp at hu; subst hu; rfl) (by omega) (by unfold maxLen; omega) (by omega) (by have := A3.out.size; simp; omega) _ rfl ?_; intro g c w3 ho3 hg3 _ _; have Q1 := Lib.hid ((A4.out.alloc _).grownRow (A2.out.alloc _) types_box hg3); have Q2 := Lib.hid ((A5.out.alloc _).grownRow (A2.out.alloc _) types_box hg3); have QB := Lib.hid (since_grown (bthen A3.out (bnew _ _)) hg3 (fun g hg => (own_lt A2.out hg).1)); have QO := Lib.hid ho3; have c6 := Q1.out.cell; have f6 := Q1.out.frozen; clear ho3 hg3)
        | (go_simp; go_at_call 51; refine (HTC.out _).mono ?_; rintro e w2 ⟨rfl, hb2⟩; have A2 := Lib.hid (own_below (own_below NO.out (bdrew _)) hb2); have A3 := Lib.hid (bthen (bthen NB.out (bdrew _)) hb2); have A4 := Lib.hid (N1.out.drew.on hb2); have A5 := Lib.hid (N2.out.drew.on hb2); have c7 := A4.out.cell; have f7 := A4.out.frozen; have c8 := (A4.out.alloc (.cells #[.string t] 9)).cell; clear hb2))
      all_goals
        go_wp2
        go_roundw
        case rel =>
          refine ⟨k + 1, _, by omega, by go_num, Q1.out.set _, Q2.out.far ?_ _, ?_, since_set QB.out ?_ _⟩
          · have := Z1.out; simp at this ⊢; omega
          · have h3 := own_set QO.out (one_ne Q1.out QO.out types_box) (.slice (some ⟨g, 0, none⟩) (k + 1) c)
            rw [← HT.out] at h3
            exact h3
          · have := Z1.out; simp at this; omega
        case measure => simp [intOf]; omega
    · obtain rfl : k = xs.length := by omega
      obtain ⟨A, cv, rfl⟩ := own_shape NO.out
      have c5 := N1.out.cell
      have c6 := N2.out.cell
      have f6 := N2.out.frozen
      go_wp2_with fail
      (try simp only [Exit.inBlock, Exit.then])
      refine bodyPost_ret (v := .tuple #[.agg #[.slice A xs.length cv], .bool true]) (by simp [results, Try.results16, go_sem, c6]) rfl ?_
      refine ⟨_, rfl, ?_, since_set NB.out (Nat.le_succ _) _⟩
      have h3 := own_set NO.out (one_ne N2.out NO.out types_box) (.slice A xs.length cv)
      rw [HF.out, List.length_map]
      rw [List.take_of_length_le (by simp)] at h3
      exact h3
end Go.Proofs.Ytnnkhjjecmldfaa
