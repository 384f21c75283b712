/- Walks and plain laws of the functions that a law reaches, several texts in one (part 8). Conditions: none beyond the hypotheses of each lemma. -/
import Derived.Deep.RegionLaw
import Derived.Deep.AppendLies
import Derived.Deep.QuietTactic
import Derived.BigQuiet
import Derived.Lib.Index
import Derived.Laws.MakeOwn
import Derived.Lib.SplitLaws
import Derived.Lib.Join
import Derived.Test.YtciiokegifgbdaaShelf
import Derived.Test.YtciiokegifgbdaaG7
import Derived.Test.YtciiokegifgbdaaG1
import Derived.Test.YtciiokegifgbdaaG5
import Derived.Test.YtciiokegifgbdaaG2
/- Walks: every image of a substitution turned. -/
namespace Go.Proofs.Ytciiokegifgbdaa
open Go.RowKit
set_option maxRecDepth 20000

theorem info_str2 : (Try.prog.info? 9).map (fun i => (i.zero, i.size, i.bytes)) = some (some (.string ByteArray.empty), 1, 16) := by kernel_rfl
def turnB (s : ByteArray) : ByteArray := ⟨s.data.toList.reverse.toArray⟩
/-- what TurnSubst returns -/
def tsR (xs : List ByteArray) : List ByteArray := if substB xs = true then xs.map turnB else []
theorem ts_no {xs : List ByteArray} (h : substB xs = false) : tsR xs = [] := by unfold tsR; rw [h]; rfl
theorem ts_yes {xs : List ByteArray} (h : substB xs = true) : tsR xs = xs.map turnB := by unfold tsR; rw [if_pos h]
theorem take_map_snoc (f : ByteArray → ByteArray) {xs : List ByteArray} {k : Nat} (h : k < xs.length) : (((xs.map f).take (k + 1)).map Value.string) = ((xs.map f).take k).map Value.string ++ [.string (f xs[k])] := by
  rw [List.take_succ_eq_append_getElem (by simpa using h), List.map_append]; simp
end Go.Proofs.Ytciiokegifgbdaa
/- Walk: the reference's application of a substitution, cut behind 400 letters. -/
namespace Go.Proofs.Ytciiokegifgbdaa
open Go.RowKit
set_option maxRecDepth 20000

theorem cut_stands {w wr w1 : World} {T : TypeId} {va v : Value} {o : Obj} {base n : Nat} {E : TypeId} {xs : List Value} (h : Stands w T va wr) (ho : wr.ownsRow base E 1 v n xs) (hg : (wr.alloc o).drew.drew.grownBy w1 v.ownBlock) (hb : w.heap.size + 1 ≤ base := by exact Nat.le_refl _) : Stands w T va w1 :=
  Below.grown (h.alloc o).drew.drew hg (h.alloc o).drew.drew.size (fun g hg' => Nat.le_trans hb (ho.lt g hg').1)
end Go.Proofs.Ytciiokegifgbdaa
/- Walks: one substitution after another. -/
namespace Go.Proofs.Ytciiokegifgbdaa
open Go.RowKit
set_option maxRecDepth 20000

def appB (ys : List ByteArray) (s : ByteArray) : ByteArray := ⟨(applyL ys s.data.toList).toArray⟩
/-- the images under ys of the images of xs -/
def csZ (xs ys : List ByteArray) : List ByteArray := xs.map (appB ys)
def csB (xs ys : List ByteArray) : Bool := substB xs && substB ys && decide (xs.length = ys.length) && substB (csZ xs ys)
/-- what ComposeSubst returns -/
def csR (xs ys : List ByteArray) : List ByteArray := if csB xs ys = true then csZ xs ys else []
theorem cs_no {xs ys : List ByteArray} (h : csB xs ys = false) : csR xs ys = [] := by unfold csR; rw [h]; rfl
theorem cs_yes {xs ys : List ByteArray} (h : csB xs ys = true) : csR xs ys = csZ xs ys := by unfold csR; rw [if_pos h]
theorem csR_len (xs ys : List ByteArray) : (csR xs ys).length ≤ xs.length := by unfold csR csZ; split <;> simp
theorem cs_no1 {xs ys : List ByteArray} (h : substB xs = false) : csB xs ys = false := by unfold csB; rw [h]; rfl
theorem cs_no2 {xs ys : List ByteArray} (h : substB ys = false) : csB xs ys = false := by unfold csB; rw [h]; simp
theorem cs_no3 {xs ys : List ByteArray} (h : ¬ xs.length = ys.length) : csB xs ys = false := by unfold csB; rw [decide_eq_false h]; simp
theorem cs_end {xs ys : List ByteArray} (h1 : substB xs = true) (h2 : substB ys = true) (h3 : xs.length = ys.length) : csB xs ys = substB (csZ xs ys) := by unfold csB; rw [h1, h2, decide_eq_true h3]; rfl
theorem cs_word {xs ys : List ByteArray} (h1 : substB xs = true) (h3 : xs.length = ys.length) {s : ByteArray} (hs : s ∈ xs) : wordIn ys s.data.toList = true := by
  have h := (subst_parts h1).2.2 s hs
  unfold wordIn; rw [← h3, h.2.2.1, h.2.2.2]; rfl
theorem cs_len {xs ys : List ByteArray} (h1 : substB xs = true) (h2 : substB ys = true) (h3 : xs.length = ys.length) {s : ByteArray} (hs : s ∈ xs) : (applyL ys s.data.toList).length ≤ 64 := by
  have h := (subst_parts h1).2.2 s hs
  have h4 := applyL_len h2 (letters_of_word (cs_word h1 h3 hs))
  rw [← Lib.size_eq] at h4; omega
theorem cs_sizes {xs ys : List ByteArray} (h1 : substB xs = true) (h2 : substB ys = true) (h3 : xs.length = ys.length) : ∀ s ∈ csZ xs ys, s.size ≤ maxLen := by
  intro s hs
  obtain ⟨t, ht, rfl⟩ := List.mem_map.1 hs
  have h := cs_len h1 h2 h3 ht
  show (applyL ys t.data.toList).length ≤ maxLen
  unfold maxLen; omega
theorem cut_all {ys : List ByteArray} {l : List UInt8} {out : ByteArray} (h : CutOf ys l out) (hl : (applyL ys l).length ≤ 400) : out = ⟨(applyL ys l).toArray⟩ := by
  by_cases hb : 400 < out.size
  · exact absurd hl (cut_big h hb)
  · exact mk_list out (cut_small h hb).1
set_option maxHeartbeats 2000000 in
theorem implComposeSubst_any (xs ys : List ByteArray) (va vb : Value) (w : World) (ha : Row1 w w.heap.size va (xs.map .string)) (hs : ∀ s ∈ xs, s.size ≤ maxLen) (hb : Row1 w w.heap.size vb (ys.map .string)) (ht : ∀ s ∈ ys, s.size ≤ maxLen) :
    Calls Try.prog 21 #[.agg #[va], .agg #[vb]] w fun e w' => ∃ v, e = .returned (.tuple #[.agg #[v], .bool (csB xs ys)]) ∧ w'.ownsRow w.heap.size 9 1 v (csR xs ys).length ((csR xs ys).map .string) ∧ Below w.heap.size w w' := by
  obtain ⟨i0, hi, hz0, hz1, hz2⟩ := info_parts info_str2
  have HI := Lib.hid hi; have HZ0 := Lib.hid hz0; have HZ1 := Lib.hid hz1; have HZ2 := Lib.hid hz2
  clear hi hz0 hz1 hz2
  obtain ⟨A, cp, rfl⟩ := ha.shape
  obtain ⟨A', cp', rfl⟩ := hb.shape
  have B0 := Lib.hid (bthen (bthen (bnew w (.cells #[.slice A xs.length cp] 33)) (bnew _ (.cells #[.slice A' ys.length cp'] 33))) (bnew _ (.cells #[.slice none 0 0] 33)))
  have O1 := Lib.hid (((One.new w 33 (.slice A xs.length cp)).alloc (.cells #[.slice A' ys.length cp'] 33)).alloc (.cells #[.slice none 0 0] 33))
  have o2 := (One.new (w.alloc (.cells #[.slice A xs.length cp] 33)) 33 (.slice A' ys.length cp')).alloc (.cells #[.slice none 0 0] 33)
  have o3 := One.new ((w.alloc (.cells #[.slice A xs.length cp] 33)).alloc (.cells #[.slice A' ys.length cp'] 33)) 33 (.slice none 0 0)
  simp only [World.size_alloc] at o2 o3
  have O2 := Lib.hid o2; have O3 := Lib.hid o3; clear o2 o3
  have HOK := Lib.hid (implSubstOk_any xs _ _ ((Rd.new ha).on B0.out).at hs)
  have HOK2 := Lib.hid (fun W hR => implSubstOk_any ys (.slice A' ys.length cp') W hR ht)
  have HA := Lib.hid ha; have HB := Lib.hid hb; clear ha hs hb ht
  cases hx : substB xs
  · have HQ := Lib.hid (cs_no1 (ys := ys) hx)
    have HF := Lib.hid (cs_no HQ.out)
    rw [HQ.out]
    go_enter Try.func21, Try.ntmps21
    go_wp2_with fail
    refine HOK.out.mono ?_
    rw [hx]
    rintro e w1 ⟨rfl, hb1⟩
    have B1 := Lib.hid (bthen B0.out hb1)
    have P3 := Lib.hid (O3.out.on hb1)
    have c3 := P3.out.cell
    have f3 := P3.out.frozen
    clear hb1
    go_wp2_with fail
    refine bodyPost_ret (v := .tuple #[.agg #[.slice none 0 0], .bool false]) (by simp [results, Try.results21, go_sem, c3]) rfl ?_
    exact ⟨_, rfl, by rw [HF.out]; exact World.ownsRow_nil _ _ _ _, since_set B1.out (by omega) _⟩
  have HX := Lib.hid hx; clear hx
  cases hy : substB ys
  · have HQ := Lib.hid (cs_no2 (xs := xs) hy)
    have HF := Lib.hid (cs_no HQ.out)
    rw [HQ.out]
    go_enter Try.func21, Try.ntmps21
    go_wp2_with fail
    refine HOK.out.mono ?_
    rw [HX.out]
    rintro e w1 ⟨rfl, hb1⟩
    have B1 := Lib.hid (bthen B0.out hb1)
    have P2 := Lib.hid (O2.out.on hb1)
    have P3 := Lib.hid (O3.out.on hb1)
    have c2 := P2.out.cell
    clear hb1
    go_wp2_with fail
    refine (HOK2.out _ ((Rd.new HB.out).on B1.out).at).mono ?_
    rw [hy]
    rintro e w2 ⟨rfl, hb2⟩
    have B2 := Lib.hid (bthen B1.out hb2)
    have Q3 := Lib.hid (P3.out.on hb2)
    have c3 := Q3.out.cell
    have f3 := Q3.out.frozen
    clear hb2 c2
    go_wp2_with fail
    refine bodyPost_ret (v := .tuple #[.agg #[.slice none 0 0], .bool false]) (by simp [results, Try.results21, go_sem, c3]) rfl ?_
    exact ⟨_, rfl, by rw [HF.out]; exact World.ownsRow_nil _ _ _ _, since_set B2.out (by omega) _⟩
  have HY := Lib.hid hy; clear hy
  by_cases hl : xs.length = ys.length
  case neg =>
    have HQ := Lib.hid (cs_no3 hl)
    have HF := Lib.hid (cs_no HQ.out)
    have hne : ((xs.length : Int) != (ys.length : Int)) = true := by rw [bne_iff_ne]; omega
    rw [HQ.out]
    go_enter Try.func21, Try.ntmps21
    go_wp2_with fail
    refine HOK.out.mono ?_
    rw [HX.out]
    rintro e w1 ⟨rfl, hb1⟩
    have B1 := Lib.hid (bthen B0.out hb1)
    have P1 := Lib.hid (O1.out.on hb1)
    have P2 := Lib.hid (O2.out.on hb1)
    have P3 := Lib.hid (O3.out.on hb1)
    have c2 := P2.out.cell
    clear hb1
    go_wp2_with fail
    refine (HOK2.out _ ((Rd.new HB.out).on B1.out).at).mono ?_
    rw [HY.out]
    rintro e w2 ⟨rfl, hb2⟩
    have B2 := Lib.hid (bthen B1.out hb2)
    have Q1 := Lib.hid (P1.out.on hb2)
    have Q2 := Lib.hid (P2.out.on hb2)
    have Q3 := Lib.hid (P3.out.on hb2)
    have c1 := Q1.out.cell
    have c4 := Q2.out.cell
    have c3 := Q3.out.cell
    have f3 := Q3.out.frozen
    clear hb2 c2
    go_wp2_with fail
    refine bodyPost_ret (v := .tuple #[.agg #[.slice none 0 0], .bool false]) (by simp [results, Try.results21, go_sem, c3]) rfl ?_
    exact ⟨_, rfl, by rw [HF.out]; exact World.ownsRow_nil _ _ _ _, since_set B2.out (by omega) _⟩
  have HEND := Lib.hid (cs_end HX.out HY.out hl)
  obtain ⟨h1x, h4x, _⟩ := subst_parts HX.out
  obtain ⟨b, o, cp2, heq, hbB, hcp, hcell⟩ := HA.out.openAt (by omega)
  cases heq
  have HC := Lib.hid hcell; clear hcell
  have HWD := Lib.hid (fun s hs => cs_word HX.out hl (s := s) hs)
  have HLN := Lib.hid (fun s hs => cs_len HX.out HY.out hl (s := s) hs)
  have HSZ := Lib.hid (cs_sizes HX.out HY.out hl)
  have HZL := Lib.hid (show (csZ xs ys).length = xs.length from List.length_map _)
  have hne : ((xs.length : Int) != (ys.length : Int)) = false := by rw [hl]; simp
  have HL := Lib.hid hl; clear hl
  go_enter Try.func21, Try.ntmps21
  go_wp2_with fail
  refine HOK.out.mono ?_
  rw [HX.out]
  rintro e w1 ⟨rfl, hb1⟩
  have B1 := Lib.hid (bthen B0.out hb1)
  have P1 := Lib.hid (O1.out.on hb1)
  have P2 := Lib.hid (O2.out.on hb1)
  have P3 := Lib.hid (O3.out.on hb1)
  have Z1 := Lib.hid (show w.heap.size + 3 ≤ w1.heap.size from by have h := hb1.size; simp only [World.size_alloc] at h; omega)
  have c2 := P2.out.cell
  clear hb1
  go_wp2_with fail
  refine (HOK2.out _ ((Rd.new HB.out).on B1.out).at).mono ?_
  rw [HY.out]
  rintro e w2 ⟨rfl, hb2⟩
  have B2 := Lib.hid (bthen B1.out hb2)
  have Q1 := Lib.hid (P1.out.on hb2)
  have Q2 := Lib.hid (P2.out.on hb2)
  have Q3 := Lib.hid (P3.out.on hb2)
  have Z2 := Lib.hid (Nat.le_trans Z1.out hb2.size)
  have c1 := Q1.out.cell
  have c4 := Q2.out.cell
  have c5 := (Q1.out.alloc (.cells #[.slice none 0 0] 33)).cell
  clear hb2 c2
  go_wp2_with fail
  go_loopw [31] (fun i wr => ∃ (k : Nat) (v : Value), k ≤ xs.length ∧ i = .int .i64 k ∧ One wr w2.heap.size 33 v ∧ One wr (w.heap.size + 1) 33 (.slice A' ys.length cp') ∧ One wr (w.heap.size + 1 + 1) 33 (.slice none 0 0) ∧ wr.ownsRow w.heap.size 9 1 v k (((csZ xs ys).take k).map .string) ∧ Below w.heap.size w wr) (fun i _ => xs.length - (intOf i).toNat)
  case atStart => exact ⟨0, _, Nat.zero_le _, rfl, One.new _ _ _, Q2.out.alloc _, Q3.out.alloc _, World.ownsRow_nil _ _ _ _, bthen B2.out (bnew _ _)⟩
  case round =>
    clear c1 c4 c5
    obtain ⟨k, v, hk, rfl, hone, htwo, hres, hown, hbel⟩ := hrel
    have N1 := Lib.hid hone; have N2 := Lib.hid htwo; have N3 := Lib.hid hres; have NO := Lib.hid hown; have NB := Lib.hid hbel
    clear hone htwo hres hown hbel
    by_cases hlt : k < xs.length
    · have g1 := (NB.out.cell (p := ⟨b, o + k, none⟩) hbB).trans (HC.out k hlt)
      have c5 := N1.out.cell
      have f5 := N1.out.frozen
      have c6 := N2.out.cell
      have HT := Lib.hid (take_map_snoc (appB ys) hlt)
      have hm := List.getElem_mem hlt
      have hcall : ∀ W, Row1 W W.heap.size (.slice A' ys.length cp') (ys.map .string) → Calls Try.prog 42 #[.agg #[.slice A' ys.length cp'], .string xs[k]] W fun e w' => e = .returned (.string (appB ys xs[k])) ∧ Below W.heap.size W w' := fun W hR => apply_any ys (.slice A' ys.length cp') xs[k] W hR HY.out (HWD.out _ hm)
      obtain ⟨t, het⟩ : ∃ t, t = appB ys xs[k] := ⟨_, rfl⟩
      rw [← het] at HT hcall
      have HTC := Lib.hid hcall
      clear hcall het hm
      go_wp2_with fail
      go_region_law (first
        | (refine step_append_lies _ rfl _ _ 31 rfl w.heap.size 9 i0 (.string ByteArray.empty) 1 16 Try.underlying31 HI.out HZ0.out HZ1.out HZ2.out rfl (by decide) _ _ _ rfl (A2.out.alloc _) ⟨_, 0, none⟩ 1 1 [.string t] rfl rfl (cell_one_new _ _ _) (by intro u hu; simp at hu; subst hu; rfl) (by omega) (by unfold maxLen; omega) (by omega) (by have := A3.out.size; simp; omega) _ rfl ?_; intro g c w4 ho3 hg3 _ _; have R1 := Lib.hid ((A4.out.alloc _).grownRow (A2.out.alloc _) types_box hg3); have R2 := Lib.hid ((A5.out.alloc _).grownRow (A2.out.alloc _) types_box hg3); have R3 := Lib.hid ((A6.out.alloc _).grownRow (A2.out.alloc _) types_box hg3); have QB := Lib.hid (since_grown (bthen A3.out (bnew _ _)) hg3 (fun g hg => (own_lt A2.out hg).1)); have QO := Lib.hid ho3; have c7 := R1.out.cell; have f7 := R1.out.frozen; clear ho3 hg3)
        | (go_simp; go_at_call 42; refine (HTC.out _ (((Rd.new HB.out).on NB.out).on (bdrew _)).at).mono ?_; rintro e w3 ⟨rfl, hb3⟩; have A2 := Lib.hid (own_below (own_below NO.out (bdrew _)) hb3); have A3 := Lib.hid (bthen (bthen NB.out (bdrew _)) hb3); have A4 := Lib.hid (N1.out.drew.on hb3); have A5 := Lib.hid (N2.out.drew.on hb3); have A6 := Lib.hid (N3.out.drew.on hb3); have c8 := A4.out.cell; have f8 := A4.out.frozen; have c9 := (A4.out.alloc (.cells #[.string t] 9)).cell; clear hb3))
      all_goals
        go_wp2
        go_roundw
        case rel =>
          refine ⟨k + 1, _, by omega, by go_num, R1.out.set _, R2.out.far ?_ _, R3.out.far ?_ _, ?_, since_set QB.out ?_ _⟩
          · have := Z2.out; simp; omega
          · have := Z2.out; simp; omega
          · have h3 := own_set QO.out (one_ne R1.out QO.out types_box) (.slice (some ⟨g, 0, none⟩) (k + 1) c)
            show World.ownsRow _ _ _ _ _ _ ((List.take (k + 1) (xs.map (appB ys))).map Value.string)
            rw [HT.out]
            exact h3
          · have := Z2.out; omega
        case measure => simp [intOf]; omega
    · obtain rfl : k = xs.length := by omega
      obtain ⟨A2, cv, rfl⟩ := own_shape NO.out
      have hfull : wr.ownsRow w.heap.size 9 1 (.slice A2 xs.length cv) xs.length ((csZ xs ys).map .string) := by
        have h := NO.out; rw [List.take_of_length_le (by rw [HZL.out]; exact Nat.le_refl _)] at h; exact h
      have HFU := Lib.hid hfull; clear hfull
      have HOK3 := Lib.hid (implSubstOk_any (csZ xs ys) (.slice A2 xs.length cv) wr (Row1.own HFU.out (by rw [List.length_map, HZL.out])) HSZ.out)
      have c5 := N1.out.cell
      go_wp2_with fail
      cases hz : substB (csZ xs ys)
      · have HQ := Lib.hid (HEND.out.trans hz)
        have HF := Lib.hid (cs_no HQ.out)
        refine HOK3.out.mono ?_
        rw [hz]
        rintro e w5 ⟨rfl, hb5⟩
        have B5 := Lib.hid (bthen NB.out hb5)
        have M3 := Lib.hid (N3.out.on hb5)
        have c3 := M3.out.cell
        have f3 := M3.out.frozen
        clear hb5 c5
        go_wp2_with fail
        (try simp only [Exit.inBlock, Exit.then])
        refine bodyPost_ret (v := .tuple #[.agg #[.slice none 0 0], .bool false]) (by simp [results, Try.results21, go_sem, c3]) rfl ?_
        exact ⟨_, by rw [HQ.out], by rw [HF.out]; exact World.ownsRow_nil _ _ _ _, since_set B5.out (by omega) _⟩
      · have HQ := Lib.hid (HEND.out.trans hz)
        have HF := Lib.hid (cs_yes HQ.out)
        refine HOK3.out.mono ?_
        rw [hz]
        rintro e w5 ⟨rfl, hb5⟩
        have B5 := Lib.hid (bthen NB.out hb5)
        have M1 := Lib.hid (N1.out.on hb5)
        have M3 := Lib.hid (N3.out.on hb5)
        have MO := Lib.hid (own_below HFU.out hb5)
        have c1 := M1.out.cell
        have c3 := M3.out.cell
        have f3 := M3.out.frozen
        clear hb5 c5
        go_wp2_with fail
        (try simp only [Exit.inBlock, Exit.then])
        refine bodyPost_ret (v := .tuple #[.agg #[.slice A2 xs.length cv], .bool true]) (by simp [results, Try.results21, go_sem, c3]) rfl ?_
        refine ⟨_, by rw [HQ.out], ?_, since_set B5.out (by omega) _⟩
        have h3 := own_set MO.out (one_ne M3.out MO.out types_box) (.slice A2 xs.length cv)
        rw [HF.out, HZL.out]
        exact h3
end Go.Proofs.Ytciiokegifgbdaa
/- Walks: the reference's cursor over bytes, out of which it draws numbers. Conditions: none beyond the hypotheses of each lemma. -/
namespace Go.Proofs.Ytciiokegifgbdaa
open Go.RowKit
set_option maxRecDepth 20000

theorem and_low (a : Int) (m : Nat) (hm : m < 9223372036854775808) : 0 ≤ bits .and .i64 a m ∧ bits .and .i64 a m ≤ m := by
  have h2 : (BitVec.ofInt 64 a &&& BitVec.ofInt 64 (m : Int)).toNat ≤ m := by
    rw [BitVec.toNat_and]
    refine Nat.le_trans Nat.and_le_right ?_
    rw [BitVec.toNat_ofInt]
    omega
  have e : bits .and .i64 a m = IntKind.i64.wrap (((BitVec.ofInt 64 a &&& BitVec.ofInt 64 (m : Int)).toNat : Nat) : Int) := rfl
  rw [e, IntWalk.i64_in _ (by omega)]
  omega
def u8s (ns : List Int) : List Value := ns.map (.int .u8)
/-- the cursor's cells -/
def Cur3 (w : World) (p : Nat) (va : Value) (i : Nat) (h : Int) : Prop := w.heap[p]? = some (.cells #[va, .int .i64 i, .int .i64 h] 67 (0, 0))
section
variable {w w' : World} {p i B : Nat} {h : Int} {va : Value}
theorem Cur3.lt (hc : Cur3 w p va i h) : p < w.heap.size := by
  rcases Nat.lt_or_ge p w.heap.size with hlt | hge
  · exact hlt
  · unfold Cur3 at hc; rw [Array.getElem?_eq_none hge] at hc; cases hc
theorem Cur3.c0 (hc : Cur3 w p va i h) : w.cell? ⟨p, 0, none⟩ = some va := by rw [cell_of_row w p 0 _ _ (0, 0) hc]; rfl
theorem Cur3.c1 (hc : Cur3 w p va i h) : w.cell? ⟨p, 1, none⟩ = some (.int .i64 i) := by rw [cell_of_row w p 1 _ _ (0, 0) hc]; rfl
theorem Cur3.c2 (hc : Cur3 w p va i h) : w.cell? ⟨p, 2, none⟩ = some (.int .i64 h) := by rw [cell_of_row w p 2 _ _ (0, 0) hc]; rfl
theorem Cur3.frozen (hc : Cur3 w p va i h) (j : Nat) : w.frozen? ⟨p, j, none⟩ = false := by unfold Cur3 at hc; simp [World.frozen?, hc]
theorem Cur3.set1 (hc : Cur3 w p va i h) (j : Nat) : Cur3 (w.setCell ⟨p, 1, none⟩ (.int .i64 j)) p va j h := by
  unfold Cur3 at hc ⊢; simp [World.setCell, Array.getElem?_modify, hc]
theorem Cur3.set2 (hc : Cur3 w p va i h) (k : Int) : Cur3 (w.setCell ⟨p, 2, none⟩ (.int .i64 k)) p va i k := by
  unfold Cur3 at hc ⊢; simp [World.setCell, Array.getElem?_modify, hc]
theorem Cur3.drew (hc : Cur3 w p va i h) : Cur3 w.drew p va i h := hc
theorem within_set (w : World) (p j : Nat) (v : Value) : Within p (p + 1) w (w.setCell ⟨p, j, none⟩ v) :=
  ⟨rfl, rfl, rfl, by simp [World.setCell], fun k _ hn => Below.heap_setCell w _ v k (by show k ≠ p; omega)⟩
theorem within_drew (w : World) (lo hi : Nat) : Within lo hi w w.drew := ⟨rfl, rfl, rfl, Nat.le_refl _, fun _ _ _ => rfl⟩
end
/-- a cursor in block p over the bytes ns, which lie below block B -/
structure Cu (B p : Nat) (va : Value) (ns : List Int) (w : World) : Prop where
  rd : Rd B va (u8s ns) w
  le : B ≤ p
  cur : ∃ (i : Nat) (h : Int), i ≤ ns.length ∧ Cur3 w p va i h
theorem Cu.on {B p : Nat} {va : Value} {ns : List Int} {w w' : World} (h : Cu B p va ns w) (hb : Below w.heap.size w w') : Cu B p va ns w' := by
  obtain ⟨i, k, hi, hc⟩ := h.cur
  exact ⟨h.rd.on hb, h.le, i, k, hi, (hb.block p hc.lt).trans hc⟩
theorem Cu.lt {B p : Nat} {va : Value} {ns : List Int} {w : World} (h : Cu B p va ns w) : p < w.heap.size := by
  obtain ⟨i, k, hi, hc⟩ := h.cur
  exact hc.lt
set_option maxHeartbeats 1000000 in
theorem l01Byte_any (B p : Nat) (va : Value) (ns : List Int) (w : World) (hns : ∀ n ∈ ns, 0 ≤ n ∧ n ≤ 255) (hl : ns.length ≤ 1048576) (hc : Cu B p va ns w) :
    Calls Try.prog 55 #[.pointer (some ⟨p, 0, none⟩)] w fun e w' => ∃ x : Int, 0 ≤ x ∧ x ≤ 255 ∧ e = .returned (.int .i64 x) ∧ Cu B p va ns w' ∧ Within p (p + 1) w w' := by
  obtain ⟨i, h, hi, hcur⟩ := hc.cur
  have c0 := hcur.c0; have c1 := hcur.c1; have c2 := hcur.c2; have f2 := hcur.frozen 2; have f1 := hcur.frozen 1
  obtain ⟨H, hH⟩ : ∃ H : Int, wrap64 (wrap64 (h * 6364136223846793005) + 1442695040888963407) = H := ⟨_, rfl⟩
  obtain ⟨X, hX⟩ : ∃ X : Int, bits .and .i64 (bits .xor .i64 (H / 8589934592) (H / 35184372088832)) 255 = X := ⟨_, rfl⟩
  have hX2 : 0 ≤ X ∧ X ≤ 255 := by rw [← hX]; exact and_low _ 255 (by decide)
  have HC2 := Lib.hid (hcur.set2 H)
  have HW2 := Lib.hid (within_set w p 2 (.int .i64 H))
  have HRD := Lib.hid hc.rd
  have HLE := hc.le
  clear hc
  go_enter Try.func55, Try.ntmps55
  go_wp2_with fail
  have d2 := HC2.out.c2
  go_quiet (fail)
  obtain ⟨wa, hwa⟩ : ∃ wa, wa = (w.setCell ⟨p, 2, none⟩ (.int .i64 H)).drewN nq := ⟨_, rfl⟩
  rw [← hwa]
  have HC3 := Lib.hid (show Cur3 wa p va i H by rw [hwa]; exact HC2.out)
  have HW3 := Lib.hid (show Within p (p + 1) w wa by rw [hwa]; exact HW2.out.trans (Within.of_below (bdrewN _ _)))
  have HN := Lib.hid hns
  clear hwa HC2 HW2 c0 c1 c2 f1 f2 d2 hcur hH hX hns
  have HR3 := Lib.hid (HRD.out.within HW3.out HLE)
  clear HRD
  obtain ⟨A, cap, rfl, hcap, hmx, hcell⟩ := HR3.out.row
  have hlen : (u8s ns).length = ns.length := List.length_map _
  rw [hlen] at hcap
  have c0 := HC3.out.c0; rw [hlen] at c0; have c1 := HC3.out.c1; have f1 := HC3.out.frozen 1
  have HCELL := Lib.hid hcell
  clear hcell hmx
  unfold maxLen at *
  by_cases hlt : i < ns.length
  · obtain ⟨b, o, rfl, hbB, hget⟩ := HCELL.out (by intro e; rw [e] at hlen; simp only [List.length_nil] at hlen; omega)
    have hg1 := hget i (.int .u8 ns[i]) (by unfold u8s; simp [hlt])
    have hn := HN.out ns[i] (List.getElem_mem hlt)
    obtain ⟨z, hz⟩ : ∃ z, z = ns[i] := ⟨_, rfl⟩
    rw [← hz] at hg1 hn
    clear hget hz
    obtain ⟨Y, hY⟩ : ∃ Y : Int, bits .and .i64 (X + z) 255 = Y := ⟨_, rfl⟩
    have hY2 : 0 ≤ Y ∧ Y ≤ 255 := by rw [← hY]; exact and_low _ 255 (by decide)
    have hgt : (i : Int) < (ns.length : Int) := by omega
    go_wp2_with fail
    go_quiet (fail)
    go_wp2_with fail
    go_quiet (fail)
    go_wp2_with fail
    go_ret
    exact ⟨Y, hY2.1, hY2.2, rfl, ⟨(HR3.out.on (bdrewN _ _)).within (within_set _ p 1 _) HLE, HLE, i + 1, H, hlt, Cur3.set1 (w := wa.drewN _) HC3.out (i + 1)⟩, (HW3.out.trans (Within.of_below (bdrewN _ _))).trans (within_set _ p 1 _)⟩
  · have hgt : ¬ (i : Int) < (ns.length : Int) := by omega
    have hgf : decide ((i : Int) < (ns.length : Int)) = false := decide_eq_false hgt
    go_wp2_with fail
    go_quiet (fail)
    go_wp2_with fail
    go_ret
    exact ⟨X, hX2.1, hX2.2, rfl, ⟨HR3.out.on (bdrewN _ _), HLE, i, H, hi, HC3.out⟩, HW3.out.trans (Within.of_below (bdrewN _ _))⟩
/-- the byte cells of a slice -/
theorem u8_at {w : World} {B : Nat} {va : Value} {ns : List Int} (h : Row1 w B va (u8s ns)) : ∃ A c, va = .slice A ns.length c ∧ ns.length ≤ c ∧ ∀ (k : Nat) (hk : k < ns.length), ∃ b o, A = some ⟨b, o, none⟩ ∧ w.cell? ⟨b, o + k, none⟩ = some (.int .u8 ns[k]) := by
  obtain ⟨A, c, rfl, hc, _, hA⟩ := h
  have hlen : (u8s ns).length = ns.length := List.length_map _
  rw [hlen] at hc
  refine ⟨A, c, by rw [hlen], hc, fun k hk => ?_⟩
  obtain ⟨b, o, rfl, _, hget⟩ := hA (by intro e; rw [e] at hlen; simp only [List.length_nil] at hlen; omega)
  exact ⟨b, o, rfl, hget k _ (by unfold u8s; simp [hk])⟩
set_option maxHeartbeats 1000000 in
theorem l01New_any (va : Value) (ns : List Int) (w : World) (hns : ∀ n ∈ ns, 0 ≤ n ∧ n ≤ 255) (hl : ns.length ≤ 1048576) (ha : Row1 w w.heap.size va (u8s ns)) :
    Calls Try.prog 54 #[va] w fun e w' => ∃ p, e = .returned (.pointer (some ⟨p, 0, none⟩)) ∧ Cu w.heap.size p va ns w' ∧ Below w.heap.size w w' := by
  have HR := Lib.hid (Rd.new ha)
  obtain ⟨A, cap, rfl, hcap, hat⟩ := u8_at ha
  have HAT := Lib.hid hat; have HN := Lib.hid hns
  clear ha hat hns
  go_enter Try.func54, Try.ntmps54
  go_wp2_with fail
  go_loop [3, 4] (fun q i => ∃ (k : Nat) (h : Int), k ≤ ns.length ∧ q = .int .i64 h ∧ i = .int .i64 k ∧ 0 ≤ h ∧ h ≤ 1073741823) (fun _ i => ns.length - (intOf i).toNat)
  case atStart => exact ⟨0, 2174 + ns.length, Nat.zero_le _, by first | rfl | go_num, rfl, by omega, by omega⟩
  case round =>
    obtain ⟨k, h, hk, rfl, rfl, h0, h1⟩ := hrel
    by_cases hlt : k < ns.length
    · by_cases h4 : k < 4000
      · obtain ⟨b, o, rfl, g1⟩ := HAT.out k hlt
        have hn := HN.out ns[k] (List.getElem_mem hlt)
        obtain ⟨z, hz⟩ : ∃ z, z = ns[k] := ⟨_, rfl⟩
        rw [← hz] at g1 hn
        obtain ⟨Y, hY⟩ : ∃ Y : Int, bits .and .i64 (h * 181 + z + 7) 1073741823 = Y := ⟨_, rfl⟩
        have hY2 : 0 ≤ Y ∧ Y ≤ 1073741823 := by rw [← hY]; exact and_low _ 1073741823 (by decide)
        clear hz
        go_wp2_with fail
        go_round
        case rel => exact ⟨k + 1, Y, by omega, rfl, by go_num, hY2.1, hY2.2⟩
        case measure => simp [intOf]; omega
      · go_wp2_with fail
        go_ret
        exact ⟨w.heap.size, rfl, ⟨HR.out.on (bnew _ _), Nat.le_refl _, 0, h, Nat.zero_le _, by unfold Cur3; rw [heap_alloc_new]; simp⟩, bnew _ _⟩
    · obtain rfl : k = ns.length := by omega
      go_wp2_with fail
      go_ret
      exact ⟨w.heap.size, rfl, ⟨HR.out.on (bnew _ _), Nat.le_refl _, 0, h, Nat.zero_le _, by unfold Cur3; rw [heap_alloc_new]; simp⟩, bnew _ _⟩
set_option maxHeartbeats 1000000 in
theorem l31New_any (va : Value) (ns : List Int) (m : Nat) (w : World) (hns : ∀ n ∈ ns, 0 ≤ n ∧ n ≤ 255) (hl : ns.length ≤ 1048576) (hm : m ≤ 100) (ha : Row1 w w.heap.size va (u8s ns)) :
    Calls Try.prog 38 #[va, .int .i64 m] w fun e w' => ∃ p, e = .returned (.pointer (some ⟨p, 0, none⟩)) ∧ Cu w.heap.size p va ns w' ∧ Below w.heap.size w w' := by
  have HC := Lib.hid (l01New_any va ns w hns hl ha)
  have HB := Lib.hid (fun B p W hcu => l01Byte_any B p va ns W hns hl hcu)
  clear ha hns
  go_enter Try.func38, Try.ntmps38
  go_wp2_with fail
  refine HC.out.mono ?_
  rintro e w1 ⟨p, rfl, hcu, hb⟩
  have C1 := Lib.hid hcu; have B1 := Lib.hid hb
  clear hcu hb
  go_wp2_with fail
  go_loopw [6] (fun i wr => ∃ k : Nat, k ≤ m ∧ i = .int .i64 k ∧ Cu w.heap.size p va ns wr ∧ Below w.heap.size w wr) (fun i _ => m - (intOf i).toNat)
  case atStart => exact ⟨0, Nat.zero_le _, rfl, C1.out, B1.out⟩
  case round =>
    obtain ⟨k, hk, rfl, hcu, hb⟩ := hrel
    have C2 := Lib.hid hcu; have B2 := Lib.hid hb
    clear hcu hb
    by_cases hlt : k < m
    · go_wp2_with fail
      refine (HB.out _ _ _ C2.out).mono ?_
      rintro e w2 ⟨x, hx0, hx1, rfl, hcu, hw⟩
      have C3 := Lib.hid hcu
      have B3 := Lib.hid (since_in B2.out hw C2.out.le)
      clear hcu hw
      go_wp2_with fail
      go_roundw
      case rel => exact ⟨k + 1, by omega, by go_num, C3.out, B3.out⟩
      case measure => simp [intOf]; omega
    · obtain rfl : k = m := by omega
      go_wp2_with fail
      go_ret
      exact ⟨p, rfl, C2.out, B2.out⟩
set_option maxHeartbeats 1000000 in
theorem l01Below_any (B p : Nat) (va : Value) (ns : List Int) (n : Nat) (w : World) (hns : ∀ n ∈ ns, 0 ≤ n ∧ n ≤ 255) (hl : ns.length ≤ 1048576) (h1 : 1 ≤ n) (h2 : n ≤ 256) (hc : Cu B p va ns w) :
    Calls Try.prog 43 #[.pointer (some ⟨p, 0, none⟩), .int .i64 n] w fun e w' => ∃ x : Nat, x < n ∧ e = .returned (.int .i64 x) ∧ Cu B p va ns w' ∧ Within p (p + 1) w w' := by
  have HB := Lib.hid (fun W hcu => l01Byte_any B p va ns W hns hl hcu)
  have HC := Lib.hid hc
  clear hc hns
  go_enter Try.func43, Try.ntmps43
  go_wp2_with fail
  refine (HB.out _ HC.out).mono ?_
  rintro e w1 ⟨x, hx0, hx1, rfl, hcu, hw⟩
  have C1 := Lib.hid hcu; have W1 := Lib.hid hw
  clear hcu hw
  go_wp2_with fail
  go_ret
  obtain ⟨y, hy⟩ : ∃ y : Nat, x % (n : Int) = (y : Int) := ⟨(x % (n : Int)).toNat, by have := Int.emod_nonneg x (show (n : Int) ≠ 0 by omega); omega⟩
  have hlt : x % (n : Int) < (n : Int) := Int.emod_lt_of_pos x (by omega)
  exact ⟨y, by omega, by simp only [hy]; rfl, C1.out, W1.out⟩
/-- a block that holds these strings -/
def StrB (w : World) (g : Nat) (l : List ByteArray) : Prop := w.heap[g]? = some (.cells (l.map Value.string).toArray 9 (0, 0))
theorem StrB.cell {w : World} {g : Nat} {l : List ByteArray} (h : StrB w g l) (k : Nat) (hk : k < l.length) : w.cell? ⟨g, k, none⟩ = some (.string l[k]) := by
  rw [cell_of_row w g k _ _ (0, 0) h]; simp [hk]
set_option maxHeartbeats 1000000 in
theorem l01Str_any (B p g : Nat) (va : Value) (ns : List Int) (l : List ByteArray) (w : World) (hns : ∀ n ∈ ns, 0 ≤ n ∧ n ≤ 255) (hl : ns.length ≤ 1048576) (h1 : 1 ≤ l.length) (h2 : l.length ≤ 256) (hc : Cu B p va ns w) (hb : StrB w g l) (hg : g ≠ p) :
    Calls Try.prog 52 #[.pointer (some ⟨p, 0, none⟩), .slice (some ⟨g, 0, none⟩) l.length l.length] w fun e w' => ∃ s ∈ l, e = .returned (.string s) ∧ Cu B p va ns w' ∧ Within p (p + 1) w w' := by
  have hglt : g < w.heap.size := by
    rcases Nat.lt_or_ge g w.heap.size with hlt | hge
    · exact hlt
    · unfold StrB at hb; rw [Array.getElem?_eq_none hge] at hb; cases hb
  have HC := Lib.hid hc
  have HB := Lib.hid hb
  have HBL := Lib.hid (fun W hcu => l01Below_any B p va ns l.length W hns hl h1 h2 hcu)
  clear hc hb hns
  go_enter Try.func52, Try.ntmps52
  go_wp2_with fail
  refine (HBL.out _ HC.out).mono ?_
  rintro e w1 ⟨x, hx, rfl, hcu, hw⟩
  have C1 := Lib.hid hcu; have W1 := Lib.hid hw
  have g1 := StrB.cell (show StrB w1 g l from (hw.block g hglt (by omega)).trans HB.out) x hx
  clear hcu hw
  go_wp2_with fail
  go_ret
  exact ⟨l[x], List.getElem_mem hx, rfl, C1.out, W1.out⟩
end Go.Proofs.Ytciiokegifgbdaa
/- Walks: a string split at every byte that occurs in another one. -/
namespace Go.Proofs.Ytciiokegifgbdaa
open Go.RowKit
set_option maxRecDepth 20000

/-- the parts so far, and where the next one begins, after k bytes -/
def splitSt (s : ByteArray) (p : UInt8 → Bool) : Nat → List ByteArray × Nat
  | 0 => ([], 0)
  | k + 1 => if p (s.data.toList.getD k 0) = true then ((splitSt s p k).1 ++ [s.extract (splitSt s p k).2 k], k + 1) else splitSt s p k
/-- what SplitAny returns -/
def splitR (s : ByteArray) (p : UInt8 → Bool) : List ByteArray := (splitSt s p s.size).1 ++ [s.extract (splitSt s p s.size).2 s.size]
theorem getD_byte (s : ByteArray) (k : Nat) (h : k < s.size) : s.data.toList.getD k 0 = s[k] := by
  rw [List.getD_eq_getElem?_getD, List.getElem?_eq_getElem (by rw [← Lib.size_eq]; exact h)]; rfl
theorem split_yes {s : ByteArray} {p : UInt8 → Bool} {k : Nat} (hk : k < s.size) (h : p s[k] = true) : splitSt s p (k + 1) = ((splitSt s p k).1 ++ [s.extract (splitSt s p k).2 k], k + 1) := by
  rw [splitSt, getD_byte s k hk, if_pos h]
theorem split_no {s : ByteArray} {p : UInt8 → Bool} {k : Nat} (hk : k < s.size) (h : p s[k] = false) : splitSt s p (k + 1) = splitSt s p k := by
  rw [splitSt, getD_byte s k hk, if_neg (by simp [h])]
theorem split_le (s : ByteArray) (p : UInt8 → Bool) : ∀ k, (splitSt s p k).1.length ≤ k ∧ (splitSt s p k).2 ≤ k
  | 0 => ⟨Nat.le_refl _, Nat.le_refl _⟩
  | k + 1 => by
    have := split_le s p k
    rw [splitSt]
    split
    · simp; omega
    · omega
theorem info_str : (Try.prog.info? 9).map (fun i => (i.zero, i.size, i.bytes)) = some (some (.string ByteArray.empty), 1, 16) := by kernel_rfl

theorem indexByte_has (l : List UInt8) (c : UInt8) : (l.contains c = true → 0 ≤ Lib.indexByte l c) ∧ (l.contains c = false → Lib.indexByte l c = -1) := by
  induction l with
  | nil => exact ⟨(fun h => by cases h), fun _ => rfl⟩
  | cons a l ih =>
    unfold Lib.indexByte
    by_cases h : a = c
    · subst h; simp
    · have h1 : (a == c) = false := beq_eq_false_iff_ne.2 h
      have h2 : (c == a) = false := beq_eq_false_iff_ne.2 (fun e => h e.symm)
      rw [List.contains_cons, h1, h2, Bool.false_or]
      refine ⟨fun hh => ?_, fun hh => ?_⟩
      · have := ih.1 hh
        have hn : (Lib.indexByte l c == -1) = false := by rw [beq_eq_false_iff_ne]; omega
        simp [hn]; omega
      · have := ih.2 hh
        simp [this]
theorem has_next {f : ByteArray} {j : Nat} {x : UInt8} (hj : j < f.size) (h : (f.data.toList.take j).contains x = false) : (f[j] = x → f.data.toList.contains x = true) ∧ (f[j] ≠ x → (f.data.toList.take (j + 1)).contains x = false) := by
  have hj' : j < f.data.toList.length := by rw [← Lib.size_eq]; exact hj
  have e : f.data.toList[j] = f[j] := rfl
  refine ⟨fun hx => ?_, fun hx => ?_⟩
  · rw [List.contains_iff_mem, ← hx, ← e]; exact List.getElem_mem _
  · rw [List.take_succ_eq_append_getElem hj', e]
    rw [← Bool.not_eq_true, List.contains_iff_mem] at h ⊢
    simp only [List.mem_append, List.mem_singleton]
    rintro (h1 | h1)
    · exact h h1
    · exact hx h1.symm
set_option maxHeartbeats 1000000 in
theorem specSplitAny_any (s f : ByteArray) (w : World) (hs : s.size ≤ 1048576) (hf : f.size ≤ 1048576) :
    Calls Try.prog 63 #[.string s, .string f] w fun e w' => ∃ v, e = .returned v ∧ w'.ownsRow w.heap.size 9 1 v (splitR s f.data.toList.contains).length ((splitR s f.data.toList.contains).map .string) ∧ Below w.heap.size w w' := by
  obtain ⟨i0, hi, hz0, hz1, hz2⟩ := info_parts info_str
  have HI := Lib.hid hi; have HZ0 := Lib.hid hz0; have HZ1 := Lib.hid hz1; have HZ2 := Lib.hid hz2
  clear hi hz0 hz1 hz2
  have hb0 : Below w.heap.size w (w.alloc (.cells #[] 9)) := (Below.refl _ _).alloc (Nat.le_refl _) _
  have hown0 := World.ownsRow_made (base := w.heap.size) (e := 9) (size := 1) w #[] 0 (Nat.le_refl _) (Nat.zero_le _) rfl
  have HB0 := Lib.hid hb0; have HO0 := Lib.hid hown0; clear hb0 hown0
  have HR := Lib.hid (show splitR s f.data.toList.contains = (splitSt s f.data.toList.contains s.size).1 ++ [s.extract (splitSt s f.data.toList.contains s.size).2 s.size] from rfl)
  obtain ⟨p, hp⟩ : ∃ p, p = f.data.toList.contains := ⟨_, rfl⟩
  rw [← hp] at HR ⊢
  have HP := Lib.hid hp; clear hp
  go_enter Try.func63, Try.ntmps63
  go_wp2_with fail
  go_loopw [5, 6, 7] (fun v a i wr => ∃ k : Nat, k ≤ s.size ∧ i = .int .i64 k ∧ a = .int .i64 (splitSt s p k).2 ∧ wr.ownsRow w.heap.size 9 1 v (splitSt s p k).1.length ((splitSt s p k).1.map .string) ∧ Below w.heap.size w wr) (fun _ _ i _ => s.size - (intOf i).toNat)
  case atStart => exact ⟨0, Nat.zero_le _, rfl, rfl, by simpa [splitSt] using HO0.out, HB0.out⟩
  case round =>
    obtain ⟨k, hk, rfl, rfl, ho, hbel⟩ := hrel
    have HO := Lib.hid ho; have HB := Lib.hid hbel; clear ho hbel
    obtain ⟨hl1, hl2⟩ := split_le s p k
    by_cases hlt : k < s.size
    · have hk0 : 0 < s.size := by omega
      go_wp2_with fail
      go_loopw [5, 6, 8] (fun v a b wr => ∃ j : Nat, j ≤ f.size ∧ b = .int .i64 j ∧ a = .int .i64 (splitSt s p k).2 ∧ (f.data.toList.take j).contains s[k] = false ∧ wr.ownsRow w.heap.size 9 1 v (splitSt s p k).1.length ((splitSt s p k).1.map .string) ∧ Below w.heap.size w wr) (fun _ _ b _ => f.size - (intOf b).toNat)
      case atStart => exact ⟨0, Nat.zero_le _, rfl, rfl, rfl, HO.out, HB.out⟩
      case round =>
        clear HO HB
        obtain ⟨j, hj, rfl, rfl, hnone, ho, hbel⟩ := hrel
        have HO := Lib.hid ho; have HB := Lib.hid hbel; clear ho hbel
        by_cases hjt : j < f.size
        · have hf0 : 0 < f.size := by omega
          obtain ⟨n1, n2⟩ := has_next hjt hnone
          by_cases hc : s[k] = f[j]
          · have hst : p s[k] = true := by rw [HP.out]; exact n1 hc.symm
            have HN := Lib.hid (split_yes hlt hst)
            have b1 : ((s[k].toNat : Int) == (f[j].toNat : Int)) = true := by rw [hc]; exact beq_iff_eq.2 rfl
            clear hc n1 n2 hst hnone
            go_wp2_with fail
            go_quiet (fail)
            go_wp2_with (at_builtin; refine wpList_append_own _ rfl _ _ 31 rfl w.heap.size 9 i0 (.string ByteArray.empty) 1 16 Try.underlying31 HI.out HZ0.out HZ1.out HZ2.out rfl (by decide) _ _ _ rfl (HO.out.alloc _) ⟨_, 0, none⟩ 1 1 [.string (s.extract (splitSt s p k).2 k)] rfl rfl ?c1 ?c2 ?c3 ?c4 ?c5 ?_)
            case c1 => exact cell_one_new _ _ _
            case c2 => intro u hu; simp at hu; subst hu; rfl
            case c3 => unfold maxLen; omega
            case c4 => omega
            case c5 => have := HB.out.size; simp; omega
            intro v' w1 hown' hgrow _
            have HB1 := Lib.hid (((below_drewN HB.out _).alloc (show w.heap.size ≤ _ from HB.out.size) _).grown hgrow (by have := HB.out.size; simp; omega) (fun g hg => (HO.out.lt g hg).1))
            have HO1 := Lib.hid hown'
            clear hown' hgrow
            go_wp2
            go_roundw
            case rel => exact ⟨k + 1, by omega, by go_num, by rw [HN.out]; go_num, by rw [HN.out, List.length_append, List.map_append]; exact HO1.out, HB1.out⟩
            case measure => simp [intOf]; omega
          · have HN := Lib.hid (n2 (fun h => hc h.symm))
            have b1 : ((s[k].toNat : Int) == (f[j].toNat : Int)) = false := by
              rw [beq_eq_false_iff_ne]; intro h; exact hc (UInt8.toNat_inj.1 (by omega))
            clear hc n1 n2 hnone
            go_wp2_with fail
            go_quiet (fail)
            go_wp2
            go_roundw
            case rel => exact ⟨j + 1, by omega, by go_num, rfl, HN.out, own_drewN HO.out _, below_drewN HB.out _⟩
            case measure => simp [intOf]; omega
        · have hst : p s[k] = false := by
            rw [HP.out]
            rw [List.take_of_length_le (by rw [← Lib.size_eq]; omega)] at hnone
            exact hnone
          have HN := Lib.hid (split_no hlt hst)
          clear hst hnone
          go_wp2
          go_roundw
          case rel => exact ⟨k + 1, by omega, by go_num, by rw [HN.out], by rw [HN.out]; exact HO.out, HB.out⟩
          case measure => simp [intOf]; omega
    · obtain rfl : k = s.size := by omega
      go_wp2_with (at_builtin; refine wpList_append_own _ rfl _ _ 31 rfl w.heap.size 9 i0 (.string ByteArray.empty) 1 16 Try.underlying31 HI.out HZ0.out HZ1.out HZ2.out rfl (by decide) _ _ _ rfl (HO.out.alloc _) ⟨_, 0, none⟩ 1 1 [.string (s.extract (splitSt s p s.size).2 s.size)] rfl rfl ?c1 ?c2 ?c3 ?c4 ?c5 ?_)
      case c1 => exact cell_one_new _ _ _
      case c2 => intro u hu; simp at hu; subst hu; rfl
      case c3 => unfold maxLen; omega
      case c4 => omega
      case c5 => have := HB.out.size; simp; omega
      intro v' w1 hown' hgrow _
      have HB1 := Lib.hid ((HB.out.alloc HB.out.size _).grown hgrow (by have := HB.out.size; simp; omega) (fun g hg => (HO.out.lt g hg).1))
      have HO1 := Lib.hid hown'
      clear hown' hgrow
      go_wp2
      go_ret
      exact ⟨_, rfl, by rw [HR.out, List.length_append, List.map_append]; exact HO1.out, HB1.out⟩
end Go.Proofs.Ytciiokegifgbdaa
/- Plain mathematics: a list of bytes cut at every occurrence of one byte; joined again it is what it was. Conditions: none beyond the hypotheses of each lemma. -/
namespace Go.Proofs.Ytciiokegifgbdaa

def consH (x : UInt8) : List (List UInt8) → List (List UInt8)
  | [] => [[x]]
  | h :: t => (x :: h) :: t
/-- the parts between the bytes c -/
def spl (c : UInt8) : List UInt8 → List (List UInt8)
  | [] => [[]]
  | x :: r => if x = c then [] :: spl c r else consH x (spl c r)
def snocL (x : UInt8) : List (List UInt8) → List (List UInt8)
  | [] => [[x]]
  | [y] => [y ++ [x]]
  | h :: h2 :: t => h :: snocL x (h2 :: t)
theorem spl_ne (c : UInt8) : ∀ l, spl c l ≠ []
  | [] => by simp [spl]
  | x :: r => by
    unfold spl
    split
    · simp
    · cases spl c r <;> simp [consH]
theorem snocL_end (x : UInt8) (y : List UInt8) : ∀ L : List (List UInt8), snocL x (L ++ [y]) = L ++ [y ++ [x]]
  | [] => rfl
  | [a] => rfl
  | a :: b :: L => by
    have := snocL_end x y (b :: L)
    simp only [List.cons_append, snocL] at this ⊢
    rw [this]
theorem spl_snoc (c x : UInt8) : ∀ l : List UInt8, spl c (l ++ [x]) = if x = c then spl c l ++ [[]] else snocL x (spl c l)
  | [] => by
    simp only [List.nil_append, spl]
    split
    · rfl
    · rfl
  | a :: l => by
    have ih := spl_snoc c x l
    rw [List.cons_append, spl, spl, ih]
    match h : spl c l, spl_ne c l with
    | y :: t, _ =>
      by_cases hx : x = c
      · rw [if_pos hx, if_pos hx]
        by_cases ha : a = c
        · rw [if_pos ha, if_pos ha]; rfl
        · rw [if_neg ha, if_neg ha]; rfl
      · rw [if_neg hx, if_neg hx]
        by_cases ha : a = c
        · rw [if_pos ha, if_pos ha]; rfl
        · rw [if_neg ha, if_neg ha]
          cases t <;> rfl
theorem join_spl (c : UInt8) : ∀ l : List UInt8, Lib.join (spl c l) [c] = l
  | [] => by simp [spl, Lib.join_one]
  | x :: r => by
    have ih := join_spl c r
    rw [spl]
    match h : spl c r, spl_ne c r with
    | y :: t, _ =>
      rw [h, Lib.join_cons] at ih
      by_cases hx : x = c
      · rw [if_pos hx, Lib.join_cons]
        have e : Lib.joinTail [c] (y :: t) = [c] ++ y ++ Lib.joinTail [c] t := by simp [Lib.joinTail]
        rw [e, List.nil_append, List.append_assoc, ih, hx]; rfl
      · rw [if_neg hx]
        show Lib.join ((x :: y) :: t) [c] = x :: r
        rw [Lib.join_cons, List.cons_append, ih]
/-- the library's cut is this cut -/
theorem splitK_spl (c : UInt8) : ∀ l : List UInt8, Lib.splitK [c] 0 (Lib.count l [c]) l = spl c l
  | [] => by rw [Lib.count_miss (by simp [Lib.index])]; rfl
  | x :: r => by
    have ih := splitK_spl c r
    by_cases hx : x = c
    · subst hx
      rw [Lib.count_cons_eq, Nat.add_comm, Lib.splitK, spl, if_pos rfl]
      have hix : Lib.index (x :: r) [x] = 0 := by rw [Lib.index]; simp [List.isPrefixOf]
      rw [hix, if_neg (by decide)]
      simp [ih]
    · rw [Lib.count_cons_ne x c r hx, spl, if_neg hx, ← ih]
      have hp : ([c] : List UInt8).isPrefixOf (x :: r) = false := by simp [List.isPrefixOf, Ne.symm hx]
      have hix : Lib.index (x :: r) [c] = if Lib.index r [c] == -1 then -1 else Lib.index r [c] + 1 := by rw [Lib.index, hp]; simp
      cases hk : Lib.count r [c] with
      | zero => rfl
      | succ k =>
        have hne : Lib.index r [c] ≠ -1 := fun e => by rw [Lib.count_miss e] at hk; omega
        have hge := Lib.index_ge r [c]
        obtain ⟨j, hj⟩ : ∃ j : Nat, Lib.index r [c] = j := ⟨(Lib.index r [c]).toNat, by omega⟩
        have hix' : Lib.index (x :: r) [c] = ((j + 1 : Nat) : Int) := by rw [hix, if_neg (fun e => hne (beq_iff_eq.1 e)), hj]; omega
        rw [Lib.splitK, Lib.splitK, if_neg (fun e => by have := beq_iff_eq.1 e; omega), if_neg (fun e => hne (beq_iff_eq.1 e)), hix', hj]
        simp [consH]
theorem splitB_spl (c : UInt8) (s : ByteArray) : (Lib.splitB ⟨#[c]⟩ 0 (Lib.count s.data.toList [c]) s).map (·.data.toList) = spl c s.data.toList := by
  rw [Lib.splitB_data]
  exact splitK_spl c _
/-- the cut by a loop is this cut -/
theorem splitSt_spl (s : ByteArray) (c : UInt8) (p : UInt8 → Bool) (hp : ∀ x, p x = decide (x = c)) : ∀ k, k ≤ s.size → (splitSt s p k).1.map (·.data.toList) ++ [(s.data.toList.take k).drop (splitSt s p k).2] = spl c (s.data.toList.take k)
  | 0, _ => by simp [splitSt, spl]
  | k + 1, hk => by
    have ih := splitSt_spl s c p hp k (by omega)
    have hlt : k < s.size := by omega
    have hl := split_le s p k
    have hlen : (s.data.toList.take k).length = k := by rw [List.length_take, ← Lib.size_eq]; omega
    rw [take_snoc s k hlt, spl_snoc]
    by_cases hx : s[k] = c
    · rw [if_pos hx, split_yes hlt (by rw [hp, decide_eq_true hx]), ← ih]
      have e1 : (s.data.toList.take k ++ [s[k]]).drop (k + 1) = [] := List.drop_eq_nil_of_le (by rw [List.length_append, hlen]; simp)
      rw [e1, List.map_append]
      congr 2
      show [(s.extract (splitSt s p k).2 k).data.toList] = _
      rw [Lib.extract_data, List.drop_take]
    · rw [if_neg hx, split_no hlt (by rw [hp, decide_eq_false hx]), ← ih, snocL_end, List.drop_append_of_le_length (by rw [hlen]; exact hl.2)]
theorem splitR_spl (s : ByteArray) (c : UInt8) (p : UInt8 → Bool) (hp : ∀ x, p x = decide (x = c)) : (splitR s p).map (·.data.toList) = spl c s.data.toList := by
  have h := splitSt_spl s c p hp s.size (Nat.le_refl _)
  rw [take_all s s.size (Nat.le_refl _)] at h
  rw [← h]
  unfold splitR
  rw [List.map_append]
  congr 2
  show [(s.extract (splitSt s p s.size).2 s.size).data.toList] = _
  rw [Lib.extract_to_end]
theorem one_has (c x : UInt8) : (⟨#[c]⟩ : ByteArray).data.toList.contains x = decide (x = c) := by
  show ([c] : List UInt8).contains x = decide (x = c)
  rw [List.contains_cons, List.contains_nil, Bool.or_false]
  by_cases h : x = c
  · rw [decide_eq_true h]; exact beq_iff_eq.2 h
  · rw [decide_eq_false h]; exact beq_eq_false_iff_ne.2 h
theorem lists_inj : ∀ {a b : List ByteArray}, a.map (·.data.toList) = b.map (·.data.toList) → a = b
  | [], [], _ => rfl
  | [], _ :: _, h => by cases h
  | _ :: _, [], h => by cases h
  | x :: a, y :: b, h => by
    simp only [List.map_cons, List.cons.injEq] at h
    rw [lists_inj h.2]
    have : x = y := by apply ByteArray.ext; apply Array.ext'; exact h.1
    rw [this]
/-- the parts as strings -/
def splB (c : UInt8) (s : ByteArray) : List ByteArray := (spl c s.data.toList).map fun l => ⟨l.toArray⟩
theorem splB_lists (c : UInt8) (s : ByteArray) : (splB c s).map (·.data.toList) = spl c s.data.toList := by
  unfold splB
  rw [List.map_map]
  have : ((fun x : ByteArray => x.data.toList) ∘ fun l : List UInt8 => (⟨l.toArray⟩ : ByteArray)) = id := by funext l; rfl
  rw [this, List.map_id]
theorem splitB_splB (c : UInt8) (s : ByteArray) : Lib.splitB ⟨#[c]⟩ 0 (Lib.count s.data.toList [c]) s = splB c s := lists_inj ((splitB_spl c s).trans (splB_lists c s).symm)
theorem splitR_splB (c : UInt8) (s : ByteArray) : splitR s (⟨#[c]⟩ : ByteArray).data.toList.contains = splB c s := lists_inj ((splitR_spl s c _ (one_has c)).trans (splB_lists c s).symm)
end Go.Proofs.Ytciiokegifgbdaa
/- Walks: strings put one after the other with a string between them. -/
namespace Go.Proofs.Ytciiokegifgbdaa
open Go.RowKit
set_option maxRecDepth 20000

def jl (xs : List ByteArray) : List (List UInt8) := xs.map (·.data.toList)
/-- what Join returns -/
def joinR (xs : List ByteArray) (f : ByteArray) : ByteArray := ⟨(Lib.join (jl xs) f.data.toList).toArray⟩
theorem lens_bytes : ∀ xs : List ByteArray, Lib.lens (jl xs) = bytesOf xs
  | [] => rfl
  | a :: l => by
    have := lens_bytes l
    simp only [Lib.lens, jl, List.map_cons, List.sum_cons, bytesOf] at this ⊢
    rw [this, ← Lib.size_eq]
theorem join_len (xs : List ByteArray) (f : ByteArray) : (Lib.join (jl xs) f.data.toList).length ≤ f.size * xs.length + bytesOf xs := by
  cases xs with
  | nil => simp [jl, Lib.join_nil]
  | cons a l =>
    show (Lib.join (a.data.toList :: jl l) f.data.toList).length ≤ _
    rw [Lib.join_length]
    have h1 := lens_bytes (a :: l)
    have h2 : (a.data.toList :: jl l) = jl (a :: l) := rfl
    rw [h2, h1, ← Lib.size_eq]
    have h3 : (jl l).length = l.length := by simp [jl]
    rw [h3, List.length_cons]
    have : f.size * l.length ≤ f.size * (l.length + 1) := Nat.mul_le_mul_left _ (Nat.le_succ _)
    omega
theorem join_snoc (l : List (List UInt8)) (y sep : List UInt8) (h : l ≠ []) : Lib.join (l ++ [y]) sep = Lib.join l sep ++ sep ++ y := by
  cases l with
  | nil => exact absurd rfl h
  | cons a r =>
    rw [List.cons_append, Lib.join_cons, Lib.join_cons]
    simp [Lib.joinTail, List.append_assoc]
theorem bytesOf_take (xs : List ByteArray) (k : Nat) : bytesOf (xs.take k) ≤ bytesOf xs := by
  have h := congrArg bytesOf (List.take_append_drop k xs)
  rw [bytesOf_append] at h; omega
theorem take_jl (xs : List ByteArray) (k : Nat) (h : k < xs.length) : jl (xs.take (k + 1)) = jl (xs.take k) ++ [xs[k].data.toList] := by
  unfold jl; rw [List.take_succ_eq_append_getElem h, List.map_append]; rfl
set_option maxHeartbeats 1000000 in
theorem specJoin_any (xs : List ByteArray) (va : Value) (f : ByteArray) (w : World) (ha : Row1 w w.heap.size va (xs.map .string)) (hx : xs.length + bytesOf xs ≤ 1048576) (hf : f.size ≤ 1048576) :
    Calls Try.prog 72 #[va, .string f] w fun e w' => e = .returned (.string (joinR xs f)) ∧ w' = w := by
  have hbnd : ∀ k, k ≤ xs.length → (Lib.join (jl (xs.take k)) f.data.toList).length ≤ 1099512676352 := fun k hk => by
    have h1 := join_len (xs.take k) f
    have h2 := bytesOf_take xs k
    have h3 : (xs.take k).length ≤ 1048576 := by rw [List.length_take]; omega
    have hmul : f.size * (xs.take k).length ≤ 1048576 * 1048576 := Nat.mul_le_mul hf h3
    omega
  have HB := Lib.hid hbnd
  have hsmall : ∀ k (h : k < xs.length), xs[k].size ≤ 1048576 := fun k h => by
    have h1 := bytesOf_step xs k h
    have h2 := bytesOf_take xs (k + 1)
    omega
  have HS := Lib.hid hsmall
  have HA := Lib.hid ha
  obtain ⟨A, c, rfl⟩ := ha.shape
  clear hbnd hsmall ha
  have hxl : xs.length ≤ 1048576 := by omega
  clear hx
  go_enter Try.func72, Try.ntmps72
  go_wp2_with fail
  go_loop [5, 10] (fun v i => ∃ (k : Nat) (out : ByteArray), k ≤ xs.length ∧ i = .int .i64 k ∧ v = .string out ∧ out.data.toList = Lib.join (jl (xs.take k)) f.data.toList) (fun _ i => xs.length - (intOf i).toNat)
  case atStart => exact ⟨0, ⟨#[]⟩, Nat.zero_le _, rfl, rfl, rfl⟩
  case round =>
    obtain ⟨k, out, hk, rfl, rfl, ho⟩ := hrel
    have hsz : out.size ≤ 1099512676352 := by rw [Lib.size_eq, ho]; exact HB.out k hk
    have HO := Lib.hid ho; clear ho
    by_cases hlt : k < xs.length
    · obtain ⟨b, o, c', hA, hb, hc, hcell⟩ := HA.out.openAt (by omega)
      cases hA
      have g1 := hcell k hlt
      have hz := HS.out k hlt
      have HT := Lib.hid (take_jl xs k hlt)
      obtain ⟨x, hxx⟩ : ∃ x, xs[k] = x := ⟨_, rfl⟩
      rw [hxx] at g1 hz HT
      clear hcell
      by_cases h0 : k = 0
      · subst h0
        rw [Nat.add_zero] at g1
        have HE := Lib.hid (show out.data.toList = [] by rw [HO.out]; rfl)
        go_wp2
        go_round
        case rel => exact ⟨1, _, by omega, rfl, rfl, by rw [data_append, HE.out, HT.out]; show _ = Lib.join [x.data.toList] _; rw [Lib.join_one]; rfl⟩
        case measure => simp [intOf]; omega
      · have hk0 : 0 < k := by omega
        have HN := Lib.hid (join_snoc (jl (xs.take k)) x.data.toList f.data.toList (by unfold jl; intro h; have := congrArg List.length h; rw [List.length_map, List.length_take, List.length_nil] at this; omega))
        go_wp2
        go_round
        case rel => exact ⟨k + 1, _, by omega, by go_num, rfl, by rw [data_append, data_append, HO.out, HT.out, HN.out]⟩
        case measure => simp [intOf]; omega
    · obtain rfl : k = xs.length := by omega
      have HM := Lib.hid (show joinR xs f = out by unfold joinR; rw [mk_list out HO.out, List.take_length])
      go_wp2
      go_ret
      exact ⟨by rw [HM.out] <;> rfl, rfl⟩
end Go.Proofs.Ytciiokegifgbdaa
/- Walks: a substitution in text form. -/
namespace Go.Proofs.Ytciiokegifgbdaa
open Go.RowKit

def comma : ByteArray := ⟨#[44]⟩
/-- what FormatSubst returns -/
def fmtR (xs : List ByteArray) : ByteArray := if substB xs = true then joinR xs comma else ⟨#[]⟩
theorem fmt_out {xs : List ByteArray} (h : substB xs = false) : fmtR xs = ⟨#[]⟩ := by unfold fmtR; rw [h]; rfl
theorem fmt_in {xs : List ByteArray} (h : substB xs = true) : fmtR xs = joinR xs comma := by unfold fmtR; rw [if_pos h]
theorem bytesOf_each {n : Nat} : ∀ {xs : List ByteArray}, (∀ s ∈ xs, s.size ≤ n) → bytesOf xs ≤ n * xs.length
  | [], _ => by simp [bytesOf]
  | a :: l, h => by
    have h1 := bytesOf_each (xs := l) (fun s hs => h s (List.mem_cons_of_mem _ hs))
    have h2 := h a List.mem_cons_self
    rw [List.length_cons, Nat.mul_succ]
    simp only [bytesOf]; omega
theorem subst_bytes {xs : List ByteArray} (h : substB xs = true) : xs.length + bytesOf xs ≤ 1048576 := by
  obtain ⟨_, h4, hall⟩ := subst_parts h
  have := bytesOf_each (n := 8) (fun s hs => (hall s hs).2.1)
  omega
set_option maxHeartbeats 1000000 in
theorem specFormatSubst_any (xs : List ByteArray) (va : Value) (w : World) (ha : Row1 w w.heap.size va (xs.map .string)) (hs : ∀ s ∈ xs, s.size ≤ maxLen) :
    Calls Try.prog 65 #[.agg #[va]] w fun e w' => e = .returned (.string (fmtR xs)) ∧ Below w.heap.size w w' := by
  obtain ⟨A, cp, rfl⟩ := ha.shape
  have s0 := Stands.start w 33 (.slice A xs.length cp)
  have HOK := Lib.hid (specSubstOk_any xs _ _ (s0.row ha) hs)
  have c0 := s0.box
  have HS0 := Lib.hid s0
  have HA := Lib.hid ha
  clear s0 ha hs
  cases hx : substB xs
  · have HF := Lib.hid (fmt_out hx)
    go_enter Try.func65, Try.ntmps65
    go_wp2_with fail
    refine HOK.out.mono ?_
    rw [hx]
    rintro e w1 ⟨rfl, hb1⟩
    have S1 := Lib.hid (HS0.out.on hb1); clear hb1
    go_wp2_with fail
    go_ret
    exact ⟨by rw [HF.out] <;> rfl, S1.out.below⟩
  have HF := Lib.hid (fmt_in hx)
  have HX := Lib.hid hx
  have HJ := Lib.hid (fun W (S : Stands w 33 (.slice A xs.length cp) W) => specJoin_any xs _ comma W (S.row HA.out) (subst_bytes hx) (by decide))
  clear hx
  go_enter Try.func65, Try.ntmps65
  go_wp2_with fail
  refine HOK.out.mono ?_
  rw [HX.out]
  rintro e w1 ⟨rfl, hb1⟩
  have S1 := Lib.hid (HS0.out.on hb1); clear hb1
  have c1 := S1.out.box
  clear c0
  go_wp2_with fail
  refine (HJ.out _ S1.out).mono ?_
  rintro e w2 ⟨rfl, rfl⟩
  go_wp2_with fail
  go_ret
  exact ⟨by rw [HF.out] <;> rfl, S1.out.below⟩
end Go.Proofs.Ytciiokegifgbdaa
