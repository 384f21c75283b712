/- Walks: one substitution after another. -/
import Derived.Test.YtglleimmmfnhcaaTurnS
import Derived.Test.YtglleimmmfnhcaaCut
namespace Go.Proofs.Ytglleimmmfnhcaa
open Go.RowKit
set_option maxRecDepth 20000

def appB (ys : List ByteArray) (s : ByteArray) : ByteArray := ⟨(applyL ys s.data.toList).toArray⟩
/-- the images under ys of the images of xs -/
def csZ (xs ys : List ByteArray) : List ByteArray := xs.map (appB ys)
def csB (xs ys : List ByteArray) : Bool := substB xs && substB ys && decide (xs.length = ys.length) && substB (csZ xs ys)
/-- what ComposeSubst returns -/
def csR (xs ys : List ByteArray) : List ByteArray := if csB xs ys = true then csZ xs ys else []
theorem cs_no {xs ys : List ByteArray} (h : csB xs ys = false) : csR xs ys = [] := by unfold csR; rw [h]; rfl
theorem cs_yes {xs ys : List ByteArray} (h : csB xs ys = true) : csR xs ys = csZ xs ys := by unfold csR; rw [if_pos h]
theorem csR_len (xs ys : List ByteArray) : (csR xs ys).length ≤ xs.length := by unfold csR csZ; split <;> simp
theorem cs_no1 {xs ys : List ByteArray} (h : substB xs = false) : csB xs ys = false := by unfold csB; rw [h]; rfl
theorem cs_no2 {xs ys : List ByteArray} (h : substB ys = false) : csB xs ys = false := by unfold csB; rw [h]; simp
theorem cs_no3 {xs ys : List ByteArray} (h : ¬ xs.length = ys.length) : csB xs ys = false := by unfold csB; rw [decide_eq_false h]; simp
theorem cs_end {xs ys : List ByteArray} (h1 : substB xs = true) (h2 : substB ys = true) (h3 : xs.length = ys.length) : csB xs ys = substB (csZ xs ys) := by unfold csB; rw [h1, h2, decide_eq_true h3]; rfl
theorem cs_word {xs ys : List ByteArray} (h1 : substB xs = true) (h3 : xs.length = ys.length) {s : ByteArray} (hs : s ∈ xs) : wordIn ys s.data.toList = true := by
  have h := (subst_parts h1).2.2 s hs
  unfold wordIn; rw [← h3, h.2.2.1, h.2.2.2]; rfl
theorem cs_len {xs ys : List ByteArray} (h1 : substB xs = true) (h2 : substB ys = true) (h3 : xs.length = ys.length) {s : ByteArray} (hs : s ∈ xs) : (applyL ys s.data.toList).length ≤ 64 := by
  have h := (subst_parts h1).2.2 s hs
  have h4 := applyL_len h2 (letters_of_word (cs_word h1 h3 hs))
  rw [← Lib.size_eq] at h4; omega
theorem cs_sizes {xs ys : List ByteArray} (h1 : substB xs = true) (h2 : substB ys = true) (h3 : xs.length = ys.length) : ∀ s ∈ csZ xs ys, s.size ≤ maxLen := by
  intro s hs
  obtain ⟨t, ht, rfl⟩ := List.mem_map.1 hs
  have h := cs_len h1 h2 h3 ht
  show (applyL ys t.data.toList).length ≤ maxLen
  unfold maxLen; omega
theorem cut_all {ys : List ByteArray} {l : List UInt8} {out : ByteArray} (h : CutOf ys l out) (hl : (applyL ys l).length ≤ 400) : out = ⟨(applyL ys l).toArray⟩ := by
  by_cases hb : 400 < out.size
  · exact absurd hl (cut_big h hb)
  · exact mk_list out (cut_small h hb).1
set_option maxHeartbeats 2000000 in
theorem implComposeSubst_any (xs ys : List ByteArray) (va vb : Value) (w : World) (ha : Row1 w w.heap.size va (xs.map .string)) (hs : ∀ s ∈ xs, s.size ≤ maxLen) (hb : Row1 w w.heap.size vb (ys.map .string)) (ht : ∀ s ∈ ys, s.size ≤ maxLen) :
    Calls Try.prog 25 #[.agg #[va], .agg #[vb]] w fun e w' => ∃ v, e = .returned (.tuple #[.agg #[v], .bool (csB xs ys)]) ∧ w'.ownsRow w.heap.size 9 1 v (csR xs ys).length ((csR xs ys).map .string) ∧ Below w.heap.size w w' := by
  obtain ⟨i0, hi, hz0, hz1, hz2⟩ := info_parts info_str2
  have HI := Lib.hid hi; have HZ0 := Lib.hid hz0; have HZ1 := Lib.hid hz1; have HZ2 := Lib.hid hz2
  clear hi hz0 hz1 hz2
  obtain ⟨A, cp, rfl⟩ := ha.shape
  obtain ⟨A', cp', rfl⟩ := hb.shape
  have B0 := Lib.hid (bthen (bthen (bnew w (.cells #[.slice A xs.length cp] 28)) (bnew _ (.cells #[.slice A' ys.length cp'] 28))) (bnew _ (.cells #[.slice none 0 0] 28)))
  have O1 := Lib.hid (((One.new w 28 (.slice A xs.length cp)).alloc (.cells #[.slice A' ys.length cp'] 28)).alloc (.cells #[.slice none 0 0] 28))
  have o2 := (One.new (w.alloc (.cells #[.slice A xs.length cp] 28)) 28 (.slice A' ys.length cp')).alloc (.cells #[.slice none 0 0] 28)
  have o3 := One.new ((w.alloc (.cells #[.slice A xs.length cp] 28)).alloc (.cells #[.slice A' ys.length cp'] 28)) 28 (.slice none 0 0)
  simp only [World.size_alloc] at o2 o3
  have O2 := Lib.hid o2; have O3 := Lib.hid o3; clear o2 o3
  have HOK := Lib.hid (implSubstOk_any xs _ _ ((Rd.new ha).on B0.out).at hs)
  have HOK2 := Lib.hid (fun W hR => implSubstOk_any ys (.slice A' ys.length cp') W hR ht)
  have HA := Lib.hid ha; have HB := Lib.hid hb; clear ha hs hb ht
  cases hx : substB xs
  · have HQ := Lib.hid (cs_no1 (ys := ys) hx)
    have HF := Lib.hid (cs_no HQ.out)
    rw [HQ.out]
    go_enter Try.func25, Try.ntmps25
    go_wp2_with fail
    refine HOK.out.mono ?_
    rw [hx]
    rintro e w1 ⟨rfl, hb1⟩
    have B1 := Lib.hid (bthen B0.out hb1)
    have P3 := Lib.hid (O3.out.on hb1)
    have c3 := P3.out.cell
    have f3 := P3.out.frozen
    clear hb1
    go_wp2_with fail
    refine bodyPost_ret (v := .tuple #[.agg #[.slice none 0 0], .bool false]) (by simp [results, Try.results25, go_sem, c3]) rfl ?_
    exact ⟨_, rfl, by rw [HF.out]; exact World.ownsRow_nil _ _ _ _, since_set B1.out (by omega) _⟩
  have HX := Lib.hid hx; clear hx
  cases hy : substB ys
  · have HQ := Lib.hid (cs_no2 (xs := xs) hy)
    have HF := Lib.hid (cs_no HQ.out)
    rw [HQ.out]
    go_enter Try.func25, Try.ntmps25
    go_wp2_with fail
    refine HOK.out.mono ?_
    rw [HX.out]
    rintro e w1 ⟨rfl, hb1⟩
    have B1 := Lib.hid (bthen B0.out hb1)
    have P2 := Lib.hid (O2.out.on hb1)
    have P3 := Lib.hid (O3.out.on hb1)
    have c2 := P2.out.cell
    clear hb1
    go_wp2_with fail
    refine (HOK2.out _ ((Rd.new HB.out).on B1.out).at).mono ?_
    rw [hy]
    rintro e w2 ⟨rfl, hb2⟩
    have B2 := Lib.hid (bthen B1.out hb2)
    have Q3 := Lib.hid (P3.out.on hb2)
    have c3 := Q3.out.cell
    have f3 := Q3.out.frozen
    clear hb2 c2
    go_wp2_with fail
    refine bodyPost_ret (v := .tuple #[.agg #[.slice none 0 0], .bool false]) (by simp [results, Try.results25, go_sem, c3]) rfl ?_
    exact ⟨_, rfl, by rw [HF.out]; exact World.ownsRow_nil _ _ _ _, since_set B2.out (by omega) _⟩
  have HY := Lib.hid hy; clear hy
  by_cases hl : xs.length = ys.length
  case neg =>
    have HQ := Lib.hid (cs_no3 hl)
    have HF := Lib.hid (cs_no HQ.out)
    have hne : ((xs.length : Int) != (ys.length : Int)) = true := by rw [bne_iff_ne]; omega
    rw [HQ.out]
    go_enter Try.func25, Try.ntmps25
    go_wp2_with fail
    refine HOK.out.mono ?_
    rw [HX.out]
    rintro e w1 ⟨rfl, hb1⟩
    have B1 := Lib.hid (bthen B0.out hb1)
    have P1 := Lib.hid (O1.out.on hb1)
    have P2 := Lib.hid (O2.out.on hb1)
    have P3 := Lib.hid (O3.out.on hb1)
    have c2 := P2.out.cell
    clear hb1
    go_wp2_with fail
    refine (HOK2.out _ ((Rd.new HB.out).on B1.out).at).mono ?_
    rw [HY.out]
    rintro e w2 ⟨rfl, hb2⟩
    have B2 := Lib.hid (bthen B1.out hb2)
    have Q1 := Lib.hid (P1.out.on hb2)
    have Q2 := Lib.hid (P2.out.on hb2)
    have Q3 := Lib.hid (P3.out.on hb2)
    have c1 := Q1.out.cell
    have c4 := Q2.out.cell
    have c3 := Q3.out.cell
    have f3 := Q3.out.frozen
    clear hb2 c2
    go_wp2_with fail
    refine bodyPost_ret (v := .tuple #[.agg #[.slice none 0 0], .bool false]) (by simp [results, Try.results25, go_sem, c3]) rfl ?_
    exact ⟨_, rfl, by rw [HF.out]; exact World.ownsRow_nil _ _ _ _, since_set B2.out (by omega) _⟩
  have HEND := Lib.hid (cs_end HX.out HY.out hl)
  obtain ⟨h1x, h4x, _⟩ := subst_parts HX.out
  obtain ⟨b, o, cp2, heq, hbB, hcp, hcell⟩ := HA.out.openAt (by omega)
  cases heq
  have HC := Lib.hid hcell; clear hcell
  have HWD := Lib.hid (fun s hs => cs_word HX.out hl (s := s) hs)
  have HLN := Lib.hid (fun s hs => cs_len HX.out HY.out hl (s := s) hs)
  have HSZ := Lib.hid (cs_sizes HX.out HY.out hl)
  have HZL := Lib.hid (show (csZ xs ys).length = xs.length from List.length_map _)
  have hne : ((xs.length : Int) != (ys.length : Int)) = false := by rw [hl]; simp
  have HL := Lib.hid hl; clear hl
  go_enter Try.func25, Try.ntmps25
  go_wp2_with fail
  refine HOK.out.mono ?_
  rw [HX.out]
  rintro e w1 ⟨rfl, hb1⟩
  have B1 := Lib.hid (bthen B0.out hb1)
  have P1 := Lib.hid (O1.out.on hb1)
  have P2 := Lib.hid (O2.out.on hb1)
  have P3 := Lib.hid (O3.out.on hb1)
  have Z1 := Lib.hid (show w.heap.size + 3 ≤ w1.heap.size from by have h := hb1.size; simp only [World.size_alloc] at h; omega)
  have c2 := P2.out.cell
  clear hb1
  go_wp2_with fail
  refine (HOK2.out _ ((Rd.new HB.out).on B1.out).at).mono ?_
  rw [HY.out]
  rintro e w2 ⟨rfl, hb2⟩
  have B2 := Lib.hid (bthen B1.out hb2)
  have Q1 := Lib.hid (P1.out.on hb2)
  have Q2 := Lib.hid (P2.out.on hb2)
  have Q3 := Lib.hid (P3.out.on hb2)
  have Z2 := Lib.hid (Nat.le_trans Z1.out hb2.size)
  have c1 := Q1.out.cell
  have c4 := Q2.out.cell
  have c5 := (Q1.out.alloc (.cells #[.slice none 0 0] 28)).cell
  clear hb2 c2
  go_wp2_with fail
  go_loopw [31] (fun i wr => ∃ (k : Nat) (v : Value), k ≤ xs.length ∧ i = .int .i64 k ∧ One wr w2.heap.size 28 v ∧ One wr (w.heap.size + 1) 28 (.slice A' ys.length cp') ∧ One wr (w.heap.size + 1 + 1) 28 (.slice none 0 0) ∧ wr.ownsRow w.heap.size 9 1 v k (((csZ xs ys).take k).map .string) ∧ Below w.heap.size w wr) (fun i _ => xs.length - (intOf i).toNat)
  case atStart => exact ⟨0, _, Nat.zero_le _, rfl, One.new _ _ _, Q2.out.alloc _, Q3.out.alloc _, World.ownsRow_nil _ _ _ _, bthen B2.out (bnew _ _)⟩
  case round =>
    clear c1 c4 c5
    obtain ⟨k, v, hk, rfl, hone, htwo, hres, hown, hbel⟩ := hrel
    have N1 := Lib.hid hone; have N2 := Lib.hid htwo; have N3 := Lib.hid hres; have NO := Lib.hid hown; have NB := Lib.hid hbel
    clear hone htwo hres hown hbel
    by_cases hlt : k < xs.length
    · have g1 := (NB.out.cell (p := ⟨b, o + k, none⟩) hbB).trans (HC.out k hlt)
      have c5 := N1.out.cell
      have f5 := N1.out.frozen
      have c6 := N2.out.cell
      have HT := Lib.hid (take_map_snoc (appB ys) hlt)
      have hm := List.getElem_mem hlt
      have hcall : ∀ W, Row1 W W.heap.size (.slice A' ys.length cp') (ys.map .string) → Calls Try.prog 62 #[.agg #[.slice A' ys.length cp'], .string xs[k]] W fun e w' => e = .returned (.string (appB ys xs[k])) ∧ Below W.heap.size W w' := fun W hR => apply_any ys (.slice A' ys.length cp') xs[k] W hR HY.out (HWD.out _ hm)
      obtain ⟨t, het⟩ : ∃ t, t = appB ys xs[k] := ⟨_, rfl⟩
      rw [← het] at HT hcall
      have HTC := Lib.hid hcall
      clear hcall het hm
      go_wp2_with fail
      go_region_law (first
        | (refine step_append_lies _ rfl _ _ 22 rfl w.heap.size 9 i0 (.string ByteArray.empty) 1 16 Try.underlying22 HI.out HZ0.out HZ1.out HZ2.out rfl (by decide) _ _ _ rfl (A2.out.alloc _) ⟨_, 0, none⟩ 1 1 [.string t] rfl rfl (cell_one_new _ _ _) (by intro u hu; simp at hu; subst hu; rfl) (by omega) (by unfold maxLen; omega) (by omega) (by have := A3.out.size; simp; omega) _ rfl ?_; intro g c w4 ho3 hg3 _ _; have R1 := Lib.hid ((A4.out.alloc _).grownRow (A2.out.alloc _) types_box hg3); have R2 := Lib.hid ((A5.out.alloc _).grownRow (A2.out.alloc _) types_box hg3); have R3 := Lib.hid ((A6.out.alloc _).grownRow (A2.out.alloc _) types_box hg3); have QB := Lib.hid (since_grown (bthen A3.out (bnew _ _)) hg3 (fun g hg => (own_lt A2.out hg).1)); have QO := Lib.hid ho3; have c7 := R1.out.cell; have f7 := R1.out.frozen; clear ho3 hg3)
        | (go_simp; go_at_call 62; refine (HTC.out _ (((Rd.new HB.out).on NB.out).on (bdrew _)).at).mono ?_; rintro e w3 ⟨rfl, hb3⟩; have A2 := Lib.hid (own_below (own_below NO.out (bdrew _)) hb3); have A3 := Lib.hid (bthen (bthen NB.out (bdrew _)) hb3); have A4 := Lib.hid (N1.out.drew.on hb3); have A5 := Lib.hid (N2.out.drew.on hb3); have A6 := Lib.hid (N3.out.drew.on hb3); have c8 := A4.out.cell; have f8 := A4.out.frozen; have c9 := (A4.out.alloc (.cells #[.string t] 9)).cell; clear hb3))
      all_goals
        go_wp2
        go_roundw
        case rel =>
          refine ⟨k + 1, _, by omega, by go_num, R1.out.set _, R2.out.far ?_ _, R3.out.far ?_ _, ?_, since_set QB.out ?_ _⟩
          · have := Z2.out; simp; omega
          · have := Z2.out; simp; omega
          · have h3 := own_set QO.out (one_ne R1.out QO.out types_box) (.slice (some ⟨g, 0, none⟩) (k + 1) c)
            show World.ownsRow _ _ _ _ _ _ ((List.take (k + 1) (xs.map (appB ys))).map Value.string)
            rw [HT.out]
            exact h3
          · have := Z2.out; omega
        case measure => simp [intOf]; omega
    · obtain rfl : k = xs.length := by omega
      obtain ⟨A2, cv, rfl⟩ := own_shape NO.out
      have hfull : wr.ownsRow w.heap.size 9 1 (.slice A2 xs.length cv) xs.length ((csZ xs ys).map .string) := by
        have h := NO.out; rw [List.take_of_length_le (by rw [HZL.out]; exact Nat.le_refl _)] at h; exact h
      have HFU := Lib.hid hfull; clear hfull
      have HOK3 := Lib.hid (implSubstOk_any (csZ xs ys) (.slice A2 xs.length cv) wr (Row1.own HFU.out (by rw [List.length_map, HZL.out])) HSZ.out)
      have c5 := N1.out.cell
      go_wp2_with fail
      cases hz : substB (csZ xs ys)
      · have HQ := Lib.hid (HEND.out.trans hz)
        have HF := Lib.hid (cs_no HQ.out)
        refine HOK3.out.mono ?_
        rw [hz]
        rintro e w5 ⟨rfl, hb5⟩
        have B5 := Lib.hid (bthen NB.out hb5)
        have M3 := Lib.hid (N3.out.on hb5)
        have c3 := M3.out.cell
        have f3 := M3.out.frozen
        clear hb5 c5
        go_wp2_with fail
        (try simp only [Exit.inBlock, Exit.then])
        refine bodyPost_ret (v := .tuple #[.agg #[.slice none 0 0], .bool false]) (by simp [results, Try.results25, go_sem, c3]) rfl ?_
        exact ⟨_, by rw [HQ.out], by rw [HF.out]; exact World.ownsRow_nil _ _ _ _, since_set B5.out (by omega) _⟩
      · have HQ := Lib.hid (HEND.out.trans hz)
        have HF := Lib.hid (cs_yes HQ.out)
        refine HOK3.out.mono ?_
        rw [hz]
        rintro e w5 ⟨rfl, hb5⟩
        have B5 := Lib.hid (bthen NB.out hb5)
        have M1 := Lib.hid (N1.out.on hb5)
        have M3 := Lib.hid (N3.out.on hb5)
        have MO := Lib.hid (own_below HFU.out hb5)
        have c1 := M1.out.cell
        have c3 := M3.out.cell
        have f3 := M3.out.frozen
        clear hb5 c5
        go_wp2_with fail
        (try simp only [Exit.inBlock, Exit.then])
        refine bodyPost_ret (v := .tuple #[.agg #[.slice A2 xs.length cv], .bool true]) (by simp [results, Try.results25, go_sem, c3]) rfl ?_
        refine ⟨_, by rw [HQ.out], ?_, since_set B5.out (by omega) _⟩
        have h3 := own_set MO.out (one_ne M3.out MO.out types_box) (.slice A2 xs.length cv)
        rw [HF.out, HZL.out]
        exact h3
set_option maxHeartbeats 2000000 in
theorem specComposeSubst_any (xs ys : List ByteArray) (va vb : Value) (w : World) (ha : Row1 w w.heap.size va (xs.map .string)) (hs : ∀ s ∈ xs, s.size ≤ maxLen) (hb : Row1 w w.heap.size vb (ys.map .string)) (ht : ∀ s ∈ ys, s.size ≤ maxLen) :
    Calls Try.prog 24 #[.agg #[va], .agg #[vb]] w fun e w' => ∃ v, e = .returned (.tuple #[.agg #[v], .bool (csB xs ys)]) ∧ w'.ownsRow w.heap.size 9 1 v (csR xs ys).length ((csR xs ys).map .string) ∧ Below w.heap.size w w' := by
  obtain ⟨i0, hi, hz0, hz1, hz2⟩ := info_parts info_str2
  have HI := Lib.hid hi; have HZ0 := Lib.hid hz0; have HZ1 := Lib.hid hz1; have HZ2 := Lib.hid hz2
  clear hi hz0 hz1 hz2
  obtain ⟨A, cp, rfl⟩ := ha.shape
  obtain ⟨A', cp', rfl⟩ := hb.shape
  have B0 := Lib.hid (bthen (bthen (bnew w (.cells #[.slice A xs.length cp] 28)) (bnew _ (.cells #[.slice A' ys.length cp'] 28))) (bnew _ (.cells #[.slice none 0 0] 28)))
  have O1 := Lib.hid (((One.new w 28 (.slice A xs.length cp)).alloc (.cells #[.slice A' ys.length cp'] 28)).alloc (.cells #[.slice none 0 0] 28))
  have o2 := (One.new (w.alloc (.cells #[.slice A xs.length cp] 28)) 28 (.slice A' ys.length cp')).alloc (.cells #[.slice none 0 0] 28)
  have o3 := One.new ((w.alloc (.cells #[.slice A xs.length cp] 28)).alloc (.cells #[.slice A' ys.length cp'] 28)) 28 (.slice none 0 0)
  simp only [World.size_alloc] at o2 o3
  have O2 := Lib.hid o2; have O3 := Lib.hid o3; clear o2 o3
  have HOK := Lib.hid (specSubstOk_any xs _ _ ((Rd.new ha).on B0.out).at hs)
  have HOK2 := Lib.hid (fun W hR => specSubstOk_any ys (.slice A' ys.length cp') W hR ht)
  have HA := Lib.hid ha; have HB := Lib.hid hb; clear ha hs hb ht
  cases hx : substB xs
  · have HQ := Lib.hid (cs_no1 (ys := ys) hx)
    have HF := Lib.hid (cs_no HQ.out)
    rw [HQ.out]
    go_enter Try.func24, Try.ntmps24
    go_wp2_with fail
    refine HOK.out.mono ?_
    rw [hx]
    rintro e w1 ⟨rfl, hb1⟩
    have B1 := Lib.hid (bthen B0.out hb1)
    have P3 := Lib.hid (O3.out.on hb1)
    have c3 := P3.out.cell
    have f3 := P3.out.frozen
    clear hb1
    go_wp2_with fail
    refine bodyPost_ret (v := .tuple #[.agg #[.slice none 0 0], .bool false]) (by simp [results, Try.results24, go_sem, c3]) rfl ?_
    exact ⟨_, rfl, by rw [HF.out]; exact World.ownsRow_nil _ _ _ _, since_set B1.out (by omega) _⟩
  have HX := Lib.hid hx; clear hx
  cases hy : substB ys
  · have HQ := Lib.hid (cs_no2 (xs := xs) hy)
    have HF := Lib.hid (cs_no HQ.out)
    rw [HQ.out]
    go_enter Try.func24, Try.ntmps24
    go_wp2_with fail
    refine HOK.out.mono ?_
    rw [HX.out]
    rintro e w1 ⟨rfl, hb1⟩
    have B1 := Lib.hid (bthen B0.out hb1)
    have P2 := Lib.hid (O2.out.on hb1)
    have P3 := Lib.hid (O3.out.on hb1)
    have c2 := P2.out.cell
    clear hb1
    go_wp2_with fail
    refine (HOK2.out _ ((Rd.new HB.out).on B1.out).at).mono ?_
    rw [hy]
    rintro e w2 ⟨rfl, hb2⟩
    have B2 := Lib.hid (bthen B1.out hb2)
    have Q3 := Lib.hid (P3.out.on hb2)
    have c3 := Q3.out.cell
    have f3 := Q3.out.frozen
    clear hb2 c2
    go_wp2_with fail
    refine bodyPost_ret (v := .tuple #[.agg #[.slice none 0 0], .bool false]) (by simp [results, Try.results24, go_sem, c3]) rfl ?_
    exact ⟨_, rfl, by rw [HF.out]; exact World.ownsRow_nil _ _ _ _, since_set B2.out (by omega) _⟩
  have HY := Lib.hid hy; clear hy
  by_cases hl : xs.length = ys.length
  case neg =>
    have HQ := Lib.hid (cs_no3 hl)
    have HF := Lib.hid (cs_no HQ.out)
    have hne : ((xs.length : Int) != (ys.length : Int)) = true := by rw [bne_iff_ne]; omega
    rw [HQ.out]
    go_enter Try.func24, Try.ntmps24
    go_wp2_with fail
    refine HOK.out.mono ?_
    rw [HX.out]
    rintro e w1 ⟨rfl, hb1⟩
    have B1 := Lib.hid (bthen B0.out hb1)
    have P1 := Lib.hid (O1.out.on hb1)
    have P2 := Lib.hid (O2.out.on hb1)
    have P3 := Lib.hid (O3.out.on hb1)
    have c2 := P2.out.cell
    clear hb1
    go_wp2_with fail
    refine (HOK2.out _ ((Rd.new HB.out).on B1.out).at).mono ?_
    rw [HY.out]
    rintro e w2 ⟨rfl, hb2⟩
    have B2 := Lib.hid (bthen B1.out hb2)
    have Q1 := Lib.hid (P1.out.on hb2)
    have Q2 := Lib.hid (P2.out.on hb2)
    have Q3 := Lib.hid (P3.out.on hb2)
    have c1 := Q1.out.cell
    have c4 := Q2.out.cell
    have c3 := Q3.out.cell
    have f3 := Q3.out.frozen
    clear hb2 c2
    go_wp2_with fail
    refine bodyPost_ret (v := .tuple #[.agg #[.slice none 0 0], .bool false]) (by simp [results, Try.results24, go_sem, c3]) rfl ?_
    exact ⟨_, rfl, by rw [HF.out]; exact World.ownsRow_nil _ _ _ _, since_set B2.out (by omega) _⟩
  have HEND := Lib.hid (cs_end HX.out HY.out hl)
  obtain ⟨h1x, h4x, _⟩ := subst_parts HX.out
  obtain ⟨b, o, cp2, heq, hbB, hcp, hcell⟩ := HA.out.openAt (by omega)
  cases heq
  have HC := Lib.hid hcell; clear hcell
  have HWD := Lib.hid (fun s hs => cs_word HX.out hl (s := s) hs)
  have HLN := Lib.hid (fun s hs => cs_len HX.out HY.out hl (s := s) hs)
  have HSZ := Lib.hid (cs_sizes HX.out HY.out hl)
  have HZL := Lib.hid (show (csZ xs ys).length = xs.length from List.length_map _)
  have hne : ((xs.length : Int) != (ys.length : Int)) = false := by rw [hl]; simp
  have HL := Lib.hid hl; clear hl
  go_enter Try.func24, Try.ntmps24
  go_wp2_with fail
  refine HOK.out.mono ?_
  rw [HX.out]
  rintro e w1 ⟨rfl, hb1⟩
  have B1 := Lib.hid (bthen B0.out hb1)
  have P1 := Lib.hid (O1.out.on hb1)
  have P2 := Lib.hid (O2.out.on hb1)
  have P3 := Lib.hid (O3.out.on hb1)
  have Z1 := Lib.hid (show w.heap.size + 3 ≤ w1.heap.size from by have h := hb1.size; simp only [World.size_alloc] at h; omega)
  have c2 := P2.out.cell
  clear hb1
  go_wp2_with fail
  refine (HOK2.out _ ((Rd.new HB.out).on B1.out).at).mono ?_
  rw [HY.out]
  rintro e w2 ⟨rfl, hb2⟩
  have B2 := Lib.hid (bthen B1.out hb2)
  have Q1 := Lib.hid (P1.out.on hb2)
  have Q2 := Lib.hid (P2.out.on hb2)
  have Q3 := Lib.hid (P3.out.on hb2)
  have Z2 := Lib.hid (Nat.le_trans Z1.out hb2.size)
  have c1 := Q1.out.cell
  have c4 := Q2.out.cell
  have c5 := (Q1.out.alloc (.cells #[.slice none 0 0] 28)).cell
  clear hb2 c2
  go_wp2_with fail
  go_loopw [31] (fun i wr => ∃ (k : Nat) (v : Value), k ≤ xs.length ∧ i = .int .i64 k ∧ One wr w2.heap.size 28 v ∧ One wr (w.heap.size + 1) 28 (.slice A' ys.length cp') ∧ One wr (w.heap.size + 1 + 1) 28 (.slice none 0 0) ∧ wr.ownsRow w.heap.size 9 1 v k (((csZ xs ys).take k).map .string) ∧ Below w.heap.size w wr) (fun i _ => xs.length - (intOf i).toNat)
  case atStart => exact ⟨0, _, Nat.zero_le _, rfl, One.new _ _ _, Q2.out.alloc _, Q3.out.alloc _, World.ownsRow_nil _ _ _ _, bthen B2.out (bnew _ _)⟩
  case round =>
    clear c1 c4 c5
    obtain ⟨k, v, hk, rfl, hone, htwo, hres, hown, hbel⟩ := hrel
    have N1 := Lib.hid hone; have N2 := Lib.hid htwo; have N3 := Lib.hid hres; have NO := Lib.hid hown; have NB := Lib.hid hbel
    clear hone htwo hres hown hbel
    by_cases hlt : k < xs.length
    · have g1 := (NB.out.cell (p := ⟨b, o + k, none⟩) hbB).trans (HC.out k hlt)
      have c5 := N1.out.cell
      have f5 := N1.out.frozen
      have c6 := N2.out.cell
      have HT := Lib.hid (take_map_snoc (appB ys) hlt)
      have hm := List.getElem_mem hlt
      have hcall : ∀ W, Row1 W W.heap.size (.slice A' ys.length cp') (ys.map .string) → Calls Try.prog 61 #[.agg #[.slice A' ys.length cp'], .string xs[k]] W fun e w' => e = .returned (.string (appB ys xs[k])) ∧ Below W.heap.size W w' := fun W hR => by
        refine (l03Apply_any ys (.slice A' ys.length cp') xs[k] W hR HY.out (HWD.out _ hm)).mono ?_
        rintro e w' ⟨out, rfl, hcut, hb⟩
        exact ⟨by rw [cut_all hcut (by have := HLN.out _ hm; omega)]; rfl, hb⟩
      obtain ⟨t, het⟩ : ∃ t, t = appB ys xs[k] := ⟨_, rfl⟩
      rw [← het] at HT hcall
      have HTC := Lib.hid hcall
      clear hcall het hm
      go_wp2_with fail
      go_region_law (first
        | (refine step_append_lies _ rfl _ _ 22 rfl w.heap.size 9 i0 (.string ByteArray.empty) 1 16 Try.underlying22 HI.out HZ0.out HZ1.out HZ2.out rfl (by decide) _ _ _ rfl (A2.out.alloc _) ⟨_, 0, none⟩ 1 1 [.string t] rfl rfl (cell_one_new _ _ _) (by intro u hu; simp at hu; subst hu; rfl) (by omega) (by unfold maxLen; omega) (by omega) (by have := A3.out.size; simp; omega) _ rfl ?_; intro g c w4 ho3 hg3 _ _; have R1 := Lib.hid ((A4.out.alloc _).grownRow (A2.out.alloc _) types_box hg3); have R2 := Lib.hid ((A5.out.alloc _).grownRow (A2.out.alloc _) types_box hg3); have R3 := Lib.hid ((A6.out.alloc _).grownRow (A2.out.alloc _) types_box hg3); have QB := Lib.hid (since_grown (bthen A3.out (bnew _ _)) hg3 (fun g hg => (own_lt A2.out hg).1)); have QO := Lib.hid ho3; have c7 := R1.out.cell; have f7 := R1.out.frozen; clear ho3 hg3)
        | (go_simp; go_at_call 61; refine (HTC.out _ (((Rd.new HB.out).on NB.out).on (bdrew _)).at).mono ?_; rintro e w3 ⟨rfl, hb3⟩; have A2 := Lib.hid (own_below (own_below NO.out (bdrew _)) hb3); have A3 := Lib.hid (bthen (bthen NB.out (bdrew _)) hb3); have A4 := Lib.hid (N1.out.drew.on hb3); have A5 := Lib.hid (N2.out.drew.on hb3); have A6 := Lib.hid (N3.out.drew.on hb3); have c8 := A4.out.cell; have f8 := A4.out.frozen; have c9 := (A4.out.alloc (.cells #[.string t] 9)).cell; clear hb3))
      all_goals
        go_wp2
        go_roundw
        case rel =>
          refine ⟨k + 1, _, by omega, by go_num, R1.out.set _, R2.out.far ?_ _, R3.out.far ?_ _, ?_, since_set QB.out ?_ _⟩
          · have := Z2.out; simp; omega
          · have := Z2.out; simp; omega
          · have h3 := own_set QO.out (one_ne R1.out QO.out types_box) (.slice (some ⟨g, 0, none⟩) (k + 1) c)
            show World.ownsRow _ _ _ _ _ _ ((List.take (k + 1) (xs.map (appB ys))).map Value.string)
            rw [HT.out]
            exact h3
          · have := Z2.out; omega
        case measure => simp [intOf]; omega
    · obtain rfl : k = xs.length := by omega
      obtain ⟨A2, cv, rfl⟩ := own_shape NO.out
      have hfull : wr.ownsRow w.heap.size 9 1 (.slice A2 xs.length cv) xs.length ((csZ xs ys).map .string) := by
        have h := NO.out; rw [List.take_of_length_le (by rw [HZL.out]; exact Nat.le_refl _)] at h; exact h
      have HFU := Lib.hid hfull; clear hfull
      have HOK3 := Lib.hid (specSubstOk_any (csZ xs ys) (.slice A2 xs.length cv) wr (Row1.own HFU.out (by rw [List.length_map, HZL.out])) HSZ.out)
      have c5 := N1.out.cell
      go_wp2_with fail
      cases hz : substB (csZ xs ys)
      · have HQ := Lib.hid (HEND.out.trans hz)
        have HF := Lib.hid (cs_no HQ.out)
        refine HOK3.out.mono ?_
        rw [hz]
        rintro e w5 ⟨rfl, hb5⟩
        have B5 := Lib.hid (bthen NB.out hb5)
        have M3 := Lib.hid (N3.out.on hb5)
        have c3 := M3.out.cell
        have f3 := M3.out.frozen
        clear hb5 c5
        go_wp2_with fail
        (try simp only [Exit.inBlock, Exit.then])
        refine bodyPost_ret (v := .tuple #[.agg #[.slice none 0 0], .bool false]) (by simp [results, Try.results24, go_sem, c3]) rfl ?_
        exact ⟨_, by rw [HQ.out], by rw [HF.out]; exact World.ownsRow_nil _ _ _ _, since_set B5.out (by omega) _⟩
      · have HQ := Lib.hid (HEND.out.trans hz)
        have HF := Lib.hid (cs_yes HQ.out)
        refine HOK3.out.mono ?_
        rw [hz]
        rintro e w5 ⟨rfl, hb5⟩
        have B5 := Lib.hid (bthen NB.out hb5)
        have M1 := Lib.hid (N1.out.on hb5)
        have M3 := Lib.hid (N3.out.on hb5)
        have MO := Lib.hid (own_below HFU.out hb5)
        have c1 := M1.out.cell
        have c3 := M3.out.cell
        have f3 := M3.out.frozen
        clear hb5 c5
        go_wp2_with fail
        (try simp only [Exit.inBlock, Exit.then])
        refine bodyPost_ret (v := .tuple #[.agg #[.slice A2 xs.length cv], .bool true]) (by simp [results, Try.results24, go_sem, c3]) rfl ?_
        refine ⟨_, by rw [HQ.out], ?_, since_set B5.out (by omega) _⟩
        have h3 := own_set MO.out (one_ne M3.out MO.out types_box) (.slice A2 xs.length cv)
        rw [HF.out, HZL.out]
        exact h3
end Go.Proofs.Ytglleimmmfnhcaa
