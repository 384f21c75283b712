/- Walks and plain laws of the functions that a law reaches, several texts in one (part 5). Conditions: none beyond the hypotheses of each lemma. -/
import Derived.Deep.RegionLaw
import Derived.Deep.AppendLies
import Derived.Deep.RegionWith
import Derived.Test.YtciiokegifgbdaaG4
import Derived.Test.YtciiokegifgbdaaG2
import Derived.Test.YtciiokegifgbdaaG3
import Derived.Test.YtciiokegifgbdaaG1
/- Walks: the determinant by the first row, the reference and the program's own. -/
namespace Go.Proofs.Ytciiokegifgbdaa
open Go.RowKit
set_option maxRecDepth 20000

theorem step_append_own {P : Program} {w : World} {ops : Array Oper} {o : Oper} {a : Act} {K : Act → World → Prop} {Q : Exit → Act → World → Prop} {E : Prop} (hgd : o.guard = none) (s x : Operand) (t : TypeId)
    (ho : o.op = .call { callee := .builtin .append, args := #[s, x], argTypes := #[t, t] })
    (base : Nat) (e : TypeId) (i : TypeInfo) (z : Value) (size bytes : Nat) (ht : P.underlying t = some (.slice e)) (hi : P.info? e = some i) (hz : i.zero = some z)
    (hsize : i.size = size) (hby : i.bytes = bytes) (hzs : z.cells.size = size) (hsz : 0 < size)
    (v : Value) (n : Nat) (xs : List Value) (hs : a.eval s = v) (hown : w.ownsRow base e size v n xs)
    (ad : Addr) (m c : Nat) (news : List Value) (hx : a.eval x = .slice (some ad) m c) (hl : news.length = m * size) (hnews : ∀ j u, news[j]? = some u → w.cell? (ad.add j) = some u) (h1 : ∀ u ∈ news, u.oneCell' = true)
    (h63 : n + m ≤ maxLen) (hbytes : (n + m) * bytes ≤ 140737488355328) (hbase : base ≤ w.heap.size)
    (h : ∀ v' w', w'.ownsRow base e size v' (n + m) (xs ++ news) → w.grownBy w' v.ownBlock → (v' = .slice none 0 0 ↔ v = .slice none 0 0 ∧ m = 0) → K (a.put o.dst v') w') :
    if Region.wanted o (yielded ops a.tmps) = true then Oper.wp P o a w K Q else E := by
  have hw : Region.wanted o (yielded ops a.tmps) = true := by simp [Region.wanted, hgd]
  rw [if_pos hw]
  exact wp_append_own w s x t ho base e i z size bytes ht hi hz hsize hby hzs hsz v n xs hs hown ad m c news hx hl hnews h1 h63 hbytes hbase h

def dPart (N : Nat) (xss : List (List Int)) (k : Nat) : Int := sumK (fun k => sgnI k * (xss.headD []).getD k 0 * detL N (minorL xss k)) k
theorem dPart_zero (N : Nat) (xss : List (List Int)) : dPart N xss 0 = 0 := rfl
theorem dPart_succ (N : Nat) (xss : List (List Int)) (k : Nat) : dPart N xss (k + 1) = dPart N xss k + sgnI k * (xss.headD []).getD k 0 * detL N (minorL xss k) := rfl
theorem dPart_end (N : Nat) (xss : List (List Int)) : detL (N + 1) xss = dPart N xss (N + 1) := rfl
theorem dPart_small {n : Nat} (h : n ≤ 3) {xss : List (List Int)} (hb : EB xss) (k : Nat) : -(600000000 * (k : Int)) ≤ dPart n xss k ∧ dPart n xss k ≤ 600000000 * (k : Int) := part_small h hb k

theorem cells_take {w : World} {b o M k : Nat} {r : List Int} (h : ∀ j, j < M → w.cell? ⟨b, o + j, none⟩ = some (.int .i64 (r.getD j 0))) (hr : r.length = M) (hk : k ≤ M) :
    ∀ j u, (ints (r.take k))[j]? = some u → w.cell? ((⟨b, o, none⟩ : Addr).add j) = some u := by
  intro j u hu
  have hlt : j < (ints (r.take k)).length := by
    rcases Nat.lt_or_ge j (ints (r.take k)).length with h' | h'
    · exact h'
    · rw [List.getElem?_eq_none h'] at hu; cases hu
  rw [ints_len, List.length_take] at hlt
  have hj : j < r.length := by omega
  have := h j (by omega)
  rw [List.getD_eq_getElem?_getD, List.getElem?_eq_getElem hj] at this
  unfold ints at hu
  rw [List.getElem?_map, List.getElem?_take_of_lt (by omega), List.getElem?_eq_getElem hj] at hu
  rw [← hu]
  unfold Addr.add
  by_cases h0 : j = 0
  · subst h0; simpa using this
  · simpa [h0] using this
theorem cells_drop {w : World} {b o M k : Nat} {r : List Int} (h : ∀ j, j < M → w.cell? ⟨b, o + j, none⟩ = some (.int .i64 (r.getD j 0))) (hr : r.length = M) :
    ∀ j u, (ints (r.drop k))[j]? = some u → w.cell? ((⟨b, o + k, none⟩ : Addr).add j) = some u := by
  intro j u hu
  have hlt : j < (ints (r.drop k)).length := by
    rcases Nat.lt_or_ge j (ints (r.drop k)).length with h' | h'
    · exact h'
    · rw [List.getElem?_eq_none h'] at hu; cases hu
  rw [ints_len, List.length_drop] at hlt
  have hj : k + j < r.length := by omega
  have := h (k + j) (by omega)
  rw [List.getD_eq_getElem?_getD, List.getElem?_eq_getElem hj] at this
  unfold ints at hu
  rw [List.getElem?_map, List.getElem?_drop, List.getElem?_eq_getElem hj] at hu
  rw [← hu]
  unfold Addr.add
  by_cases h0 : j = 0
  · subst h0; simpa using this
  · simpa [h0, Nat.add_assoc] using this
theorem ints_one (l : List Int) : ∀ u ∈ ints l, u.oneCell' = true := by
  intro u hu; unfold ints at hu; obtain ⟨x, _, rfl⟩ := List.mem_map.1 hu; rfl
theorem ints_drop_col (r : List Int) (k : Nat) : [] ++ ints (r.take k) ++ ints (r.drop (k + 1)) = ints (dropCol k r) := by
  unfold ints dropCol; rw [List.map_append]; rfl
theorem own_col {w : World} {base E : Nat} {v : Value} {k m N : Nat} {r : List Int} (h : w.ownsRow base E 1 v (0 + k + m) ([] ++ ints (r.take k) ++ ints (r.drop (k + 1)))) (hm : 0 + k + m = N) : w.ownsRow base E 1 v N (ints (dropCol k r)) := by
  rw [hm, ints_drop_col] at h; exact h
theorem headD_get {xss : List (List Int)} (h : 0 < xss.length) : xss.headD [] = xss[0] := by
  cases xss with
  | nil => simp at h
  | cons r l => rfl
set_option maxHeartbeats 4000000 in
theorem l04Det_any : ∀ (n : Nat) (xss : List (List Int)) (va : Value) (w : World), n ≤ 4 → xss.length = n → (∀ r ∈ xss, r.length = n) → EB xss → Row2 w w.heap.size va xss →
    Calls Try.prog 33 #[va] w fun e w' => e = .returned (.int .i64 (detL n xss)) ∧ Below w.heap.size w w' := by
  intro n
  induction n with
  | zero =>
    intro xss va w _ hl _ _ ha
    obtain ⟨A, c, rfl, hc⟩ := ha.shape
    rw [hl] at hc ⊢
    clear ha hl
    go_enter Try.func33, Try.ntmps33
    go_wp2_with fail
    go_ret
    exact ⟨rfl, Below.refl _ _⟩
  | succ N ih =>
    intro xss va w hn hl hr heb ha
    have IH := Lib.hid ih; clear ih
    have HEB := Lib.hid heb; clear heb
    obtain ⟨ba, oa, ca, rfl, hba, hca, hA⟩ := ha.open2 (by omega) (by omega) hr
    have HA := Lib.hid hA; clear ha hA
    have HL := Lib.hid hl; have HR := Lib.hid hr
    have HEND := Lib.hid (dPart_end N xss)
    have HML := Lib.hid (fun k => minor_len hl k)
    have HMR := Lib.hid (fun k h => minor_rows (k := k) hr h)
    obtain ⟨M, hM⟩ : ∃ M, M = N + 1 := ⟨_, rfl⟩
    rw [hl] at hca ⊢
    rw [← hM] at hca HA HL HR HEND hn ⊢
    have HM := Lib.hid hM
    have hM1 : N + 1 ≤ M := by omega
    have hM2 : M ≤ N + 1 := by omega
    clear hl hr hM
    obtain ⟨b0, o0, c0, hb0, hc0, g0, G0⟩ := HA.out 0 (by have := HL.out; omega)
    have hhd : xss.headD [] = xss[0]'(by have := HL.out; omega) := headD_get _
    rw [← hhd] at G0
    have HG0 := Lib.hid G0
    clear G0 hhd
    have hM0 : ((M : Int) == 0) = false := by simp; omega
    have hM00 : ((M : Int) = 0) = False := by simp; omega
    have g0' : w.cell? ⟨ba, oa, none⟩ = some (.slice (some ⟨b0, o0, none⟩) M c0) := by simpa using g0
    clear g0
    obtain ⟨i0, hi, hz0, hz1, hz2⟩ := info_parts info_intM
    have HI := Lib.hid hi; have HZ0 := Lib.hid hz0; have HZ1 := Lib.hid hz1; have HZ2 := Lib.hid hz2
    clear hi hz0 hz1 hz2
    obtain ⟨i1, hi, hz0, hz1, hz2⟩ := info_parts info_rowM
    have HJ := Lib.hid hi; have HY0 := Lib.hid hz0; have HY1 := Lib.hid hz1; have HY2 := Lib.hid hz2
    clear hi hz0 hz1 hz2
    go_enter Try.func33, Try.ntmps33
    go_wp2_with fail
    go_loopw [3, 4, 17] (fun s g i wr => ∃ k : Nat, k ≤ M ∧ i = .int .i64 k ∧ s = .int .i64 (dPart N xss k) ∧ g = .int .i64 (sgnI k) ∧ Below w.heap.size w wr) (fun _ _ i _ => M - (intOf i).toNat)
    case atStart => exact ⟨0, Nat.zero_le _, rfl, by rw [dPart_zero], rfl, Below.refl _ _⟩
    case round =>
      obtain ⟨wo, rfl⟩ : ∃ wo, wo = wr := ⟨_, rfl⟩
      obtain ⟨k, hk, rfl, rfl, rfl, hbel⟩ := hrel
      have HW := Lib.hid hbel; clear hbel
      obtain ⟨d1, d2⟩ := dPart_small (show N ≤ 3 by omega) HEB.out k
      by_cases hlt : k < M
      · have g1 := (HW.out.cell (p := ⟨b0, o0 + k, none⟩) hb0).trans (HG0.out k hlt)
        have HSU := Lib.hid (dPart_succ N xss k)
        have HSN := Lib.hid (sgn_next k)
        have hsx := sx_bound HEB.out k
        have hsg : -1 ≤ sgnI k ∧ sgnI k ≤ 1 := by rcases sgn_cases k with e | e <;> rw [e] <;> omega
        obtain ⟨q1, q2⟩ := prod_small hsx (det_small (show N ≤ 3 by omega) (minor_EB HEB.out k))
        obtain ⟨q3, q4⟩ := det_small (show N ≤ 3 by omega) (minor_EB HEB.out k)
        obtain ⟨hsx1, hsx2⟩ := hsx
        obtain ⟨hsg1, hsg2⟩ := hsg
        obtain ⟨x, hx⟩ : ∃ x, x = (xss.headD []).getD k 0 := ⟨_, rfl⟩
        rw [← hx] at g1 HSU hsx1 hsx2 q1 q2
        obtain ⟨sg, hs⟩ : ∃ sg, sg = sgnI k := ⟨_, rfl⟩
        rw [← hs] at HSU HSN hsx1 hsx2 hsg1 hsg2 q1 q2 ⊢
        obtain ⟨dd, hdd⟩ : ∃ dd, dd = detL N (minorL xss k) := ⟨_, rfl⟩
        rw [← hdd] at HSU q1 q2 q3 q4
        obtain ⟨pp, hpp⟩ : ∃ pp, pp = dPart N xss k := ⟨_, rfl⟩
        rw [← hpp] at HSU d1 d2 ⊢
        have HDD := Lib.hid hdd
        clear hx hs hdd hpp
        have HO0 := Lib.hid (World.ownsRow_made (base := w.heap.size) (e := 37) (size := 1) wo #[] 0 HW.out.size (Nat.zero_le _) rfl)
        by_cases hca1 : ca = 1
        · have hM9 : M - 1 = 0 := by omega
          have HV := Lib.hid (show OwnV 37 3 (wo.alloc (.cells #[] 37)) w.heap.size (.slice (some ⟨wo.heap.size, 0, none⟩) 0 0) [] (minorL xss k) from by rw [List.eq_nil_of_length_eq_zero (show (minorL xss k).length = 0 by rw [HML.out]; omega)]; exact OwnV.empty HO0.out)
          have HB := Lib.hid (bthen HW.out (bnew wo (.cells #[] 37)))
          have HC := Lib.hid (IH.out (minorL xss k) (.slice (some ⟨wo.heap.size, 0, none⟩) 0 0) (wo.alloc (.cells #[] 37)) (by omega) (HML.out k) (HMR.out k (by omega)) (minor_EB HEB.out k) HV.out.row2)
          rw [← HDD.out] at HC
          clear HO0
          subst hca1
          go_wp2_with fail
          go_loopw [7, 26] (fun v i wr => v = .slice (some ⟨wo.heap.size, 0, none⟩) 0 0 ∧ i = .int .i64 0 ∧ wr = (wo.alloc (.cells #[] 37))) (fun _ _ _ => 0)
          case atStart => exact ⟨rfl, rfl, rfl⟩
          case round =>
            obtain ⟨rfl, rfl, rfl⟩ := hrel
            go_wp2_with fail
            (with_reducible refine HC.out.mono ?_)
            rintro e w4 ⟨rfl, hbw⟩
            have HBW := Lib.hid hbw
            clear hbw
            go_wp2_with fail
            go_roundw
            case rel => exact ⟨k + 1, by omega, by go_num, by rw [HSU.out], by rw [HSN.out], bthen HB.out HBW.out⟩
            case measure => simp [intOf]; omega
        · go_wp2_with fail
          go_loopw [7, 26] (fun v i wr => ∃ (q : Nat) (u : Value) (vs : List Value), v = u ∧ q ≤ N ∧ i = .int .i64 q ∧ OwnV 37 3 wr w.heap.size u vs ((minorL xss k).take q) ∧ Below w.heap.size w wr) (fun _ i _ => N - (intOf i).toNat)
          case atStart => exact ⟨0, _, [], rfl, Nat.zero_le _, rfl, OwnV.empty (by simpa using HO0.out), bthen HW.out (bnew _ _)⟩
          case round =>
            clear HO0
            obtain ⟨wi, rfl⟩ : ∃ wi, wi = wr := ⟨_, rfl⟩
            obtain ⟨q, u, vs, rfl, hq, rfl, hov, hbi⟩ := hrel
            have HV := Lib.hid hov; have HB := Lib.hid hbi
            have HLEN := Lib.hid (show ((minorL xss k).take q).length = q by rw [List.length_take, HML.out]; omega)
            clear hov hbi
            by_cases hql : q < N
            · obtain ⟨b2, o2, c2, hb2, hc2, g2, G2⟩ := HA.out (q + 1) (by have := HL.out; omega)
              have g3 : wi.cell? ⟨ba, oa + 1 + q, none⟩ = some (.slice (some ⟨b2, o2, none⟩) M c2) := by
                have h := (HB.out.cell (p := ⟨ba, oa + (q + 1), none⟩) hba).trans g2
                rw [show oa + 1 + q = oa + (q + 1) by omega]; exact h
              have HMT := Lib.hid (minor_take (xss := xss) (k := k) (q := q) (by have := HL.out; omega))
              have HRL := Lib.hid (HR.out _ (List.getElem_mem (show q + 1 < xss.length by have := HL.out; omega)))
              have HDL := Lib.hid (dropCol_len (k := k) (N := N) (r := xss[q + 1]'(by have := HL.out; omega)) (HRL.out.trans HM.out) (by omega))
              obtain ⟨row, hrow⟩ : ∃ row, row = xss[q + 1]'(by have := HL.out; omega) := ⟨_, rfl⟩
              rw [← hrow] at G2 HMT HRL HDL
              have HG2 := Lib.hid (fun (W : World) (hW : Below w.heap.size w W) (j : Nat) (hj : j < M) => (hW.cell (p := ⟨b2, o2 + j, none⟩) hb2).trans (G2 j hj))
              have HE0 := Lib.hid (World.ownsRow_made (base := wi.heap.size) (e := 3) (size := 1) wi.drew #[] 0 (Nat.le_refl _) (Nat.zero_le _) rfl)
              have HL0 := Lib.hid (show ints [] = [] from rfl)
              have HB1 := Lib.hid (bthen (bdrew wi) (bnew wi.drew (.cells #[] 3)))
              clear G2 g2 hrow
              have hkw : IntKind.i64.wrap ((k : Int) + 1) = ((k + 1 : Nat) : Int) := by rw [IntWalk.i64_in _ ⟨by omega, by omega⟩]; omega
              have hk3 : k + 1 ≤ M := by omega
              have hkc : k ≤ c2 := by omega
              have hkc1 : k + 1 ≤ c2 := by omega
              have hkb1 : 0 ≤ (k : Int) + 1 := by omega
              have hkb2 : (k : Int) + 1 ≤ (M : Int) := by omega
              have hkk : (k : Int) ≤ (k : Int) + 1 := by omega
              by_cases hcc : c2 = k + 1
              · subst hcc
                have HD0 := Lib.hid (show ints (row.drop (k + 1)) = [] by rw [List.drop_of_length_le (by rw [HRL.out]; exact hc2)]; rfl)
                go_wp2_with fail
                go_region_law (first
                  | (refine step_append_own rfl (.tmp 31) (.tmp 34) 37 rfl wi.heap.size 3 i0 (.int .i64 0) 1 8 Try.underlying37 HI.out HZ0.out HZ1.out HZ2.out rfl (by decide) _ _ _ rfl HE0.out ⟨b2, o2, none⟩ k (k + 1) (ints (row.take k)) rfl (by rw [ints_len, List.length_take, HRL.out]; omega) (cells_take (fun j hj => HG2.out _ (bthen HB.out HB1.out) j hj) HRL.out hk) (ints_one _) (by unfold maxLen; omega) (by omega) (by have := HB1.out.size; simp) ?_; intro v1 w1 hown1 hgrow1 _; have HO1 := Lib.hid hown1; have HB2 := Lib.hid (since_grown HB1.out hgrow1 (fun g hg => (own_lt HE0.out hg).1)); clear hown1 hgrow1)
                  | (refine step_append_own rfl (.tmp 35) (.tmp 39) 37 rfl wi.heap.size 3 i0 (.int .i64 0) 1 8 Try.underlying37 HI.out HZ0.out HZ1.out HZ2.out rfl (by decide) _ _ _ rfl HO1.out ⟨b2, o2, none⟩ 0 0 (ints (row.drop (k + 1))) rfl (by rw [HD0.out]; rfl) (by intro j u hu; rw [HD0.out] at hu; simp at hu) (ints_one _) (by unfold maxLen; omega) (by omega) HB2.out.size ?_; intro v2 w2 hown2 hgrow2 _; have HO2 := Lib.hid (own_col (k := k) (m := 0) (N := N) hown2 (by omega)); have HB3 := Lib.hid (since_grown HB2.out hgrow2 (fun g hg => (own_lt HO1.out hg).1)); clear hown2 hgrow2; obtain ⟨A2, c3, hv2⟩ := own_shapeM (n := N) HO2.out; subst hv2)
                  | (refine step_append_lies _ rfl (.tmp 30) (.tmp 41) 22 rfl w.heap.size 37 i1 (.slice none 0 0) 1 24 Try.underlying22 HJ.out HY0.out HY1.out HY2.out rfl (by decide) _ q vs rfl (by have h := (HV.out.below HB3.out).own.alloc (.cells #[.slice A2 N c3] 37); rw [HLEN.out] at h; exact h) ⟨_, 0, none⟩ 1 1 [_] rfl rfl (cell_one_new _ _ _) (by intro u hu; simp at hu; subst hu; rfl) (by omega) (by unfold maxLen; omega) (by omega) (by have := HB.out.size; have := HB3.out.size; simp; omega) _ rfl ?_; intro g3 c4 w3 hown' hgrow _ _; have HG := Lib.hid hgrow; have HO3 := Lib.hid hown'; clear hown' hgrow))
                go_wp2_with fail
                go_roundw
                case rel =>
                  have h01 := bthen HB3.out (bnew w2 (.cells #[.slice A2 N c3] 37))
                  have hu := HO2.out.alloc (.cells #[.slice A2 N c3] 37)
                  have hv3 := HV.out.push (u := .slice A2 N c3) (ys := dropCol k row) types_apart HB.out.size h01 (by rw [HDL.out]; exact hu) (by rw [HLEN.out]; exact HO3.out) HG.out
                  rw [← HMT.out] at hv3
                  have hb3 := since_grown (bthen HB.out h01) HG.out (fun g' hg' => (own_lt HV.out.own hg').1)
                  exact ⟨q + 1, _, _, rfl, by omega, by go_num, hv3, hb3⟩
                case measure => simp [intOf]; omega
              · go_wp2_with fail
                go_region_law (first
                  | (refine step_append_own rfl (.tmp 31) (.tmp 34) 37 rfl wi.heap.size 3 i0 (.int .i64 0) 1 8 Try.underlying37 HI.out HZ0.out HZ1.out HZ2.out rfl (by decide) _ _ _ rfl HE0.out ⟨b2, o2, none⟩ k c2 (ints (row.take k)) rfl (by rw [ints_len, List.length_take, HRL.out]; omega) (cells_take (fun j hj => HG2.out _ (bthen HB.out HB1.out) j hj) HRL.out hk) (ints_one _) (by unfold maxLen; omega) (by omega) (by have := HB1.out.size; simp) ?_; intro v1 w1 hown1 hgrow1 _; have HO1 := Lib.hid hown1; have HB2 := Lib.hid (since_grown HB1.out hgrow1 (fun g hg => (own_lt HE0.out hg).1)); clear hown1 hgrow1)
                  | (refine step_append_own rfl (.tmp 35) (.tmp 39) 37 rfl wi.heap.size 3 i0 (.int .i64 0) 1 8 Try.underlying37 HI.out HZ0.out HZ1.out HZ2.out rfl (by decide) _ _ _ rfl HO1.out ⟨b2, o2 + (k + 1), none⟩ (M - (k + 1)) (c2 - (k + 1)) (ints (row.drop (k + 1))) rfl (by rw [ints_len, List.length_drop, HRL.out]; omega) (cells_drop (fun j hj => HG2.out _ (bthen HB.out HB2.out) j hj) HRL.out) (ints_one _) (by unfold maxLen; omega) (by omega) HB2.out.size ?_; intro v2 w2 hown2 hgrow2 _; have HO2 := Lib.hid (own_col (k := k) (m := M - (k + 1)) (N := N) hown2 (by omega)); have HB3 := Lib.hid (since_grown HB2.out hgrow2 (fun g hg => (own_lt HO1.out hg).1)); clear hown2 hgrow2; obtain ⟨A2, c3, hv2⟩ := own_shapeM (n := N) HO2.out; subst hv2)
                  | (refine step_append_lies _ rfl (.tmp 30) (.tmp 41) 22 rfl w.heap.size 37 i1 (.slice none 0 0) 1 24 Try.underlying22 HJ.out HY0.out HY1.out HY2.out rfl (by decide) _ q vs rfl (by have h := (HV.out.below HB3.out).own.alloc (.cells #[.slice A2 N c3] 37); rw [HLEN.out] at h; exact h) ⟨_, 0, none⟩ 1 1 [_] rfl rfl (cell_one_new _ _ _) (by intro u hu; simp at hu; subst hu; rfl) (by omega) (by unfold maxLen; omega) (by omega) (by have := HB.out.size; have := HB3.out.size; simp; omega) _ rfl ?_; intro g3 c4 w3 hown' hgrow _ _; have HG := Lib.hid hgrow; have HO3 := Lib.hid hown'; clear hown' hgrow))
                go_wp2_with fail
                go_roundw
                case rel =>
                  have h01 := bthen HB3.out (bnew w2 (.cells #[.slice A2 N c3] 37))
                  have hu := HO2.out.alloc (.cells #[.slice A2 N c3] 37)
                  have hv3 := HV.out.push (u := .slice A2 N c3) (ys := dropCol k row) types_apart HB.out.size h01 (by rw [HDL.out]; exact hu) (by rw [HLEN.out]; exact HO3.out) HG.out
                  rw [← HMT.out] at hv3
                  have hb3 := since_grown (bthen HB.out h01) HG.out (fun g' hg' => (own_lt HV.out.own hg').1)
                  exact ⟨q + 1, _, _, rfl, by omega, by go_num, hv3, hb3⟩
                case measure => simp [intOf]; omega
            · obtain rfl : q = N := by omega
              have hmr : Row2 wi wi.heap.size u7 (minorL xss k) := by
                have h := HV.out.row2
                rw [List.take_of_length_le (by rw [HML.out]; exact Nat.le_refl _)] at h; exact h
              have HC := Lib.hid (IH.out (minorL xss k) u7 wi (by omega) (HML.out k) (HMR.out k (by omega)) (minor_EB HEB.out k) hmr)
              rw [← HDD.out] at HC
              clear hmr
              go_wp2_with fail
              (with_reducible refine HC.out.mono ?_)
              rintro e w4 ⟨rfl, hbw⟩
              have HBW := Lib.hid hbw
              clear hbw
              go_wp2_with fail
              go_roundw
              case rel => exact ⟨k + 1, by omega, by go_num, by rw [HSU.out], by rw [HSN.out], bthen HB.out HBW.out⟩
              case measure => simp [intOf]; omega
      · obtain rfl : k = M := by omega
        have HE := Lib.hid HEND.out
        go_wp2
        go_ret
        exact ⟨ret_int HE.out.symm, HW.out⟩
set_option maxHeartbeats 4000000 in
theorem det_any : ∀ (n : Nat) (xss : List (List Int)) (va : Value) (w : World), n ≤ 4 → xss.length = n → (∀ r ∈ xss, r.length = n) → EB xss → Row2 w w.heap.size va xss →
    Calls Try.prog 34 #[va] w fun e w' => e = .returned (.int .i64 (detL n xss)) ∧ Below w.heap.size w w' := by
  intro n
  induction n with
  | zero =>
    intro xss va w _ hl _ _ ha
    obtain ⟨A, c, rfl, hc⟩ := ha.shape
    rw [hl] at hc ⊢
    clear ha hl
    go_enter Try.func34, Try.ntmps34
    go_wp2_with fail
    go_ret
    exact ⟨rfl, Below.refl _ _⟩
  | succ N ih =>
    intro xss va w hn hl hr heb ha
    have IH := Lib.hid ih; clear ih
    have HEB := Lib.hid heb; clear heb
    obtain ⟨ba, oa, ca, rfl, hba, hca, hA⟩ := ha.open2 (by omega) (by omega) hr
    have HA := Lib.hid hA; clear ha hA
    have HL := Lib.hid hl; have HR := Lib.hid hr
    have HEND := Lib.hid (dPart_end N xss)
    have HML := Lib.hid (fun k => minor_len hl k)
    have HMR := Lib.hid (fun k h => minor_rows (k := k) hr h)
    obtain ⟨M, hM⟩ : ∃ M, M = N + 1 := ⟨_, rfl⟩
    rw [hl] at hca ⊢
    rw [← hM] at hca HA HL HR HEND hn ⊢
    have HM := Lib.hid hM
    have hM1 : N + 1 ≤ M := by omega
    have hM2 : M ≤ N + 1 := by omega
    clear hl hr hM
    obtain ⟨b0, o0, c0, hb0, hc0, g0, G0⟩ := HA.out 0 (by have := HL.out; omega)
    have hhd : xss.headD [] = xss[0]'(by have := HL.out; omega) := headD_get _
    rw [← hhd] at G0
    have HG0 := Lib.hid G0
    clear G0 hhd
    have hM0 : ((M : Int) == 0) = false := by simp; omega
    have hM00 : ((M : Int) = 0) = False := by simp; omega
    have g0' : w.cell? ⟨ba, oa, none⟩ = some (.slice (some ⟨b0, o0, none⟩) M c0) := by simpa using g0
    clear g0
    obtain ⟨i0, hi, hz0, hz1, hz2⟩ := info_parts info_intM
    have HI := Lib.hid hi; have HZ0 := Lib.hid hz0; have HZ1 := Lib.hid hz1; have HZ2 := Lib.hid hz2
    clear hi hz0 hz1 hz2
    obtain ⟨i1, hi, hz0, hz1, hz2⟩ := info_parts info_rowM
    have HJ := Lib.hid hi; have HY0 := Lib.hid hz0; have HY1 := Lib.hid hz1; have HY2 := Lib.hid hz2
    clear hi hz0 hz1 hz2
    go_enter Try.func34, Try.ntmps34
    go_wp2_with fail
    go_loopw [3, 4, 17] (fun s g i wr => ∃ k : Nat, k ≤ M ∧ i = .int .i64 k ∧ s = .int .i64 (dPart N xss k) ∧ g = .int .i64 (sgnI k) ∧ Below w.heap.size w wr) (fun _ _ i _ => M - (intOf i).toNat)
    case atStart => exact ⟨0, Nat.zero_le _, rfl, by rw [dPart_zero], rfl, Below.refl _ _⟩
    case round =>
      obtain ⟨wo, rfl⟩ : ∃ wo, wo = wr := ⟨_, rfl⟩
      obtain ⟨k, hk, rfl, rfl, rfl, hbel⟩ := hrel
      have HW := Lib.hid hbel; clear hbel
      obtain ⟨d1, d2⟩ := dPart_small (show N ≤ 3 by omega) HEB.out k
      by_cases hlt : k < M
      · have g1 := (HW.out.cell (p := ⟨b0, o0 + k, none⟩) hb0).trans (HG0.out k hlt)
        have HSU := Lib.hid (dPart_succ N xss k)
        have HSN := Lib.hid (sgn_next k)
        have hsx := sx_bound HEB.out k
        have hsg : -1 ≤ sgnI k ∧ sgnI k ≤ 1 := by rcases sgn_cases k with e | e <;> rw [e] <;> omega
        obtain ⟨q1, q2⟩ := prod_small hsx (det_small (show N ≤ 3 by omega) (minor_EB HEB.out k))
        obtain ⟨q3, q4⟩ := det_small (show N ≤ 3 by omega) (minor_EB HEB.out k)
        obtain ⟨hsx1, hsx2⟩ := hsx
        obtain ⟨hsg1, hsg2⟩ := hsg
        obtain ⟨x, hx⟩ : ∃ x, x = (xss.headD []).getD k 0 := ⟨_, rfl⟩
        rw [← hx] at g1 HSU hsx1 hsx2 q1 q2
        obtain ⟨sg, hs⟩ : ∃ sg, sg = sgnI k := ⟨_, rfl⟩
        rw [← hs] at HSU HSN hsx1 hsx2 hsg1 hsg2 q1 q2 ⊢
        obtain ⟨dd, hdd⟩ : ∃ dd, dd = detL N (minorL xss k) := ⟨_, rfl⟩
        rw [← hdd] at HSU q1 q2 q3 q4
        obtain ⟨pp, hpp⟩ : ∃ pp, pp = dPart N xss k := ⟨_, rfl⟩
        rw [← hpp] at HSU d1 d2 ⊢
        have HDD := Lib.hid hdd
        clear hx hs hdd hpp
        have HO0 := Lib.hid (World.ownsRow_made (base := w.heap.size) (e := 37) (size := 1) wo #[] 0 HW.out.size (Nat.zero_le _) rfl)
        by_cases hca1 : ca = 1
        · have hM9 : M - 1 = 0 := by omega
          have HV := Lib.hid (show OwnV 37 3 (wo.alloc (.cells #[] 37)) w.heap.size (.slice (some ⟨wo.heap.size, 0, none⟩) 0 0) [] (minorL xss k) from by rw [List.eq_nil_of_length_eq_zero (show (minorL xss k).length = 0 by rw [HML.out]; omega)]; exact OwnV.empty HO0.out)
          have HB := Lib.hid (bthen HW.out (bnew wo (.cells #[] 37)))
          have HC := Lib.hid (IH.out (minorL xss k) (.slice (some ⟨wo.heap.size, 0, none⟩) 0 0) (wo.alloc (.cells #[] 37)) (by omega) (HML.out k) (HMR.out k (by omega)) (minor_EB HEB.out k) HV.out.row2)
          rw [← HDD.out] at HC
          clear HO0
          subst hca1
          go_wp2_with fail
          go_loopw [7, 26] (fun v i wr => v = .slice (some ⟨wo.heap.size, 0, none⟩) 0 0 ∧ i = .int .i64 0 ∧ wr = (wo.alloc (.cells #[] 37))) (fun _ _ _ => 0)
          case atStart => exact ⟨rfl, rfl, rfl⟩
          case round =>
            obtain ⟨rfl, rfl, rfl⟩ := hrel
            go_wp2_with fail
            (with_reducible refine HC.out.mono ?_)
            rintro e w4 ⟨rfl, hbw⟩
            have HBW := Lib.hid hbw
            clear hbw
            go_wp2_with fail
            go_roundw
            case rel => exact ⟨k + 1, by omega, by go_num, by rw [HSU.out], by rw [HSN.out], bthen HB.out HBW.out⟩
            case measure => simp [intOf]; omega
        · go_wp2_with fail
          go_loopw [7, 26] (fun v i wr => ∃ (q : Nat) (u : Value) (vs : List Value), v = u ∧ q ≤ N ∧ i = .int .i64 q ∧ OwnV 37 3 wr w.heap.size u vs ((minorL xss k).take q) ∧ Below w.heap.size w wr) (fun _ i _ => N - (intOf i).toNat)
          case atStart => exact ⟨0, _, [], rfl, Nat.zero_le _, rfl, OwnV.empty (by simpa using HO0.out), bthen HW.out (bnew _ _)⟩
          case round =>
            clear HO0
            obtain ⟨wi, rfl⟩ : ∃ wi, wi = wr := ⟨_, rfl⟩
            obtain ⟨q, u, vs, rfl, hq, rfl, hov, hbi⟩ := hrel
            have HV := Lib.hid hov; have HB := Lib.hid hbi
            have HLEN := Lib.hid (show ((minorL xss k).take q).length = q by rw [List.length_take, HML.out]; omega)
            clear hov hbi
            by_cases hql : q < N
            · obtain ⟨b2, o2, c2, hb2, hc2, g2, G2⟩ := HA.out (q + 1) (by have := HL.out; omega)
              have g3 : wi.cell? ⟨ba, oa + 1 + q, none⟩ = some (.slice (some ⟨b2, o2, none⟩) M c2) := by
                have h := (HB.out.cell (p := ⟨ba, oa + (q + 1), none⟩) hba).trans g2
                rw [show oa + 1 + q = oa + (q + 1) by omega]; exact h
              have HMT := Lib.hid (minor_take (xss := xss) (k := k) (q := q) (by have := HL.out; omega))
              have HRL := Lib.hid (HR.out _ (List.getElem_mem (show q + 1 < xss.length by have := HL.out; omega)))
              have HDL := Lib.hid (dropCol_len (k := k) (N := N) (r := xss[q + 1]'(by have := HL.out; omega)) (HRL.out.trans HM.out) (by omega))
              obtain ⟨row, hrow⟩ : ∃ row, row = xss[q + 1]'(by have := HL.out; omega) := ⟨_, rfl⟩
              rw [← hrow] at G2 HMT HRL HDL
              have HG2 := Lib.hid (fun (W : World) (hW : Below w.heap.size w W) (j : Nat) (hj : j < M) => (hW.cell (p := ⟨b2, o2 + j, none⟩) hb2).trans (G2 j hj))
              have HE0 := Lib.hid (World.ownsRow_made (base := wi.heap.size) (e := 3) (size := 1) wi.drew #[] 0 (Nat.le_refl _) (Nat.zero_le _) rfl)
              have HL0 := Lib.hid (show ints [] = [] from rfl)
              have HB1 := Lib.hid (bthen (bdrew wi) (bnew wi.drew (.cells #[] 3)))
              clear G2 g2 hrow
              have hkw : IntKind.i64.wrap ((k : Int) + 1) = ((k + 1 : Nat) : Int) := by rw [IntWalk.i64_in _ ⟨by omega, by omega⟩]; omega
              have hk3 : k + 1 ≤ M := by omega
              have hkc : k ≤ c2 := by omega
              have hkc1 : k + 1 ≤ c2 := by omega
              have hkb1 : 0 ≤ (k : Int) + 1 := by omega
              have hkb2 : (k : Int) + 1 ≤ (M : Int) := by omega
              have hkk : (k : Int) ≤ (k : Int) + 1 := by omega
              by_cases hcc : c2 = k + 1
              · subst hcc
                have HD0 := Lib.hid (show ints (row.drop (k + 1)) = [] by rw [List.drop_of_length_le (by rw [HRL.out]; exact hc2)]; rfl)
                go_wp2_with fail
                go_region_law (first
                  | (refine step_append_own rfl (.tmp 31) (.tmp 34) 37 rfl wi.heap.size 3 i0 (.int .i64 0) 1 8 Try.underlying37 HI.out HZ0.out HZ1.out HZ2.out rfl (by decide) _ _ _ rfl HE0.out ⟨b2, o2, none⟩ k (k + 1) (ints (row.take k)) rfl (by rw [ints_len, List.length_take, HRL.out]; omega) (cells_take (fun j hj => HG2.out _ (bthen HB.out HB1.out) j hj) HRL.out hk) (ints_one _) (by unfold maxLen; omega) (by omega) (by have := HB1.out.size; simp) ?_; intro v1 w1 hown1 hgrow1 _; have HO1 := Lib.hid hown1; have HB2 := Lib.hid (since_grown HB1.out hgrow1 (fun g hg => (own_lt HE0.out hg).1)); clear hown1 hgrow1)
                  | (refine step_append_own rfl (.tmp 35) (.tmp 39) 37 rfl wi.heap.size 3 i0 (.int .i64 0) 1 8 Try.underlying37 HI.out HZ0.out HZ1.out HZ2.out rfl (by decide) _ _ _ rfl HO1.out ⟨b2, o2, none⟩ 0 0 (ints (row.drop (k + 1))) rfl (by rw [HD0.out]; rfl) (by intro j u hu; rw [HD0.out] at hu; simp at hu) (ints_one _) (by unfold maxLen; omega) (by omega) HB2.out.size ?_; intro v2 w2 hown2 hgrow2 _; have HO2 := Lib.hid (own_col (k := k) (m := 0) (N := N) hown2 (by omega)); have HB3 := Lib.hid (since_grown HB2.out hgrow2 (fun g hg => (own_lt HO1.out hg).1)); clear hown2 hgrow2; obtain ⟨A2, c3, hv2⟩ := own_shapeM (n := N) HO2.out; subst hv2)
                  | (refine step_append_lies _ rfl (.tmp 30) (.tmp 41) 22 rfl w.heap.size 37 i1 (.slice none 0 0) 1 24 Try.underlying22 HJ.out HY0.out HY1.out HY2.out rfl (by decide) _ q vs rfl (by have h := (HV.out.below HB3.out).own.alloc (.cells #[.slice A2 N c3] 37); rw [HLEN.out] at h; exact h) ⟨_, 0, none⟩ 1 1 [_] rfl rfl (cell_one_new _ _ _) (by intro u hu; simp at hu; subst hu; rfl) (by omega) (by unfold maxLen; omega) (by omega) (by have := HB.out.size; have := HB3.out.size; simp; omega) _ rfl ?_; intro g3 c4 w3 hown' hgrow _ _; have HG := Lib.hid hgrow; have HO3 := Lib.hid hown'; clear hown' hgrow))
                go_wp2_with fail
                go_roundw
                case rel =>
                  have h01 := bthen HB3.out (bnew w2 (.cells #[.slice A2 N c3] 37))
                  have hu := HO2.out.alloc (.cells #[.slice A2 N c3] 37)
                  have hv3 := HV.out.push (u := .slice A2 N c3) (ys := dropCol k row) types_apart HB.out.size h01 (by rw [HDL.out]; exact hu) (by rw [HLEN.out]; exact HO3.out) HG.out
                  rw [← HMT.out] at hv3
                  have hb3 := since_grown (bthen HB.out h01) HG.out (fun g' hg' => (own_lt HV.out.own hg').1)
                  exact ⟨q + 1, _, _, rfl, by omega, by go_num, hv3, hb3⟩
                case measure => simp [intOf]; omega
              · go_wp2_with fail
                go_region_law (first
                  | (refine step_append_own rfl (.tmp 31) (.tmp 34) 37 rfl wi.heap.size 3 i0 (.int .i64 0) 1 8 Try.underlying37 HI.out HZ0.out HZ1.out HZ2.out rfl (by decide) _ _ _ rfl HE0.out ⟨b2, o2, none⟩ k c2 (ints (row.take k)) rfl (by rw [ints_len, List.length_take, HRL.out]; omega) (cells_take (fun j hj => HG2.out _ (bthen HB.out HB1.out) j hj) HRL.out hk) (ints_one _) (by unfold maxLen; omega) (by omega) (by have := HB1.out.size; simp) ?_; intro v1 w1 hown1 hgrow1 _; have HO1 := Lib.hid hown1; have HB2 := Lib.hid (since_grown HB1.out hgrow1 (fun g hg => (own_lt HE0.out hg).1)); clear hown1 hgrow1)
                  | (refine step_append_own rfl (.tmp 35) (.tmp 39) 37 rfl wi.heap.size 3 i0 (.int .i64 0) 1 8 Try.underlying37 HI.out HZ0.out HZ1.out HZ2.out rfl (by decide) _ _ _ rfl HO1.out ⟨b2, o2 + (k + 1), none⟩ (M - (k + 1)) (c2 - (k + 1)) (ints (row.drop (k + 1))) rfl (by rw [ints_len, List.length_drop, HRL.out]; omega) (cells_drop (fun j hj => HG2.out _ (bthen HB.out HB2.out) j hj) HRL.out) (ints_one _) (by unfold maxLen; omega) (by omega) HB2.out.size ?_; intro v2 w2 hown2 hgrow2 _; have HO2 := Lib.hid (own_col (k := k) (m := M - (k + 1)) (N := N) hown2 (by omega)); have HB3 := Lib.hid (since_grown HB2.out hgrow2 (fun g hg => (own_lt HO1.out hg).1)); clear hown2 hgrow2; obtain ⟨A2, c3, hv2⟩ := own_shapeM (n := N) HO2.out; subst hv2)
                  | (refine step_append_lies _ rfl (.tmp 30) (.tmp 41) 22 rfl w.heap.size 37 i1 (.slice none 0 0) 1 24 Try.underlying22 HJ.out HY0.out HY1.out HY2.out rfl (by decide) _ q vs rfl (by have h := (HV.out.below HB3.out).own.alloc (.cells #[.slice A2 N c3] 37); rw [HLEN.out] at h; exact h) ⟨_, 0, none⟩ 1 1 [_] rfl rfl (cell_one_new _ _ _) (by intro u hu; simp at hu; subst hu; rfl) (by omega) (by unfold maxLen; omega) (by omega) (by have := HB.out.size; have := HB3.out.size; simp; omega) _ rfl ?_; intro g3 c4 w3 hown' hgrow _ _; have HG := Lib.hid hgrow; have HO3 := Lib.hid hown'; clear hown' hgrow))
                go_wp2_with fail
                go_roundw
                case rel =>
                  have h01 := bthen HB3.out (bnew w2 (.cells #[.slice A2 N c3] 37))
                  have hu := HO2.out.alloc (.cells #[.slice A2 N c3] 37)
                  have hv3 := HV.out.push (u := .slice A2 N c3) (ys := dropCol k row) types_apart HB.out.size h01 (by rw [HDL.out]; exact hu) (by rw [HLEN.out]; exact HO3.out) HG.out
                  rw [← HMT.out] at hv3
                  have hb3 := since_grown (bthen HB.out h01) HG.out (fun g' hg' => (own_lt HV.out.own hg').1)
                  exact ⟨q + 1, _, _, rfl, by omega, by go_num, hv3, hb3⟩
                case measure => simp [intOf]; omega
            · obtain rfl : q = N := by omega
              have hmr : Row2 wi wi.heap.size u7 (minorL xss k) := by
                have h := HV.out.row2
                rw [List.take_of_length_le (by rw [HML.out]; exact Nat.le_refl _)] at h; exact h
              have HC := Lib.hid (IH.out (minorL xss k) u7 wi (by omega) (HML.out k) (HMR.out k (by omega)) (minor_EB HEB.out k) hmr)
              rw [← HDD.out] at HC
              clear hmr
              go_wp2_with fail
              (with_reducible refine HC.out.mono ?_)
              rintro e w4 ⟨rfl, hbw⟩
              have HBW := Lib.hid hbw
              clear hbw
              go_wp2_with fail
              go_roundw
              case rel => exact ⟨k + 1, by omega, by go_num, by rw [HSU.out], by rw [HSN.out], bthen HB.out HBW.out⟩
              case measure => simp [intOf]; omega
      · obtain rfl : k = M := by omega
        have HE := Lib.hid HEND.out
        go_wp2
        go_ret
        exact ⟨ret_int HE.out.symm, HW.out⟩
/-- what DeterminantOf returns -/
def dtR (xss : List (List Int)) : Int := if sqB xss = true then detL xss.length xss else 0
theorem dt_no {xss : List (List Int)} (h : sqB xss = false) : dtR xss = 0 := by unfold dtR; rw [h]; rfl
theorem dt_yes {xss : List (List Int)} (h : sqB xss = true) : dtR xss = detL xss.length xss := by unfold dtR; rw [if_pos h]
set_option maxHeartbeats 1000000 in
theorem specDeterminantOf_any (xss : List (List Int)) (va : Value) (w : World) (ha : Row2 w w.heap.size va xss) :
    Calls Try.prog 12 #[va] w fun e w' => e = .returned (.int .i64 (dtR xss)) ∧ Below w.heap.size w w' := by
  have HSQ := Lib.hid (l04Square_any xss va w _ ha)
  cases hq : sqB xss
  · have HF := Lib.hid (dt_no hq)
    rw [hq] at HSQ
    clear ha hq
    go_enter Try.func12, Try.ntmps12
    go_wp2_with fail
    (with_reducible refine HSQ.out.mono ?_)
    rintro e w' ⟨rfl, hww⟩
    cases hww.symm
    go_wp2_with fail
    go_ret
    exact ⟨ret_int HF.out.symm, Below.refl _ _⟩
  · have HF := Lib.hid (dt_yes hq)
    obtain ⟨n1, n4, hr, heb⟩ := sqB_parts hq
    have HC := Lib.hid (l04Det_any xss.length xss va w n4 rfl hr heb ha)
    rw [← HF.out] at HC
    rw [hq] at HSQ
    clear ha hq hr heb n1 n4 HF
    go_enter Try.func12, Try.ntmps12
    go_wp2_with fail
    (with_reducible refine HSQ.out.mono ?_)
    rintro e w' ⟨rfl, hww⟩
    cases hww.symm
    go_wp2_with fail
    (with_reducible refine HC.out.mono ?_)
    rintro e w4 ⟨rfl, hbw⟩
    have HBW := Lib.hid hbw
    clear hbw
    go_wp2_with fail
    go_ret
    exact ⟨rfl, HBW.out⟩
set_option maxHeartbeats 1000000 in
theorem implDeterminantOf_any (xss : List (List Int)) (va : Value) (w : World) (ha : Row2 w w.heap.size va xss) :
    Calls Try.prog 13 #[va] w fun e w' => e = .returned (.int .i64 (dtR xss)) ∧ Below w.heap.size w w' := by
  have HSQ := Lib.hid (isMatrix_any xss va w _ ha)
  cases hq : sqB xss
  · have HF := Lib.hid (dt_no hq)
    rw [hq] at HSQ
    clear ha hq
    go_enter Try.func13, Try.ntmps13
    go_wp2_with fail
    (with_reducible refine HSQ.out.mono ?_)
    rintro e w' ⟨rfl, hww⟩
    cases hww.symm
    go_wp2_with fail
    go_ret
    exact ⟨ret_int HF.out.symm, Below.refl _ _⟩
  · have HF := Lib.hid (dt_yes hq)
    obtain ⟨n1, n4, hr, heb⟩ := sqB_parts hq
    have HC := Lib.hid (det_any xss.length xss va w n4 rfl hr heb ha)
    rw [← HF.out] at HC
    rw [hq] at HSQ
    clear ha hq hr heb n1 n4 HF
    go_enter Try.func13, Try.ntmps13
    go_wp2_with fail
    (with_reducible refine HSQ.out.mono ?_)
    rintro e w' ⟨rfl, hww⟩
    cases hww.symm
    go_wp2_with fail
    (with_reducible refine HC.out.mono ?_)
    rintro e w4 ⟨rfl, hbw⟩
    have HBW := Lib.hid hbw
    clear hbw
    go_wp2_with fail
    go_ret
    exact ⟨rfl, HBW.out⟩
end Go.Proofs.Ytciiokegifgbdaa
/- Walks: primitive substitutions: what is computed. -/
namespace Go.Proofs.Ytciiokegifgbdaa
open Go.RowKit
set_option maxRecDepth 20000

theorem matR_rows (xs : List ByteArray) : ∀ r ∈ matR xs, r.length = xs.length := by
  intro r hr; simp only [matR, List.mem_map] at hr; obtain ⟨i, _, rfl⟩ := hr; exact rowR_len xs i
/-- what IsPrimitiveSubst returns -/
def primR (xs : List ByteArray) : Bool := substB xs && primGo (matR xs) 16 (matR xs)
theorem primR_no {xs : List ByteArray} (h : substB xs = false) : primR xs = false := by unfold primR; rw [h]; rfl
theorem primR_yes {xs : List ByteArray} (h : substB xs = true) : primR xs = primGo (matR xs) 16 (matR xs) := by unfold primR; rw [h]; rfl
end Go.Proofs.Ytciiokegifgbdaa
/- Walks: images of letters and of words. -/
namespace Go.Proofs.Ytciiokegifgbdaa
open Go.RowKit
set_option maxRecDepth 20000

set_option maxHeartbeats 400000 in
theorem image_any (xs : List ByteArray) (va : Value) (c : UInt8) (w : World) (ha : Row1 w w.heap.size va (xs.map .string)) (hl : xs.length ≤ 4) (h1 : (97 : Int) ≤ (c.toNat : Int)) (h3 : (c.toNat : Int) - 97 < xs.length) :
    Calls Try.prog 46 #[.agg #[va], .int .u8 c.toNat] w fun e w' => e = .returned (.string (imgAt xs c)) ∧ Below w.heap.size w w' := by
  have s0 := Stands.start w 33 va
  have HS0 := Lib.hid s0; clear s0
  obtain ⟨b, o, cp, rfl, hb, hc, hcell⟩ := ha.openAt (by omega)
  have hk : c.toNat - 97 < xs.length := by omega
  have HI := Lib.hid (imgAt_get hk)
  have g1 := (HS0.out.below.cell (p := ⟨b, o + (c.toNat - 97), none⟩) hb).trans (hcell _ hk)
  rw [← HI.out] at g1
  clear hcell ha HI
  go_enter Try.func46, Try.ntmps46
  go_wp2
  go_ret
  exact ⟨rfl, HS0.out.below⟩
set_option maxHeartbeats 1000000 in
theorem apply_any (xs : List ByteArray) (va : Value) (s : ByteArray) (w : World) (ha : Row1 w w.heap.size va (xs.map .string)) (hx : substB xs = true) (hw : wordIn xs s.data.toList = true) :
    Calls Try.prog 42 #[.agg #[va], .string s] w fun e w' => e = .returned (.string ⟨(applyL xs s.data.toList).toArray⟩) ∧ Below w.heap.size w w' := by
  have s0 := Stands.start w 33 va
  have hs : s.size ≤ 400 := by have := hw; simp only [wordIn, Bool.and_eq_true] at this; exact word_len this.2
  have hlen := applyL_len hx (letters_of_word hw)
  rw [← Lib.size_eq] at hlen
  have HS0 := Lib.hid s0; have HA := Lib.hid ha; have HX := Lib.hid hx; have HW := Lib.hid hw; clear s0 ha hx hw
  have h4 := (subst_parts HX.out).2.1
  go_enter Try.func42, Try.ntmps42
  go_wp2_with fail
  go_loopw [5, 9] (fun v i wr => ∃ (k : Nat) (out : ByteArray), k ≤ s.size ∧ out.data.toList = applyL xs (s.data.toList.take k) ∧ v = .string out ∧ i = .int .i64 k ∧ Stands w 33 va wr) (fun _ i _ => s.size - (intOf i).toNat)
  case atStart => exact ⟨0, ⟨#[]⟩, Nat.zero_le _, by simp [applyL], rfl, rfl, HS0.out⟩
  case round =>
    obtain ⟨k, out, hk, ho, rfl, rfl, hst⟩ := hrel
    have HO := Lib.hid ho; have HST := Lib.hid hst; clear ho hst
    have hsz : out.size ≤ 3200 := by
      have := applyL_take_le xs s.data.toList k
      rw [Lib.size_eq, HO.out]; omega
    by_cases hlt : k < s.size
    · obtain ⟨b1, b2, b3⟩ := wordIn_byte HW.out k hlt
      have hi : (imgAt xs s[k]).size ≤ 8 := (imgAt_ok HX.out (c := s[k]) (by omega)).2.1
      have HC := Lib.hid (fun W hR => image_any xs va s[k] W hR h4 b1 b3)
      have c0 := HST.out.box
      clear b1 b2 b3 h4 hlen
      go_wp2_with fail
      go_region_with (go_at_call 46; refine (HC.out _ (HST.out.drew.row HA.out)).mono ?_; rintro e w1 ⟨rfl, hb1⟩; have S1 := Lib.hid (HST.out.drew.on hb1); clear hb1)
      all_goals
        go_wp2
        go_roundw
        case rel => exact ⟨k + 1, _, by omega, by rw [data_append, HO.out, applyL_snoc xs s k hlt], rfl, by go_num, Hid.out (by assumption)⟩
        case measure => simp [intOf]; omega
    · have e := take_all s k (by omega)
      go_wp2
      go_ret
      exact ⟨by rw [mk_list out HO.out, e] <;> rfl, HST.out.below⟩
end Go.Proofs.Ytciiokegifgbdaa
/- Walks: letters with an image, growing letters. -/
namespace Go.Proofs.Ytciiokegifgbdaa
open Go.RowKit
set_option maxRecDepth 20000

set_option maxHeartbeats 400000 in
theorem hasImage_any (xs : List ByteArray) (va : Value) (s : ByteArray) (w : World) (ha : Row1 w w.heap.size va (xs.map .string)) (hs : s.size ≤ maxLen) :
    Calls Try.prog 45 #[.agg #[va], .string s] w fun e w' => e = .returned (.bool (imgB xs s.data.toList)) ∧ Below w.heap.size w w' := by
  have s0 := Stands.start w 33 va
  have HI := Lib.hid (hasImages_any xs va s _ (s0.row ha) hs)
  have c0 := s0.box
  have HS0 := Lib.hid s0
  have HE := Lib.hid (imgB_eq xs s.data.toList)
  clear s0 ha
  cases ho : oneB s.data.toList
  · rw [ho] at HE
    go_enter Try.func45, Try.ntmps45
    go_wp2_with (go_at_call 57; refine (isLetter_any _ _ hs).mono ?_; rw [ho]; rintro e w' ⟨rfl, rfl⟩)
    go_ret
    exact ⟨ret_bool (by rw [HE.out]; rfl), HS0.out.below⟩
  · rw [ho, Bool.true_and] at HE
    have HO := Lib.hid ho
    clear ho
    go_enter Try.func45, Try.ntmps45
    go_wp2_with (go_at_call 57; refine (isLetter_any _ _ hs).mono ?_; rw [HO.out]; rintro e w' ⟨rfl, rfl⟩)
    refine HI.out.mono ?_
    rw [← HE.out]
    rintro e w1 ⟨rfl, hb1⟩
    have S1 := Lib.hid (HS0.out.on hb1); clear hb1
    go_wp2_with fail
    go_ret
    exact ⟨rfl, S1.out.below⟩
end Go.Proofs.Ytciiokegifgbdaa
/- Walks: the index of a letter with an image. -/
namespace Go.Proofs.Ytciiokegifgbdaa
open Go.RowKit
set_option maxRecDepth 20000

def letK (xs : List ByteArray) (l : List UInt8) : Int := if imgB xs l = true then ((l.headD 0).toNat : Int) - 97 else -1
theorem letK_no {xs : List ByteArray} {l : List UInt8} (h : imgB xs l = false) : letK xs l = -1 := by unfold letK; rw [h]; rfl
theorem letK_yes {xs : List ByteArray} {l : List UInt8} (h : imgB xs l = true) : letK xs l = ((l.headD 0).toNat : Int) - 97 := by unfold letK; rw [if_pos h]
theorem one_byte {t : ByteArray} (h : t.size = 1) : ∃ c, t = ⟨#[c]⟩ := by
  obtain ⟨⟨l⟩⟩ := t
  match l, h with
  | [c], _ => exact ⟨c, rfl⟩
theorem img_parts {xs : List ByteArray} {c : UInt8} (h : wordB [c] = true) : imgB xs [c] = decide ((c.toNat : Int) - 97 < xs.length) := by
  rw [imgB_eq]
  have h1 : oneB [c] = true := by rw [← h]; simp [oneB, wordB]
  rw [h1, h]; simp [inB]
theorem img_at {xs : List ByteArray} {t : ByteArray} (h1 : t.size = 1) (h : wordB t.data.toList = true) (h0 : 0 < t.size) : imgB xs t.data.toList = decide ((t[0].toNat : Int) - 97 < xs.length) ∧ (97 : Int) ≤ (t[0].toNat : Int) ∧ (t[0].toNat : Int) ≤ 100 ∧ t.data.toList.headD 0 = t[0] := by
  obtain ⟨q1, q2⟩ := word_byte (word_letters h) 0 h0
  obtain ⟨c, rfl⟩ := one_byte h1
  exact ⟨img_parts h, q1, q2, rfl⟩
theorem img_letter {xs : List ByteArray} {t : ByteArray} (h : imgB xs t.data.toList = true) : ∃ k, k < xs.length ∧ t = ltr k ∧ k < 4 ∧ letK xs t.data.toList = k := by
  have hk := letK_yes h
  rw [imgB_eq, Bool.and_eq_true, Bool.and_eq_true] at h
  obtain ⟨h1, h2, h3⟩ := h
  have hs : t.size = 1 := by
    by_cases hs : t.size = 1
    · exact hs
    · rw [oneB_not hs] at h1; cases h1
  obtain ⟨c, rfl⟩ := one_byte hs
  obtain ⟨q1, q2⟩ := word_byte (s := ⟨#[c]⟩) (word_letters h3) 0 (by show 0 < 1; omega)
  have q1' : (97 : Int) ≤ (c.toNat : Int) := q1
  have q2' : (c.toNat : Int) ≤ 100 := q2
  have h4 : (c.toNat : Int) - 97 < xs.length := by simpa [inB] using h2
  have hk' : letK xs (⟨#[c]⟩ : ByteArray).data.toList = ((c.toNat : Int)) - 97 := hk
  refine ⟨c.toNat - 97, by omega, ?_, by omega, by rw [hk']; omega⟩
  unfold ltr
  congr 3
  apply UInt8.toNat_inj.1
  rw [lc_nat (by omega)]; omega
end Go.Proofs.Ytciiokegifgbdaa
