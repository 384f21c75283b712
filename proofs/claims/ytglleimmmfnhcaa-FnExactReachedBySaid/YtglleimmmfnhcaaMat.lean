/- Walks: the matrix of a substitution. -/
import Derived.Test.YtglleimmmfnhcaaState
import Derived.Test.YtglleimmmfnhcaaOk
import Derived.Test.YtglleimmmfnhcaaPlain7
import Derived.Test.YtglleimmmfnhcaaLet
import Derived.Test.YtglleimmmfnhcaaGridM
import Derived.Test.YtglleimmmfnhcaaBox
import Derived.Test.YtglleimmmfnhcaaBytes
namespace Go.Proofs.Ytglleimmmfnhcaa
open Go.RowKit
set_option maxRecDepth 20000

theorem info_row : (Try.prog.info? 41).map (fun i => (i.zero, i.size, i.bytes)) = some (some (.slice none 0 0), 1, 24) := by kernel_rfl
/-- the numbers of the letter with the index i in the images -/
def rowR (xs : List ByteArray) (i : Nat) : List Int := xs.map fun s => (countC s.data.toList (lc i) : Int)
def matR (xs : List ByteArray) : List (List Int) := (List.range xs.length).map (rowR xs)
theorem rowR_len (xs : List ByteArray) (i : Nat) : (rowR xs i).length = xs.length := List.length_map _
theorem matR_len (xs : List ByteArray) : (matR xs).length = xs.length := by simp [matR]
theorem matR_get (xs : List ByteArray) (i : Nat) (h : i < xs.length) : (matR xs)[i]'(by rw [matR_len]; exact h) = rowR xs i := by simp [matR]
theorem matR_take (xs : List ByteArray) (i : Nat) (h : i < xs.length) : (matR xs).take (i + 1) = (matR xs).take i ++ [rowR xs i] := by
  rw [List.take_succ_eq_append_getElem (by rw [matR_len]; exact h), matR_get xs i h]
theorem rowR_take (xs : List ByteArray) (i j : Nat) (h : j < xs.length) : ints ((rowR xs i).take (j + 1)) = ints ((rowR xs i).take j) ++ [.int .i64 (countC xs[j].data.toList (lc i))] := by
  rw [List.take_succ_eq_append_getElem (by rw [rowR_len]; exact h)]
  simp [ints, rowR]
theorem totL_take_le (xs : List ByteArray) : ∀ l : List (List Int), (∀ r ∈ l, r.length = xs.length) → totL l = l.length * xs.length
  | [], _ => by simp [totL]
  | r :: l, h => by
    rw [totL, totL_take_le xs l fun r hr => h r (List.mem_cons_of_mem _ hr), h r List.mem_cons_self, List.length_cons, Nat.succ_mul]; omega
theorem matR_tot (xs : List ByteArray) : totL (matR xs) = xs.length * xs.length := by
  rw [totL_take_le xs (matR xs) (by intro r hr; simp only [matR, List.mem_map] at hr; obtain ⟨i, _, rfl⟩ := hr; exact rowR_len xs i), matR_len]
theorem stands_grown {w wc w' : World} {T : TypeId} {va : Value} {row : Option Nat} (h : Stands w T va wc) (hg : wc.grownBy w' row) (hr : ∀ g, row = some g → w.heap.size + 1 ≤ g) : Stands w T va w' := Below.grown h hg h.size hr
set_option maxHeartbeats 2000000 in
theorem implMatrix_any (xs : List ByteArray) (va : Value) (w : World) (ha : Row1 w w.heap.size va (xs.map .string)) (hx : substB xs = true) :
    Calls Try.prog 65 #[.agg #[va]] w fun e w' => ∃ v, e = .returned v ∧ OwnG w' w.heap.size w'.heap.size v (matR xs) ∧ Below w.heap.size w w' := by
  obtain ⟨i0, hi, hz0, hz1, hz2⟩ := info_parts info_int
  have HI := Lib.hid hi; have HZ0 := Lib.hid hz0; have HZ1 := Lib.hid hz1; have HZ2 := Lib.hid hz2
  clear hi hz0 hz1 hz2
  obtain ⟨i1, hi, hz0, hz1, hz2⟩ := info_parts info_row
  have HJ := Lib.hid hi; have HY0 := Lib.hid hz0; have HY1 := Lib.hid hz1; have HY2 := Lib.hid hz2
  clear hi hz0 hz1 hz2
  obtain ⟨h1x, h4x, hall⟩ := subst_parts hx
  have HALL := Lib.hid hall; clear hall hx
  obtain ⟨b, o, cp, rfl, hbB, hcp, hcell⟩ := ha.openAt (by omega)
  have HC := Lib.hid hcell; clear hcell ha
  have s0 := Stands.start w 28 (.slice (some ⟨b, o, none⟩) xs.length cp)
  have HS0 := Lib.hid (s0.alloc (.cells #[] 41))
  have c00 := (s0.alloc (.cells #[] 41)).box
  have HO0 := Lib.hid (World.ownsRow_made (base := w.heap.size + 1) (e := 41) (size := 1) (w.alloc (.cells #[.slice (some ⟨b, o, none⟩) xs.length cp] 28)) #[] 0 (by simp) (Nat.zero_le _) rfl)
  clear s0
  go_enter Try.func65, Try.ntmps65
  go_wp2_with fail
  go_loopw [3, 12] (fun v i wr => ∃ (k : Nat) (u : Value) (vs : List Value), v = u ∧ k ≤ xs.length ∧ i = .int .i64 k ∧ OwnV 41 3 wr (w.heap.size + 1) u vs ((matR xs).take k) ∧ Stands w 28 (.slice (some ⟨b, o, none⟩) xs.length cp) wr) (fun _ i _ => xs.length - (intOf i).toNat)
  case atStart => exact ⟨0, _, [], rfl, Nat.zero_le _, rfl, OwnV.empty (by simpa using HO0.out), HS0.out⟩
  case round =>
    clear c00
    obtain ⟨wo, rfl⟩ : ∃ wo, wo = wr := ⟨_, rfl⟩
    obtain ⟨k, u, vs, rfl, hk, rfl, hov, hst⟩ := hrel
    have HV := Lib.hid hov; have HS := Lib.hid hst
    have HLEN := Lib.hid (show ((matR xs).take k).length = k by rw [List.length_take, matR_len]; omega)
    clear hov hst
    by_cases hlt : k < xs.length
    · have hk4 : k < 4 := by omega
      have e1 := abcd_at hk4
      have HMT := Lib.hid (matR_take xs k hlt)
      have HE := Lib.hid (show (97 : Int) + (k : Int) = ((lc k).toNat : Int) by rw [lc_nat hk4]; omega)
      have c1 := (HS.out.alloc (.cells #[] 3)).box
      have HR0 := Lib.hid (World.ownsRow_made (base := wo.heap.size) (e := 3) (size := 1) wo #[] 0 (Nat.le_refl _) (Nat.zero_le _) rfl)
      go_wp2_with fail
      go_loopw [5, 19] (fun rv j wr => ∃ (m : Nat) (ru : Value), rv = ru ∧ m ≤ xs.length ∧ j = .int .i64 m ∧ wr.ownsRow wo.heap.size 3 1 ru m (ints ((rowR xs k).take m)) ∧ Below wo.heap.size wo wr) (fun _ j _ => xs.length - (intOf j).toNat)
      case atStart => exact ⟨0, _, rfl, Nat.zero_le _, rfl, by simpa [ints] using HR0.out, bnew _ _⟩
      case round =>
        clear HR0 c1
        obtain ⟨m, ru, rfl, hm, rfl, ho, hb⟩ := hrel
        have HO := Lib.hid ho; have HB2 := Lib.hid hb; clear ho hb
        by_cases hml : m < xs.length
        · have g1 := ((bthen HS.out.below HB2.out).cell (p := ⟨b, o + m, none⟩) hbB).trans (HC.out m hml)
          have HRT := Lib.hid (rowR_take xs k m hml)
          have hct : ∀ W, Calls Try.prog 78 #[.string xs[m], .string (ltr k)] W fun e w' => e = .returned (.int .i64 (countC xs[m].data.toList (lc k))) ∧ w' = W := by
            intro W; have h := Try.strings_Count_one xs[m] (lc k) W; rw [count_same] at h; exact h
          have HCT := Lib.hid hct; clear hct
          obtain ⟨q, hq⟩ : ∃ q, q = countC xs[m].data.toList (lc k) := ⟨_, rfl⟩
          rw [← hq] at HCT HRT
          have hq4 : q ≤ 8 := by have h1 := countC_le xs[m].data.toList (lc k); have h2 := (HALL.out _ (List.getElem_mem hml)).2.1; rw [Lib.size_eq] at h2; omega
          clear hq
          go_wp2_with (first
            | (go_at_call 78; refine (HCT.out _).mono ?_; rintro e w' ⟨rfl, rfl⟩)
            | (at_builtin; refine wpList_append_own _ rfl _ _ 41 rfl wo.heap.size 3 i0 (.int .i64 0) 1 8 Try.underlying41 HI.out HZ0.out HZ1.out HZ2.out rfl (by decide) _ _ _ rfl (HO.out.alloc _) ⟨_, 0, none⟩ 1 1 [.int .i64 q] rfl rfl ?c1 ?c2 ?c3 ?c4 ?c5 ?_))
          case c1 => exact cell_one_new _ _ _
          case c2 => intro u hu; simp at hu; subst hu; rfl
          case c3 => unfold maxLen; omega
          case c4 => omega
          case c5 => have := HB2.out.size; simp; omega
          intro v' w3 hown' hgrow _
          have HB3 := Lib.hid (since_grown (bthen HB2.out (bnew _ _)) hgrow (fun g hg => (own_lt HO.out hg).1))
          have HO3 := Lib.hid hown'
          clear hown' hgrow
          go_wp2
          go_roundw
          case rel => exact ⟨m + 1, v', rfl, by omega, by go_num, by rw [HRT.out]; simpa [ints] using HO3.out, HB3.out⟩
          case measure => simp [intOf]; omega
        · obtain rfl : m = xs.length := by omega
          obtain ⟨A, cr, rfl⟩ := own_shape HO.out
          have hrow : wr.ownsRow wo.heap.size 3 1 (.slice A xs.length cr) (rowR xs k).length (ints (rowR xs k)) := by
            have h := HO.out
            rw [List.take_of_length_le (by rw [rowR_len]; exact Nat.le_refl _)] at h
            rw [rowR_len]; exact h
          have HROW := Lib.hid hrow; clear hrow
          have HVB := Lib.hid (HV.out.below HB2.out)
          go_wp2_with (at_builtin; refine wpList_append_own _ rfl _ _ 49 rfl (w.heap.size + 1) 41 i1 (.slice none 0 0) 1 24 Try.underlying49 HJ.out HY0.out HY1.out HY2.out rfl (by decide) _ _ _ rfl (HVB.out.own.alloc _) ⟨_, 0, none⟩ 1 1 [.slice A xs.length cr] rfl rfl ?c1 ?c2 ?c3 ?c4 ?c5 ?_)
          case c1 => exact cell_one_new _ _ _
          case c2 => intro u hu; simp at hu; subst hu; rfl
          case c3 => rw [HLEN.out]; unfold maxLen; omega
          case c4 => rw [HLEN.out]; omega
          case c5 => have := HB2.out.size; have := HS.out.size; simp; omega
          intro v' w3 hown' hgrow _
          have HV3 := Lib.hid (HV.out.push types_apart (Nat.le_trans (by omega) HS.out.size) (bthen HB2.out (bnew _ _)) (HROW.out.alloc _) (by simpa using hown') hgrow)
          have HS3 := Lib.hid (stands_grown (HS.out.on (bthen HB2.out (bnew _ _))) hgrow (fun g hg => (own_lt HV.out.own hg).1))
          clear hown' hgrow
          go_wp2
          go_roundw
          case rel => exact ⟨k + 1, v', _, rfl, by omega, by go_num, by rw [HMT.out]; exact HV3.out, HS3.out⟩
          case measure => simp [intOf]; omega
    · obtain rfl : k = xs.length := by omega
      have HE := Lib.hid (show (matR xs).take xs.length = matR xs from List.take_of_length_le (by rw [matR_len]; exact Nat.le_refl _))
      rw [HE.out] at HV
      go_wp2
      go_ret
      exact ⟨_, rfl, (HV.out.mono (Nat.le_succ _)).own2, HS.out.below⟩
set_option maxHeartbeats 2000000 in
theorem specMatrix_any (xs : List ByteArray) (va : Value) (w : World) (ha : Row1 w w.heap.size va (xs.map .string)) (hx : substB xs = true) :
    Calls Try.prog 63 #[.agg #[va]] w fun e w' => ∃ v, e = .returned v ∧ OwnG w' w.heap.size w'.heap.size v (matR xs) ∧ Below w.heap.size w w' := by
  obtain ⟨i0, hi, hz0, hz1, hz2⟩ := info_parts info_int
  have HI := Lib.hid hi; have HZ0 := Lib.hid hz0; have HZ1 := Lib.hid hz1; have HZ2 := Lib.hid hz2
  clear hi hz0 hz1 hz2
  obtain ⟨i1, hi, hz0, hz1, hz2⟩ := info_parts info_row
  have HJ := Lib.hid hi; have HY0 := Lib.hid hz0; have HY1 := Lib.hid hz1; have HY2 := Lib.hid hz2
  clear hi hz0 hz1 hz2
  obtain ⟨h1x, h4x, hall⟩ := subst_parts hx
  have HALL := Lib.hid hall; clear hall hx
  obtain ⟨b, o, cp, rfl, hbB, hcp, hcell⟩ := ha.openAt (by omega)
  have HC := Lib.hid hcell; clear hcell ha
  have s0 := Stands.start w 28 (.slice (some ⟨b, o, none⟩) xs.length cp)
  have HS0 := Lib.hid (s0.alloc (.cells #[] 41))
  have c00 := (s0.alloc (.cells #[] 41)).box
  have HO0 := Lib.hid (World.ownsRow_made (base := w.heap.size + 1) (e := 41) (size := 1) (w.alloc (.cells #[.slice (some ⟨b, o, none⟩) xs.length cp] 28)) #[] 0 (by simp) (Nat.zero_le _) rfl)
  clear s0
  go_enter Try.func63, Try.ntmps63
  go_wp2_with fail
  go_loopw [3, 12] (fun v i wr => ∃ (k : Nat) (u : Value) (vs : List Value), v = u ∧ k ≤ xs.length ∧ i = .int .i64 k ∧ OwnV 41 3 wr (w.heap.size + 1) u vs ((matR xs).take k) ∧ Stands w 28 (.slice (some ⟨b, o, none⟩) xs.length cp) wr) (fun _ i _ => xs.length - (intOf i).toNat)
  case atStart => exact ⟨0, _, [], rfl, Nat.zero_le _, rfl, OwnV.empty (by simpa using HO0.out), HS0.out⟩
  case round =>
    clear c00
    obtain ⟨wo, rfl⟩ : ∃ wo, wo = wr := ⟨_, rfl⟩
    obtain ⟨k, u, vs, rfl, hk, rfl, hov, hst⟩ := hrel
    have HV := Lib.hid hov; have HS := Lib.hid hst
    have HLEN := Lib.hid (show ((matR xs).take k).length = k by rw [List.length_take, matR_len]; omega)
    clear hov hst
    by_cases hlt : k < xs.length
    · have hk4 : k < 4 := by omega
      have e1 := abcd_at hk4
      have HMT := Lib.hid (matR_take xs k hlt)
      have HE := Lib.hid (show (97 : Int) + (k : Int) = ((lc k).toNat : Int) by rw [lc_nat hk4]; omega)
      have c1 := (HS.out.alloc (.cells #[] 3)).box
      have HR0 := Lib.hid (World.ownsRow_made (base := wo.heap.size) (e := 3) (size := 1) wo #[] 0 (Nat.le_refl _) (Nat.zero_le _) rfl)
      go_wp2_with fail
      go_loopw [5, 19] (fun rv j wr => ∃ (m : Nat) (ru : Value), rv = ru ∧ m ≤ xs.length ∧ j = .int .i64 m ∧ wr.ownsRow wo.heap.size 3 1 ru m (ints ((rowR xs k).take m)) ∧ Below wo.heap.size wo wr) (fun _ j _ => xs.length - (intOf j).toNat)
      case atStart => exact ⟨0, _, rfl, Nat.zero_le _, rfl, by simpa [ints] using HR0.out, bnew _ _⟩
      case round =>
        clear HR0 c1
        obtain ⟨m, ru, rfl, hm, rfl, ho, hb⟩ := hrel
        have HO := Lib.hid ho; have HB2 := Lib.hid hb; clear ho hb
        by_cases hml : m < xs.length
        · have g1 := ((bthen HS.out.below HB2.out).cell (p := ⟨b, o + m, none⟩) hbB).trans (HC.out m hml)
          have HRT := Lib.hid (rowR_take xs k m hml)
          have hct := fun W => l02Count_any xs[m] (lc k) W (by have h2 := (HALL.out _ (List.getElem_mem hml)).2.1; unfold maxLen; omega)
          have HCT := Lib.hid hct; clear hct
          obtain ⟨q, hq⟩ : ∃ q, q = countC xs[m].data.toList (lc k) := ⟨_, rfl⟩
          rw [← hq] at HCT HRT
          have hq4 : q ≤ 8 := by have h1 := countC_le xs[m].data.toList (lc k); have h2 := (HALL.out _ (List.getElem_mem hml)).2.1; rw [Lib.size_eq] at h2; omega
          clear hq
          go_wp2_with (first
            | (go_at_call 77; rw [HE.out]; refine (HCT.out _).mono ?_; rintro e w' ⟨rfl, rfl⟩)
            | (at_builtin; refine wpList_append_own _ rfl _ _ 41 rfl wo.heap.size 3 i0 (.int .i64 0) 1 8 Try.underlying41 HI.out HZ0.out HZ1.out HZ2.out rfl (by decide) _ _ _ rfl (HO.out.alloc _) ⟨_, 0, none⟩ 1 1 [.int .i64 q] rfl rfl ?c1 ?c2 ?c3 ?c4 ?c5 ?_))
          case c1 => exact cell_one_new _ _ _
          case c2 => intro u hu; simp at hu; subst hu; rfl
          case c3 => unfold maxLen; omega
          case c4 => omega
          case c5 => have := HB2.out.size; simp; omega
          intro v' w3 hown' hgrow _
          have HB3 := Lib.hid (since_grown (bthen HB2.out (bnew _ _)) hgrow (fun g hg => (own_lt HO.out hg).1))
          have HO3 := Lib.hid hown'
          clear hown' hgrow
          go_wp2
          go_roundw
          case rel => exact ⟨m + 1, v', rfl, by omega, by go_num, by rw [HRT.out]; simpa [ints] using HO3.out, HB3.out⟩
          case measure => simp [intOf]; omega
        · obtain rfl : m = xs.length := by omega
          obtain ⟨A, cr, rfl⟩ := own_shape HO.out
          have hrow : wr.ownsRow wo.heap.size 3 1 (.slice A xs.length cr) (rowR xs k).length (ints (rowR xs k)) := by
            have h := HO.out
            rw [List.take_of_length_le (by rw [rowR_len]; exact Nat.le_refl _)] at h
            rw [rowR_len]; exact h
          have HROW := Lib.hid hrow; clear hrow
          have HVB := Lib.hid (HV.out.below HB2.out)
          go_wp2_with (at_builtin; refine wpList_append_own _ rfl _ _ 49 rfl (w.heap.size + 1) 41 i1 (.slice none 0 0) 1 24 Try.underlying49 HJ.out HY0.out HY1.out HY2.out rfl (by decide) _ _ _ rfl (HVB.out.own.alloc _) ⟨_, 0, none⟩ 1 1 [.slice A xs.length cr] rfl rfl ?c1 ?c2 ?c3 ?c4 ?c5 ?_)
          case c1 => exact cell_one_new _ _ _
          case c2 => intro u hu; simp at hu; subst hu; rfl
          case c3 => rw [HLEN.out]; unfold maxLen; omega
          case c4 => rw [HLEN.out]; omega
          case c5 => have := HB2.out.size; have := HS.out.size; simp; omega
          intro v' w3 hown' hgrow _
          have HV3 := Lib.hid (HV.out.push types_apart (Nat.le_trans (by omega) HS.out.size) (bthen HB2.out (bnew _ _)) (HROW.out.alloc _) (by simpa using hown') hgrow)
          have HS3 := Lib.hid (stands_grown (HS.out.on (bthen HB2.out (bnew _ _))) hgrow (fun g hg => (own_lt HV.out.own hg).1))
          clear hown' hgrow
          go_wp2
          go_roundw
          case rel => exact ⟨k + 1, v', _, rfl, by omega, by go_num, by rw [HMT.out]; exact HV3.out, HS3.out⟩
          case measure => simp [intOf]; omega
    · obtain rfl : k = xs.length := by omega
      have HE := Lib.hid (show (matR xs).take xs.length = matR xs from List.take_of_length_le (by rw [matR_len]; exact Nat.le_refl _))
      rw [HE.out] at HV
      go_wp2
      go_ret
      exact ⟨_, rfl, (HV.out.mono (Nat.le_succ _)).own2, HS.out.below⟩
/-- what MatrixOf returns -/
def moR (xs : List ByteArray) : List (List Int) := if substB xs = true then matR xs else []
theorem mo_no {xs : List ByteArray} (h : substB xs = false) : moR xs = [] := by unfold moR; rw [h]; rfl
theorem mo_yes {xs : List ByteArray} (h : substB xs = true) : moR xs = matR xs := by unfold moR; rw [if_pos h]
end Go.Proofs.Ytglleimmmfnhcaa
